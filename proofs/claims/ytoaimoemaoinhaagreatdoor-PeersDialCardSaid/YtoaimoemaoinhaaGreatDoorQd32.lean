/- PeersX: a part of the proof. No condition beyond the premises of each theorem. -/
import Derived.Test.YtoaimoemaoinhaaGreatDoorQd31
namespace Go.Proofs.YtoaimoemaoinhaaGreatDoor
open Go.RowKit Go.Rt Go.Rw Go.Mp
def diaX (n : Nd) (k : ByteArray) : Cx := ⟨true, n.di + 1, Sk.dialS ⟨n.nm, n.gen⟩ k n.ck n.ch, 0, [], 0⟩
def otherB (n : Nd) (k : ByteArray) : Bool := nameF k && !(k.toList == n.nm.toList)
def dialN (n : Nd) (k : ByteArray) : Nd × Int :=
 if otherB n k = false then (n, 2)
 else if (get n.C k).isSome then (n, 8)
 else (sendN { n with ch := n.ch + 1, di := n.di + 1, C := put n.C k (diaX n k) } k (pkF true (n.di + 1) 72 (Sk.helloF ⟨n.nm, n.gen⟩ k)), 0)
theorem dialed_nd {w w' : World} {base : Nat} {n : Nd} {a : Nm} (h : NdAt w base n a) (k : ByteArray) (hg : get a.C k = none)
  (hd : Dialed w base a.g a.mc a.mo a.ml n.nm n.gen n.ck n.ch n.di (a.C.map fun p => (p.1, p.2.2.c)) (a.O.map fun p => (p.1, p.2.1)) n.L k ((get n.O k).getD []) w') :
  ∃ a', NdAt w' base (sendN { n with ch := n.ch + 1, di := n.di + 1, C := put n.C k (diaX n k) } k (pkF true (n.di + 1) 72 (Sk.helloF ⟨n.nm, n.gen⟩ k))) a' ∧ Trail w w' a a' := by
 obtain ⟨B, c, v', hB, hc, wB, wc, hpm, hsl, ho, hown⟩ := hd
 rw [outV_own] at ho
 have e0 : oldC a k = [] := by unfold oldC; rw [hg]; rfl
 have hcB : c ≠ B := hc.ne_ hB (by decide)
 have hgl := (h.low a.g (mem_foot.2 (.inl rfl))).2
 have hml := (h.low a.mc (mem_foot.2 (.inr (.inl rfl)))).2
 have hol := (h.low a.mo (mem_foot.2 (.inr (.inr (.inl rfl))))).2
 have hoff1 := sl_off hsl hpm.blk (by decide)
 have hoff2 := sl_offm hsl hpm.cm
 have hoff3 := sl_offm hsl hpm.om
 have hoff4 := sl_off hsl hB (by decide)
 have hoff5 := sl_off hsl hc (by decide)
 refine ⟨{ a with C := put a.C k (diaX n k, ⟨c, B, none⟩), O := put a.O k (v', (get n.O k).getD [] ++ [pkF true (n.di + 1) 72 (Sk.helloF ⟨n.nm, n.gen⟩ k)]) }, h.step (A := a.g :: a.mc :: a.mo :: oldO a k) (A' := a.g :: a.mc :: a.mo :: c :: B :: v'.ownBlock.toList) (R := [a.ml] ++ (fC (del a.C k) ++ fO (del a.O k))) ?_ ?_ ho ?_ ?_ ?_ ?_ ?_ ?_ ?_ rfl⟩
 ·
  rw [foot_eq]
  refine (((perm_C a k).append (perm_O a k)).append_left _).trans ?_
  rw [e0]
  simp only [List.cons_append, List.nil_append]
  refine List.perm_iff_count.2 fun b => ?_
  simp only [List.count_cons, List.count_append]
  omega
 ·
  rw [foot_eq]
  refine (((perm_C' a.C k (diaX n k, ⟨c, B, none⟩)).append (perm_O' a.O k _)).append_left _).trans ?_
  show ([a.g, a.mc, a.mo, a.ml] ++ (([c, B] ++ fC (del a.C k)) ++ (v'.ownBlock.toList ++ fO (del a.O k)))).Perm _
  simp only [List.cons_append, List.nil_append]
  refine List.perm_iff_count.2 fun b => ?_
  simp only [List.count_cons, List.count_append]
  omega
 ·
  have hsp := h.pm.sep
  simp only [List.nodup_cons, List.mem_cons, not_or]
  have no : ∀ q, (∀ g, v'.ownBlock = some g → g ≠ q) → q ∉ v'.ownBlock.toList := fun q hq hm => hq q (Option.mem_toList.1 hm) rfl
  refine ⟨⟨by omega, by omega, by omega, by omega, no _ hoff1⟩, ⟨by omega, by omega, by omega, no _ hoff2⟩, ⟨by omega, by omega, no _ hoff3⟩, ⟨hcB, no _ hoff5⟩, no _ hoff4, by cases v'.ownBlock <;> simp⟩
 ·
  intro b hb
  simp only [List.mem_cons] at hb
  rcases hb with rfl | rfl | rfl | rfl | rfl | q
  ·
   exact .inl (by simp)
  ·
   exact .inl (by simp)
  ·
   exact .inl (by simp)
  ·
   exact .inr ⟨wc, hc.lt⟩
  ·
   exact .inr ⟨wB, hB.lt⟩
  ·
   have q := Option.mem_toList.1 q
   rcases hown with e | e
   ·
    rw [e] at q
    refine .inl ?_
    have : b ∈ oldO a k := by rw [← outV_own]; exact Option.mem_toList.2 q
    simp [this]
   ·
    exact .inr ⟨e b q, (hsl.lt b q).2⟩
 ·
  have e1 : ((put a.C k (diaX n k, (⟨c, B, none⟩ : Cm))).map fun p => (p.1, p.2.2.c)) = put (a.C.map fun p => (p.1, p.2.2.c)) k c := put_map (fun q : Cx × Cm => q.2.c) k (diaX n k, ⟨c, B, none⟩) a.C
  have e2 : ((put a.O k (v', (get n.O k).getD [] ++ [pkF true (n.di + 1) 72 (Sk.helloF ⟨n.nm, n.gen⟩ k)])).map fun p => (p.1, p.2.1)) = put (a.O.map fun p => (p.1, p.2.1)) k v' := put_map (Prod.fst : Value × List ByteArray → Value) k _ a.O
  show PM w' a.g a.mc a.mo a.ml n.nm (n.gen : Int) n.ck (n.ch + 1) (n.di + 1) ((put a.C k (diaX n k, (⟨c, B, none⟩ : Cm))).map fun p => (p.1, p.2.2.c)) ((put a.O k (v', (get n.O k).getD [] ++ [pkF true (n.di + 1) 72 (Sk.helloF ⟨n.nm, n.gen⟩ k)])).map fun p => (p.1, p.2.1)) n.L
  rw [e1, e2]
  exact hpm
 ·
  intro p hp
  rcases mem_put hp with rfl | hq
  ·
   exact .inr ⟨hc, hB, rfl, rfl⟩
  ·
   refine .inl ⟨mem_del hq, fun b hb => ?_⟩
   have : b ∈ fC (del a.C k) := mem_fC hq hb
   simp [this]
 ·
  intro p hp
  rcases mem_put hp with rfl | hq
  ·
   exact .inr hsl
  ·
   refine .inl ⟨mem_del hq, fun b hb => ?_⟩
   have : b ∈ fO (del a.O k) := mem_fO hq hb
   simp [this]
 ·
  show ((put a.C k (diaX n k, (⟨c, B, none⟩ : Cm))).map fun p => (p.1, Prod.fst p.2)) = put n.C k (diaX n k)
  rw [put_map, ← h.eC]
 ·
  show ((put a.O k (v', (get n.O k).getD [] ++ [pkF true (n.di + 1) 72 (Sk.helloF ⟨n.nm, n.gen⟩ k)])).map fun p => (p.1, Prod.snd p.2)) = put n.O k _
  rw [put_map, ← h.eO]
theorem dial_any {w : World} {base : Nat} {n : Nd} {a : Nm} (h : NdAt w base n a) (hk : NdOk n) (hdi : n.di + 1 < 18446744073709551616) (k : ByteArray) (hl : ((get n.O k).getD []).length ≤ 100000000) :
  Calls Tryz.prog 10 #[ptrV a.g, .string k] w fun e w' => e = .returned (.int .i64 (dialN n k).2) ∧ ∃ a', NdAt w' base (dialN n k).1 a' ∧ Trail w w' a a' := by
 unfold dialN
 cases ho : otherB n k with
 | false => exact (pdial_arg h.pm k ho).mono fun _ _ ⟨h1, h2⟩ => ⟨h1, a, h.below h2, Trail.below a h2⟩
 | true =>
  simp only [Bool.true_eq_false, if_false]
  have hgm : get (a.C.map fun p => (p.1, p.2.2.c)) k = (get a.C k).map fun q => q.2.c := get_map (fun q : Cx × Cm => q.2.c) k a.C
  rw [h.getC k]
  rcases hq : get a.C k with _ | ⟨x, m⟩
  ·
   simp only [Option.map_none, Option.isSome_none, Bool.false_eq_true, if_false]
   exact (pdial_yes h.pm base h.bz k hk.ok ho (by rw [hgm, hq]; rfl) hk.ch hdi _ (h.outV k) hl).mono fun _ _ ⟨h1, h2⟩ => ⟨h1, dialed_nd h k hq h2⟩
  ·
   simp only [Option.map_some, Option.isSome_some, if_true]
   exact (pdial_twice h.pm k ho m.c (by rw [hgm, hq]; rfl)).mono fun _ _ ⟨h1, h2⟩ => ⟨h1, a, h.below h2, Trail.below a h2⟩
abbrev GF := Nd → ByteArray → Cx → ByteArray → Nd × List Ev
def handN (G : GF) (n : Nd) (k : ByteArray) (x : Cx) (px : Px) : Nd × List Ev :=
 if px.kind = 72 then shakesN n k x px.cont else if px.kind = 70 then G n k x px.cont else (endsN n k x px.cont, remE k x)
def matchB (x : Cx) (px : Px) : Bool := x.num == px.num && !(x.dials == px.dials)
def helB (px : Px) : Bool := px.dials && px.kind == 72
def gotN (G : GF) (n : Nd) (k : ByteArray) (px : Px) : Option Cx → Nd × List Ev
 | none => if helB px then helloN n k px.num px.cont else (n, [])
 | some x => if matchB x px then handN G n k x px else if helB px then helloN n k px.num px.cont else (n, [])
def badN (n : Nd) (k : ByteArray) : Option Cx → Nd × List Ev
 | none => (n, [])
 | some x => (closeN n k x, remE k x)
def pktE (G : GF) (n : Nd) (k : ByteArray) : Option Px → Nd × List Ev
 | none => badN n k (get n.C k)
 | some px => gotN G n k px (get n.C k)
def pktN (G : GF) (n : Nd) (k data : ByteArray) : (Nd × List Ev) × Int :=
 if otherB n k = false then ((n, []), 2) else (pktE G n k (readF data), 0)
def DonePk (w : World) (base : Nat) (a : Nm) (R : Nd × List Ev) (c : Int) (e : Ending) (w' : World) : Prop :=
 ∃ v a', e = .returned (.tuple #[v, .int .i64 c]) ∧ EvsAt w.heap.size w' v R.2 ∧ NdAt w' base R.1 a' ∧ Trail w w' a a'
theorem DonePk.of {w w1 w2 : World} {base : Nat} {a a1 : Nm} {R : Nd × List Ev} {v : Value} (t : Trail w w1 a a1) (h : Done w1 base a1 R.1 R.2 (.returned v) w2) : DonePk w base a R 0 (.returned (.tuple #[v, .int .i64 0])) w2 := by
 obtain ⟨v', a', h1, h2, h3, h4⟩ := Done.from t h
 cases h1
 exact ⟨v, a', rfl, h2, h3, h4⟩
theorem readp_any (b : ByteArray) (hb : b.size ≤ 9223372036854775807) (w : World) : Calls Tryz.prog 39 #[.string b] w (ReadP b w) := by
 cases h : hdB b with
 | false => exact readp_no b hb h w
 | true => exact readp_yes b hb h w
def u8V (n : Int) : Value := .int .u8 n
def fnV (g : Nat) (f : Nat) : Value := .func (.func f) #[ptrV g] #[]
theorem readF_some {b : ByteArray} {px : Px} (h : readF b = some px) : px.cont.size ≤ b.size ∧ (px.kind = 72 ∨ px.kind = 70 ∨ px.kind = 66) := by
 unfold readF at h
 split at h
 ·
  rename_i q
  cases h
  simp only [Bool.and_eq_true, okK, Bool.or_eq_true, beq_iff_eq] at q
  refine ⟨by show (b.extract 10 b.size).size ≤ _; rw [ByteArray.size_extract]; omega, ?_⟩
  rcases q.2 with (z | z) | z
  ·
   exact .inl z
  ·
   exact .inr (.inl z)
  ·
   exact .inr (.inr z)
 ·
  cases h
theorem zero107 (w : World) : (zeroValue 107).run Tryz.prog w = .ok .nilFunc w := by kernel_rfl
theorem Below.putObj {B : Nat} {a w : World} (h : Below B a w) (b : Nat) (o : Obj) (hB : B ≤ w.heap.size) (hb : B ≤ b) : Below B a (w.putObj b o) := h.grown (putObj_grown w b o) hB (fun k hk => by cases hk; exact hb)
theorem hands_map (g : Nat) (w : World) : ∃ o1 o2 o3,
  (Instr.mapUpdate 108 (.map (some w.heap.size)) (.int .u8 72) (fnV g 41)).run Tryz.prog (w.alloc (.map #[] 0)) = .ok () ((w.alloc (.map #[] 0)).putObj w.heap.size o1) ∧
  (Instr.mapUpdate 108 (.map (some w.heap.size)) (.int .u8 70) (fnV g 42)).run Tryz.prog ((w.alloc (.map #[] 0)).putObj w.heap.size o1) = .ok () (((w.alloc (.map #[] 0)).putObj w.heap.size o1).putObj w.heap.size o2) ∧
  (Instr.mapUpdate 108 (.map (some w.heap.size)) (.int .u8 66) (fnV g 43)).run Tryz.prog (((w.alloc (.map #[] 0)).putObj w.heap.size o1).putObj w.heap.size o2) = .ok () ((((w.alloc (.map #[] 0)).putObj w.heap.size o1).putObj w.heap.size o2).putObj w.heap.size o3) ∧
  Below w.heap.size w ((((w.alloc (.map #[] 0)).putObj w.heap.size o1).putObj w.heap.size o2).putObj w.heap.size o3) ∧
  ∀ (n f : Nat), get ([(72, 41), (70, 42), (66, 43)] : List (Int × Nat)) (n : Int) = some f → (Instr.lookup 108 (.map (some w.heap.size)) (.int .u8 (n : Int)) false).run Tryz.prog ((((w.alloc (.map #[] 0)).putObj w.heap.size o1).putObj w.heap.size o2).putObj w.heap.size o3) = .ok (fnV g f) ((((w.alloc (.map #[] 0)).putObj w.heap.size o1).putObj w.heap.size o2).putObj w.heap.size o3) := by
 have m0 := MapAt.new (K := Int) (V := Nat) w u8V (fnV g)
 obtain ⟨o1, h1, m1⟩ := run_update (P := Tryz.prog) (int_emb Tryz.underlying5) Tryz.underlying108 m0 72 41
 obtain ⟨o2, h2, m2⟩ := run_update (P := Tryz.prog) (int_emb Tryz.underlying5) Tryz.underlying108 m1 70 42
 obtain ⟨o3, h3, m3⟩ := run_update (P := Tryz.prog) (int_emb Tryz.underlying5) Tryz.underlying108 m2 66 43
 have z0 := (Below.refl w.heap.size w).alloc (Nat.le_refl _) (.map #[] 0)
 have z1 := Below.putObj z0 w.heap.size o1 z0.size (Nat.le_refl _)
 have z2 := Below.putObj z1 w.heap.size o2 z1.size (Nat.le_refl _)
 have z3 := Below.putObj z2 w.heap.size o3 z2.size (Nat.le_refl _)
 refine ⟨o1, o2, o3, h1, h2, h3, z3, fun n f hf => ?_⟩
 have := run_lookup1 (int_emb Tryz.underlying5) Tryz.underlying108 m3 (zero107 _) (n : Int)
 rw [show put (put (put ([] : List (Int × Nat)) 72 41) 70 42) 66 43 = [(72, 41), (70, 42), (66, 43)] from rfl, hf] at this
 exact this
def cL (k : ByteArray) : Option Cx → List (ByteArray × Cx)
 | none => []
 | some x => [(k, x)]
def qL (k : ByteArray) : List ByteArray → List (ByteArray × List ByteArray)
 | [] => []
 | p :: r => [(k, p :: r)]
def lL (k : ByteArray) : Bool → List (ByteArray × Int)
 | false => []
 | true => [(k, 1)]
def mkN (me ot ck : ByteArray) (ch di : Nat) (c : Option Cx) (l : Bool) (q : List ByteArray) : Nd := ⟨me, 1, ck, ch, di, cL ot c, qL ot q, lL ot l⟩
section
variable {me ot ck : ByteArray} {ch di : Nat} {c : Option Cx} {l : Bool} {q : List ByteArray}
theorem mk_getC : get (mkN me ot ck ch di c l q).C ot = c := by cases c <;> simp [mkN, cL, Mp.get]
theorem mk_getO : (get (mkN me ot ck ch di c l q).O ot).getD [] = q := by cases q <;> simp [mkN, qL, Mp.get]
theorem mk_getL : (get (mkN me ot ck ch di c l q).L ot).getD 0 ≤ 1 := by cases l <;> simp [mkN, lL, Mp.get]
theorem mk_send (p : ByteArray) : sendN (mkN me ot ck ch di c l q) ot p = mkN me ot ck ch di c l (q ++ [p]) := by cases q <;> simp [sendN, mkN, qL, Mp.get, put]
theorem mk_rem : remN (mkN me ot ck ch di c l q) ot = mkN me ot ck ch di none l q := by cases c <;> simp [remN, mkN, cL, del]
theorem mk_set (x : Cx) : setC (mkN me ot ck ch di c l q) ot x = mkN me ot ck ch di (some x) l q := by cases c <;> simp [setC, mkN, cL, put]
theorem mk_next : nextN (mkN me ot ck ch di c l q) = mkN me ot ck (ch + 1) di c l q := rfl
theorem mk_lst : setL (mkN me ot ck ch di c l q) ot 1 = mkN me ot ck ch di c true q := by cases l <;> simp [setL, mkN, lL, put]
theorem mk_close (x : Cx) : closeN (mkN me ot ck ch di c l []) ot x = mkN me ot ck ch di none l [pkF x.dials x.num 66 ⟨#[]⟩] := by
 unfold closeN
 rw [mk_send, mk_rem]
 rfl
theorem mk_drop : dropO (mkN me ot ck ch di c l q) ot = mkN me ot ck ch di c l [] := by cases q <;> simp [dropO, mkN, qL, del]
theorem mk_outQ : outQ (mkN me ot ck ch di c l q) ot = q := mk_getO
end
structure Two (me ot : ByteArray) : Prop where
 nm : nameF me = true
 no : nameF ot = true
 ne : (ot.toList == me.toList) = false
theorem Two.pr {me ot : ByteArray} (T : Two me ot) : Sk.PrOk ⟨me, 1⟩ := ⟨T.nm, Nat.le_refl _, by show (1 : Nat) ≤ _; omega⟩
theorem Two.po {me ot : ByteArray} (T : Two me ot) : Sk.PrOk ⟨ot, 1⟩ := ⟨T.no, Nat.le_refl _, by show (1 : Nat) ≤ _; omega⟩
theorem Two.flip {me ot : ByteArray} (T : Two me ot) : Two ot me := ⟨T.no, T.nm, by
 have := T.ne
 rw [beq_eq_false_iff_ne] at this ⊢
 exact fun e => this e.symm⟩
theorem seqB_refl' (a : ByteArray) : Sk.seqB a a = true := Sk.seqB_eq.2 rfl
theorem atB_right (a b : ByteArray) (i : Nat) : atB (a ++ b) (a.size + i) = atB b i := by
 rw [Sk.atB_list, Sk.atB_list, Sk.app_list, Sk.size_list, List.getElem?_append_right (Nat.le_add_right _ _), Nat.add_sub_cancel_left]
theorem readF_pk (d : Bool) (n : Nat) (kind : UInt8) (cont : ByteArray) (hn : n < 18446744073709551616) (hk : okK kind.toNat = true) : readF (pkF d n kind cont) = some ⟨d, n, kind.toNat, cont⟩ := by
 have z8 := Sk.numF_size n 8
 have z1 : ∀ x : UInt8, (ByteArray.mk #[x]).size = 1 := fun _ => rfl
 have hs : (pkF d n kind cont).size = 10 + cont.size := by
  unfold pkF
  simp only [ByteArray.size_append, z8, z1]
 have h0 : atB (pkF d n kind cont) 0 = if d then 68 else 76 := by
  unfold pkF
  rw [Sk.atB_left _ _ _ (by simp only [ByteArray.size_append, z8, z1]; omega), Sk.atB_left _ _ _ (by simp only [ByteArray.size_append, z8, z1]; omega), Sk.atB_left _ _ _ (by rw [z1]; omega)]
  cases d <;> rfl
 have h9 : atB (pkF d n kind cont) 9 = kind.toNat := by
  unfold pkF
  rw [Sk.atB_left _ _ _ (by simp only [ByteArray.size_append, z8, z1]; omega)]
  have := atB_right (ByteArray.mk #[if d then 68 else 76] ++ Sk.numF n 8) (ByteArray.mk #[kind]) 0
  rw [ByteArray.size_append, z8, z1] at this
  exact this.trans rfl
 have x1 : (pkF d n kind cont).extract 1 9 = Sk.numF n 8 := by
  unfold pkF
  have := Sk.ext_mid (ByteArray.mk #[if d then 68 else 76]) (Sk.numF n 8) (ByteArray.mk #[kind] ++ cont)
  rw [z8, z1, ← ByteArray.append_assoc] at this
  exact this
 have x2 : (pkF d n kind cont).extract 10 (pkF d n kind cont).size = cont := by
  unfold pkF
  have := Sk.ext_right (ByteArray.mk #[if d then 68 else 76] ++ Sk.numF n 8 ++ ByteArray.mk #[kind]) cont
  rw [show (ByteArray.mk #[if d then 68 else 76] ++ Sk.numF n 8 ++ ByteArray.mk #[kind]).size = 10 by simp only [ByteArray.size_append, z8, z1]] at this
  exact this
 unfold readF hdB pxF
 rw [h0, h9, hk, x1, x2, Sk.valF_num_eq n 8 (by omega), hs, decide_eq_true (by omega)]
 cases d <;> rfl
def cD (me ot ck : ByteArray) (num kx : Nat) : Cx := ⟨true, num, Sk.dialS ⟨me, 1⟩ ot ck kx, 0, [], 0⟩
def cE (me ot ck : ByteArray) (num kx ky : Nat) : Cx := ⟨true, num, Sk.dia1 ⟨me, 1⟩ ot ck kx ⟨ot, 1⟩ ky, 0, [], 0⟩
def cI (me ot ck : ByteArray) (num ky : Nat) : Cx := ⟨false, num, Sk.lis2 ⟨me, 1⟩ ck ky ⟨ot, 1⟩, 0, [], 0⟩
def cU (me ot ck : ByteArray) (num kx ky id : Nat) : Cx := ⟨true, num, Sk.dia2 ⟨me, 1⟩ ot ck kx ⟨ot, 1⟩ ky, 1, [], id⟩
def cV (me ot ck : ByteArray) (num kx ky id : Nat) : Cx := ⟨false, num, Sk.lis3 ⟨me, 1⟩ ck ky ⟨ot, 1⟩ kx, 1, [], id⟩
def pH (fr tt : ByteArray) (num : Nat) : ByteArray := pkF true num 72 (Sk.helloF ⟨fr, 1⟩ tt)
def pY (num : Nat) : ByteArray := pkF false num 72 (Sk.statusC ++ Sk.numF 2 1)
def pO (fr : ByteArray) (num ky : Nat) : ByteArray := pkF false num 72 (Sk.offerM ⟨fr, 1⟩ ky)
def pR (fr tt ck : ByteArray) (num kx ky : Nat) : ByteArray := pkF true num 72 (Sk.replyM kx (Sk.proofD ⟨fr, 1⟩ ⟨tt, 1⟩ ck kx ky))
def pA (fr tt ck : ByteArray) (num kx ky : Nat) : ByteArray := pkF false num 72 (Sk.ackC ++ Sk.proofL ⟨tt, 1⟩ ⟨fr, 1⟩ ck kx ky)
def pE (num : Nat) : ByteArray := pkF false num 66 ⟨#[]⟩
section
variable {me ot ck : ByteArray} {ch di : Nat} {c : Option Cx} {l : Bool} {G : GF}
theorem pkt_eq (T : Two me ot) (px : Px) (b : ByteArray) (hb : readF b = some px) : pktN G (mkN me ot ck ch di c l []) ot b = (gotN G (mkN me ot ck ch di c l []) ot px c, 0) := by
 have ho : otherB (mkN me ot ck ch di c l []) ot = true := by
  show (nameF ot && !(ot.toList == me.toList)) = true
  rw [T.no, T.ne]
  rfl
 unfold pktN pktE
 rw [if_neg (by rw [ho]; decide), hb, mk_getC]
theorem helS_eq (T : Two me ot) : helS (mkN me ot ck ch di c l []) (Sk.helloF ⟨ot, 1⟩ me) = (Sk.lis1 ⟨me, 1⟩ ck ch ⟨ot, 1⟩, ⟨#[]⟩, 0) :=
 Sk.step_hello ⟨ot, 1⟩ ⟨me, 1⟩ T.po ck ch me T.nm (seqB_refl' _) T.ne
theorem hel_acc (T : Two me ot) (num : Nat) (hc : busyB (mkN me ot ck ch di c l []) ot c = false) :
  helloN (mkN me ot ck ch di c l []) ot num (Sk.helloF ⟨ot, 1⟩ me) = (mkN me ot ck (ch + 1) di (some (cI me ot ck num ch)) l [pO me num ch], remO ot c) := by
 have hw : howF (mkN me ot ck ch di c l []) ot (Sk.lis1 ⟨me, 1⟩ ck ch ⟨ot, 1⟩) = 1 := by
  unfold howF
  rw [if_neg (by have := @mk_getL me ot ck ch di c l []; show ¬ (((1 : Nat) : Int) < _); omega), mk_getC, hc]
  rfl
 unfold helloN
 simp only [helS_eq T]
 rw [if_neg (by
  rintro (h | h)
  ·
   exact h rfl
  ·
   exact h rfl), hw, if_neg (by simp), Sk.step_offer, mk_next, mk_rem, mk_set, mk_send, mk_getC]
 rfl
theorem hel_busy (T : Two me ot) (num : Nat) (hc : busyB (mkN me ot ck ch di c l []) ot c = true) :
  helloN (mkN me ot ck ch di c l []) ot num (Sk.helloF ⟨ot, 1⟩ me) = (mkN me ot ck (ch + 1) di c l [pY num], []) := by
 have hw : howF (mkN me ot ck ch di c l []) ot (Sk.lis1 ⟨me, 1⟩ ck ch ⟨ot, 1⟩) = 2 := by
  unfold howF
  rw [if_neg (by have := @mk_getL me ot ck ch di c l []; show ¬ (((1 : Nat) : Int) < _); omega), mk_getC, hc]
  rfl
 unfold helloN
 simp only [helS_eq T]
 rw [if_neg (by
  rintro (h | h)
  ·
   exact h rfl
  ·
   exact h rfl), hw, if_pos (by simp), Sk.answerF_refuse _ 2 (by simp [Sk.lis1]) (by simp), mk_next, mk_send]
 rfl
theorem matchB_dials {x : Cx} {px : Px} (h : x.dials = px.dials) : matchB x px = false := by
 unfold matchB
 rw [h]
 simp
theorem p_hello (T : Two me ot) (num : Nat) (hn : num < 18446744073709551616) (hc : ∀ x, c = some x → x.dials = true ∧ x.gen = 0) (hb : busyB (mkN me ot ck ch di c l []) ot c = false) :
  pktN G (mkN me ot ck ch di c l []) ot (pH ot me num) = ((mkN me ot ck (ch + 1) di (some (cI me ot ck num ch)) l [pO me num ch], []), 0) := by
 unfold pH
 rw [pkt_eq T _ _ (readF_pk true num 72 _ hn rfl)]
 have e := hel_acc T num hb
 cases c with
 | none =>
  have hg : ∀ (n : Nd) (px : Px), gotN G n ot px none = if helB px then helloN n ot px.num px.cont else (n, []) := fun _ _ => rfl
  rw [hg, if_pos (by rfl), e]
  rfl
 | some x =>
  obtain ⟨h1, h2⟩ := hc x rfl
  show ((if matchB x _ then _ else if helB _ then _ else _), _) = _
  rw [if_neg (by rw [matchB_dials h1]; decide), if_pos (by rfl), e]
  show ((_, remE ot x), _) = _
  unfold remE
  rw [if_pos h2]
theorem p_busy (T : Two me ot) (num : Nat) (hn : num < 18446744073709551616) (x : Cx) (h1 : x.dials = true) (hb : busyB (mkN me ot ck ch di (some x) l []) ot (some x) = true) :
  pktN G (mkN me ot ck ch di (some x) l []) ot (pH ot me num) = ((mkN me ot ck (ch + 1) di (some x) l [pY num], []), 0) := by
 unfold pH
 rw [pkt_eq T _ _ (readF_pk true num 72 _ hn rfl)]
 show ((if matchB x _ then _ else if helB _ then _ else _), _) = _
 rw [if_neg (by rw [matchB_dials h1]; decide), if_pos (by rfl), hel_busy T num hb]
theorem p_ignore (T : Two me ot) (num : Nat) (hn : num < 18446744073709551616) (x : Cx) (h1 : x.dials = false) :
  pktN G (mkN me ot ck ch di (some x) l []) ot (pY num) = ((mkN me ot ck ch di (some x) l [], []), 0) := by
 unfold pY
 rw [pkt_eq T _ _ (readF_pk false num 72 _ hn rfl)]
 show ((if matchB x _ then _ else if helB _ then _ else _), _) = _
 rw [if_neg (by rw [matchB_dials h1]; decide), if_neg (by unfold helB; simp)]
theorem hand72 (T : Two me ot) (x : Cx) (num : Nat) (d : Bool) (cont : ByteArray) (h1 : x.num = num) (h2 : x.dials = !d) (hn : num < 18446744073709551616) :
  pktN G (mkN me ot ck ch di (some x) l []) ot (pkF d num 72 cont) = (shakesN (mkN me ot ck ch di (some x) l []) ot x cont, 0) := by
 rw [pkt_eq T _ _ (readF_pk d num 72 _ hn rfl)]
 show ((if matchB x _ then _ else if helB _ then _ else _), _) = _
 rw [if_pos (by unfold matchB; rw [h1, h2]; cases d <;> simp)]
 rfl
theorem out_some (n : Nd) (k : ByteArray) (x : Cx) (out : ByteArray) (h : 0 < out.size) : outN n k x out = sendN n k (pkF x.dials x.num 72 out) := by
 unfold outN
 rw [if_neg]
 intro e
 rw [ByteArray.toList_eq] at e
 rw [Sk.size_list, e] at h
 exact absurd h (by decide)
theorem nil_list : (ByteArray.mk #[]).toList = [] := by rw [ByteArray.toList_eq]
theorem out_none (n : Nd) (k : ByteArray) (x : Cx) : outN n k x ⟨#[]⟩ = n := by
 unfold outN
 rw [if_pos nil_list]
theorem p_offer (T : Two me ot) (num kx ky : Nat) (hn : num < 18446744073709551616) (hk : ky ≤ 18446744073709551615) :
  pktN G (mkN me ot ck ch di (some (cD me ot ck num kx)) l []) ot (pO ot num ky) = ((mkN me ot ck ch di (some (cE me ot ck num kx ky)) l [pR me ot ck num kx ky], []), 0) := by
 unfold pO
 rw [hand72 T _ num false _ rfl rfl hn]
 unfold shakesN
 rw [if_neg (by simp [cD])]
 have e : Sk.takeF (cD me ot ck num kx).side (Sk.offerM ⟨ot, 1⟩ ky) = (Sk.dia1 ⟨me, 1⟩ ot ck kx ⟨ot, 1⟩ ky, Sk.replyM kx (Sk.proofD ⟨me, 1⟩ ⟨ot, 1⟩ ck kx ky), 0) :=
  Sk.step_reply ⟨me, 1⟩ ⟨ot, 1⟩ T.po ot ck kx ky hk (seqB_refl' _)
 simp only [e]
 rw [if_neg (by simp), if_pos (by simp [Sk.dia1, Sk.dialS]), mk_set, out_some _ _ _ _ (by rw [Sk.replyM_size _ _ (Sk.proofD_size ..)]; omega), mk_send]
 rfl
theorem p_reply (T : Two me ot) (num kx ky : Nat) (P : ByteArray) (hP : P.size = 32) (hn : num < 18446744073709551616) (hk : kx ≤ 18446744073709551615) (h : Sk.seqB P (Sk.proofD ⟨ot, 1⟩ ⟨me, 1⟩ ck kx ky) = true) :
  pktN G (mkN me ot ck ch di (some (cI me ot ck num ky)) l []) ot (pkF true num 72 (Sk.replyM kx P)) = ((mkN me ot ck ch di (some (cV me ot ck num kx ky 0)) true [pA me ot ck num kx ky], [upE ot 1]), 0) := by
 rw [hand72 T _ num true _ rfl rfl hn]
 unfold shakesN
 rw [if_neg (by simp [cI])]
 have e : Sk.takeF (cI me ot ck num ky).side (Sk.replyM kx P) = (Sk.lis3 ⟨me, 1⟩ ck ky ⟨ot, 1⟩ kx, Sk.ackC ++ Sk.proofL ⟨ot, 1⟩ ⟨me, 1⟩ ck kx ky, 0) := by
  have := Sk.step_ack ⟨ot, 1⟩ ⟨me, 1⟩ ck P kx ky hk hP
  rw [h, if_neg (by decide)] at this
  exact this
 simp only [e]
 rw [if_neg (by simp), if_neg (by simp [Sk.lis3, Sk.listenS]), mk_set, out_some _ _ _ _ (by rw [ByteArray.size_append, Sk.proofL_size]; omega), mk_send, mk_set]
 have := @mk_lst me ot ck ch di (some (upX { cI me ot ck num ky with side := Sk.lis3 ⟨me, 1⟩ ck ky ⟨ot, 1⟩ kx } (Sk.lis3 ⟨me, 1⟩ ck ky ⟨ot, 1⟩ kx))) l [pA me ot ck num kx ky]
 exact Prod.ext (Prod.ext this rfl) rfl
theorem p_refuse (T : Two me ot) (num kx ky : Nat) (P : ByteArray) (hP : P.size = 32) (hn : num < 18446744073709551616) (hk : kx ≤ 18446744073709551615) (h : Sk.seqB P (Sk.proofD ⟨ot, 1⟩ ⟨me, 1⟩ ck kx ky) = false) :
  pktN G (mkN me ot ck ch di (some (cI me ot ck num ky)) l []) ot (pkF true num 72 (Sk.replyM kx P)) = ((mkN me ot ck ch di none l [pE num], []), 0) := by
 rw [hand72 T _ num true _ rfl rfl hn]
 unfold shakesN
 rw [if_neg (by simp [cI])]
 have e : Sk.takeF (cI me ot ck num ky).side (Sk.replyM kx P) = Sk.failS { Sk.lis2 ⟨me, 1⟩ ck ky ⟨ot, 1⟩ with their := kx } 350 := by
  have := Sk.step_ack ⟨ot, 1⟩ ⟨me, 1⟩ ck P kx ky hk hP
  rw [h, if_pos rfl] at this
  exact this
 simp only [e]
 rw [if_pos (by simp [Sk.failS]), mk_set, mk_close]
 rfl
theorem p_ack (T : Two me ot) (num kx ky : Nat) (P : ByteArray) (hP : P.size = 32) (hn : num < 18446744073709551616) (h : Sk.seqB P (Sk.proofL ⟨me, 1⟩ ⟨ot, 1⟩ ck kx ky) = true) :
  pktN G (mkN me ot ck ch di (some (cE me ot ck num kx ky)) l []) ot (pkF false num 72 (Sk.ackC ++ P)) = ((mkN me ot ck ch di (some (cU me ot ck num kx ky 0)) true [], [upE ot 1]), 0) := by
 rw [hand72 T _ num false _ rfl rfl hn]
 unfold shakesN
 rw [if_neg (by simp [cE])]
 have e : Sk.takeF (cE me ot ck num kx ky).side (Sk.ackC ++ P) = (Sk.dia2 ⟨me, 1⟩ ot ck kx ⟨ot, 1⟩ ky, ⟨#[]⟩, 0) := by
  have := Sk.step_done ⟨me, 1⟩ ⟨ot, 1⟩ ot ck P kx ky hP
  rw [h, if_neg (by decide)] at this
  exact this
 simp only [e]
 rw [if_neg (by simp), if_neg (by simp [Sk.dia2]), mk_set, out_none, mk_set]
 have := @mk_lst me ot ck ch di (some (upX { cE me ot ck num kx ky with side := Sk.dia2 ⟨me, 1⟩ ot ck kx ⟨ot, 1⟩ ky } (Sk.dia2 ⟨me, 1⟩ ot ck kx ⟨ot, 1⟩ ky))) l []
 exact Prod.ext (Prod.ext this rfl) rfl
theorem p_end (T : Two me ot) (num : Nat) (x : Cx) (hn : num < 18446744073709551616) (h1 : x.num = num) (h2 : x.dials = true) (hg : x.gen = 0) :
  pktN G (mkN me ot ck ch di (some x) l []) ot (pE num) = ((mkN me ot ck ch di none l [], []), 0) := by
 unfold pE
 rw [pkt_eq T _ _ (readF_pk false num 66 _ hn rfl)]
 show ((if matchB x _ then _ else if helB _ then _ else _), _) = _
 rw [if_pos (by unfold matchB; rw [h1, h2]; simp)]
 show ((endsN _ ot x ⟨#[]⟩, remE ot x), _) = _
 unfold endsN remE
 rw [if_pos nil_list, if_pos hg, mk_rem]
theorem d_yes (T : Two me ot) : dialN (mkN me ot ck ch di none l []) ot = (mkN me ot ck (ch + 1) (di + 1) (some (cD me ot ck (di + 1) ch)) l [pH me ot (di + 1)], 0) := by
 have ho : otherB (mkN me ot ck ch di none l []) ot = true := by
  show (nameF ot && !(ot.toList == me.toList)) = true
  rw [T.no, T.ne]
  rfl
 unfold dialN
 rw [if_neg (by rw [ho]; decide), if_neg (by rw [mk_getC]; simp)]
 have e : ({ mkN me ot ck ch di none l [] with ch := ch + 1, di := di + 1, C := put (mkN me ot ck ch di none l []).C ot (diaX (mkN me ot ck ch di none l []) ot) } : Nd) = mkN me ot ck (ch + 1) (di + 1) (some (cD me ot ck (di + 1) ch)) l [] := rfl
 exact Prod.ext ((congrArg (fun n => sendN n ot (pH me ot (di + 1))) e).trans (mk_send _)) rfl
theorem d_twice (T : Two me ot) (x : Cx) : dialN (mkN me ot ck ch di (some x) l []) ot = (mkN me ot ck ch di (some x) l [], 8) := by
 have ho : otherB (mkN me ot ck ch di (some x) l []) ot = true := by
  show (nameF ot && !(ot.toList == me.toList)) = true
  rw [T.no, T.ne]
  rfl
 unfold dialN
 rw [if_neg (by rw [ho]; decide), if_pos (by rw [mk_getC]; rfl)]
end
end Go.Proofs.YtoaimoemaoinhaaGreatDoor
