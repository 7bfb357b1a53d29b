/- flow.Live. -/
import Derived.Test.YtekfnonjhcfdmaaDoorNests
import Derived.Test.YtekfnonjhcfdmaaDoorFix1
import Derived.Test.YtekfnonjhcfdmaaDoorFam1
import Derived.Test.YtekfnonjhcfdmaaDoorUses
import Derived.Test.YtekfnonjhcfdmaaDoorWalk1
import Derived.Test.YtekfnonjhcfdmaaDoorNext1
import Derived.Laws.OwnMore
namespace Go.Proofs.YtekfnonjhcfdmaaDoor
open Go.RowKit Go.Shelf Go.Rt Go.Rw Go.Mp
attribute [local go_sem] Oper.semAt_some

/-- What Live answers, plain. -/
def LvSpec (l : List In) (fr : List Int) (kd : Int) (R : List (List Int)) (er : Int) : Prop :=
 ((kd ≠ 1 ∧ kd ≠ 2 ∧ kd ≠ 4) ∧ R = [] ∧ er = 2) ∨ (¬ (kd ≠ 1 ∧ kd ≠ 2 ∧ kd ≠ 4) ∧
  ((er ≠ 0 ∧ R = [] ∧ triesF l fr = ([], er)) ∨ (er = 0 ∧ (∀ k, k ∈ fr → inR l k = true) ∧ ∃ Q, Go.Proofs.YtekfnonjhcfdmaaDoor.Shut l fr Q ∧ LvL l fr (fun i => (Q i).getD []) kd R)))
/-- What Live returns. -/
def LiR (l : List In) (fr : List Int) (kd : Int) (w : World) (e : Ending) (w' : World) : Prop := Below w.heap.size w w' ∧ ∃ (v : Value) (R : List (List Int)) (er : Int), e = .returned (.tuple #[v, .int .i64 er]) ∧ LsAt w' R v ∧ LvSpec l fr kd R er
theorem ls_nil (w : World) : LsAt w [] (.slice none 0 0) := ⟨[], .inl ⟨rfl, _, _, rfl⟩, rfl, fun i h => by simp at h⟩
theorem pushs_ar {W : World} {B B2 : Nat} {v u : Value} {L M : List Ar} (h : Sl W B 38 2 arC v L) (k : Sl W B2 38 2 arC u M) (hl : L.length + M.length ≤ 1000000000000) (hbase : B ≤ W.heap.size) :
  ∃ (sa : Option Addr) (co : Nat) (W2 : World), (Builtin.append_ #[35, 35] 35 #[v, u]).run Tryd.prog W = .ok (.slice sa (L ++ M).length co) W2 ∧ Sl W2 B 38 2 arC (.slice sa (L ++ M).length co) (L ++ M) ∧ W.grownBy W2 v.ownBlock := by
 have hform : ∀ {W : World} {v : Value} {L : List Ar}, Sl W B 38 2 arC v L → ∃ sa co, v = .slice sa L.length co := fun h => by
  rcases h.form with ⟨rfl, rfl⟩ | ⟨g, cap, rfl, _⟩
  ·
   exact ⟨_, _, rfl⟩
  ·
   exact ⟨_, _, rfl⟩
 have hi : (Tryd.prog.info? 38).map (fun i => (i.zero, i.size, i.bytes)) = some (some (.agg #[.int .i64 0, .int .i64 0]), 2, 16) := by kernel_rfl
 rcases k.form with ⟨rfl, rfl⟩ | ⟨g, cap, rfl, hb, hg, hc, hm, cur, hcur, hs⟩
 ·
  obtain ⟨sa, co, rfl⟩ := hform h
  obtain ⟨i0, hi0, _⟩ := info_parts hi
  have := run_append_owned_none (P := Tryd.prog) W B 35 35 38 i0 2 Tryd.underlying35 hi0 _ _ _ h
  refine ⟨sa, co, W, ?_, by rw [List.append_nil]; exact h, ⟨rfl, rfl, rfl, Nat.le_refl _, fun _ _ _ => rfl⟩⟩
  rw [List.append_nil]
  exact this
 ·
  obtain ⟨v', W2, hrun, hs2, hg2, _⟩ := h.pushs (t := 35) (ty := 35) (bytes := 16) (b := g) (o := 0) (z := .agg #[.int .i64 0, .int .i64 0]) Tryd.underlying35 hi (by rfl) (by decide) (fun _ => rfl) (fun a u hu => by simp [arC] at hu; rcases hu with rfl | rfl <;> rfl) M (fun j u hj => by
   rcases k.2 with ⟨q, _⟩ | ⟨g', cap', cur', q, _, q3, _, _, _, q7⟩
   ·
    cases q
   ·
    cases q
    have hsel := hj
    rw [← q7, List.getElem?_take] at hsel
    split at hsel
    ·
     rw [Nat.zero_add, show W.cell? ⟨g, j, none⟩ = cur'[j]? from (show Blk W g 38 cur' from q3).cell j, ← Array.getElem?_toList]
     exact hsel
    ·
     cases hsel) (by omega) (by omega) hbase cap
  obtain ⟨sa, co, rfl⟩ := hform hs2
  exact ⟨sa, co, W2, hrun, hs2, hg2⟩
/-- Two lists of unlike kinds share no block. -/
theorem sl_off {α β : Type} {W : World} {B1 B2 m1 m2 : Nat} {t1 t2 : TypeId} {c1 : α → List Value} {c2 : β → List Value} {v u : Value} {L : List α} {M : List β} (h : Sl W B1 t1 m1 c1 v L) (k : Sl W B2 t2 m2 c2 u M) (ht : t1 ≠ t2) : Off v u.ownBlock.toList := by
 intro g hg hm
 rw [Option.mem_toList] at hm
 rcases h.2 with ⟨q, _⟩ | ⟨g2, cap2, cur, q, _, q3, _⟩
 ·
  rw [q] at hg
  simp [Value.ownBlock] at hg
 ·
  rcases k.2 with ⟨r, _⟩ | ⟨g3, cap3, cur3, r, _, r3, _⟩
  ·
   rw [r] at hm
   simp [Value.ownBlock] at hm
  ·
   rw [q] at hg
   rw [r] at hm
   simp only [Value.ownBlock, Option.some.injEq] at hg hm
   subst hg hm
   exact blk_ne (show Blk W _ t1 cur from q3) (show Blk W _ t2 cur3 from r3) ht rfl
theorem sl_form {α : Type} {W : World} {B t m : Nat} {c : α → List Value} {v : Value} {L : List α} (h : Sl W B t m c v L) : ∃ sa co, v = .slice sa L.length co := by
 rcases h.form with ⟨rfl, rfl⟩ | ⟨g, cap, rfl, _⟩
 ·
  exact ⟨_, _, rfl⟩
 ·
  exact ⟨_, _, rfl⟩
/-- Blocks that a region makes, each beside the others: address, type, cells. -/
def MkG (z0 : Nat) (w0 : World) (L : List (Nat × TypeId × Array Value)) (W : World) : Prop := z0 ≤ w0.heap.size ∧ Below z0 w0 W ∧ (L.map (·.1)).Nodup ∧ ∀ e ∈ L, z0 ≤ e.1 ∧ Blk W e.1 e.2.1 e.2.2
theorem MkG.start {z0 : Nat} {w0 : World} (h : w0.heap.size = z0) : MkG z0 w0 [] w0 := ⟨by omega, Below.refl _ _, List.nodup_nil, fun _ h => by cases h⟩
theorem MkG.alloc {z0 : Nat} {w0 W : World} {L : List (Nat × TypeId × Array Value)} (M : MkG z0 w0 L W) {A : Nat} {lv : Value} (hS : W.cell? ⟨A, 0, none⟩ = some lv) (ty : TypeId) (cs : Array Value) {a : Nat} (ha : a = W.heap.size) :
  ∃ W', W.alloc (.cells cs ty) = W' ∧ W'.cell? ⟨A, 0, none⟩ = some lv ∧ Hid (MkG z0 w0 ((a, ty, cs) :: L) W') := by
 subst ha
 have hz := M.2.1.size
 have h0 := M.1
 refine ⟨_, rfl, (World.cell?_alloc_some _ _ _ (by rw [hS]; rfl)).trans hS, Lib.hid ⟨M.1, M.2.1.alloc (by omega) _, ?_, fun e he => ?_⟩⟩
 ·
  rw [List.map_cons]
  refine List.nodup_cons.2 ⟨fun hm => ?_, M.2.2.1⟩
  obtain ⟨e, he, h⟩ := List.mem_map.1 hm
  have := (M.2.2.2 e he).2.lt
  dsimp only at h
  omega
 ·
  rcases List.mem_cons.1 he with rfl | he
  ·
   exact ⟨by omega, Blk.new _ _ _⟩
  ·
   exact ⟨(M.2.2.2 e he).1, (M.2.2.2 e he).2.alloc _⟩
theorem MkG.alloc2 {z0 : Nat} {w0 W : World} {L : List (Nat × TypeId × Array Value)} (M : MkG z0 w0 L W) {A : Nat} {lv : Value} (hS : W.cell? ⟨A, 0, none⟩ = some lv) (ty : TypeId) (cs : Array Value) :
  ∃ a, a = W.heap.size ∧ ∃ W', W.alloc (.cells cs ty) = W' ∧ W'.cell? ⟨A, 0, none⟩ = some lv ∧ Hid (MkG z0 w0 ((a, ty, cs) :: L) W') := ⟨_, rfl, M.alloc hS ty cs rfl⟩
theorem nodup_erase : ∀ (L : List (Nat × TypeId × Array Value)) (k : Nat) (x : Nat × TypeId × Array Value), (L.map (·.1)).Nodup → L[k]? = some x → ((L.eraseIdx k).map (·.1)).Nodup ∧ (∀ e ∈ L.eraseIdx k, e ∈ L ∧ e.1 ≠ x.1)
 | [], _, _, _, h => by simp at h
 | a :: r, 0, x, hn, h => by
  simp only [List.getElem?_cons_zero, Option.some.injEq] at h
  subst h
  rw [List.map_cons, List.nodup_cons] at hn
  exact ⟨hn.2, fun e he => ⟨List.mem_cons_of_mem _ he, fun q => hn.1 (by rw [← q]; exact List.mem_map.2 ⟨e, he, rfl⟩)⟩⟩
 | a :: r, k + 1, x, hn, h => by
  simp only [List.getElem?_cons_succ] at h
  rw [List.map_cons, List.nodup_cons] at hn
  obtain ⟨h1, h2⟩ := nodup_erase r k x hn.2 h
  rw [List.eraseIdx_cons_succ, List.map_cons, List.nodup_cons]
  refine ⟨⟨fun hm => ?_, h1⟩, fun e he => ?_⟩
  ·
   obtain ⟨e, he, q⟩ := List.mem_map.1 hm
   exact hn.1 (by rw [← q]; exact List.mem_map.2 ⟨e, (h2 e he).1, rfl⟩)
  ·
   rcases List.mem_cons.1 he with rfl | he
   ·
    exact ⟨List.mem_cons_self .., fun q => hn.1 (by rw [q]; exact List.mem_map.2 ⟨x, List.mem_of_getElem? h, rfl⟩)⟩
   ·
    exact ⟨List.mem_cons_of_mem _ (h2 e he).1, (h2 e he).2⟩
theorem MkG.store {z0 : Nat} {w0 W : World} {L : List (Nat × TypeId × Array Value)} (M : MkG z0 w0 L W) {A : Nat} {lv : Value} (hS : W.cell? ⟨A, 0, none⟩ = some lv) (hA : A < z0) {p : Nat} {T : TypeId} {cs : Array Value} (k : Nat) (hp : L[k]? = some (p, T, cs)) (hc : cs.size = 1) (v : Value) :
  ∃ W', W.setCell ⟨p, 0, none⟩ v = W' ∧ W'.cell? ⟨A, 0, none⟩ = some lv ∧ Hid (MkG z0 w0 ((p, T, #[v]) :: L.eraseIdx k) W') := by
 obtain ⟨h1, h2⟩ := M.2.2.2 _ (List.mem_of_getElem? hp)
 dsimp only at h1 h2
 obtain ⟨n1, n2⟩ := nodup_erase L k _ M.2.2.1 hp
 refine ⟨_, rfl, (World.cell?_setCell_far W ⟨p, 0, none⟩ ⟨A, 0, none⟩ _ (by show p ≠ A; omega)).trans hS, Lib.hid ⟨M.1, M.2.1.setCell (p := ⟨p, 0, none⟩) h1 v, ?_, fun e he => ?_⟩⟩
 ·
  rw [List.map_cons]
  refine List.nodup_cons.2 ⟨fun hm => ?_, n1⟩
  obtain ⟨e, he, q⟩ := List.mem_map.1 hm
  exact (n2 e he).2 q
 ·
  rcases List.mem_cons.1 he with rfl | he
  ·
   refine ⟨h1, ?_⟩
   have := h2.set_ 0 v
   have hcs : cs.setIfInBounds 0 v = #[v] := by
    apply Array.ext
    ·
     simp [hc]
    ·
     intro j a b
     simp [hc] at a
     subst a
     simp []
   rwa [hcs] at this
  ·
   obtain ⟨he1, he2⟩ := n2 e he
   obtain ⟨q1, q2⟩ := M.2.2.2 e he1
   exact ⟨q1, q2.far (p := ⟨p, 0, none⟩) he2 v⟩
theorem MkG.at {z0 : Nat} {w0 W : World} {L : List (Nat × TypeId × Array Value)} (M : MkG z0 w0 L W) {p : Nat} {T : TypeId} {cs : Array Value} (hp : (p, T, cs) ∈ L) : z0 ≤ p ∧ Blk W p T cs := M.2.2.2 _ hp
theorem MkG.one {z0 : Nat} {w0 W : World} {L : List (Nat × TypeId × Array Value)} (M : MkG z0 w0 L W) {p : Nat} {T : TypeId} {v : Value} (hp : (p, T, #[v]) ∈ L) : W.cell? ⟨p, 0, none⟩ = some v ∧ W.frozen? ⟨p, 0, none⟩ = false := ⟨(M.2.2.2 _ hp).2.cell 0, (M.2.2.2 _ hp).2.frozen 0⟩
theorem mk_two {z0 n : Nat} {w0 W : World} {L : List (Nat × TypeId × Array Value)} (M : MkG z0 w0 L W) {p1 p2 g1 g2 : Nat} (a b c d : Nat) (h1 : L[a]? = some (p1, 58, #[.slice (some ⟨g1, 0, none⟩) n n])) (h2 : L[b]? = some (p2, 58, #[.slice (some ⟨g2, 0, none⟩) n n])) (h3 : L[c]? = some (g1, 59, Array.replicate n (.pointer none))) (h4 : L[d]? = some (g2, 59, Array.replicate n (.pointer none))) (hcd : c ≠ d) :
  (z0 ≤ p1 ∧ z0 ≤ p2 ∧ z0 ≤ g1 ∧ z0 ≤ g2 ∧ g1 ≠ g2) ∧ Boxed W p1 58 (.slice (some ⟨g1, 0, none⟩) n n) ∧ Boxed W p2 58 (.slice (some ⟨g2, 0, none⟩) n n) ∧ Blk W g1 59 (Array.replicate n (.pointer none)) ∧ Blk W g2 59 (Array.replicate n (.pointer none)) := by
 have q1 := M.2.2.2 _ (List.mem_of_getElem? h1)
 have q2 := M.2.2.2 _ (List.mem_of_getElem? h2)
 have q3 := M.2.2.2 _ (List.mem_of_getElem? h3)
 have q4 := M.2.2.2 _ (List.mem_of_getElem? h4)
 refine ⟨⟨q1.1, q2.1, q3.1, q4.1, fun e => hcd ?_⟩, q1.2, q2.2, q3.2, q4.2⟩
 have hn := M.2.2.1
 have e3 : (L.map (·.1))[c]? = some g1 := by rw [List.getElem?_map, h3]; rfl
 have e4 : (L.map (·.1))[d]? = some g2 := by rw [List.getElem?_map, h4]; rfl
 rw [← e] at e4
 obtain ⟨x3, y3⟩ := List.getElem?_eq_some_iff.1 e3
 obtain ⟨x4, y4⟩ := List.getElem?_eq_some_iff.1 e4
 exact (List.getElem_inj hn).1 (y3.trans y4.symm)
/-- A map's block is no list's. -/
theorem sl_off_map {α : Type} {W : World} {B m mb : Nat} {t : TypeId} {c : α → List Value} {v : Value} {L : List α} {idx : List (Int × Nat)} (h : Sl W B t m c v L) (hm : MapAt W mb kyV ixV idx) : Off v [mb] := by
 intro g hg hmem
 rw [List.mem_singleton] at hmem
 subst hmem
 rcases h.2 with ⟨q, _⟩ | ⟨g2, cap2, cur, q, _, q3, _⟩
 ·
  rw [q] at hg
  simp [Value.ownBlock] at hg
 ·
  rw [q] at hg
  simp only [Value.ownBlock, Option.some.injEq] at hg
  subst hg
  obtain ⟨es, cc, h1, _⟩ := hm
  rw [h1] at q3
  cases q3
/-- What stays while Live is at work: the list, the search's answer. -/
structure BaseL (l : List In) (fr : List Int) (w : World) (lv : Value) (m0 gB gS : Nat) (Q : Nat → Option (List Int)) (T : List Value) (W1 : World) : Prop where
 box : Boxed W1 w.heap.size 22 lv
 seen : Blk W1 gS 4 ((List.range l.length).map fun i => Value.bool (Q i).isSome).toArray
 tl : T.length = l.length
 bef : Blk W1 gB 69 T.toArray
 nest : ∀ (i : Nat) (h : i < T.length), NestAt W1 ((Q i).getD []).reverse T[i]
 below : Below w.heap.size w W1
 size : W1.heap.size = m0
 inn : ∀ k, k ∈ fr → inR l k = true
 shut : Go.Proofs.YtekfnonjhcfdmaaDoor.Shut l fr Q
set_option maxRecDepth 100000 in
set_option maxHeartbeats 16000000 in
theorem tm254 (X : Nat → Value) : ((List.range 254).map X).toArray = #[X 0, X 1, X 2, X 3, X 4, X 5, X 6, X 7, X 8, X 9, X 10, X 11, X 12, X 13, X 14, X 15, X 16, X 17, X 18, X 19, X 20, X 21, X 22, X 23, X 24, X 25, X 26, X 27, X 28, X 29, X 30, X 31, X 32, X 33, X 34, X 35, X 36, X 37, X 38, X 39, X 40, X 41, X 42, X 43, X 44, X 45, X 46, X 47, X 48, X 49, X 50, X 51, X 52, X 53, X 54, X 55, X 56, X 57, X 58, X 59, X 60, X 61, X 62, X 63, X 64, X 65, X 66, X 67, X 68, X 69, X 70, X 71, X 72, X 73, X 74, X 75, X 76, X 77, X 78, X 79, X 80, X 81, X 82, X 83, X 84, X 85, X 86, X 87, X 88, X 89, X 90, X 91, X 92, X 93, X 94, X 95, X 96, X 97, X 98, X 99, X 100, X 101, X 102, X 103, X 104, X 105, X 106, X 107, X 108, X 109, X 110, X 111, X 112, X 113, X 114, X 115, X 116, X 117, X 118, X 119, X 120, X 121, X 122, X 123, X 124, X 125, X 126, X 127, X 128, X 129, X 130, X 131, X 132, X 133, X 134, X 135, X 136, X 137, X 138, X 139, X 140, X 141, X 142, X 143, X 144, X 145, X 146, X 147, X 148, X 149, X 150, X 151, X 152, X 153, X 154, X 155, X 156, X 157, X 158, X 159, X 160, X 161, X 162, X 163, X 164, X 165, X 166, X 167, X 168, X 169, X 170, X 171, X 172, X 173, X 174, X 175, X 176, X 177, X 178, X 179, X 180, X 181, X 182, X 183, X 184, X 185, X 186, X 187, X 188, X 189, X 190, X 191, X 192, X 193, X 194, X 195, X 196, X 197, X 198, X 199, X 200, X 201, X 202, X 203, X 204, X 205, X 206, X 207, X 208, X 209, X 210, X 211, X 212, X 213, X 214, X 215, X 216, X 217, X 218, X 219, X 220, X 221, X 222, X 223, X 224, X 225, X 226, X 227, X 228, X 229, X 230, X 231, X 232, X 233, X 234, X 235, X 236, X 237, X 238, X 239, X 240, X 241, X 242, X 243, X 244, X 245, X 246, X 247, X 248, X 249, X 250, X 251, X 252, X 253] := rfl
/-- The rounds' state, whatever has changed. -/
def RLI (l : List In) (fr : List Int) (kd : Int) (all : List Int) (T : Nat → List Int) (m1 n p1 p2 g1 g2 : Nat) (D : Row) (V1 : World) (Ds : List Nat) (c M Dd ib b o i : Nat) (f : Im) (k : Nat) (W : World) : Prop := ∃ L ch, RLJ l fr kd all T m1 n p1 p2 g1 g2 D V1 Ds c M Dd ib b o i f k L ch ch W
set_option maxRecDepth 100000 in
set_option maxHeartbeats 16000000 in
theorem live12 (l : List In) (fr : List Int) (v fv : Value) (kd : Int) (w : World) (h : InsAt w l v) (hfv : SlAt w 1 inC fv fr) (hb1 : l.length ≤ 1000000000) (hb2 : ∀ x ∈ l, x.cases.length ≤ 1000000000) (hb3 : ∀ x ∈ l, x.src.length + 2 * x.segs.length ≤ 900000000) (hb4 : (argsF l).length ≤ 1000000000)
  (hT : TabAt 0 Lib.deBruijn64tab w) (hz : 0 < w.heap.size) : Calls Tryd.prog 12 #[v, fv, .int .i64 kd] w (LiR l fr kd w) := by
 obtain ⟨_, sa, cap, rfl⟩ := h.form
 obtain ⟨n, hn⟩ : ∃ n, n = l.length := ⟨_, rfl⟩
 rw [← hn] at h hb1 ⊢
 have HH := Lib.hid h
 have HN := Lib.hid hn
 have HB2 := Lib.hid hb2
 have HB3 := Lib.hid hb3
 have HB4 := Lib.hid hb4
 have HT := Lib.hid hT
 have HZ := Lib.hid hz
 have HC32 := Lib.hid (fun (W : World) (hi : InsAt W l (.slice sa n cap)) (hf : SlAt W 1 inC fv fr) => nests32 l fr (.slice sa n cap) fv W hi hf (by omega) (fun x hx => by have := hb2 x hx; omega))
 have HFV := Lib.hid hfv
 clear h hn hb2 hb3 hb4 hT hz hfv
 refine (callsIn_wide (n := 3)).1 ?_
 refine callsIn_of_wp_marks Tryd.func12 rfl trivial ?_ rfl
 refine wpIn_wide.2 ?_
 refine wp_mono (Q := bodyNP Fence.wide 3 Tryd.prog Tryd.f12 (LiR l fr kd w)) ?_ bodyNP_le
 simp only [Tryd.ntmps12, List.size_toArray, List.length_cons, List.length_nil, Nat.reduceAdd, Nat.reduceSub, Array.replicate_succ, Array.replicate_zero, List.push_toArray, List.append_toArray, List.nil_append, List.cons_append]
 go_upto_region 1 with fail
 obtain ⟨W0, hW0⟩ : ∃ W, w.alloc (.cells #[.slice sa n cap] 22) = W := ⟨_, rfl⟩
 have B0 : Hid (Below w.heap.size w W0) := Lib.hid (by rw [← hW0]; exact (Below.refl _ w).alloc (Nat.le_refl _) _)
 have X0 : Hid (Boxed W0 w.heap.size 22 (.slice sa n cap)) := Lib.hid (by rw [← hW0]; exact Blk.new w 22 _)
 rw [hW0]
 clear hW0
 obtain ⟨A0, hA0⟩ : ∃ A, A = w.heap.size := ⟨_, rfl⟩
 rw [← hA0] at X0 ⊢
 have HA0 := Lib.hid hA0
 clear hA0
 have hend : ∀ (W : World) (tm : Array Value) (er : Int), Below w.heap.size w W → tm.getD 6 undef = .slice none 0 0 → tm.getD 7 undef = .int .i64 er → LvSpec l fr kd [] er → LeavesInM Fence.wide 3 Tryd.prog Tryd.f12 tm (LiR l fr kd w) [] .returning W := fun W tm er hB h6 h7 hs =>
  leaves_marks [] W List.nodup_nil (fun _ h => by cases h) fun w' ho => ⟨_, results_tt (a := 6) (b := 7) rfl tm w' _ _ h6 h7, hB.trans (ho.below (fun r hr => by cases hr) hB.size), _, [], er, rfl, ls_nil w', hs⟩
 have HEND := Lib.hid hend
 clear hend
 obtain ⟨bad, hbad⟩ : ∃ q, q = decide (kd ≠ 1 ∧ kd ≠ 2 ∧ kd ≠ 4) := ⟨_, rfl⟩
 have HBAD := Lib.hid hbad
 clear hbad
 go_cut [39] from 999 (fun z39 wy => z39 = .bool bad ∧ W0 = wy)
 case first =>
  by_cases h1 : kd = 1
  ·
   subst h1
   go_wp2_with fail
   go_meet
   exact ⟨by rw [HBAD.out]; rfl, rfl⟩
  ·
   have e1 := i64_bne kd 1 h1
   by_cases h2 : kd = 2
   ·
    subst h2
    go_wp2_with fail
    go_meet
    exact ⟨by rw [HBAD.out]; rfl, rfl⟩
   ·
    have e2 := i64_bne kd 2 h2
    by_cases h4 : kd = 4
    ·
     subst h4
     go_wp2_with fail
     go_meet
     exact ⟨by rw [HBAD.out]; rfl, rfl⟩
    ·
     have e4 := i64_bne kd 4 h4
     have hb : Hid (bad = true) := Lib.hid (by rw [HBAD.out]; simp [h1, h2, h4])
     clear h1 h2 h4
     go_wp2_with fail
     go_meet
     exact ⟨by rw [hb.out], rfl⟩
 case rest =>
  obtain ⟨rfl, rfl⟩ := hcut
  cases bad with
  | true =>
   have hk : kd ≠ 1 ∧ kd ≠ 2 ∧ kd ≠ 4 := by have := HBAD.out; simpa using this
   replace hk := Lib.hid hk
   go_wp2_with fail
   exact HEND.out _ _ _ B0.out rfl rfl (.inl ⟨hk.out, rfl, rfl⟩)
  | false =>
   have HKD : Hid (¬ (kd ≠ 1 ∧ kd ≠ 2 ∧ kd ≠ 4)) := Lib.hid (by have := HBAD.out; simpa using this)
   clear HBAD
   have cA0 := X0.out.cell
   go_wp2_with fail
   refine (HC32.out W0 (HH.out.keep B0.out) (HFV.out.keep B0.out)).mono ?_
   rintro e W1 ⟨b1, hcase⟩
   have B1 := Lib.hid (B0.out.trans (b1.mono B0.out.size))
   rcases hcase with ⟨er, her, htr, rfl⟩ | ⟨gB, gS, Q, T, hin, hsh, rfl, hse, htl, hbf, hne, hgB, hgS⟩
   ·
    have HER := Lib.hid her
    have HTR := Lib.hid htr
    have her2 := i64_bne er 0 her
    clear her htr b1
    go_wp2_with fail
    exact HEND.out _ _ _ B1.out rfl rfl (.inr ⟨HKD.out, .inl ⟨HER.out, rfl, HTR.out⟩⟩)
   ·
    obtain ⟨m0, hm0⟩ : ∃ m, m = W1.heap.size := ⟨_, rfl⟩
    have BL : Hid (BaseL l fr w (.slice sa n cap) m0 gB gS Q T W1) := Lib.hid ⟨by rw [← HA0.out]; exact (show Blk _ _ _ _ from X0.out).below b1 X0.out.lt, hse, htl, hbf, hne, B1.out, hm0.symm, hin, hsh⟩
    rw [← HN.out]
    have HM0 := Lib.hid hm0
    clear hse htl hbf hne hin hsh hgB hgS b1 hm0 HC32 X0 B0 B1 cA0 HEND
    have BB := Lib.hid (Below.refl m0 W1)
    have hA0l : A0 < m0 := by have := BL.out.below.size; have := BL.out.box.lt; have := BL.out.size; rw [HA0.out]; omega
    have HC0 : Hid (∀ W, Below m0 W1 W → W.cell? ⟨A0, 0, none⟩ = some (.slice sa n cap)) := Lib.hid (fun W hW => by rw [HA0.out] at hA0l ⊢; exact ((show Blk _ _ _ _ from BL.out.box).below hW hA0l).cell 0)
    have HIB : Hid (∀ W, Below m0 W1 W → Below w.heap.size w W) := Lib.hid (fun W hW => BL.out.below.trans (hW.mono (by rw [HA0.out] at hA0l; omega)))
    go_upto_region 7 with fail
    have cA0 := HC0.out W1 BB.out
    go_wp2_with fail
    clear cA0
    go_loopw [11, 52] (fun z11 z wr => ∃ (i : Nat) (sL : Option Addr) (cL : Nat) (L : List Int), i ≤ n ∧ z = .int .i64 (i : Int) ∧ z11 = .slice sL L.length cL ∧ Hid (L = gat kd (argsF (l.take i))) ∧ Hid (Sl wr m0 3 1 inC (.slice sL L.length cL) L) ∧ Hid (Below m0 W1 wr)) (fun _ z _ => n - (intOf z).toNat)
    case atStart => exact ⟨0, none, 0, [], Nat.zero_le _, rfl, rfl, Lib.hid (by simp [argsF, gat]), Lib.hid (Sl.nil _ _ _ _ _), BB⟩
    case round =>
     obtain ⟨i, sL, cL, L, hi, rfl, rfl, HL, HS, HB⟩ := hrel
     by_cases hlt : i < n
     ·
      have hlti : (i : Int) < (n : Int) := by omega
      have hil : i < l.length := by rw [← HN.out]; exact hlt
      obtain ⟨b, o, rfl, hb, hc⟩ := HH.out.get (by omega)
      obtain ⟨f, hf, hfa, hcell⟩ := hc i hil
      have HF := Lib.hid hf
      have HCI : Hid (∀ W, Below m0 W1 W → ∀ j, j < 10 → W.cell? ⟨b, o + i * 10 + j, none⟩ = (imC f)[j]?) := Lib.hid (fun W hW j hj => by rw [← hcell j hj]; exact (HIB.out W hW).cell (p := ⟨b, _, none⟩) hb)
      have CU : Hid (∀ W, Below m0 W1 W → Calls Tryd.prog 19 #[imV f] W (ArsR (usesF f.x) W)) := Lib.hid (fun W hW => uses19 f W (hfa.keep (HIB.out W hW)) (by rw [hf]; exact HB3.out _ (List.getElem_mem _)))
      have CD : Hid (∀ W, Below m0 W1 W → Calls Tryd.prog 21 #[imV f] W (ArsR (defsF f.x) W)) := Lib.hid (fun W hW => defs21 f W (hfa.keep (HIB.out W hW)))
      have HAL : Hid ((usesF f.x).length + (defsF f.x).length ≤ 1000000000) := Lib.hid (by
       have h1 := argsF_take l i hil
       have h2 := argsF_le l (i + 1)
       rw [h1] at h2
       simp only [List.length_append] at h2
       have := HB4.out
       rw [hf]
       omega)
      have HLL : Hid (L.length ≤ 1000000000) := Lib.hid (by rw [HL.out]; have := gat_len kd (argsF (l.take i)); have := argsF_le l i; have := HB4.out; omega)
      unfold imV at CU CD
      clear hc hf hfa hcell
      go_upto_region 10 with fail
      refine wp_region_held_drew (S := Below m0 W1) (by kernel_rfl) (HB.out.drew) (fun hS => ?_)
      have SD := Lib.hid (HS.out.same (w' := wr.drew) (Nat.le_refl _) (fun _ _ => rfl))
      clear HS HB
      generalize wr.drew = w0 at *
      refine tk (i := 0) (v := ?_) rfl (by rfl) ?_ (by assumption) ?_
      rotate_left
      ·
       intro w hSw
       have cc := HC0.out _ hSw
       go_simp
       with_reducible rfl
      change wpAnyH _ _ _ _ _ _ _ (Act.put _ (some 55) _) _
      simp only [Act.put, List.setIfInBounds_toArray, List.set_cons_zero, List.set_cons_succ]
      refine tk (i := 1) (v := ?_) rfl (by rfl) ?_ (by assumption) ?_
      rotate_left
      ·
       intro w hSw
       go_simp
       with_reducible rfl
      change wpAnyH _ _ _ _ _ _ _ (Act.put _ (some 56) _) _
      simp only [Act.put, List.setIfInBounds_toArray, List.set_cons_zero, List.set_cons_succ]
      refine tk (i := 2) (v := ?_) rfl (by rfl) ?_ (by assumption) ?_
      rotate_left
      ·
       intro w hSw
       go_simp
       with_reducible rfl
      change wpAnyH _ _ _ _ _ _ _ (Act.put _ (some 57) _) _
      simp only [Act.put, List.setIfInBounds_toArray, List.set_cons_zero, List.set_cons_succ]
      refine tk (i := 3) (v := ?_) rfl (by rfl) ?_ (by assumption) ?_
      rotate_left
      ·
       intro w hSw
       obtain ⟨e0, e1, e2, e3, e4, e5, e6, e7, e8, e9⟩ := cells10 (HCI.out _ hSw)
       go_simp
       with_reducible rfl
      change wpAnyH _ _ _ _ _ _ _ (Act.put _ (some 58) _) _
      simp only [Act.put, List.setIfInBounds_toArray, List.set_cons_zero, List.set_cons_succ]
      refine tk (i := 5) (v := ?_) rfl (by rfl) ?_ (by assumption) ?_
      rotate_left
      ·
       intro w hSw
       have cc := HC0.out _ hSw
       go_simp
       with_reducible rfl
      change wpAnyH _ _ _ _ _ _ _ (Act.put _ (some 60) _) _
      simp only [Act.put, List.setIfInBounds_toArray, List.set_cons_zero, List.set_cons_succ]
      refine tk (i := 6) (v := ?_) rfl (by rfl) ?_ (by assumption) ?_
      rotate_left
      ·
       intro w hSw
       go_simp
       with_reducible rfl
      change wpAnyH _ _ _ _ _ _ _ (Act.put _ (some 61) _) _
      simp only [Act.put, List.setIfInBounds_toArray, List.set_cons_zero, List.set_cons_succ]
      refine tk (i := 7) (v := ?_) rfl (by rfl) ?_ (by assumption) ?_
      rotate_left
      ·
       intro w hSw
       go_simp
       with_reducible rfl
      change wpAnyH _ _ _ _ _ _ _ (Act.put _ (some 62) _) _
      simp only [Act.put, List.setIfInBounds_toArray, List.set_cons_zero, List.set_cons_succ]
      refine tk (i := 8) (v := ?_) rfl (by rfl) ?_ (by assumption) ?_
      rotate_left
      ·
       intro w hSw
       obtain ⟨e0, e1, e2, e3, e4, e5, e6, e7, e8, e9⟩ := cells10 (HCI.out _ hSw)
       go_simp
       with_reducible rfl
      change wpAnyH _ _ _ _ _ _ _ (Act.put _ (some 63) _) _
      simp only [Act.put, List.setIfInBounds_toArray, List.set_cons_zero, List.set_cons_succ]
      refine tk (i := 12) (v := ?_) rfl (by rfl) ?_ (by assumption) ?_
      rotate_left
      ·
       intro w hSw
       go_simp
       with_reducible rfl
      change wpAnyH _ _ _ _ _ _ _ (Act.put _ (some 67) _) _
      simp only [Act.put, List.setIfInBounds_toArray, List.set_cons_zero, List.set_cons_succ]
      refine wpAnyH_ready (rs := [4]) (by kernel_rfl) (by simp) ?_
      refine AllReadyH.cons rfl (fun K hK => ?_) AllReadyH.nil
      go_simp
      refine (CU.out w0 hS).mono ?_
      rintro e w2 ⟨b2, v1, rfl, s1⟩
      have S1 := Lib.hid (s1.mono (base' := m0) (by have := hS.size; have := HM0.out; omega))
      have SD2 := Lib.hid (SD.out.below b2 (fun g hg => (SD.out.lt g hg).2))
      have HX : Hid (Below m0 W1 w2) := Lib.hid (hS.trans (b2.mono (by have := hS.size; have := HM0.out; omega)))
      clear b2 s1 SD CU hS
      go_wp2_with fail
      refine hK.out _ _ (HX.out) (fun hS => ?_)
      clear hK K
      try simp only [Act.put, List.setIfInBounds_toArray, List.set_cons_zero, List.set_cons_succ]
      refine wpAnyH_ready (rs := [9]) (by kernel_rfl) (by simp) ?_
      refine AllReadyH.cons rfl (fun K hK => ?_) AllReadyH.nil
      go_simp
      refine (CD.out w2 hS).mono ?_
      rintro e w3 ⟨b2, v2, rfl, s2⟩
      have S2 := Lib.hid s2
      have S12 := Lib.hid (S1.out.below b2 (fun g hg => (S1.out.lt g hg).2))
      have SD3 := Lib.hid (SD2.out.below b2 (fun g hg => (SD2.out.lt g hg).2))
      have HX3 : Hid (Below m0 W1 w3) := Lib.hid (HX.out.trans (b2.mono (by have := HX.out.size; have := HM0.out; omega)))
      clear b2 s2 SD2 CD S1 HX hS
      go_wp2_with fail
      refine hK.out _ _ (HX3.out) (fun hS => ?_)
      clear hK K
      try simp only [Act.put, List.setIfInBounds_toArray, List.set_cons_zero, List.set_cons_succ]
      obtain ⟨sA, cA, w4, hrun, s4, hgr⟩ := pushs_ar S12.out S2.out (by have := HAL.out; omega) (by have := HX3.out.size; have := HM0.out; omega)
      have HRN := Lib.hid hrun
      obtain ⟨A, hA⟩ : ∃ A, A = usesF f.x ++ defsF f.x := ⟨_, rfl⟩
      rw [← hA] at s4 HRN
      have S4 := Lib.hid s4
      have SD4 := Lib.hid (SD3.out.only (grown_only hgr) (sl_off SD3.out S12.out (by decide)))
      have HX4 : Hid (Below m0 W1 w4) := Lib.hid (HX3.out.trans ((grown_only hgr).below (fun r hr => by rw [Option.mem_toList] at hr; exact (S12.out.lt r hr).1) (by have := HX3.out.size; have := HM0.out; omega)))
      have HAA : Hid (A = usesF l[i] ++ defsF l[i]) := Lib.hid (by rw [hA, HF.out])
      have HAL4 : Hid (A.length ≤ 1000000000) := Lib.hid (by rw [hA, List.length_append]; exact HAL.out)
      clear hrun s4 hgr hA S12 SD3 HX3 S2 HAL HCI HF hS
      refine wpAnyH_ready (rs := [10]) (by kernel_rfl) (by simp) ?_
      refine AllReadyH.cons rfl (fun K hK => ?_) AllReadyH.nil
      refine step_append_run rfl _ _ 35 35 rfl rfl rfl HRN.out ?_
      change K (Act.put _ (some 65) _) _
      refine hK.out _ _ (HX4.out) (fun hS => ?_)
      clear hK K
      try simp only [Act.put, List.setIfInBounds_toArray, List.set_cons_zero, List.set_cons_succ]
      refine tk (i := 11) (v := ?_) rfl (by rfl) ?_ (by assumption) ?_
      rotate_left
      ·
       intro w hSw
       go_simp
       with_reducible rfl
      change wpAnyH _ _ _ _ _ _ _ (Act.put _ (some 66) _) _
      simp only [Act.put, List.setIfInBounds_toArray, List.set_cons_zero, List.set_cons_succ]
      refine wpAnyH_done (by kernel_rfl) ?_ _
      obtain ⟨na, hna⟩ : ∃ q, q = A.length := ⟨_, rfl⟩
      rw [← hna] at S4 ⊢
      have HNA := Lib.hid hna
      have hnab : na ≤ 1000000000 := by rw [hna]; exact HAL4.out
      clear hna hS HRN
      go_wp2_with fail
      go_loopw [11, 67] (fun z11 z wr => ∃ (j : Nat) (sM : Option Addr) (cM : Nat) (M : List Int), j ≤ na ∧ z = .int .i64 (j : Int) ∧ z11 = .slice sM M.length cM ∧ Hid (M = L ++ gat kd (A.take j)) ∧ Hid (Sl wr m0 3 1 inC (.slice sM M.length cM) M) ∧ Hid (Sl wr m0 38 2 arC (.slice sA na cA) A) ∧ Hid (Below m0 W1 wr)) (fun _ z _ => na - (intOf z).toNat)
      case atStart => exact ⟨0, sL, cL, L, Nat.zero_le _, rfl, rfl, Lib.hid (by simp [gat]), SD4, S4, HX4⟩
      case round =>
       clear SD4 S4 HX4
       obtain ⟨j, sM, cM, M, hj, rfl, rfl, HM, HS, HSA, HB⟩ := hrel
       by_cases hlj : j < na
       ·
        have hlji : (j : Int) < (na : Int) := by omega
        have hja : j < A.length := by rw [← HNA.out]; exact hlj
        obtain ⟨gA, rfl⟩ : ∃ g, sA = some ⟨g, 0, none⟩ := by
         rcases HSA.out.form with ⟨e, _⟩ | ⟨g, cap, e, _⟩
         ·
          simp only [Value.slice.injEq] at e
          omega
         ·
          simp only [Value.slice.injEq] at e
          exact ⟨g, e.1⟩
        have k0 := HSA.out.cell (fun _ => rfl) j 0 hja (by omega)
        have k1 := HSA.out.cell (fun _ => rfl) j 1 hja (by omega)
        have ES := Lib.hid (List.take_succ_eq_append_getElem hja)
        obtain ⟨a, ha⟩ : ∃ a, a = A[j] := ⟨_, rfl⟩
        rw [← ha] at k0 k1 ES
        obtain ⟨ak, an⟩ := a
        simp only [arC, List.getElem?_cons_zero, List.getElem?_cons_succ, Nat.add_zero] at k0 k1
        have BA : Hid (Below wr.heap.size wr (wr.alloc (.cells #[.int .i64 ak, .int .i64 an] 38))) := Lib.hid ((Below.refl _ wr).alloc (Nat.le_refl _) _)
        have XA := Lib.hid (Blk.new wr 38 #[.int .i64 ak, .int .i64 an])
        have hml : M.length ≤ 2000000000 := by rw [HM.out, List.length_append]; have := gat_len kd (A.take j); have := List.length_take_le j A; have := HLL.out; have := HAL4.out; omega
        have hwr : m0 ≤ wr.heap.size := by have := HB.out.size; have := HM0.out; omega
        clear ha
        go_upto_region 13 with fail
        generalize wr.alloc (.cells #[.int .i64 ak, .int .i64 an] 38) = w1 at BA XA ⊢
        have c0 : w1.cell? ⟨wr.heap.size, 0, none⟩ = some (.int .i64 ak) := XA.out.cell 0
        have c1 : w1.cell? ⟨wr.heap.size, 1, none⟩ = some (.int .i64 an) := XA.out.cell 1
        have S1 := Lib.hid (HS.out.below BA.out (fun g hg => (HS.out.lt g hg).2))
        have SA1 := Lib.hid (HSA.out.below BA.out (fun g hg => (HSA.out.lt g hg).2))
        have B1 := Lib.hid (HB.out.trans (BA.out.mono hwr))
        have hw1 : m0 ≤ w1.heap.size := by have := BA.out.size; omega
        clear BA XA HS HSA HB k0 k1
        by_cases hak : ak = kd
        ·
         subst hak
         obtain ⟨g, cap2, W2, hrun, sl2, hgr, _⟩ := sl_push_in (S1.out.only (bs := []) (Only.alloc [] w1 (.cells #[.int .i64 an] 3)) (fun g hg hm => by cases hm)) an w1.heap.size (Blk.new w1 3 _) (by omega) (by simp; omega)
         have HRN := Lib.hid hrun
         have S2 := Lib.hid sl2
         have SA2 : Hid (Sl W2 m0 38 2 arC (.slice (some ⟨gA, 0, none⟩) na cA) A) := Lib.hid ((SA1.out.only (bs := []) (Only.alloc [] w1 (.cells #[.int .i64 an] 3)) (fun g hg hm => by cases hm)).only (grown_only hgr) (sl_off (SA1.out.only (bs := []) (Only.alloc [] w1 (.cells #[.int .i64 an] 3)) (fun g hg hm => by cases hm)) (S1.out.only (bs := []) (Only.alloc [] w1 (.cells #[.int .i64 an] 3)) (fun g hg hm => by cases hm)) (by decide)))
         have B2 : Hid (Below m0 W1 W2) := Lib.hid ((B1.out.alloc hw1 _).trans ((grown_only hgr).below (fun r hr => by rw [Option.mem_toList] at hr; exact (S1.out.lt r hr).1) (by simp; omega)))
         have HM2 : Hid (M ++ [an] = L ++ gat ak (A.take (j + 1))) := Lib.hid (by rw [HM.out, ES.out, gat_append, List.append_assoc]; simp [gat])
         clear hrun sl2 hgr S1 SA1 B1
         go_wp2_with (at_builtin; refine wpList_append_run rfl _ _ 23 23 rfl rfl rfl HRN.out ?_)
         go_roundw
         case rel => exact ⟨j + 1, some ⟨g, 0, none⟩, cap2, M ++ [an], by omega, by go_num, by simp, HM2, by simpa using S2, SA2, B2⟩
         case measure => simp [intOf]; omega
        ·
         have dn := i64_bne ak kd hak
         have dn2 : (ak == kd) = false := by rw [beq_eq_false_iff_ne]; exact hak
         have HM2 : Hid (M = L ++ gat kd (A.take (j + 1))) := Lib.hid (by rw [HM.out, ES.out, gat_append]; simp [gat, hak])
         clear hak
         go_wp2_with fail
         go_roundw
         case rel => exact ⟨j + 1, sM, cM, M, by omega, by go_num, rfl, HM2, S1, SA1, B1⟩
         case measure => simp [intOf]; omega
       ·
        have hlji : ¬ (j : Int) < (na : Int) := by omega
        obtain rfl : j = na := by omega
        have HM2 : Hid (M = gat kd (argsF (l.take (i + 1)))) := Lib.hid (by rw [HM.out, argsF_take l i hil, gat_append, List.take_of_length_le (by rw [← HNA.out]; exact Nat.le_refl _), HL.out, HAA.out])
        clear hlj
        go_wp2_with fail
        go_roundw
        case rel => exact ⟨i + 1, sM, cM, M, by omega, by go_num, rfl, HM2, HS, HB⟩
        case measure => simp [intOf]; omega
     ·
      have hlti : ¬ (i : Int) < (n : Int) := by omega
      obtain rfl : n = i := by omega
      have HLN : Hid (L = gat kd (argsF l)) := Lib.hid (by rw [HL.out, List.take_of_length_le (by rw [← HN.out]; exact Nat.le_refl _)])
      have HLL : Hid (L.length ≤ 1000000000) := Lib.hid (by rw [HLN.out]; have := gat_len kd (argsF l); have := HB4.out; omega)
      clear HL hlt BB
      go_upto_region 17 with fail
      go_wp2_with fail
      refine (sort33 HS.out (by have := HLL.out; omega)).mono ?_
      rintro e w2 ⟨rfl, s2, g2⟩
      have S2 := Lib.hid s2
      have B2 : Hid (Below m0 W1 w2) := Lib.hid (HB.out.trans ((grown_only g2).below (fun r hr => by rw [Option.mem_toList] at hr; exact (HS.out.lt r hr).1) (by have := HB.out.size; have := HM0.out; omega)))
      clear s2 g2 HS HB
      go_wp2_with fail
      refine (comp34 S2.out (by rw [List.length_mergeSort]; have := HLL.out; omega)).mono ?_
      rintro e w3 ⟨v3, rfl, s3, o3, g3⟩
      rw [compact_sort] at s3
      have B3 : Hid (Below m0 W1 w3) := Lib.hid (B2.out.trans ((grown_only g3).below (fun r hr => by rw [Option.mem_toList] at hr; exact (S2.out.lt r hr).1) (by have := B2.out.size; have := HM0.out; omega)))
      obtain ⟨sA, cA, rfl⟩ := sl_form s3
      obtain ⟨all, hall⟩ : ∃ q, q = asc L := ⟨_, rfl⟩
      rw [← hall] at s3 ⊢
      have HUP : Hid (Up all) := Lib.hid (by rw [hall]; exact up_asc _)
      have HIN : Hid (∀ a ∈ argsF l, a.k = kd → a.n ∈ all) := Lib.hid (fun a ha hk => by rw [hall, mem_asc, HLN.out, mem_gat, ← hk]; exact ha)
      obtain ⟨nA, hnA⟩ : ∃ q, q = all.length := ⟨_, rfl⟩
      rw [← hnA] at s3 ⊢
      have hnAb : nA ≤ 1000000000 := by rw [hnA, hall]; have := asc_len L; have := HLL.out; omega
      have HNA := Lib.hid hnA
      have S3 := Lib.hid s3
      clear s3 o3 g3 hall S2 B2 HLN HLL hnA
      go_upto_region 19 with fail
      have hmm := @run_makeMap Tryd.prog
      have hm3 : m0 ≤ w3.heap.size := by have := B3.out.size; have := HM0.out; omega
      obtain ⟨w4, hw4⟩ : ∃ W, w3.alloc (.map #[] 0) = W := ⟨_, rfl⟩
      obtain ⟨mb, hmb⟩ : ∃ q, q = w3.heap.size := ⟨_, rfl⟩
      have M4 : Hid (MapAt w4 mb kyV ixV []) := Lib.hid (by rw [← hw4, hmb]; exact MapAt.new _ _ _)
      have B4 : Hid (Below m0 W1 w4) := Lib.hid (by rw [← hw4]; exact B3.out.alloc hm3 _)
      have S4 : Hid (Sl w4 m0 3 1 inC (.slice sA nA cA) all) := Lib.hid (by rw [← hw4]; exact S3.out.only (bs := []) (Only.alloc [] w3 _) (fun g hg hm => by cases hm))
      have hmb0 : m0 ≤ mb := by omega
      go_upto_region 20 with fail
      rw [← hmb]
      clear hw4 hmb hm3 B3 S3 hmm
      go_wp2_with fail
      go_loopw [89] (fun z wr => ∃ (k : Nat) (idx : List (Int × Nat)), k ≤ nA ∧ z = .int .i64 (k : Int) ∧ Hid (IdxI all k idx) ∧ Hid (MapAt wr mb kyV ixV idx) ∧ Hid (Sl wr m0 3 1 inC (.slice sA nA cA) all) ∧ Hid (Below m0 W1 wr)) (fun z _ => nA - (intOf z).toNat)
      case atStart => exact ⟨0, [], Nat.zero_le _, rfl, Lib.hid (IdxI.start all), M4, S4, B4⟩
      case round =>
       obtain ⟨k, idx, hk, rfl, HI, HM, HS, HB⟩ := hrel
       clear M4 S4 B4
       by_cases hlt : k < nA
       ·
        have hlti : (k : Int) < (nA : Int) := by omega
        obtain ⟨gA, rfl⟩ : ∃ g, sA = some ⟨g, 0, none⟩ := by
         rcases HS.out.form with ⟨e, _⟩ | ⟨g, cap, e, _⟩
         ·
          simp only [Value.slice.injEq] at e
          omega
         ·
          simp only [Value.slice.injEq] at e
          exact ⟨g, e.1⟩
        have hka : k < all.length := by rw [← HNA.out]; exact hlt
        have k0 := HS.out.cell in_len k 0 hka (by omega)
        obtain ⟨x, hx⟩ : ∃ x, x = all[k] := ⟨_, rfl⟩
        rw [← hx] at k0
        simp only [inC, List.getElem?_cons_zero, Nat.add_zero, Nat.mul_one] at k0
        obtain ⟨ob, hu, hm⟩ := run_update emb3 Go.Proofs.YtekfnonjhcfdmaaDoor.u57 HM.out x k
        have HM2 := Lib.hid hm
        have HI2 : Hid (IdxI all (k + 1) (Mp.put idx x k)) := Lib.hid (by rw [hx]; exact HI.out.step HUP.out hka)
        have HS2 : Hid (Sl (wr.putObj mb ob) m0 3 1 inC (.slice (some ⟨gA, 0, none⟩) nA cA) all) := Lib.hid (HS.out.only (Only.putObj (bs := [mb]) wr mb ob (by simp)) (sl_off_map HS.out HM.out))
        have HB2 : Hid (Below m0 W1 (wr.putObj mb ob)) := Lib.hid (HB.out.trans ((Only.putObj (bs := [mb]) wr mb ob (by simp)).below (fun r hr => by rw [List.mem_singleton] at hr; omega) (by have := HB.out.size; have := HM0.out; omega)))
        replace hu : (Instr.mapUpdate 57 (.map (some mb)) (.int .i64 x) (.int .i64 (k : Int))).run Tryd.prog wr = .ok () (wr.putObj mb ob) := hu
        clear hm hx HM HS HB HI
        go_upto_region 24 with fail
        generalize wr.putObj mb ob = Y at HM2 HS2 HB2 ⊢
        clear hu k0
        go_wp2_with fail
        go_roundw
        case rel => exact ⟨k + 1, _, by omega, by go_num, HI2, HM2, HS2, HB2⟩
        case measure => simp [intOf]; omega
       ·
        have hlti : ¬ (k : Int) < (nA : Int) := by omega
        obtain rfl : nA = k := by omega
        have HIX : Hid (IdxI all all.length idx) := Lib.hid (by rw [← HNA.out]; exact HI.out)
        clear HI hlt
        go_upto_region 25 with fail
        obtain ⟨m1, hm1⟩ : ∃ q, q = wr.heap.size := ⟨_, rfl⟩
        have HM1 := Lib.hid hm1
        have h01 : m0 ≤ m1 := by have := HB.out.size; have := HM0.out; omega
        have hmb1 : mb < m1 := by rw [hm1]; exact HM.out.lt
        have BX := Lib.hid (Below.refl m1 wr)
        have TR : Hid (∀ W, Below m1 wr W → Below m0 W1 W) := Lib.hid (fun W hW => HB.out.trans (hW.mono h01))
        have HMP : Hid (∀ W, Below m1 wr W → MapAt W mb kyV ixV idx) := Lib.hid (fun W hW => HM.out.of_heap (hW.block mb hmb1))
        have HSA : Hid (∀ W, Below m1 wr W → Sl W m0 3 1 inC (.slice sA nA cA) all) := Lib.hid (fun W hW => HS.out.below hW (fun g hg => by rw [hm1]; exact (HS.out.lt g hg).2))
        have cA0 := HC0.out wr HB.out
        have mkA := fun (W : World) => mk58 n (by omega) W
        have Hbx : Hid (A0 < wr.heap.size) := Lib.hid (by omega)
        clear hm1 HM HS
        go_cut [18, 19] from 999 (fun z18 z19 wx => ∃ p1 p2 g1 g2, z18 = .pointer (some ⟨p1, 0, none⟩) ∧ z19 = .pointer (some ⟨p2, 0, none⟩) ∧ Hid (m1 ≤ p1 ∧ m1 ≤ p2 ∧ m1 ≤ g1 ∧ m1 ≤ g2 ∧ g1 ≠ g2) ∧ Hid (Boxed wx p1 58 (.slice (some ⟨g1, 0, none⟩) n n)) ∧ Hid (Boxed wx p2 58 (.slice (some ⟨g2, 0, none⟩) n n)) ∧ Hid (Blk wx g1 59 (Array.replicate n (.pointer none))) ∧ Hid (Blk wx g2 59 (Array.replicate n (.pointer none))) ∧ Hid (Below m1 wr wx))
        case first =>
         refine wp_region_held_drew (S := (fun w' => w'.cell? ⟨A0, 0, none⟩ = some (.slice sa n cap))) (by kernel_rfl) (cA0) (fun hS => ?_)
         have BB := Lib.hid ((Below.refl wr.heap.size wr).drew)
         generalize hz0 : wr.heap.size = z0 at BB
         have hz1 : wr.drew.heap.size = z0 := hz0
         replace hz0 := Lib.hid hz0
         generalize wr.drew = w0 at *
         have M := Lib.hid (MkG.start hz1)
         clear hz1
         refine tk (i := 0) (v := ?_) rfl (by rfl) ?_ (by assumption) ?_
         rotate_left
         ·
          intro w hSw
          go_simp
          with_reducible rfl
         change wpAnyH _ _ _ _ _ _ _ (Act.put _ (some 98) _) _
         simp only [Act.put, List.setIfInBounds_toArray, List.set_cons_zero, List.set_cons_succ]
         refine tk (i := 1) (v := ?_) rfl (by rfl) ?_ (by assumption) ?_
         rotate_left
         ·
          intro w hSw
          go_simp
          with_reducible rfl
         change wpAnyH _ _ _ _ _ _ _ (Act.put _ (some 99) _) _
         simp only [Act.put, List.setIfInBounds_toArray, List.set_cons_zero, List.set_cons_succ]
         refine tk (i := 3) (v := ?_) rfl (by rfl) ?_ (by assumption) ?_
         rotate_left
         ·
          intro w hSw
          go_simp
          with_reducible rfl
         change wpAnyH _ _ _ _ _ _ _ (Act.put _ (some 101) _) _
         simp only [Act.put, List.setIfInBounds_toArray, List.set_cons_zero, List.set_cons_succ]
         refine tk (i := 4) (v := ?_) rfl (by rfl) ?_ (by assumption) ?_
         rotate_left
         ·
          intro w hSw
          go_simp
          with_reducible rfl
         change wpAnyH _ _ _ _ _ _ _ (Act.put _ (some 102) _) _
         simp only [Act.put, List.setIfInBounds_toArray, List.set_cons_zero, List.set_cons_succ]
         refine wpAnyH_ready (rs := [2, 5, 6, 7]) (by kernel_rfl) (by simp) ?_
         refine AllReadyH.cons rfl (fun K hK => ?_) (AllReadyH.cons rfl (fun K hK => ?_) (AllReadyH.cons rfl (fun K hK => ?_) (AllReadyH.cons rfl (fun K hK => ?_) AllReadyH.nil)))
         ·
          go_simp
          obtain ⟨g1, ha, w1, hw, hS', M⟩ := M.out.alloc2 hS 59 (Array.replicate n (.pointer none))
          rw [← ha, hw]
          clear hw ha
          refine hK.out _ _ hS' (fun hS => ?_)
          clear hK K hS'
          try simp only [Act.put, List.setIfInBounds_toArray, List.set_cons_zero, List.set_cons_succ]
          refine wpAnyH_ready (rs := [5, 6, 7]) (by kernel_rfl) (by simp) ?_
          refine AllReadyH.cons rfl (fun K hK => ?_) (AllReadyH.cons rfl (fun K hK => ?_) (AllReadyH.cons rfl (fun K hK => ?_) AllReadyH.nil))
          ·
           go_simp
           obtain ⟨g2, ha, w2, hw, hS', M⟩ := M.out.alloc2 hS 59 (Array.replicate n (.pointer none))
           rw [← ha, hw]
           clear hw ha
           refine hK.out _ _ hS' (fun hS => ?_)
           clear hK K hS'
           try simp only [Act.put, List.setIfInBounds_toArray, List.set_cons_zero, List.set_cons_succ]
           refine wpAnyH_ready (rs := [6, 7]) (by kernel_rfl) (by simp) ?_
           refine AllReadyH.cons rfl (fun K hK => ?_) (AllReadyH.cons rfl (fun K hK => ?_) AllReadyH.nil)
           ·
            go_simp
            obtain ⟨p1, ha, w3, hw, hS', M⟩ := M.out.alloc2 hS 58 #[.slice none 0 0]
            rw [← ha, hw]
            clear hw ha
            refine hK.out _ _ hS' (fun hS => ?_)
            clear hK K hS'
            try simp only [Act.put, List.setIfInBounds_toArray, List.set_cons_zero, List.set_cons_succ]
            refine wpAnyH_ready (rs := [7]) (by kernel_rfl) (by simp) ?_
            refine AllReadyH.cons rfl (fun K hK => ?_) AllReadyH.nil
            go_simp
            obtain ⟨p2, ha, w4, hw, hS', M⟩ := M.out.alloc2 hS 58 #[.slice none 0 0]
            rw [← ha, hw]
            clear hw ha
            refine hK.out _ _ hS' (fun hS => ?_)
            clear hK K hS'
            try simp only [Act.put, List.setIfInBounds_toArray, List.set_cons_zero, List.set_cons_succ]
            refine wpAnyH_ready (rs := [8]) (by kernel_rfl) (by simp) ?_
            refine AllReadyH.cons rfl (fun K hK => ?_) AllReadyH.nil
            obtain ⟨cc, ff⟩ := M.out.one (p := p1) (T := 58) (v := .slice none 0 0) (List.Mem.tail _ (List.Mem.head _))
            go_simp
            obtain ⟨w5, hw, hS', M⟩ := M.out.store hS (by have := Hbx.out; have := hz0.out; omega) (p := p1) (T := 58) (cs := #[.slice none 0 0]) 1 rfl rfl (.slice (some ⟨g1, 0, none⟩) n n)
            rw [hw]
            clear hw cc ff
            refine hK.out _ _ hS' (fun hS => ?_)
            clear hK K hS'
            try simp only [Act.put, List.setIfInBounds_toArray, List.set_cons_zero, List.set_cons_succ]
            refine wpAnyH_ready (rs := [9]) (by kernel_rfl) (by simp) ?_
            refine AllReadyH.cons rfl (fun K hK => ?_) AllReadyH.nil
            obtain ⟨cc, ff⟩ := M.out.one (p := p2) (T := 58) (v := .slice none 0 0) (List.Mem.tail _ (List.Mem.head _))
            go_simp
            obtain ⟨w6, hw, hS', M⟩ := M.out.store hS (by have := Hbx.out; have := hz0.out; omega) (p := p2) (T := 58) (cs := #[.slice none 0 0]) 1 rfl rfl (.slice (some ⟨g2, 0, none⟩) n n)
            rw [hw]
            clear hw cc ff
            refine hK.out _ _ hS' (fun hS => ?_)
            clear hK K hS'
            try simp only [Act.put, List.setIfInBounds_toArray, List.set_cons_zero, List.set_cons_succ]
            refine wpAnyH_done (by kernel_rfl) ?_ _
            have F := mk_two M.out 1 0 3 2 rfl rfl rfl rfl (by decide)
            go_wp2_with fail
            go_meet
            rw [HM1.out, hz0.out]
            exact ⟨p1, p2, g1, g2, rfl, rfl, Lib.hid F.1, Lib.hid F.2.1, Lib.hid F.2.2.1, Lib.hid F.2.2.2.1, Lib.hid F.2.2.2.2, Lib.hid (BB.out.trans M.out.2.1)⟩
           ·
            go_simp
            obtain ⟨p2, ha, w3, hw, hS', M⟩ := M.out.alloc2 hS 58 #[.slice none 0 0]
            rw [← ha, hw]
            clear hw ha
            refine hK.out _ _ hS' (fun hS => ?_)
            clear hK K hS'
            try simp only [Act.put, List.setIfInBounds_toArray, List.set_cons_zero, List.set_cons_succ]
            refine wpAnyH_ready (rs := [6]) (by kernel_rfl) (by simp) ?_
            refine AllReadyH.cons rfl (fun K hK => ?_) AllReadyH.nil
            go_simp
            obtain ⟨p1, ha, w4, hw, hS', M⟩ := M.out.alloc2 hS 58 #[.slice none 0 0]
            rw [← ha, hw]
            clear hw ha
            refine hK.out _ _ hS' (fun hS => ?_)
            clear hK K hS'
            try simp only [Act.put, List.setIfInBounds_toArray, List.set_cons_zero, List.set_cons_succ]
            refine wpAnyH_ready (rs := [8]) (by kernel_rfl) (by simp) ?_
            refine AllReadyH.cons rfl (fun K hK => ?_) AllReadyH.nil
            obtain ⟨cc, ff⟩ := M.out.one (p := p1) (T := 58) (v := .slice none 0 0) (List.Mem.head _)
            go_simp
            obtain ⟨w5, hw, hS', M⟩ := M.out.store hS (by have := Hbx.out; have := hz0.out; omega) (p := p1) (T := 58) (cs := #[.slice none 0 0]) 0 rfl rfl (.slice (some ⟨g1, 0, none⟩) n n)
            rw [hw]
            clear hw cc ff
            refine hK.out _ _ hS' (fun hS => ?_)
            clear hK K hS'
            try simp only [Act.put, List.setIfInBounds_toArray, List.set_cons_zero, List.set_cons_succ]
            refine wpAnyH_ready (rs := [9]) (by kernel_rfl) (by simp) ?_
            refine AllReadyH.cons rfl (fun K hK => ?_) AllReadyH.nil
            obtain ⟨cc, ff⟩ := M.out.one (p := p2) (T := 58) (v := .slice none 0 0) (List.Mem.tail _ (List.Mem.head _))
            go_simp
            obtain ⟨w6, hw, hS', M⟩ := M.out.store hS (by have := Hbx.out; have := hz0.out; omega) (p := p2) (T := 58) (cs := #[.slice none 0 0]) 1 rfl rfl (.slice (some ⟨g2, 0, none⟩) n n)
            rw [hw]
            clear hw cc ff
            refine hK.out _ _ hS' (fun hS => ?_)
            clear hK K hS'
            try simp only [Act.put, List.setIfInBounds_toArray, List.set_cons_zero, List.set_cons_succ]
            refine wpAnyH_done (by kernel_rfl) ?_ _
            have F := mk_two M.out 1 0 3 2 rfl rfl rfl rfl (by decide)
            go_wp2_with fail
            go_meet
            rw [HM1.out, hz0.out]
            exact ⟨p1, p2, g1, g2, rfl, rfl, Lib.hid F.1, Lib.hid F.2.1, Lib.hid F.2.2.1, Lib.hid F.2.2.2.1, Lib.hid F.2.2.2.2, Lib.hid (BB.out.trans M.out.2.1)⟩
          ·
           go_simp
           obtain ⟨p1, ha, w2, hw, hS', M⟩ := M.out.alloc2 hS 58 #[.slice none 0 0]
           rw [← ha, hw]
           clear hw ha
           refine hK.out _ _ hS' (fun hS => ?_)
           clear hK K hS'
           try simp only [Act.put, List.setIfInBounds_toArray, List.set_cons_zero, List.set_cons_succ]
           refine wpAnyH_ready (rs := [5, 7]) (by kernel_rfl) (by simp) ?_
           refine AllReadyH.cons rfl (fun K hK => ?_) (AllReadyH.cons rfl (fun K hK => ?_) AllReadyH.nil)
           ·
            go_simp
            obtain ⟨g2, ha, w3, hw, hS', M⟩ := M.out.alloc2 hS 59 (Array.replicate n (.pointer none))
            rw [← ha, hw]
            clear hw ha
            refine hK.out _ _ hS' (fun hS => ?_)
            clear hK K hS'
            try simp only [Act.put, List.setIfInBounds_toArray, List.set_cons_zero, List.set_cons_succ]
            refine wpAnyH_ready (rs := [7]) (by kernel_rfl) (by simp) ?_
            refine AllReadyH.cons rfl (fun K hK => ?_) AllReadyH.nil
            go_simp
            obtain ⟨p2, ha, w4, hw, hS', M⟩ := M.out.alloc2 hS 58 #[.slice none 0 0]
            rw [← ha, hw]
            clear hw ha
            refine hK.out _ _ hS' (fun hS => ?_)
            clear hK K hS'
            try simp only [Act.put, List.setIfInBounds_toArray, List.set_cons_zero, List.set_cons_succ]
            refine wpAnyH_ready (rs := [8]) (by kernel_rfl) (by simp) ?_
            refine AllReadyH.cons rfl (fun K hK => ?_) AllReadyH.nil
            obtain ⟨cc, ff⟩ := M.out.one (p := p1) (T := 58) (v := .slice none 0 0) (List.Mem.tail _ (List.Mem.tail _ (List.Mem.head _)))
            go_simp
            obtain ⟨w5, hw, hS', M⟩ := M.out.store hS (by have := Hbx.out; have := hz0.out; omega) (p := p1) (T := 58) (cs := #[.slice none 0 0]) 2 rfl rfl (.slice (some ⟨g1, 0, none⟩) n n)
            rw [hw]
            clear hw cc ff
            refine hK.out _ _ hS' (fun hS => ?_)
            clear hK K hS'
            try simp only [Act.put, List.setIfInBounds_toArray, List.set_cons_zero, List.set_cons_succ]
            refine wpAnyH_ready (rs := [9]) (by kernel_rfl) (by simp) ?_
            refine AllReadyH.cons rfl (fun K hK => ?_) AllReadyH.nil
            obtain ⟨cc, ff⟩ := M.out.one (p := p2) (T := 58) (v := .slice none 0 0) (List.Mem.tail _ (List.Mem.head _))
            go_simp
            obtain ⟨w6, hw, hS', M⟩ := M.out.store hS (by have := Hbx.out; have := hz0.out; omega) (p := p2) (T := 58) (cs := #[.slice none 0 0]) 1 rfl rfl (.slice (some ⟨g2, 0, none⟩) n n)
            rw [hw]
            clear hw cc ff
            refine hK.out _ _ hS' (fun hS => ?_)
            clear hK K hS'
            try simp only [Act.put, List.setIfInBounds_toArray, List.set_cons_zero, List.set_cons_succ]
            refine wpAnyH_done (by kernel_rfl) ?_ _
            have F := mk_two M.out 1 0 3 2 rfl rfl rfl rfl (by decide)
            go_wp2_with fail
            go_meet
            rw [HM1.out, hz0.out]
            exact ⟨p1, p2, g1, g2, rfl, rfl, Lib.hid F.1, Lib.hid F.2.1, Lib.hid F.2.2.1, Lib.hid F.2.2.2.1, Lib.hid F.2.2.2.2, Lib.hid (BB.out.trans M.out.2.1)⟩
           ·
            go_simp
            obtain ⟨p2, ha, w3, hw, hS', M⟩ := M.out.alloc2 hS 58 #[.slice none 0 0]
            rw [← ha, hw]
            clear hw ha
            refine hK.out _ _ hS' (fun hS => ?_)
            clear hK K hS'
            try simp only [Act.put, List.setIfInBounds_toArray, List.set_cons_zero, List.set_cons_succ]
            refine wpAnyH_ready (rs := [5, 8]) (by kernel_rfl) (by simp) ?_
            refine AllReadyH.cons rfl (fun K hK => ?_) (AllReadyH.cons rfl (fun K hK => ?_) AllReadyH.nil)
            ·
             go_simp
             obtain ⟨g2, ha, w4, hw, hS', M⟩ := M.out.alloc2 hS 59 (Array.replicate n (.pointer none))
             rw [← ha, hw]
             clear hw ha
             refine hK.out _ _ hS' (fun hS => ?_)
             clear hK K hS'
             try simp only [Act.put, List.setIfInBounds_toArray, List.set_cons_zero, List.set_cons_succ]
             refine wpAnyH_ready (rs := [8]) (by kernel_rfl) (by simp) ?_
             refine AllReadyH.cons rfl (fun K hK => ?_) AllReadyH.nil
             obtain ⟨cc, ff⟩ := M.out.one (p := p1) (T := 58) (v := .slice none 0 0) (List.Mem.tail _ (List.Mem.tail _ (List.Mem.head _)))
             go_simp
             obtain ⟨w5, hw, hS', M⟩ := M.out.store hS (by have := Hbx.out; have := hz0.out; omega) (p := p1) (T := 58) (cs := #[.slice none 0 0]) 2 rfl rfl (.slice (some ⟨g1, 0, none⟩) n n)
             rw [hw]
             clear hw cc ff
             refine hK.out _ _ hS' (fun hS => ?_)
             clear hK K hS'
             try simp only [Act.put, List.setIfInBounds_toArray, List.set_cons_zero, List.set_cons_succ]
             refine wpAnyH_ready (rs := [9]) (by kernel_rfl) (by simp) ?_
             refine AllReadyH.cons rfl (fun K hK => ?_) AllReadyH.nil
             obtain ⟨cc, ff⟩ := M.out.one (p := p2) (T := 58) (v := .slice none 0 0) (List.Mem.tail _ (List.Mem.tail _ (List.Mem.head _)))
             go_simp
             obtain ⟨w6, hw, hS', M⟩ := M.out.store hS (by have := Hbx.out; have := hz0.out; omega) (p := p2) (T := 58) (cs := #[.slice none 0 0]) 2 rfl rfl (.slice (some ⟨g2, 0, none⟩) n n)
             rw [hw]
             clear hw cc ff
             refine hK.out _ _ hS' (fun hS => ?_)
             clear hK K hS'
             try simp only [Act.put, List.setIfInBounds_toArray, List.set_cons_zero, List.set_cons_succ]
             refine wpAnyH_done (by kernel_rfl) ?_ _
             have F := mk_two M.out 1 0 3 2 rfl rfl rfl rfl (by decide)
             go_wp2_with fail
             go_meet
             rw [HM1.out, hz0.out]
             exact ⟨p1, p2, g1, g2, rfl, rfl, Lib.hid F.1, Lib.hid F.2.1, Lib.hid F.2.2.1, Lib.hid F.2.2.2.1, Lib.hid F.2.2.2.2, Lib.hid (BB.out.trans M.out.2.1)⟩
            ·
             obtain ⟨cc, ff⟩ := M.out.one (p := p1) (T := 58) (v := .slice none 0 0) (List.Mem.tail _ (List.Mem.head _))
             go_simp
             obtain ⟨w4, hw, hS', M⟩ := M.out.store hS (by have := Hbx.out; have := hz0.out; omega) (p := p1) (T := 58) (cs := #[.slice none 0 0]) 1 rfl rfl (.slice (some ⟨g1, 0, none⟩) n n)
             rw [hw]
             clear hw cc ff
             refine hK.out _ _ hS' (fun hS => ?_)
             clear hK K hS'
             try simp only [Act.put, List.setIfInBounds_toArray, List.set_cons_zero, List.set_cons_succ]
             refine wpAnyH_ready (rs := [5]) (by kernel_rfl) (by simp) ?_
             refine AllReadyH.cons rfl (fun K hK => ?_) AllReadyH.nil
             go_simp
             obtain ⟨g2, ha, w5, hw, hS', M⟩ := M.out.alloc2 hS 59 (Array.replicate n (.pointer none))
             rw [← ha, hw]
             clear hw ha
             refine hK.out _ _ hS' (fun hS => ?_)
             clear hK K hS'
             try simp only [Act.put, List.setIfInBounds_toArray, List.set_cons_zero, List.set_cons_succ]
             refine wpAnyH_ready (rs := [9]) (by kernel_rfl) (by simp) ?_
             refine AllReadyH.cons rfl (fun K hK => ?_) AllReadyH.nil
             obtain ⟨cc, ff⟩ := M.out.one (p := p2) (T := 58) (v := .slice none 0 0) (List.Mem.tail _ (List.Mem.tail _ (List.Mem.head _)))
             go_simp
             obtain ⟨w6, hw, hS', M⟩ := M.out.store hS (by have := Hbx.out; have := hz0.out; omega) (p := p2) (T := 58) (cs := #[.slice none 0 0]) 2 rfl rfl (.slice (some ⟨g2, 0, none⟩) n n)
             rw [hw]
             clear hw cc ff
             refine hK.out _ _ hS' (fun hS => ?_)
             clear hK K hS'
             try simp only [Act.put, List.setIfInBounds_toArray, List.set_cons_zero, List.set_cons_succ]
             refine wpAnyH_done (by kernel_rfl) ?_ _
             have F := mk_two M.out 2 0 3 1 rfl rfl rfl rfl (by decide)
             go_wp2_with fail
             go_meet
             rw [HM1.out, hz0.out]
             exact ⟨p1, p2, g1, g2, rfl, rfl, Lib.hid F.1, Lib.hid F.2.1, Lib.hid F.2.2.1, Lib.hid F.2.2.2.1, Lib.hid F.2.2.2.2, Lib.hid (BB.out.trans M.out.2.1)⟩
          ·
           go_simp
           obtain ⟨p2, ha, w2, hw, hS', M⟩ := M.out.alloc2 hS 58 #[.slice none 0 0]
           rw [← ha, hw]
           clear hw ha
           refine hK.out _ _ hS' (fun hS => ?_)
           clear hK K hS'
           try simp only [Act.put, List.setIfInBounds_toArray, List.set_cons_zero, List.set_cons_succ]
           refine wpAnyH_ready (rs := [5, 6]) (by kernel_rfl) (by simp) ?_
           refine AllReadyH.cons rfl (fun K hK => ?_) (AllReadyH.cons rfl (fun K hK => ?_) AllReadyH.nil)
           ·
            go_simp
            obtain ⟨g2, ha, w3, hw, hS', M⟩ := M.out.alloc2 hS 59 (Array.replicate n (.pointer none))
            rw [← ha, hw]
            clear hw ha
            refine hK.out _ _ hS' (fun hS => ?_)
            clear hK K hS'
            try simp only [Act.put, List.setIfInBounds_toArray, List.set_cons_zero, List.set_cons_succ]
            refine wpAnyH_ready (rs := [6]) (by kernel_rfl) (by simp) ?_
            refine AllReadyH.cons rfl (fun K hK => ?_) AllReadyH.nil
            go_simp
            obtain ⟨p1, ha, w4, hw, hS', M⟩ := M.out.alloc2 hS 58 #[.slice none 0 0]
            rw [← ha, hw]
            clear hw ha
            refine hK.out _ _ hS' (fun hS => ?_)
            clear hK K hS'
            try simp only [Act.put, List.setIfInBounds_toArray, List.set_cons_zero, List.set_cons_succ]
            refine wpAnyH_ready (rs := [8]) (by kernel_rfl) (by simp) ?_
            refine AllReadyH.cons rfl (fun K hK => ?_) AllReadyH.nil
            obtain ⟨cc, ff⟩ := M.out.one (p := p1) (T := 58) (v := .slice none 0 0) (List.Mem.head _)
            go_simp
            obtain ⟨w5, hw, hS', M⟩ := M.out.store hS (by have := Hbx.out; have := hz0.out; omega) (p := p1) (T := 58) (cs := #[.slice none 0 0]) 0 rfl rfl (.slice (some ⟨g1, 0, none⟩) n n)
            rw [hw]
            clear hw cc ff
            refine hK.out _ _ hS' (fun hS => ?_)
            clear hK K hS'
            try simp only [Act.put, List.setIfInBounds_toArray, List.set_cons_zero, List.set_cons_succ]
            refine wpAnyH_ready (rs := [9]) (by kernel_rfl) (by simp) ?_
            refine AllReadyH.cons rfl (fun K hK => ?_) AllReadyH.nil
            obtain ⟨cc, ff⟩ := M.out.one (p := p2) (T := 58) (v := .slice none 0 0) (List.Mem.tail _ (List.Mem.tail _ (List.Mem.head _)))
            go_simp
            obtain ⟨w6, hw, hS', M⟩ := M.out.store hS (by have := Hbx.out; have := hz0.out; omega) (p := p2) (T := 58) (cs := #[.slice none 0 0]) 2 rfl rfl (.slice (some ⟨g2, 0, none⟩) n n)
            rw [hw]
            clear hw cc ff
            refine hK.out _ _ hS' (fun hS => ?_)
            clear hK K hS'
            try simp only [Act.put, List.setIfInBounds_toArray, List.set_cons_zero, List.set_cons_succ]
            refine wpAnyH_done (by kernel_rfl) ?_ _
            have F := mk_two M.out 1 0 3 2 rfl rfl rfl rfl (by decide)
            go_wp2_with fail
            go_meet
            rw [HM1.out, hz0.out]
            exact ⟨p1, p2, g1, g2, rfl, rfl, Lib.hid F.1, Lib.hid F.2.1, Lib.hid F.2.2.1, Lib.hid F.2.2.2.1, Lib.hid F.2.2.2.2, Lib.hid (BB.out.trans M.out.2.1)⟩
           ·
            go_simp
            obtain ⟨p1, ha, w3, hw, hS', M⟩ := M.out.alloc2 hS 58 #[.slice none 0 0]
            rw [← ha, hw]
            clear hw ha
            refine hK.out _ _ hS' (fun hS => ?_)
            clear hK K hS'
            try simp only [Act.put, List.setIfInBounds_toArray, List.set_cons_zero, List.set_cons_succ]
            refine wpAnyH_ready (rs := [5, 8]) (by kernel_rfl) (by simp) ?_
            refine AllReadyH.cons rfl (fun K hK => ?_) (AllReadyH.cons rfl (fun K hK => ?_) AllReadyH.nil)
            ·
             go_simp
             obtain ⟨g2, ha, w4, hw, hS', M⟩ := M.out.alloc2 hS 59 (Array.replicate n (.pointer none))
             rw [← ha, hw]
             clear hw ha
             refine hK.out _ _ hS' (fun hS => ?_)
             clear hK K hS'
             try simp only [Act.put, List.setIfInBounds_toArray, List.set_cons_zero, List.set_cons_succ]
             refine wpAnyH_ready (rs := [8]) (by kernel_rfl) (by simp) ?_
             refine AllReadyH.cons rfl (fun K hK => ?_) AllReadyH.nil
             obtain ⟨cc, ff⟩ := M.out.one (p := p1) (T := 58) (v := .slice none 0 0) (List.Mem.tail _ (List.Mem.head _))
             go_simp
             obtain ⟨w5, hw, hS', M⟩ := M.out.store hS (by have := Hbx.out; have := hz0.out; omega) (p := p1) (T := 58) (cs := #[.slice none 0 0]) 1 rfl rfl (.slice (some ⟨g1, 0, none⟩) n n)
             rw [hw]
             clear hw cc ff
             refine hK.out _ _ hS' (fun hS => ?_)
             clear hK K hS'
             try simp only [Act.put, List.setIfInBounds_toArray, List.set_cons_zero, List.set_cons_succ]
             refine wpAnyH_ready (rs := [9]) (by kernel_rfl) (by simp) ?_
             refine AllReadyH.cons rfl (fun K hK => ?_) AllReadyH.nil
             obtain ⟨cc, ff⟩ := M.out.one (p := p2) (T := 58) (v := .slice none 0 0) (List.Mem.tail _ (List.Mem.tail _ (List.Mem.head _)))
             go_simp
             obtain ⟨w6, hw, hS', M⟩ := M.out.store hS (by have := Hbx.out; have := hz0.out; omega) (p := p2) (T := 58) (cs := #[.slice none 0 0]) 2 rfl rfl (.slice (some ⟨g2, 0, none⟩) n n)
             rw [hw]
             clear hw cc ff
             refine hK.out _ _ hS' (fun hS => ?_)
             clear hK K hS'
             try simp only [Act.put, List.setIfInBounds_toArray, List.set_cons_zero, List.set_cons_succ]
             refine wpAnyH_done (by kernel_rfl) ?_ _
             have F := mk_two M.out 1 0 3 2 rfl rfl rfl rfl (by decide)
             go_wp2_with fail
             go_meet
             rw [HM1.out, hz0.out]
             exact ⟨p1, p2, g1, g2, rfl, rfl, Lib.hid F.1, Lib.hid F.2.1, Lib.hid F.2.2.1, Lib.hid F.2.2.2.1, Lib.hid F.2.2.2.2, Lib.hid (BB.out.trans M.out.2.1)⟩
            ·
             obtain ⟨cc, ff⟩ := M.out.one (p := p1) (T := 58) (v := .slice none 0 0) (List.Mem.head _)
             go_simp
             obtain ⟨w4, hw, hS', M⟩ := M.out.store hS (by have := Hbx.out; have := hz0.out; omega) (p := p1) (T := 58) (cs := #[.slice none 0 0]) 0 rfl rfl (.slice (some ⟨g1, 0, none⟩) n n)
             rw [hw]
             clear hw cc ff
             refine hK.out _ _ hS' (fun hS => ?_)
             clear hK K hS'
             try simp only [Act.put, List.setIfInBounds_toArray, List.set_cons_zero, List.set_cons_succ]
             refine wpAnyH_ready (rs := [5]) (by kernel_rfl) (by simp) ?_
             refine AllReadyH.cons rfl (fun K hK => ?_) AllReadyH.nil
             go_simp
             obtain ⟨g2, ha, w5, hw, hS', M⟩ := M.out.alloc2 hS 59 (Array.replicate n (.pointer none))
             rw [← ha, hw]
             clear hw ha
             refine hK.out _ _ hS' (fun hS => ?_)
             clear hK K hS'
             try simp only [Act.put, List.setIfInBounds_toArray, List.set_cons_zero, List.set_cons_succ]
             refine wpAnyH_ready (rs := [9]) (by kernel_rfl) (by simp) ?_
             refine AllReadyH.cons rfl (fun K hK => ?_) AllReadyH.nil
             obtain ⟨cc, ff⟩ := M.out.one (p := p2) (T := 58) (v := .slice none 0 0) (List.Mem.tail _ (List.Mem.tail _ (List.Mem.head _)))
             go_simp
             obtain ⟨w6, hw, hS', M⟩ := M.out.store hS (by have := Hbx.out; have := hz0.out; omega) (p := p2) (T := 58) (cs := #[.slice none 0 0]) 2 rfl rfl (.slice (some ⟨g2, 0, none⟩) n n)
             rw [hw]
             clear hw cc ff
             refine hK.out _ _ hS' (fun hS => ?_)
             clear hK K hS'
             try simp only [Act.put, List.setIfInBounds_toArray, List.set_cons_zero, List.set_cons_succ]
             refine wpAnyH_done (by kernel_rfl) ?_ _
             have F := mk_two M.out 2 0 3 1 rfl rfl rfl rfl (by decide)
             go_wp2_with fail
             go_meet
             rw [HM1.out, hz0.out]
             exact ⟨p1, p2, g1, g2, rfl, rfl, Lib.hid F.1, Lib.hid F.2.1, Lib.hid F.2.2.1, Lib.hid F.2.2.2.1, Lib.hid F.2.2.2.2, Lib.hid (BB.out.trans M.out.2.1)⟩
         ·
          go_simp
          obtain ⟨g2, ha, w1, hw, hS', M⟩ := M.out.alloc2 hS 59 (Array.replicate n (.pointer none))
          rw [← ha, hw]
          clear hw ha
          refine hK.out _ _ hS' (fun hS => ?_)
          clear hK K hS'
          try simp only [Act.put, List.setIfInBounds_toArray, List.set_cons_zero, List.set_cons_succ]
          refine wpAnyH_ready (rs := [2, 6, 7]) (by kernel_rfl) (by simp) ?_
          refine AllReadyH.cons rfl (fun K hK => ?_) (AllReadyH.cons rfl (fun K hK => ?_) (AllReadyH.cons rfl (fun K hK => ?_) AllReadyH.nil))
          ·
           go_simp
           obtain ⟨g1, ha, w2, hw, hS', M⟩ := M.out.alloc2 hS 59 (Array.replicate n (.pointer none))
           rw [← ha, hw]
           clear hw ha
           refine hK.out _ _ hS' (fun hS => ?_)
           clear hK K hS'
           try simp only [Act.put, List.setIfInBounds_toArray, List.set_cons_zero, List.set_cons_succ]
           refine wpAnyH_ready (rs := [6, 7]) (by kernel_rfl) (by simp) ?_
           refine AllReadyH.cons rfl (fun K hK => ?_) (AllReadyH.cons rfl (fun K hK => ?_) AllReadyH.nil)
           ·
            go_simp
            obtain ⟨p1, ha, w3, hw, hS', M⟩ := M.out.alloc2 hS 58 #[.slice none 0 0]
            rw [← ha, hw]
            clear hw ha
            refine hK.out _ _ hS' (fun hS => ?_)
            clear hK K hS'
            try simp only [Act.put, List.setIfInBounds_toArray, List.set_cons_zero, List.set_cons_succ]
            refine wpAnyH_ready (rs := [7]) (by kernel_rfl) (by simp) ?_
            refine AllReadyH.cons rfl (fun K hK => ?_) AllReadyH.nil
            go_simp
            obtain ⟨p2, ha, w4, hw, hS', M⟩ := M.out.alloc2 hS 58 #[.slice none 0 0]
            rw [← ha, hw]
            clear hw ha
            refine hK.out _ _ hS' (fun hS => ?_)
            clear hK K hS'
            try simp only [Act.put, List.setIfInBounds_toArray, List.set_cons_zero, List.set_cons_succ]
            refine wpAnyH_ready (rs := [8]) (by kernel_rfl) (by simp) ?_
            refine AllReadyH.cons rfl (fun K hK => ?_) AllReadyH.nil
            obtain ⟨cc, ff⟩ := M.out.one (p := p1) (T := 58) (v := .slice none 0 0) (List.Mem.tail _ (List.Mem.head _))
            go_simp
            obtain ⟨w5, hw, hS', M⟩ := M.out.store hS (by have := Hbx.out; have := hz0.out; omega) (p := p1) (T := 58) (cs := #[.slice none 0 0]) 1 rfl rfl (.slice (some ⟨g1, 0, none⟩) n n)
            rw [hw]
            clear hw cc ff
            refine hK.out _ _ hS' (fun hS => ?_)
            clear hK K hS'
            try simp only [Act.put, List.setIfInBounds_toArray, List.set_cons_zero, List.set_cons_succ]
            refine wpAnyH_ready (rs := [9]) (by kernel_rfl) (by simp) ?_
            refine AllReadyH.cons rfl (fun K hK => ?_) AllReadyH.nil
            obtain ⟨cc, ff⟩ := M.out.one (p := p2) (T := 58) (v := .slice none 0 0) (List.Mem.tail _ (List.Mem.head _))
            go_simp
            obtain ⟨w6, hw, hS', M⟩ := M.out.store hS (by have := Hbx.out; have := hz0.out; omega) (p := p2) (T := 58) (cs := #[.slice none 0 0]) 1 rfl rfl (.slice (some ⟨g2, 0, none⟩) n n)
            rw [hw]
            clear hw cc ff
            refine hK.out _ _ hS' (fun hS => ?_)
            clear hK K hS'
            try simp only [Act.put, List.setIfInBounds_toArray, List.set_cons_zero, List.set_cons_succ]
            refine wpAnyH_done (by kernel_rfl) ?_ _
            have F := mk_two M.out 1 0 2 3 rfl rfl rfl rfl (by decide)
            go_wp2_with fail
            go_meet
            rw [HM1.out, hz0.out]
            exact ⟨p1, p2, g1, g2, rfl, rfl, Lib.hid F.1, Lib.hid F.2.1, Lib.hid F.2.2.1, Lib.hid F.2.2.2.1, Lib.hid F.2.2.2.2, Lib.hid (BB.out.trans M.out.2.1)⟩
           ·
            go_simp
            obtain ⟨p2, ha, w3, hw, hS', M⟩ := M.out.alloc2 hS 58 #[.slice none 0 0]
            rw [← ha, hw]
            clear hw ha
            refine hK.out _ _ hS' (fun hS => ?_)
            clear hK K hS'
            try simp only [Act.put, List.setIfInBounds_toArray, List.set_cons_zero, List.set_cons_succ]
            refine wpAnyH_ready (rs := [6]) (by kernel_rfl) (by simp) ?_
            refine AllReadyH.cons rfl (fun K hK => ?_) AllReadyH.nil
            go_simp
            obtain ⟨p1, ha, w4, hw, hS', M⟩ := M.out.alloc2 hS 58 #[.slice none 0 0]
            rw [← ha, hw]
            clear hw ha
            refine hK.out _ _ hS' (fun hS => ?_)
            clear hK K hS'
            try simp only [Act.put, List.setIfInBounds_toArray, List.set_cons_zero, List.set_cons_succ]
            refine wpAnyH_ready (rs := [8]) (by kernel_rfl) (by simp) ?_
            refine AllReadyH.cons rfl (fun K hK => ?_) AllReadyH.nil
            obtain ⟨cc, ff⟩ := M.out.one (p := p1) (T := 58) (v := .slice none 0 0) (List.Mem.head _)
            go_simp
            obtain ⟨w5, hw, hS', M⟩ := M.out.store hS (by have := Hbx.out; have := hz0.out; omega) (p := p1) (T := 58) (cs := #[.slice none 0 0]) 0 rfl rfl (.slice (some ⟨g1, 0, none⟩) n n)
            rw [hw]
            clear hw cc ff
            refine hK.out _ _ hS' (fun hS => ?_)
            clear hK K hS'
            try simp only [Act.put, List.setIfInBounds_toArray, List.set_cons_zero, List.set_cons_succ]
            refine wpAnyH_ready (rs := [9]) (by kernel_rfl) (by simp) ?_
            refine AllReadyH.cons rfl (fun K hK => ?_) AllReadyH.nil
            obtain ⟨cc, ff⟩ := M.out.one (p := p2) (T := 58) (v := .slice none 0 0) (List.Mem.tail _ (List.Mem.head _))
            go_simp
            obtain ⟨w6, hw, hS', M⟩ := M.out.store hS (by have := Hbx.out; have := hz0.out; omega) (p := p2) (T := 58) (cs := #[.slice none 0 0]) 1 rfl rfl (.slice (some ⟨g2, 0, none⟩) n n)
            rw [hw]
            clear hw cc ff
            refine hK.out _ _ hS' (fun hS => ?_)
            clear hK K hS'
            try simp only [Act.put, List.setIfInBounds_toArray, List.set_cons_zero, List.set_cons_succ]
            refine wpAnyH_done (by kernel_rfl) ?_ _
            have F := mk_two M.out 1 0 2 3 rfl rfl rfl rfl (by decide)
            go_wp2_with fail
            go_meet
            rw [HM1.out, hz0.out]
            exact ⟨p1, p2, g1, g2, rfl, rfl, Lib.hid F.1, Lib.hid F.2.1, Lib.hid F.2.2.1, Lib.hid F.2.2.2.1, Lib.hid F.2.2.2.2, Lib.hid (BB.out.trans M.out.2.1)⟩
          ·
           go_simp
           obtain ⟨p1, ha, w2, hw, hS', M⟩ := M.out.alloc2 hS 58 #[.slice none 0 0]
           rw [← ha, hw]
           clear hw ha
           refine hK.out _ _ hS' (fun hS => ?_)
           clear hK K hS'
           try simp only [Act.put, List.setIfInBounds_toArray, List.set_cons_zero, List.set_cons_succ]
           refine wpAnyH_ready (rs := [2, 7]) (by kernel_rfl) (by simp) ?_
           refine AllReadyH.cons rfl (fun K hK => ?_) (AllReadyH.cons rfl (fun K hK => ?_) AllReadyH.nil)
           ·
            go_simp
            obtain ⟨g1, ha, w3, hw, hS', M⟩ := M.out.alloc2 hS 59 (Array.replicate n (.pointer none))
            rw [← ha, hw]
            clear hw ha
            refine hK.out _ _ hS' (fun hS => ?_)
            clear hK K hS'
            try simp only [Act.put, List.setIfInBounds_toArray, List.set_cons_zero, List.set_cons_succ]
            refine wpAnyH_ready (rs := [7]) (by kernel_rfl) (by simp) ?_
            refine AllReadyH.cons rfl (fun K hK => ?_) AllReadyH.nil
            go_simp
            obtain ⟨p2, ha, w4, hw, hS', M⟩ := M.out.alloc2 hS 58 #[.slice none 0 0]
            rw [← ha, hw]
            clear hw ha
            refine hK.out _ _ hS' (fun hS => ?_)
            clear hK K hS'
            try simp only [Act.put, List.setIfInBounds_toArray, List.set_cons_zero, List.set_cons_succ]
            refine wpAnyH_ready (rs := [8]) (by kernel_rfl) (by simp) ?_
            refine AllReadyH.cons rfl (fun K hK => ?_) AllReadyH.nil
            obtain ⟨cc, ff⟩ := M.out.one (p := p1) (T := 58) (v := .slice none 0 0) (List.Mem.tail _ (List.Mem.tail _ (List.Mem.head _)))
            go_simp
            obtain ⟨w5, hw, hS', M⟩ := M.out.store hS (by have := Hbx.out; have := hz0.out; omega) (p := p1) (T := 58) (cs := #[.slice none 0 0]) 2 rfl rfl (.slice (some ⟨g1, 0, none⟩) n n)
            rw [hw]
            clear hw cc ff
            refine hK.out _ _ hS' (fun hS => ?_)
            clear hK K hS'
            try simp only [Act.put, List.setIfInBounds_toArray, List.set_cons_zero, List.set_cons_succ]
            refine wpAnyH_ready (rs := [9]) (by kernel_rfl) (by simp) ?_
            refine AllReadyH.cons rfl (fun K hK => ?_) AllReadyH.nil
            obtain ⟨cc, ff⟩ := M.out.one (p := p2) (T := 58) (v := .slice none 0 0) (List.Mem.tail _ (List.Mem.head _))
            go_simp
            obtain ⟨w6, hw, hS', M⟩ := M.out.store hS (by have := Hbx.out; have := hz0.out; omega) (p := p2) (T := 58) (cs := #[.slice none 0 0]) 1 rfl rfl (.slice (some ⟨g2, 0, none⟩) n n)
            rw [hw]
            clear hw cc ff
            refine hK.out _ _ hS' (fun hS => ?_)
            clear hK K hS'
            try simp only [Act.put, List.setIfInBounds_toArray, List.set_cons_zero, List.set_cons_succ]
            refine wpAnyH_done (by kernel_rfl) ?_ _
            have F := mk_two M.out 1 0 2 3 rfl rfl rfl rfl (by decide)
            go_wp2_with fail
            go_meet
            rw [HM1.out, hz0.out]
            exact ⟨p1, p2, g1, g2, rfl, rfl, Lib.hid F.1, Lib.hid F.2.1, Lib.hid F.2.2.1, Lib.hid F.2.2.2.1, Lib.hid F.2.2.2.2, Lib.hid (BB.out.trans M.out.2.1)⟩
           ·
            go_simp
            obtain ⟨p2, ha, w3, hw, hS', M⟩ := M.out.alloc2 hS 58 #[.slice none 0 0]
            rw [← ha, hw]
            clear hw ha
            refine hK.out _ _ hS' (fun hS => ?_)
            clear hK K hS'
            try simp only [Act.put, List.setIfInBounds_toArray, List.set_cons_zero, List.set_cons_succ]
            refine wpAnyH_ready (rs := [2]) (by kernel_rfl) (by simp) ?_
            refine AllReadyH.cons rfl (fun K hK => ?_) AllReadyH.nil
            go_simp
            obtain ⟨g1, ha, w4, hw, hS', M⟩ := M.out.alloc2 hS 59 (Array.replicate n (.pointer none))
            rw [← ha, hw]
            clear hw ha
            refine hK.out _ _ hS' (fun hS => ?_)
            clear hK K hS'
            try simp only [Act.put, List.setIfInBounds_toArray, List.set_cons_zero, List.set_cons_succ]
            refine wpAnyH_ready (rs := [8]) (by kernel_rfl) (by simp) ?_
            refine AllReadyH.cons rfl (fun K hK => ?_) AllReadyH.nil
            obtain ⟨cc, ff⟩ := M.out.one (p := p1) (T := 58) (v := .slice none 0 0) (List.Mem.tail _ (List.Mem.tail _ (List.Mem.head _)))
            go_simp
            obtain ⟨w5, hw, hS', M⟩ := M.out.store hS (by have := Hbx.out; have := hz0.out; omega) (p := p1) (T := 58) (cs := #[.slice none 0 0]) 2 rfl rfl (.slice (some ⟨g1, 0, none⟩) n n)
            rw [hw]
            clear hw cc ff
            refine hK.out _ _ hS' (fun hS => ?_)
            clear hK K hS'
            try simp only [Act.put, List.setIfInBounds_toArray, List.set_cons_zero, List.set_cons_succ]
            refine wpAnyH_ready (rs := [9]) (by kernel_rfl) (by simp) ?_
            refine AllReadyH.cons rfl (fun K hK => ?_) AllReadyH.nil
            obtain ⟨cc, ff⟩ := M.out.one (p := p2) (T := 58) (v := .slice none 0 0) (List.Mem.tail _ (List.Mem.tail _ (List.Mem.head _)))
            go_simp
            obtain ⟨w6, hw, hS', M⟩ := M.out.store hS (by have := Hbx.out; have := hz0.out; omega) (p := p2) (T := 58) (cs := #[.slice none 0 0]) 2 rfl rfl (.slice (some ⟨g2, 0, none⟩) n n)
            rw [hw]
            clear hw cc ff
            refine hK.out _ _ hS' (fun hS => ?_)
            clear hK K hS'
            try simp only [Act.put, List.setIfInBounds_toArray, List.set_cons_zero, List.set_cons_succ]
            refine wpAnyH_done (by kernel_rfl) ?_ _
            have F := mk_two M.out 1 0 2 3 rfl rfl rfl rfl (by decide)
            go_wp2_with fail
            go_meet
            rw [HM1.out, hz0.out]
            exact ⟨p1, p2, g1, g2, rfl, rfl, Lib.hid F.1, Lib.hid F.2.1, Lib.hid F.2.2.1, Lib.hid F.2.2.2.1, Lib.hid F.2.2.2.2, Lib.hid (BB.out.trans M.out.2.1)⟩
          ·
           go_simp
           obtain ⟨p2, ha, w2, hw, hS', M⟩ := M.out.alloc2 hS 58 #[.slice none 0 0]
           rw [← ha, hw]
           clear hw ha
           refine hK.out _ _ hS' (fun hS => ?_)
           clear hK K hS'
           try simp only [Act.put, List.setIfInBounds_toArray, List.set_cons_zero, List.set_cons_succ]
           refine wpAnyH_ready (rs := [2, 6]) (by kernel_rfl) (by simp) ?_
           refine AllReadyH.cons rfl (fun K hK => ?_) (AllReadyH.cons rfl (fun K hK => ?_) AllReadyH.nil)
           ·
            go_simp
            obtain ⟨g1, ha, w3, hw, hS', M⟩ := M.out.alloc2 hS 59 (Array.replicate n (.pointer none))
            rw [← ha, hw]
            clear hw ha
            refine hK.out _ _ hS' (fun hS => ?_)
            clear hK K hS'
            try simp only [Act.put, List.setIfInBounds_toArray, List.set_cons_zero, List.set_cons_succ]
            refine wpAnyH_ready (rs := [6]) (by kernel_rfl) (by simp) ?_
            refine AllReadyH.cons rfl (fun K hK => ?_) AllReadyH.nil
            go_simp
            obtain ⟨p1, ha, w4, hw, hS', M⟩ := M.out.alloc2 hS 58 #[.slice none 0 0]
            rw [← ha, hw]
            clear hw ha
            refine hK.out _ _ hS' (fun hS => ?_)
            clear hK K hS'
            try simp only [Act.put, List.setIfInBounds_toArray, List.set_cons_zero, List.set_cons_succ]
            refine wpAnyH_ready (rs := [8]) (by kernel_rfl) (by simp) ?_
            refine AllReadyH.cons rfl (fun K hK => ?_) AllReadyH.nil
            obtain ⟨cc, ff⟩ := M.out.one (p := p1) (T := 58) (v := .slice none 0 0) (List.Mem.head _)
            go_simp
            obtain ⟨w5, hw, hS', M⟩ := M.out.store hS (by have := Hbx.out; have := hz0.out; omega) (p := p1) (T := 58) (cs := #[.slice none 0 0]) 0 rfl rfl (.slice (some ⟨g1, 0, none⟩) n n)
            rw [hw]
            clear hw cc ff
            refine hK.out _ _ hS' (fun hS => ?_)
            clear hK K hS'
            try simp only [Act.put, List.setIfInBounds_toArray, List.set_cons_zero, List.set_cons_succ]
            refine wpAnyH_ready (rs := [9]) (by kernel_rfl) (by simp) ?_
            refine AllReadyH.cons rfl (fun K hK => ?_) AllReadyH.nil
            obtain ⟨cc, ff⟩ := M.out.one (p := p2) (T := 58) (v := .slice none 0 0) (List.Mem.tail _ (List.Mem.tail _ (List.Mem.head _)))
            go_simp
            obtain ⟨w6, hw, hS', M⟩ := M.out.store hS (by have := Hbx.out; have := hz0.out; omega) (p := p2) (T := 58) (cs := #[.slice none 0 0]) 2 rfl rfl (.slice (some ⟨g2, 0, none⟩) n n)
            rw [hw]
            clear hw cc ff
            refine hK.out _ _ hS' (fun hS => ?_)
            clear hK K hS'
            try simp only [Act.put, List.setIfInBounds_toArray, List.set_cons_zero, List.set_cons_succ]
            refine wpAnyH_done (by kernel_rfl) ?_ _
            have F := mk_two M.out 1 0 2 3 rfl rfl rfl rfl (by decide)
            go_wp2_with fail
            go_meet
            rw [HM1.out, hz0.out]
            exact ⟨p1, p2, g1, g2, rfl, rfl, Lib.hid F.1, Lib.hid F.2.1, Lib.hid F.2.2.1, Lib.hid F.2.2.2.1, Lib.hid F.2.2.2.2, Lib.hid (BB.out.trans M.out.2.1)⟩
           ·
            go_simp
            obtain ⟨p1, ha, w3, hw, hS', M⟩ := M.out.alloc2 hS 58 #[.slice none 0 0]
            rw [← ha, hw]
            clear hw ha
            refine hK.out _ _ hS' (fun hS => ?_)
            clear hK K hS'
            try simp only [Act.put, List.setIfInBounds_toArray, List.set_cons_zero, List.set_cons_succ]
            refine wpAnyH_ready (rs := [2]) (by kernel_rfl) (by simp) ?_
            refine AllReadyH.cons rfl (fun K hK => ?_) AllReadyH.nil
            go_simp
            obtain ⟨g1, ha, w4, hw, hS', M⟩ := M.out.alloc2 hS 59 (Array.replicate n (.pointer none))
            rw [← ha, hw]
            clear hw ha
            refine hK.out _ _ hS' (fun hS => ?_)
            clear hK K hS'
            try simp only [Act.put, List.setIfInBounds_toArray, List.set_cons_zero, List.set_cons_succ]
            refine wpAnyH_ready (rs := [8]) (by kernel_rfl) (by simp) ?_
            refine AllReadyH.cons rfl (fun K hK => ?_) AllReadyH.nil
            obtain ⟨cc, ff⟩ := M.out.one (p := p1) (T := 58) (v := .slice none 0 0) (List.Mem.tail _ (List.Mem.head _))
            go_simp
            obtain ⟨w5, hw, hS', M⟩ := M.out.store hS (by have := Hbx.out; have := hz0.out; omega) (p := p1) (T := 58) (cs := #[.slice none 0 0]) 1 rfl rfl (.slice (some ⟨g1, 0, none⟩) n n)
            rw [hw]
            clear hw cc ff
            refine hK.out _ _ hS' (fun hS => ?_)
            clear hK K hS'
            try simp only [Act.put, List.setIfInBounds_toArray, List.set_cons_zero, List.set_cons_succ]
            refine wpAnyH_ready (rs := [9]) (by kernel_rfl) (by simp) ?_
            refine AllReadyH.cons rfl (fun K hK => ?_) AllReadyH.nil
            obtain ⟨cc, ff⟩ := M.out.one (p := p2) (T := 58) (v := .slice none 0 0) (List.Mem.tail _ (List.Mem.tail _ (List.Mem.head _)))
            go_simp
            obtain ⟨w6, hw, hS', M⟩ := M.out.store hS (by have := Hbx.out; have := hz0.out; omega) (p := p2) (T := 58) (cs := #[.slice none 0 0]) 2 rfl rfl (.slice (some ⟨g2, 0, none⟩) n n)
            rw [hw]
            clear hw cc ff
            refine hK.out _ _ hS' (fun hS => ?_)
            clear hK K hS'
            try simp only [Act.put, List.setIfInBounds_toArray, List.set_cons_zero, List.set_cons_succ]
            refine wpAnyH_done (by kernel_rfl) ?_ _
            have F := mk_two M.out 1 0 2 3 rfl rfl rfl rfl (by decide)
            go_wp2_with fail
            go_meet
            rw [HM1.out, hz0.out]
            exact ⟨p1, p2, g1, g2, rfl, rfl, Lib.hid F.1, Lib.hid F.2.1, Lib.hid F.2.2.1, Lib.hid F.2.2.2.1, Lib.hid F.2.2.2.2, Lib.hid (BB.out.trans M.out.2.1)⟩
         ·
          go_simp
          obtain ⟨p1, ha, w1, hw, hS', M⟩ := M.out.alloc2 hS 58 #[.slice none 0 0]
          rw [← ha, hw]
          clear hw ha
          refine hK.out _ _ hS' (fun hS => ?_)
          clear hK K hS'
          try simp only [Act.put, List.setIfInBounds_toArray, List.set_cons_zero, List.set_cons_succ]
          refine wpAnyH_ready (rs := [2, 5, 7]) (by kernel_rfl) (by simp) ?_
          refine AllReadyH.cons rfl (fun K hK => ?_) (AllReadyH.cons rfl (fun K hK => ?_) (AllReadyH.cons rfl (fun K hK => ?_) AllReadyH.nil))
          ·
           go_simp
           obtain ⟨g1, ha, w2, hw, hS', M⟩ := M.out.alloc2 hS 59 (Array.replicate n (.pointer none))
           rw [← ha, hw]
           clear hw ha
           refine hK.out _ _ hS' (fun hS => ?_)
           clear hK K hS'
           try simp only [Act.put, List.setIfInBounds_toArray, List.set_cons_zero, List.set_cons_succ]
           refine wpAnyH_ready (rs := [5, 7]) (by kernel_rfl) (by simp) ?_
           refine AllReadyH.cons rfl (fun K hK => ?_) (AllReadyH.cons rfl (fun K hK => ?_) AllReadyH.nil)
           ·
            go_simp
            obtain ⟨g2, ha, w3, hw, hS', M⟩ := M.out.alloc2 hS 59 (Array.replicate n (.pointer none))
            rw [← ha, hw]
            clear hw ha
            refine hK.out _ _ hS' (fun hS => ?_)
            clear hK K hS'
            try simp only [Act.put, List.setIfInBounds_toArray, List.set_cons_zero, List.set_cons_succ]
            refine wpAnyH_ready (rs := [7]) (by kernel_rfl) (by simp) ?_
            refine AllReadyH.cons rfl (fun K hK => ?_) AllReadyH.nil
            go_simp
            obtain ⟨p2, ha, w4, hw, hS', M⟩ := M.out.alloc2 hS 58 #[.slice none 0 0]
            rw [← ha, hw]
            clear hw ha
            refine hK.out _ _ hS' (fun hS => ?_)
            clear hK K hS'
            try simp only [Act.put, List.setIfInBounds_toArray, List.set_cons_zero, List.set_cons_succ]
            refine wpAnyH_ready (rs := [8]) (by kernel_rfl) (by simp) ?_
            refine AllReadyH.cons rfl (fun K hK => ?_) AllReadyH.nil
            obtain ⟨cc, ff⟩ := M.out.one (p := p1) (T := 58) (v := .slice none 0 0) (List.Mem.tail _ (List.Mem.tail _ (List.Mem.tail _ (List.Mem.head _))))
            go_simp
            obtain ⟨w5, hw, hS', M⟩ := M.out.store hS (by have := Hbx.out; have := hz0.out; omega) (p := p1) (T := 58) (cs := #[.slice none 0 0]) 3 rfl rfl (.slice (some ⟨g1, 0, none⟩) n n)
            rw [hw]
            clear hw cc ff
            refine hK.out _ _ hS' (fun hS => ?_)
            clear hK K hS'
            try simp only [Act.put, List.setIfInBounds_toArray, List.set_cons_zero, List.set_cons_succ]
            refine wpAnyH_ready (rs := [9]) (by kernel_rfl) (by simp) ?_
            refine AllReadyH.cons rfl (fun K hK => ?_) AllReadyH.nil
            obtain ⟨cc, ff⟩ := M.out.one (p := p2) (T := 58) (v := .slice none 0 0) (List.Mem.tail _ (List.Mem.head _))
            go_simp
            obtain ⟨w6, hw, hS', M⟩ := M.out.store hS (by have := Hbx.out; have := hz0.out; omega) (p := p2) (T := 58) (cs := #[.slice none 0 0]) 1 rfl rfl (.slice (some ⟨g2, 0, none⟩) n n)
            rw [hw]
            clear hw cc ff
            refine hK.out _ _ hS' (fun hS => ?_)
            clear hK K hS'
            try simp only [Act.put, List.setIfInBounds_toArray, List.set_cons_zero, List.set_cons_succ]
            refine wpAnyH_done (by kernel_rfl) ?_ _
            have F := mk_two M.out 1 0 3 2 rfl rfl rfl rfl (by decide)
            go_wp2_with fail
            go_meet
            rw [HM1.out, hz0.out]
            exact ⟨p1, p2, g1, g2, rfl, rfl, Lib.hid F.1, Lib.hid F.2.1, Lib.hid F.2.2.1, Lib.hid F.2.2.2.1, Lib.hid F.2.2.2.2, Lib.hid (BB.out.trans M.out.2.1)⟩
           ·
            go_simp
            obtain ⟨p2, ha, w3, hw, hS', M⟩ := M.out.alloc2 hS 58 #[.slice none 0 0]
            rw [← ha, hw]
            clear hw ha
            refine hK.out _ _ hS' (fun hS => ?_)
            clear hK K hS'
            try simp only [Act.put, List.setIfInBounds_toArray, List.set_cons_zero, List.set_cons_succ]
            refine wpAnyH_ready (rs := [5, 8]) (by kernel_rfl) (by simp) ?_
            refine AllReadyH.cons rfl (fun K hK => ?_) (AllReadyH.cons rfl (fun K hK => ?_) AllReadyH.nil)
            ·
             go_simp
             obtain ⟨g2, ha, w4, hw, hS', M⟩ := M.out.alloc2 hS 59 (Array.replicate n (.pointer none))
             rw [← ha, hw]
             clear hw ha
             refine hK.out _ _ hS' (fun hS => ?_)
             clear hK K hS'
             try simp only [Act.put, List.setIfInBounds_toArray, List.set_cons_zero, List.set_cons_succ]
             refine wpAnyH_ready (rs := [8]) (by kernel_rfl) (by simp) ?_
             refine AllReadyH.cons rfl (fun K hK => ?_) AllReadyH.nil
             obtain ⟨cc, ff⟩ := M.out.one (p := p1) (T := 58) (v := .slice none 0 0) (List.Mem.tail _ (List.Mem.tail _ (List.Mem.tail _ (List.Mem.head _))))
             go_simp
             obtain ⟨w5, hw, hS', M⟩ := M.out.store hS (by have := Hbx.out; have := hz0.out; omega) (p := p1) (T := 58) (cs := #[.slice none 0 0]) 3 rfl rfl (.slice (some ⟨g1, 0, none⟩) n n)
             rw [hw]
             clear hw cc ff
             refine hK.out _ _ hS' (fun hS => ?_)
             clear hK K hS'
             try simp only [Act.put, List.setIfInBounds_toArray, List.set_cons_zero, List.set_cons_succ]
             refine wpAnyH_ready (rs := [9]) (by kernel_rfl) (by simp) ?_
             refine AllReadyH.cons rfl (fun K hK => ?_) AllReadyH.nil
             obtain ⟨cc, ff⟩ := M.out.one (p := p2) (T := 58) (v := .slice none 0 0) (List.Mem.tail _ (List.Mem.tail _ (List.Mem.head _)))
             go_simp
             obtain ⟨w6, hw, hS', M⟩ := M.out.store hS (by have := Hbx.out; have := hz0.out; omega) (p := p2) (T := 58) (cs := #[.slice none 0 0]) 2 rfl rfl (.slice (some ⟨g2, 0, none⟩) n n)
             rw [hw]
             clear hw cc ff
             refine hK.out _ _ hS' (fun hS => ?_)
             clear hK K hS'
             try simp only [Act.put, List.setIfInBounds_toArray, List.set_cons_zero, List.set_cons_succ]
             refine wpAnyH_done (by kernel_rfl) ?_ _
             have F := mk_two M.out 1 0 3 2 rfl rfl rfl rfl (by decide)
             go_wp2_with fail
             go_meet
             rw [HM1.out, hz0.out]
             exact ⟨p1, p2, g1, g2, rfl, rfl, Lib.hid F.1, Lib.hid F.2.1, Lib.hid F.2.2.1, Lib.hid F.2.2.2.1, Lib.hid F.2.2.2.2, Lib.hid (BB.out.trans M.out.2.1)⟩
            ·
             obtain ⟨cc, ff⟩ := M.out.one (p := p1) (T := 58) (v := .slice none 0 0) (List.Mem.tail _ (List.Mem.tail _ (List.Mem.head _)))
             go_simp
             obtain ⟨w4, hw, hS', M⟩ := M.out.store hS (by have := Hbx.out; have := hz0.out; omega) (p := p1) (T := 58) (cs := #[.slice none 0 0]) 2 rfl rfl (.slice (some ⟨g1, 0, none⟩) n n)
             rw [hw]
             clear hw cc ff
             refine hK.out _ _ hS' (fun hS => ?_)
             clear hK K hS'
             try simp only [Act.put, List.setIfInBounds_toArray, List.set_cons_zero, List.set_cons_succ]
             refine wpAnyH_ready (rs := [5]) (by kernel_rfl) (by simp) ?_
             refine AllReadyH.cons rfl (fun K hK => ?_) AllReadyH.nil
             go_simp
             obtain ⟨g2, ha, w5, hw, hS', M⟩ := M.out.alloc2 hS 59 (Array.replicate n (.pointer none))
             rw [← ha, hw]
             clear hw ha
             refine hK.out _ _ hS' (fun hS => ?_)
             clear hK K hS'
             try simp only [Act.put, List.setIfInBounds_toArray, List.set_cons_zero, List.set_cons_succ]
             refine wpAnyH_ready (rs := [9]) (by kernel_rfl) (by simp) ?_
             refine AllReadyH.cons rfl (fun K hK => ?_) AllReadyH.nil
             obtain ⟨cc, ff⟩ := M.out.one (p := p2) (T := 58) (v := .slice none 0 0) (List.Mem.tail _ (List.Mem.tail _ (List.Mem.head _)))
             go_simp
             obtain ⟨w6, hw, hS', M⟩ := M.out.store hS (by have := Hbx.out; have := hz0.out; omega) (p := p2) (T := 58) (cs := #[.slice none 0 0]) 2 rfl rfl (.slice (some ⟨g2, 0, none⟩) n n)
             rw [hw]
             clear hw cc ff
             refine hK.out _ _ hS' (fun hS => ?_)
             clear hK K hS'
             try simp only [Act.put, List.setIfInBounds_toArray, List.set_cons_zero, List.set_cons_succ]
             refine wpAnyH_done (by kernel_rfl) ?_ _
             have F := mk_two M.out 2 0 3 1 rfl rfl rfl rfl (by decide)
             go_wp2_with fail
             go_meet
             rw [HM1.out, hz0.out]
             exact ⟨p1, p2, g1, g2, rfl, rfl, Lib.hid F.1, Lib.hid F.2.1, Lib.hid F.2.2.1, Lib.hid F.2.2.2.1, Lib.hid F.2.2.2.2, Lib.hid (BB.out.trans M.out.2.1)⟩
          ·
           go_simp
           obtain ⟨g2, ha, w2, hw, hS', M⟩ := M.out.alloc2 hS 59 (Array.replicate n (.pointer none))
           rw [← ha, hw]
           clear hw ha
           refine hK.out _ _ hS' (fun hS => ?_)
           clear hK K hS'
           try simp only [Act.put, List.setIfInBounds_toArray, List.set_cons_zero, List.set_cons_succ]
           refine wpAnyH_ready (rs := [2, 7]) (by kernel_rfl) (by simp) ?_
           refine AllReadyH.cons rfl (fun K hK => ?_) (AllReadyH.cons rfl (fun K hK => ?_) AllReadyH.nil)
           ·
            go_simp
            obtain ⟨g1, ha, w3, hw, hS', M⟩ := M.out.alloc2 hS 59 (Array.replicate n (.pointer none))
            rw [← ha, hw]
            clear hw ha
            refine hK.out _ _ hS' (fun hS => ?_)
            clear hK K hS'
            try simp only [Act.put, List.setIfInBounds_toArray, List.set_cons_zero, List.set_cons_succ]
            refine wpAnyH_ready (rs := [7]) (by kernel_rfl) (by simp) ?_
            refine AllReadyH.cons rfl (fun K hK => ?_) AllReadyH.nil
            go_simp
            obtain ⟨p2, ha, w4, hw, hS', M⟩ := M.out.alloc2 hS 58 #[.slice none 0 0]
            rw [← ha, hw]
            clear hw ha
            refine hK.out _ _ hS' (fun hS => ?_)
            clear hK K hS'
            try simp only [Act.put, List.setIfInBounds_toArray, List.set_cons_zero, List.set_cons_succ]
            refine wpAnyH_ready (rs := [8]) (by kernel_rfl) (by simp) ?_
            refine AllReadyH.cons rfl (fun K hK => ?_) AllReadyH.nil
            obtain ⟨cc, ff⟩ := M.out.one (p := p1) (T := 58) (v := .slice none 0 0) (List.Mem.tail _ (List.Mem.tail _ (List.Mem.tail _ (List.Mem.head _))))
            go_simp
            obtain ⟨w5, hw, hS', M⟩ := M.out.store hS (by have := Hbx.out; have := hz0.out; omega) (p := p1) (T := 58) (cs := #[.slice none 0 0]) 3 rfl rfl (.slice (some ⟨g1, 0, none⟩) n n)
            rw [hw]
            clear hw cc ff
            refine hK.out _ _ hS' (fun hS => ?_)
            clear hK K hS'
            try simp only [Act.put, List.setIfInBounds_toArray, List.set_cons_zero, List.set_cons_succ]
            refine wpAnyH_ready (rs := [9]) (by kernel_rfl) (by simp) ?_
            refine AllReadyH.cons rfl (fun K hK => ?_) AllReadyH.nil
            obtain ⟨cc, ff⟩ := M.out.one (p := p2) (T := 58) (v := .slice none 0 0) (List.Mem.tail _ (List.Mem.head _))
            go_simp
            obtain ⟨w6, hw, hS', M⟩ := M.out.store hS (by have := Hbx.out; have := hz0.out; omega) (p := p2) (T := 58) (cs := #[.slice none 0 0]) 1 rfl rfl (.slice (some ⟨g2, 0, none⟩) n n)
            rw [hw]
            clear hw cc ff
            refine hK.out _ _ hS' (fun hS => ?_)
            clear hK K hS'
            try simp only [Act.put, List.setIfInBounds_toArray, List.set_cons_zero, List.set_cons_succ]
            refine wpAnyH_done (by kernel_rfl) ?_ _
            have F := mk_two M.out 1 0 2 3 rfl rfl rfl rfl (by decide)
            go_wp2_with fail
            go_meet
            rw [HM1.out, hz0.out]
            exact ⟨p1, p2, g1, g2, rfl, rfl, Lib.hid F.1, Lib.hid F.2.1, Lib.hid F.2.2.1, Lib.hid F.2.2.2.1, Lib.hid F.2.2.2.2, Lib.hid (BB.out.trans M.out.2.1)⟩
           ·
            go_simp
            obtain ⟨p2, ha, w3, hw, hS', M⟩ := M.out.alloc2 hS 58 #[.slice none 0 0]
            rw [← ha, hw]
            clear hw ha
            refine hK.out _ _ hS' (fun hS => ?_)
            clear hK K hS'
            try simp only [Act.put, List.setIfInBounds_toArray, List.set_cons_zero, List.set_cons_succ]
            refine wpAnyH_ready (rs := [2]) (by kernel_rfl) (by simp) ?_
            refine AllReadyH.cons rfl (fun K hK => ?_) AllReadyH.nil
            go_simp
            obtain ⟨g1, ha, w4, hw, hS', M⟩ := M.out.alloc2 hS 59 (Array.replicate n (.pointer none))
            rw [← ha, hw]
            clear hw ha
            refine hK.out _ _ hS' (fun hS => ?_)
            clear hK K hS'
            try simp only [Act.put, List.setIfInBounds_toArray, List.set_cons_zero, List.set_cons_succ]
            refine wpAnyH_ready (rs := [8]) (by kernel_rfl) (by simp) ?_
            refine AllReadyH.cons rfl (fun K hK => ?_) AllReadyH.nil
            obtain ⟨cc, ff⟩ := M.out.one (p := p1) (T := 58) (v := .slice none 0 0) (List.Mem.tail _ (List.Mem.tail _ (List.Mem.tail _ (List.Mem.head _))))
            go_simp
            obtain ⟨w5, hw, hS', M⟩ := M.out.store hS (by have := Hbx.out; have := hz0.out; omega) (p := p1) (T := 58) (cs := #[.slice none 0 0]) 3 rfl rfl (.slice (some ⟨g1, 0, none⟩) n n)
            rw [hw]
            clear hw cc ff
            refine hK.out _ _ hS' (fun hS => ?_)
            clear hK K hS'
            try simp only [Act.put, List.setIfInBounds_toArray, List.set_cons_zero, List.set_cons_succ]
            refine wpAnyH_ready (rs := [9]) (by kernel_rfl) (by simp) ?_
            refine AllReadyH.cons rfl (fun K hK => ?_) AllReadyH.nil
            obtain ⟨cc, ff⟩ := M.out.one (p := p2) (T := 58) (v := .slice none 0 0) (List.Mem.tail _ (List.Mem.tail _ (List.Mem.head _)))
            go_simp
            obtain ⟨w6, hw, hS', M⟩ := M.out.store hS (by have := Hbx.out; have := hz0.out; omega) (p := p2) (T := 58) (cs := #[.slice none 0 0]) 2 rfl rfl (.slice (some ⟨g2, 0, none⟩) n n)
            rw [hw]
            clear hw cc ff
            refine hK.out _ _ hS' (fun hS => ?_)
            clear hK K hS'
            try simp only [Act.put, List.setIfInBounds_toArray, List.set_cons_zero, List.set_cons_succ]
            refine wpAnyH_done (by kernel_rfl) ?_ _
            have F := mk_two M.out 1 0 2 3 rfl rfl rfl rfl (by decide)
            go_wp2_with fail
            go_meet
            rw [HM1.out, hz0.out]
            exact ⟨p1, p2, g1, g2, rfl, rfl, Lib.hid F.1, Lib.hid F.2.1, Lib.hid F.2.2.1, Lib.hid F.2.2.2.1, Lib.hid F.2.2.2.2, Lib.hid (BB.out.trans M.out.2.1)⟩
          ·
           go_simp
           obtain ⟨p2, ha, w2, hw, hS', M⟩ := M.out.alloc2 hS 58 #[.slice none 0 0]
           rw [← ha, hw]
           clear hw ha
           refine hK.out _ _ hS' (fun hS => ?_)
           clear hK K hS'
           try simp only [Act.put, List.setIfInBounds_toArray, List.set_cons_zero, List.set_cons_succ]
           refine wpAnyH_ready (rs := [2, 5]) (by kernel_rfl) (by simp) ?_
           refine AllReadyH.cons rfl (fun K hK => ?_) (AllReadyH.cons rfl (fun K hK => ?_) AllReadyH.nil)
           ·
            go_simp
            obtain ⟨g1, ha, w3, hw, hS', M⟩ := M.out.alloc2 hS 59 (Array.replicate n (.pointer none))
            rw [← ha, hw]
            clear hw ha
            refine hK.out _ _ hS' (fun hS => ?_)
            clear hK K hS'
            try simp only [Act.put, List.setIfInBounds_toArray, List.set_cons_zero, List.set_cons_succ]
            refine wpAnyH_ready (rs := [5, 8]) (by kernel_rfl) (by simp) ?_
            refine AllReadyH.cons rfl (fun K hK => ?_) (AllReadyH.cons rfl (fun K hK => ?_) AllReadyH.nil)
            ·
             go_simp
             obtain ⟨g2, ha, w4, hw, hS', M⟩ := M.out.alloc2 hS 59 (Array.replicate n (.pointer none))
             rw [← ha, hw]
             clear hw ha
             refine hK.out _ _ hS' (fun hS => ?_)
             clear hK K hS'
             try simp only [Act.put, List.setIfInBounds_toArray, List.set_cons_zero, List.set_cons_succ]
             refine wpAnyH_ready (rs := [8]) (by kernel_rfl) (by simp) ?_
             refine AllReadyH.cons rfl (fun K hK => ?_) AllReadyH.nil
             obtain ⟨cc, ff⟩ := M.out.one (p := p1) (T := 58) (v := .slice none 0 0) (List.Mem.tail _ (List.Mem.tail _ (List.Mem.tail _ (List.Mem.head _))))
             go_simp
             obtain ⟨w5, hw, hS', M⟩ := M.out.store hS (by have := Hbx.out; have := hz0.out; omega) (p := p1) (T := 58) (cs := #[.slice none 0 0]) 3 rfl rfl (.slice (some ⟨g1, 0, none⟩) n n)
             rw [hw]
             clear hw cc ff
             refine hK.out _ _ hS' (fun hS => ?_)
             clear hK K hS'
             try simp only [Act.put, List.setIfInBounds_toArray, List.set_cons_zero, List.set_cons_succ]
             refine wpAnyH_ready (rs := [9]) (by kernel_rfl) (by simp) ?_
             refine AllReadyH.cons rfl (fun K hK => ?_) AllReadyH.nil
             obtain ⟨cc, ff⟩ := M.out.one (p := p2) (T := 58) (v := .slice none 0 0) (List.Mem.tail _ (List.Mem.tail _ (List.Mem.tail _ (List.Mem.head _))))
             go_simp
             obtain ⟨w6, hw, hS', M⟩ := M.out.store hS (by have := Hbx.out; have := hz0.out; omega) (p := p2) (T := 58) (cs := #[.slice none 0 0]) 3 rfl rfl (.slice (some ⟨g2, 0, none⟩) n n)
             rw [hw]
             clear hw cc ff
             refine hK.out _ _ hS' (fun hS => ?_)
             clear hK K hS'
             try simp only [Act.put, List.setIfInBounds_toArray, List.set_cons_zero, List.set_cons_succ]
             refine wpAnyH_done (by kernel_rfl) ?_ _
             have F := mk_two M.out 1 0 3 2 rfl rfl rfl rfl (by decide)
             go_wp2_with fail
             go_meet
             rw [HM1.out, hz0.out]
             exact ⟨p1, p2, g1, g2, rfl, rfl, Lib.hid F.1, Lib.hid F.2.1, Lib.hid F.2.2.1, Lib.hid F.2.2.2.1, Lib.hid F.2.2.2.2, Lib.hid (BB.out.trans M.out.2.1)⟩
            ·
             obtain ⟨cc, ff⟩ := M.out.one (p := p1) (T := 58) (v := .slice none 0 0) (List.Mem.tail _ (List.Mem.tail _ (List.Mem.head _)))
             go_simp
             obtain ⟨w4, hw, hS', M⟩ := M.out.store hS (by have := Hbx.out; have := hz0.out; omega) (p := p1) (T := 58) (cs := #[.slice none 0 0]) 2 rfl rfl (.slice (some ⟨g1, 0, none⟩) n n)
             rw [hw]
             clear hw cc ff
             refine hK.out _ _ hS' (fun hS => ?_)
             clear hK K hS'
             try simp only [Act.put, List.setIfInBounds_toArray, List.set_cons_zero, List.set_cons_succ]
             refine wpAnyH_ready (rs := [5]) (by kernel_rfl) (by simp) ?_
             refine AllReadyH.cons rfl (fun K hK => ?_) AllReadyH.nil
             go_simp
             obtain ⟨g2, ha, w5, hw, hS', M⟩ := M.out.alloc2 hS 59 (Array.replicate n (.pointer none))
             rw [← ha, hw]
             clear hw ha
             refine hK.out _ _ hS' (fun hS => ?_)
             clear hK K hS'
             try simp only [Act.put, List.setIfInBounds_toArray, List.set_cons_zero, List.set_cons_succ]
             refine wpAnyH_ready (rs := [9]) (by kernel_rfl) (by simp) ?_
             refine AllReadyH.cons rfl (fun K hK => ?_) AllReadyH.nil
             obtain ⟨cc, ff⟩ := M.out.one (p := p2) (T := 58) (v := .slice none 0 0) (List.Mem.tail _ (List.Mem.tail _ (List.Mem.tail _ (List.Mem.head _))))
             go_simp
             obtain ⟨w6, hw, hS', M⟩ := M.out.store hS (by have := Hbx.out; have := hz0.out; omega) (p := p2) (T := 58) (cs := #[.slice none 0 0]) 3 rfl rfl (.slice (some ⟨g2, 0, none⟩) n n)
             rw [hw]
             clear hw cc ff
             refine hK.out _ _ hS' (fun hS => ?_)
             clear hK K hS'
             try simp only [Act.put, List.setIfInBounds_toArray, List.set_cons_zero, List.set_cons_succ]
             refine wpAnyH_done (by kernel_rfl) ?_ _
             have F := mk_two M.out 2 0 3 1 rfl rfl rfl rfl (by decide)
             go_wp2_with fail
             go_meet
             rw [HM1.out, hz0.out]
             exact ⟨p1, p2, g1, g2, rfl, rfl, Lib.hid F.1, Lib.hid F.2.1, Lib.hid F.2.2.1, Lib.hid F.2.2.2.1, Lib.hid F.2.2.2.2, Lib.hid (BB.out.trans M.out.2.1)⟩
           ·
            go_simp
            obtain ⟨g2, ha, w3, hw, hS', M⟩ := M.out.alloc2 hS 59 (Array.replicate n (.pointer none))
            rw [← ha, hw]
            clear hw ha
            refine hK.out _ _ hS' (fun hS => ?_)
            clear hK K hS'
            try simp only [Act.put, List.setIfInBounds_toArray, List.set_cons_zero, List.set_cons_succ]
            refine wpAnyH_ready (rs := [2]) (by kernel_rfl) (by simp) ?_
            refine AllReadyH.cons rfl (fun K hK => ?_) AllReadyH.nil
            go_simp
            obtain ⟨g1, ha, w4, hw, hS', M⟩ := M.out.alloc2 hS 59 (Array.replicate n (.pointer none))
            rw [← ha, hw]
            clear hw ha
            refine hK.out _ _ hS' (fun hS => ?_)
            clear hK K hS'
            try simp only [Act.put, List.setIfInBounds_toArray, List.set_cons_zero, List.set_cons_succ]
            refine wpAnyH_ready (rs := [8]) (by kernel_rfl) (by simp) ?_
            refine AllReadyH.cons rfl (fun K hK => ?_) AllReadyH.nil
            obtain ⟨cc, ff⟩ := M.out.one (p := p1) (T := 58) (v := .slice none 0 0) (List.Mem.tail _ (List.Mem.tail _ (List.Mem.tail _ (List.Mem.head _))))
            go_simp
            obtain ⟨w5, hw, hS', M⟩ := M.out.store hS (by have := Hbx.out; have := hz0.out; omega) (p := p1) (T := 58) (cs := #[.slice none 0 0]) 3 rfl rfl (.slice (some ⟨g1, 0, none⟩) n n)
            rw [hw]
            clear hw cc ff
            refine hK.out _ _ hS' (fun hS => ?_)
            clear hK K hS'
            try simp only [Act.put, List.setIfInBounds_toArray, List.set_cons_zero, List.set_cons_succ]
            refine wpAnyH_ready (rs := [9]) (by kernel_rfl) (by simp) ?_
            refine AllReadyH.cons rfl (fun K hK => ?_) AllReadyH.nil
            obtain ⟨cc, ff⟩ := M.out.one (p := p2) (T := 58) (v := .slice none 0 0) (List.Mem.tail _ (List.Mem.tail _ (List.Mem.tail _ (List.Mem.head _))))
            go_simp
            obtain ⟨w6, hw, hS', M⟩ := M.out.store hS (by have := Hbx.out; have := hz0.out; omega) (p := p2) (T := 58) (cs := #[.slice none 0 0]) 3 rfl rfl (.slice (some ⟨g2, 0, none⟩) n n)
            rw [hw]
            clear hw cc ff
            refine hK.out _ _ hS' (fun hS => ?_)
            clear hK K hS'
            try simp only [Act.put, List.setIfInBounds_toArray, List.set_cons_zero, List.set_cons_succ]
            refine wpAnyH_done (by kernel_rfl) ?_ _
            have F := mk_two M.out 1 0 2 3 rfl rfl rfl rfl (by decide)
            go_wp2_with fail
            go_meet
            rw [HM1.out, hz0.out]
            exact ⟨p1, p2, g1, g2, rfl, rfl, Lib.hid F.1, Lib.hid F.2.1, Lib.hid F.2.2.1, Lib.hid F.2.2.2.1, Lib.hid F.2.2.2.2, Lib.hid (BB.out.trans M.out.2.1)⟩
         ·
          go_simp
          obtain ⟨p2, ha, w1, hw, hS', M⟩ := M.out.alloc2 hS 58 #[.slice none 0 0]
          rw [← ha, hw]
          clear hw ha
          refine hK.out _ _ hS' (fun hS => ?_)
          clear hK K hS'
          try simp only [Act.put, List.setIfInBounds_toArray, List.set_cons_zero, List.set_cons_succ]
          refine wpAnyH_ready (rs := [2, 5, 6]) (by kernel_rfl) (by simp) ?_
          refine AllReadyH.cons rfl (fun K hK => ?_) (AllReadyH.cons rfl (fun K hK => ?_) (AllReadyH.cons rfl (fun K hK => ?_) AllReadyH.nil))
          ·
           go_simp
           obtain ⟨g1, ha, w2, hw, hS', M⟩ := M.out.alloc2 hS 59 (Array.replicate n (.pointer none))
           rw [← ha, hw]
           clear hw ha
           refine hK.out _ _ hS' (fun hS => ?_)
           clear hK K hS'
           try simp only [Act.put, List.setIfInBounds_toArray, List.set_cons_zero, List.set_cons_succ]
           refine wpAnyH_ready (rs := [5, 6]) (by kernel_rfl) (by simp) ?_
           refine AllReadyH.cons rfl (fun K hK => ?_) (AllReadyH.cons rfl (fun K hK => ?_) AllReadyH.nil)
           ·
            go_simp
            obtain ⟨g2, ha, w3, hw, hS', M⟩ := M.out.alloc2 hS 59 (Array.replicate n (.pointer none))
            rw [← ha, hw]
            clear hw ha
            refine hK.out _ _ hS' (fun hS => ?_)
            clear hK K hS'
            try simp only [Act.put, List.setIfInBounds_toArray, List.set_cons_zero, List.set_cons_succ]
            refine wpAnyH_ready (rs := [6]) (by kernel_rfl) (by simp) ?_
            refine AllReadyH.cons rfl (fun K hK => ?_) AllReadyH.nil
            go_simp
            obtain ⟨p1, ha, w4, hw, hS', M⟩ := M.out.alloc2 hS 58 #[.slice none 0 0]
            rw [← ha, hw]
            clear hw ha
            refine hK.out _ _ hS' (fun hS => ?_)
            clear hK K hS'
            try simp only [Act.put, List.setIfInBounds_toArray, List.set_cons_zero, List.set_cons_succ]
            refine wpAnyH_ready (rs := [8]) (by kernel_rfl) (by simp) ?_
            refine AllReadyH.cons rfl (fun K hK => ?_) AllReadyH.nil
            obtain ⟨cc, ff⟩ := M.out.one (p := p1) (T := 58) (v := .slice none 0 0) (List.Mem.head _)
            go_simp
            obtain ⟨w5, hw, hS', M⟩ := M.out.store hS (by have := Hbx.out; have := hz0.out; omega) (p := p1) (T := 58) (cs := #[.slice none 0 0]) 0 rfl rfl (.slice (some ⟨g1, 0, none⟩) n n)
            rw [hw]
            clear hw cc ff
            refine hK.out _ _ hS' (fun hS => ?_)
            clear hK K hS'
            try simp only [Act.put, List.setIfInBounds_toArray, List.set_cons_zero, List.set_cons_succ]
            refine wpAnyH_ready (rs := [9]) (by kernel_rfl) (by simp) ?_
            refine AllReadyH.cons rfl (fun K hK => ?_) AllReadyH.nil
            obtain ⟨cc, ff⟩ := M.out.one (p := p2) (T := 58) (v := .slice none 0 0) (List.Mem.tail _ (List.Mem.tail _ (List.Mem.tail _ (List.Mem.head _))))
            go_simp
            obtain ⟨w6, hw, hS', M⟩ := M.out.store hS (by have := Hbx.out; have := hz0.out; omega) (p := p2) (T := 58) (cs := #[.slice none 0 0]) 3 rfl rfl (.slice (some ⟨g2, 0, none⟩) n n)
            rw [hw]
            clear hw cc ff
            refine hK.out _ _ hS' (fun hS => ?_)
            clear hK K hS'
            try simp only [Act.put, List.setIfInBounds_toArray, List.set_cons_zero, List.set_cons_succ]
            refine wpAnyH_done (by kernel_rfl) ?_ _
            have F := mk_two M.out 1 0 3 2 rfl rfl rfl rfl (by decide)
            go_wp2_with fail
            go_meet
            rw [HM1.out, hz0.out]
            exact ⟨p1, p2, g1, g2, rfl, rfl, Lib.hid F.1, Lib.hid F.2.1, Lib.hid F.2.2.1, Lib.hid F.2.2.2.1, Lib.hid F.2.2.2.2, Lib.hid (BB.out.trans M.out.2.1)⟩
           ·
            go_simp
            obtain ⟨p1, ha, w3, hw, hS', M⟩ := M.out.alloc2 hS 58 #[.slice none 0 0]
            rw [← ha, hw]
            clear hw ha
            refine hK.out _ _ hS' (fun hS => ?_)
            clear hK K hS'
            try simp only [Act.put, List.setIfInBounds_toArray, List.set_cons_zero, List.set_cons_succ]
            refine wpAnyH_ready (rs := [5, 8]) (by kernel_rfl) (by simp) ?_
            refine AllReadyH.cons rfl (fun K hK => ?_) (AllReadyH.cons rfl (fun K hK => ?_) AllReadyH.nil)
            ·
             go_simp
             obtain ⟨g2, ha, w4, hw, hS', M⟩ := M.out.alloc2 hS 59 (Array.replicate n (.pointer none))
             rw [← ha, hw]
             clear hw ha
             refine hK.out _ _ hS' (fun hS => ?_)
             clear hK K hS'
             try simp only [Act.put, List.setIfInBounds_toArray, List.set_cons_zero, List.set_cons_succ]
             refine wpAnyH_ready (rs := [8]) (by kernel_rfl) (by simp) ?_
             refine AllReadyH.cons rfl (fun K hK => ?_) AllReadyH.nil
             obtain ⟨cc, ff⟩ := M.out.one (p := p1) (T := 58) (v := .slice none 0 0) (List.Mem.tail _ (List.Mem.head _))
             go_simp
             obtain ⟨w5, hw, hS', M⟩ := M.out.store hS (by have := Hbx.out; have := hz0.out; omega) (p := p1) (T := 58) (cs := #[.slice none 0 0]) 1 rfl rfl (.slice (some ⟨g1, 0, none⟩) n n)
             rw [hw]
             clear hw cc ff
             refine hK.out _ _ hS' (fun hS => ?_)
             clear hK K hS'
             try simp only [Act.put, List.setIfInBounds_toArray, List.set_cons_zero, List.set_cons_succ]
             refine wpAnyH_ready (rs := [9]) (by kernel_rfl) (by simp) ?_
             refine AllReadyH.cons rfl (fun K hK => ?_) AllReadyH.nil
             obtain ⟨cc, ff⟩ := M.out.one (p := p2) (T := 58) (v := .slice none 0 0) (List.Mem.tail _ (List.Mem.tail _ (List.Mem.tail _ (List.Mem.head _))))
             go_simp
             obtain ⟨w6, hw, hS', M⟩ := M.out.store hS (by have := Hbx.out; have := hz0.out; omega) (p := p2) (T := 58) (cs := #[.slice none 0 0]) 3 rfl rfl (.slice (some ⟨g2, 0, none⟩) n n)
             rw [hw]
             clear hw cc ff
             refine hK.out _ _ hS' (fun hS => ?_)
             clear hK K hS'
             try simp only [Act.put, List.setIfInBounds_toArray, List.set_cons_zero, List.set_cons_succ]
             refine wpAnyH_done (by kernel_rfl) ?_ _
             have F := mk_two M.out 1 0 3 2 rfl rfl rfl rfl (by decide)
             go_wp2_with fail
             go_meet
             rw [HM1.out, hz0.out]
             exact ⟨p1, p2, g1, g2, rfl, rfl, Lib.hid F.1, Lib.hid F.2.1, Lib.hid F.2.2.1, Lib.hid F.2.2.2.1, Lib.hid F.2.2.2.2, Lib.hid (BB.out.trans M.out.2.1)⟩
            ·
             obtain ⟨cc, ff⟩ := M.out.one (p := p1) (T := 58) (v := .slice none 0 0) (List.Mem.head _)
             go_simp
             obtain ⟨w4, hw, hS', M⟩ := M.out.store hS (by have := Hbx.out; have := hz0.out; omega) (p := p1) (T := 58) (cs := #[.slice none 0 0]) 0 rfl rfl (.slice (some ⟨g1, 0, none⟩) n n)
             rw [hw]
             clear hw cc ff
             refine hK.out _ _ hS' (fun hS => ?_)
             clear hK K hS'
             try simp only [Act.put, List.setIfInBounds_toArray, List.set_cons_zero, List.set_cons_succ]
             refine wpAnyH_ready (rs := [5]) (by kernel_rfl) (by simp) ?_
             refine AllReadyH.cons rfl (fun K hK => ?_) AllReadyH.nil
             go_simp
             obtain ⟨g2, ha, w5, hw, hS', M⟩ := M.out.alloc2 hS 59 (Array.replicate n (.pointer none))
             rw [← ha, hw]
             clear hw ha
             refine hK.out _ _ hS' (fun hS => ?_)
             clear hK K hS'
             try simp only [Act.put, List.setIfInBounds_toArray, List.set_cons_zero, List.set_cons_succ]
             refine wpAnyH_ready (rs := [9]) (by kernel_rfl) (by simp) ?_
             refine AllReadyH.cons rfl (fun K hK => ?_) AllReadyH.nil
             obtain ⟨cc, ff⟩ := M.out.one (p := p2) (T := 58) (v := .slice none 0 0) (List.Mem.tail _ (List.Mem.tail _ (List.Mem.tail _ (List.Mem.head _))))
             go_simp
             obtain ⟨w6, hw, hS', M⟩ := M.out.store hS (by have := Hbx.out; have := hz0.out; omega) (p := p2) (T := 58) (cs := #[.slice none 0 0]) 3 rfl rfl (.slice (some ⟨g2, 0, none⟩) n n)
             rw [hw]
             clear hw cc ff
             refine hK.out _ _ hS' (fun hS => ?_)
             clear hK K hS'
             try simp only [Act.put, List.setIfInBounds_toArray, List.set_cons_zero, List.set_cons_succ]
             refine wpAnyH_done (by kernel_rfl) ?_ _
             have F := mk_two M.out 2 0 3 1 rfl rfl rfl rfl (by decide)
             go_wp2_with fail
             go_meet
             rw [HM1.out, hz0.out]
             exact ⟨p1, p2, g1, g2, rfl, rfl, Lib.hid F.1, Lib.hid F.2.1, Lib.hid F.2.2.1, Lib.hid F.2.2.2.1, Lib.hid F.2.2.2.2, Lib.hid (BB.out.trans M.out.2.1)⟩
          ·
           go_simp
           obtain ⟨g2, ha, w2, hw, hS', M⟩ := M.out.alloc2 hS 59 (Array.replicate n (.pointer none))
           rw [← ha, hw]
           clear hw ha
           refine hK.out _ _ hS' (fun hS => ?_)
           clear hK K hS'
           try simp only [Act.put, List.setIfInBounds_toArray, List.set_cons_zero, List.set_cons_succ]
           refine wpAnyH_ready (rs := [2, 6]) (by kernel_rfl) (by simp) ?_
           refine AllReadyH.cons rfl (fun K hK => ?_) (AllReadyH.cons rfl (fun K hK => ?_) AllReadyH.nil)
           ·
            go_simp
            obtain ⟨g1, ha, w3, hw, hS', M⟩ := M.out.alloc2 hS 59 (Array.replicate n (.pointer none))
            rw [← ha, hw]
            clear hw ha
            refine hK.out _ _ hS' (fun hS => ?_)
            clear hK K hS'
            try simp only [Act.put, List.setIfInBounds_toArray, List.set_cons_zero, List.set_cons_succ]
            refine wpAnyH_ready (rs := [6]) (by kernel_rfl) (by simp) ?_
            refine AllReadyH.cons rfl (fun K hK => ?_) AllReadyH.nil
            go_simp
            obtain ⟨p1, ha, w4, hw, hS', M⟩ := M.out.alloc2 hS 58 #[.slice none 0 0]
            rw [← ha, hw]
            clear hw ha
            refine hK.out _ _ hS' (fun hS => ?_)
            clear hK K hS'
            try simp only [Act.put, List.setIfInBounds_toArray, List.set_cons_zero, List.set_cons_succ]
            refine wpAnyH_ready (rs := [8]) (by kernel_rfl) (by simp) ?_
            refine AllReadyH.cons rfl (fun K hK => ?_) AllReadyH.nil
            obtain ⟨cc, ff⟩ := M.out.one (p := p1) (T := 58) (v := .slice none 0 0) (List.Mem.head _)
            go_simp
            obtain ⟨w5, hw, hS', M⟩ := M.out.store hS (by have := Hbx.out; have := hz0.out; omega) (p := p1) (T := 58) (cs := #[.slice none 0 0]) 0 rfl rfl (.slice (some ⟨g1, 0, none⟩) n n)
            rw [hw]
            clear hw cc ff
            refine hK.out _ _ hS' (fun hS => ?_)
            clear hK K hS'
            try simp only [Act.put, List.setIfInBounds_toArray, List.set_cons_zero, List.set_cons_succ]
            refine wpAnyH_ready (rs := [9]) (by kernel_rfl) (by simp) ?_
            refine AllReadyH.cons rfl (fun K hK => ?_) AllReadyH.nil
            obtain ⟨cc, ff⟩ := M.out.one (p := p2) (T := 58) (v := .slice none 0 0) (List.Mem.tail _ (List.Mem.tail _ (List.Mem.tail _ (List.Mem.head _))))
            go_simp
            obtain ⟨w6, hw, hS', M⟩ := M.out.store hS (by have := Hbx.out; have := hz0.out; omega) (p := p2) (T := 58) (cs := #[.slice none 0 0]) 3 rfl rfl (.slice (some ⟨g2, 0, none⟩) n n)
            rw [hw]
            clear hw cc ff
            refine hK.out _ _ hS' (fun hS => ?_)
            clear hK K hS'
            try simp only [Act.put, List.setIfInBounds_toArray, List.set_cons_zero, List.set_cons_succ]
            refine wpAnyH_done (by kernel_rfl) ?_ _
            have F := mk_two M.out 1 0 2 3 rfl rfl rfl rfl (by decide)
            go_wp2_with fail
            go_meet
            rw [HM1.out, hz0.out]
            exact ⟨p1, p2, g1, g2, rfl, rfl, Lib.hid F.1, Lib.hid F.2.1, Lib.hid F.2.2.1, Lib.hid F.2.2.2.1, Lib.hid F.2.2.2.2, Lib.hid (BB.out.trans M.out.2.1)⟩
           ·
            go_simp
            obtain ⟨p1, ha, w3, hw, hS', M⟩ := M.out.alloc2 hS 58 #[.slice none 0 0]
            rw [← ha, hw]
            clear hw ha
            refine hK.out _ _ hS' (fun hS => ?_)
            clear hK K hS'
            try simp only [Act.put, List.setIfInBounds_toArray, List.set_cons_zero, List.set_cons_succ]
            refine wpAnyH_ready (rs := [2]) (by kernel_rfl) (by simp) ?_
            refine AllReadyH.cons rfl (fun K hK => ?_) AllReadyH.nil
            go_simp
            obtain ⟨g1, ha, w4, hw, hS', M⟩ := M.out.alloc2 hS 59 (Array.replicate n (.pointer none))
            rw [← ha, hw]
            clear hw ha
            refine hK.out _ _ hS' (fun hS => ?_)
            clear hK K hS'
            try simp only [Act.put, List.setIfInBounds_toArray, List.set_cons_zero, List.set_cons_succ]
            refine wpAnyH_ready (rs := [8]) (by kernel_rfl) (by simp) ?_
            refine AllReadyH.cons rfl (fun K hK => ?_) AllReadyH.nil
            obtain ⟨cc, ff⟩ := M.out.one (p := p1) (T := 58) (v := .slice none 0 0) (List.Mem.tail _ (List.Mem.head _))
            go_simp
            obtain ⟨w5, hw, hS', M⟩ := M.out.store hS (by have := Hbx.out; have := hz0.out; omega) (p := p1) (T := 58) (cs := #[.slice none 0 0]) 1 rfl rfl (.slice (some ⟨g1, 0, none⟩) n n)
            rw [hw]
            clear hw cc ff
            refine hK.out _ _ hS' (fun hS => ?_)
            clear hK K hS'
            try simp only [Act.put, List.setIfInBounds_toArray, List.set_cons_zero, List.set_cons_succ]
            refine wpAnyH_ready (rs := [9]) (by kernel_rfl) (by simp) ?_
            refine AllReadyH.cons rfl (fun K hK => ?_) AllReadyH.nil
            obtain ⟨cc, ff⟩ := M.out.one (p := p2) (T := 58) (v := .slice none 0 0) (List.Mem.tail _ (List.Mem.tail _ (List.Mem.tail _ (List.Mem.head _))))
            go_simp
            obtain ⟨w6, hw, hS', M⟩ := M.out.store hS (by have := Hbx.out; have := hz0.out; omega) (p := p2) (T := 58) (cs := #[.slice none 0 0]) 3 rfl rfl (.slice (some ⟨g2, 0, none⟩) n n)
            rw [hw]
            clear hw cc ff
            refine hK.out _ _ hS' (fun hS => ?_)
            clear hK K hS'
            try simp only [Act.put, List.setIfInBounds_toArray, List.set_cons_zero, List.set_cons_succ]
            refine wpAnyH_done (by kernel_rfl) ?_ _
            have F := mk_two M.out 1 0 2 3 rfl rfl rfl rfl (by decide)
            go_wp2_with fail
            go_meet
            rw [HM1.out, hz0.out]
            exact ⟨p1, p2, g1, g2, rfl, rfl, Lib.hid F.1, Lib.hid F.2.1, Lib.hid F.2.2.1, Lib.hid F.2.2.2.1, Lib.hid F.2.2.2.2, Lib.hid (BB.out.trans M.out.2.1)⟩
          ·
           go_simp
           obtain ⟨p1, ha, w2, hw, hS', M⟩ := M.out.alloc2 hS 58 #[.slice none 0 0]
           rw [← ha, hw]
           clear hw ha
           refine hK.out _ _ hS' (fun hS => ?_)
           clear hK K hS'
           try simp only [Act.put, List.setIfInBounds_toArray, List.set_cons_zero, List.set_cons_succ]
           refine wpAnyH_ready (rs := [2, 5]) (by kernel_rfl) (by simp) ?_
           refine AllReadyH.cons rfl (fun K hK => ?_) (AllReadyH.cons rfl (fun K hK => ?_) AllReadyH.nil)
           ·
            go_simp
            obtain ⟨g1, ha, w3, hw, hS', M⟩ := M.out.alloc2 hS 59 (Array.replicate n (.pointer none))
            rw [← ha, hw]
            clear hw ha
            refine hK.out _ _ hS' (fun hS => ?_)
            clear hK K hS'
            try simp only [Act.put, List.setIfInBounds_toArray, List.set_cons_zero, List.set_cons_succ]
            refine wpAnyH_ready (rs := [5, 8]) (by kernel_rfl) (by simp) ?_
            refine AllReadyH.cons rfl (fun K hK => ?_) (AllReadyH.cons rfl (fun K hK => ?_) AllReadyH.nil)
            ·
             go_simp
             obtain ⟨g2, ha, w4, hw, hS', M⟩ := M.out.alloc2 hS 59 (Array.replicate n (.pointer none))
             rw [← ha, hw]
             clear hw ha
             refine hK.out _ _ hS' (fun hS => ?_)
             clear hK K hS'
             try simp only [Act.put, List.setIfInBounds_toArray, List.set_cons_zero, List.set_cons_succ]
             refine wpAnyH_ready (rs := [8]) (by kernel_rfl) (by simp) ?_
             refine AllReadyH.cons rfl (fun K hK => ?_) AllReadyH.nil
             obtain ⟨cc, ff⟩ := M.out.one (p := p1) (T := 58) (v := .slice none 0 0) (List.Mem.tail _ (List.Mem.tail _ (List.Mem.head _)))
             go_simp
             obtain ⟨w5, hw, hS', M⟩ := M.out.store hS (by have := Hbx.out; have := hz0.out; omega) (p := p1) (T := 58) (cs := #[.slice none 0 0]) 2 rfl rfl (.slice (some ⟨g1, 0, none⟩) n n)
             rw [hw]
             clear hw cc ff
             refine hK.out _ _ hS' (fun hS => ?_)
             clear hK K hS'
             try simp only [Act.put, List.setIfInBounds_toArray, List.set_cons_zero, List.set_cons_succ]
             refine wpAnyH_ready (rs := [9]) (by kernel_rfl) (by simp) ?_
             refine AllReadyH.cons rfl (fun K hK => ?_) AllReadyH.nil
             obtain ⟨cc, ff⟩ := M.out.one (p := p2) (T := 58) (v := .slice none 0 0) (List.Mem.tail _ (List.Mem.tail _ (List.Mem.tail _ (List.Mem.head _))))
             go_simp
             obtain ⟨w6, hw, hS', M⟩ := M.out.store hS (by have := Hbx.out; have := hz0.out; omega) (p := p2) (T := 58) (cs := #[.slice none 0 0]) 3 rfl rfl (.slice (some ⟨g2, 0, none⟩) n n)
             rw [hw]
             clear hw cc ff
             refine hK.out _ _ hS' (fun hS => ?_)
             clear hK K hS'
             try simp only [Act.put, List.setIfInBounds_toArray, List.set_cons_zero, List.set_cons_succ]
             refine wpAnyH_done (by kernel_rfl) ?_ _
             have F := mk_two M.out 1 0 3 2 rfl rfl rfl rfl (by decide)
             go_wp2_with fail
             go_meet
             rw [HM1.out, hz0.out]
             exact ⟨p1, p2, g1, g2, rfl, rfl, Lib.hid F.1, Lib.hid F.2.1, Lib.hid F.2.2.1, Lib.hid F.2.2.2.1, Lib.hid F.2.2.2.2, Lib.hid (BB.out.trans M.out.2.1)⟩
            ·
             obtain ⟨cc, ff⟩ := M.out.one (p := p1) (T := 58) (v := .slice none 0 0) (List.Mem.tail _ (List.Mem.head _))
             go_simp
             obtain ⟨w4, hw, hS', M⟩ := M.out.store hS (by have := Hbx.out; have := hz0.out; omega) (p := p1) (T := 58) (cs := #[.slice none 0 0]) 1 rfl rfl (.slice (some ⟨g1, 0, none⟩) n n)
             rw [hw]
             clear hw cc ff
             refine hK.out _ _ hS' (fun hS => ?_)
             clear hK K hS'
             try simp only [Act.put, List.setIfInBounds_toArray, List.set_cons_zero, List.set_cons_succ]
             refine wpAnyH_ready (rs := [5]) (by kernel_rfl) (by simp) ?_
             refine AllReadyH.cons rfl (fun K hK => ?_) AllReadyH.nil
             go_simp
             obtain ⟨g2, ha, w5, hw, hS', M⟩ := M.out.alloc2 hS 59 (Array.replicate n (.pointer none))
             rw [← ha, hw]
             clear hw ha
             refine hK.out _ _ hS' (fun hS => ?_)
             clear hK K hS'
             try simp only [Act.put, List.setIfInBounds_toArray, List.set_cons_zero, List.set_cons_succ]
             refine wpAnyH_ready (rs := [9]) (by kernel_rfl) (by simp) ?_
             refine AllReadyH.cons rfl (fun K hK => ?_) AllReadyH.nil
             obtain ⟨cc, ff⟩ := M.out.one (p := p2) (T := 58) (v := .slice none 0 0) (List.Mem.tail _ (List.Mem.tail _ (List.Mem.tail _ (List.Mem.head _))))
             go_simp
             obtain ⟨w6, hw, hS', M⟩ := M.out.store hS (by have := Hbx.out; have := hz0.out; omega) (p := p2) (T := 58) (cs := #[.slice none 0 0]) 3 rfl rfl (.slice (some ⟨g2, 0, none⟩) n n)
             rw [hw]
             clear hw cc ff
             refine hK.out _ _ hS' (fun hS => ?_)
             clear hK K hS'
             try simp only [Act.put, List.setIfInBounds_toArray, List.set_cons_zero, List.set_cons_succ]
             refine wpAnyH_done (by kernel_rfl) ?_ _
             have F := mk_two M.out 2 0 3 1 rfl rfl rfl rfl (by decide)
             go_wp2_with fail
             go_meet
             rw [HM1.out, hz0.out]
             exact ⟨p1, p2, g1, g2, rfl, rfl, Lib.hid F.1, Lib.hid F.2.1, Lib.hid F.2.2.1, Lib.hid F.2.2.2.1, Lib.hid F.2.2.2.2, Lib.hid (BB.out.trans M.out.2.1)⟩
           ·
            go_simp
            obtain ⟨g2, ha, w3, hw, hS', M⟩ := M.out.alloc2 hS 59 (Array.replicate n (.pointer none))
            rw [← ha, hw]
            clear hw ha
            refine hK.out _ _ hS' (fun hS => ?_)
            clear hK K hS'
            try simp only [Act.put, List.setIfInBounds_toArray, List.set_cons_zero, List.set_cons_succ]
            refine wpAnyH_ready (rs := [2]) (by kernel_rfl) (by simp) ?_
            refine AllReadyH.cons rfl (fun K hK => ?_) AllReadyH.nil
            go_simp
            obtain ⟨g1, ha, w4, hw, hS', M⟩ := M.out.alloc2 hS 59 (Array.replicate n (.pointer none))
            rw [← ha, hw]
            clear hw ha
            refine hK.out _ _ hS' (fun hS => ?_)
            clear hK K hS'
            try simp only [Act.put, List.setIfInBounds_toArray, List.set_cons_zero, List.set_cons_succ]
            refine wpAnyH_ready (rs := [8]) (by kernel_rfl) (by simp) ?_
            refine AllReadyH.cons rfl (fun K hK => ?_) AllReadyH.nil
            obtain ⟨cc, ff⟩ := M.out.one (p := p1) (T := 58) (v := .slice none 0 0) (List.Mem.tail _ (List.Mem.tail _ (List.Mem.head _)))
            go_simp
            obtain ⟨w5, hw, hS', M⟩ := M.out.store hS (by have := Hbx.out; have := hz0.out; omega) (p := p1) (T := 58) (cs := #[.slice none 0 0]) 2 rfl rfl (.slice (some ⟨g1, 0, none⟩) n n)
            rw [hw]
            clear hw cc ff
            refine hK.out _ _ hS' (fun hS => ?_)
            clear hK K hS'
            try simp only [Act.put, List.setIfInBounds_toArray, List.set_cons_zero, List.set_cons_succ]
            refine wpAnyH_ready (rs := [9]) (by kernel_rfl) (by simp) ?_
            refine AllReadyH.cons rfl (fun K hK => ?_) AllReadyH.nil
            obtain ⟨cc, ff⟩ := M.out.one (p := p2) (T := 58) (v := .slice none 0 0) (List.Mem.tail _ (List.Mem.tail _ (List.Mem.tail _ (List.Mem.head _))))
            go_simp
            obtain ⟨w6, hw, hS', M⟩ := M.out.store hS (by have := Hbx.out; have := hz0.out; omega) (p := p2) (T := 58) (cs := #[.slice none 0 0]) 3 rfl rfl (.slice (some ⟨g2, 0, none⟩) n n)
            rw [hw]
            clear hw cc ff
            refine hK.out _ _ hS' (fun hS => ?_)
            clear hK K hS'
            try simp only [Act.put, List.setIfInBounds_toArray, List.set_cons_zero, List.set_cons_succ]
            refine wpAnyH_done (by kernel_rfl) ?_ _
            have F := mk_two M.out 1 0 2 3 rfl rfl rfl rfl (by decide)
            go_wp2_with fail
            go_meet
            rw [HM1.out, hz0.out]
            exact ⟨p1, p2, g1, g2, rfl, rfl, Lib.hid F.1, Lib.hid F.2.1, Lib.hid F.2.2.1, Lib.hid F.2.2.2.1, Lib.hid F.2.2.2.2, Lib.hid (BB.out.trans M.out.2.1)⟩
        case rest =>
         obtain ⟨p1, p2, g1, g2, rfl, rfl, HLO, HP1, HP2, HG1, HG2, HBX⟩ := hcut
         clear cA0 mkA Hbx HB
         obtain ⟨V1, hV1⟩ : ∃ V, V = wr := ⟨_, rfl⟩
         subst hV1
         have HLO2 := HLO
         have LD0 := Lib.hid (LD.start HP1.out HP2.out HG1.out HG2.out HLO.out)
         obtain ⟨LO, hLO⟩ : ∃ R : Row, R = ⟨fun _ => 0, fun _ => none, fun _ => [], List.replicate n (.pointer none)⟩ := ⟨_, rfl⟩
         rw [← hLO] at LD0
         have HC1 : Hid (∀ W, Below m1 V1 W → W.cell? ⟨A0, 0, none⟩ = some (.slice sa n cap)) := Lib.hid (fun W hW => HC0.out W (TR.out W hW))
         have HSE : Hid (∀ W, Below m1 V1 W → ∀ i, i < n → W.cell? ⟨gS, i, none⟩ = some (.bool (Q i).isSome)) := Lib.hid (fun W hW i hi => by
          have h1 := BL.out.seen
          have h2 := h1.lt
          rw [BL.out.size] at h2
          rw [(h1.below (TR.out W hW) h2).cell i, List.getElem?_toArray]
          simp [← HN.out, hi])
         have HCN : Hid (∀ (W : World) (v2 : Value) (M : List Ar), Below m1 V1 W → SlAt W 2 arC v2 M → Calls Tryd.prog 35 #[v2, .int .i64 kd, .map (some mb)] W (SetR (numF idx kd M []) W)) := Lib.hid (fun W v2 M hW hs => nums35 M v2 kd mb idx W hs (HMP.out W hW) (fun a _ => by have := HIX.out.le a.n; have := HNA.out; omega))
         clear HP1 HP2 HG1 HG2 HLO hLO
         have cA0 := HC1.out wc HBX.out
         go_wp2_with fail
         clear cA0
         go_loopw [106] (fun z wr => ∃ (i : Nat) (L D : Row), i ≤ n ∧ z = .int .i64 (i : Int) ∧ Hid (LD m1 n i p1 p2 g1 g2 L D wr) ∧ Hid (InitV l kd idx Q i L D) ∧ Hid (Below m1 V1 wr)) (fun z _ => n - (intOf z).toNat)
         case atStart => exact ⟨0, LO, LO, Nat.zero_le _, rfl, LD0, Lib.hid (fun j _ h => by omega), HBX⟩
         case round =>
          obtain ⟨i, L, D, hi, rfl, HLD, HIV, HB⟩ := hrel
          clear LD0 HBX
          by_cases hlt : i < n
          ·
           have hlti : (i : Int) < (n : Int) := by omega
           have hil : i < l.length := by rw [← HN.out]; exact hlt
           obtain ⟨b, o, rfl, hb, hc⟩ := HH.out.get (by omega)
           obtain ⟨f, hf, hfa, hcell⟩ := hc i hil
           have HF := Lib.hid hf
           have HCI : Hid (∀ W, Below m1 V1 W → ∀ j, j < 10 → W.cell? ⟨b, o + i * 10 + j, none⟩ = (imC f)[j]?) := Lib.hid (fun W hW j hj => by rw [← hcell j hj]; exact (HIB.out W (TR.out W hW)).cell (p := ⟨b, _, none⟩) hb)
           have CU : Hid (∀ W, Below m1 V1 W → Calls Tryd.prog 19 #[imV f] W (ArsR (usesF f.x) W)) := Lib.hid (fun W hW => uses19 f W (hfa.keep (HIB.out W (TR.out W hW))) (by rw [hf]; exact HB3.out _ (List.getElem_mem _)))
           have CD : Hid (∀ W, Below m1 V1 W → Calls Tryd.prog 21 #[imV f] W (ArsR (defsF f.x) W)) := Lib.hid (fun W hW => defs21 f W (hfa.keep (HIB.out W (TR.out W hW))))
           unfold imV at CU CD
           clear hc hf hfa hcell
           go_upto_region 29 with fail
           obtain ⟨ds, hds⟩ : ∃ q, q = numF idx kd (defsF f.x) [] := ⟨_, rfl⟩
           have HDS := Lib.hid hds
           clear hds
           go_cut [] from 999 (fun wx => ∃ (b1 b2 : Nat) (o2 : Option Nat), Hid (LD m1 n (i + 1) p1 p2 g1 g2 (L.put i b1 none []) (D.put i b2 o2 ds) wx) ∧ Hid (Below m1 V1 wx))
           case first =>
            refine wp_region_held_drew (S := (fun w' => Below m1 V1 w' ∧ Blk w' p1 58 #[.slice (some ⟨g1, 0, none⟩) n n] ∧ Blk w' p2 58 #[.slice (some ⟨g2, 0, none⟩) n n])) (by kernel_rfl) (⟨HB.out.drew, HLD.out.x1.drew, HLD.out.x2.drew⟩) (fun hS => ?_)
            have HLD1 : Hid (LD m1 n i p1 p2 g1 g2 L D wr.drew) := Lib.hid (HLD.out.below (Below.refl wr.heap.size wr).drew (Nat.le_refl _))
            have HB1 : Hid (Below m1 V1 wr.drew) := Lib.hid HB.out.drew
            clear HLD HB
            generalize wr.drew = w0 at *
            have hG := LG.start HLD1.out HB1.out (by have := HM1.out; omega)
            obtain ⟨z0, hz0⟩ : ∃ q, q = w0.heap.size := ⟨_, rfl⟩
            rw [← hz0] at hG
            have G := Lib.hid hG
            have HZ0 := Lib.hid hz0
            clear hG hz0
            refine tk (i := 0) (v := ?_) rfl (by rfl) ?_ (by assumption) ?_
            rotate_left
            ·
             intro w hSw
             have cc := hSw.2.1.cell 0
             simp only [List.getElem?_toArray, List.getElem?_cons_zero] at cc
             go_simp
             with_reducible rfl
            change wpAnyH _ _ _ _ _ _ _ (Act.put _ (some 109) _) _
            simp only [Act.put, List.setIfInBounds_toArray, List.set_cons_zero, List.set_cons_succ]
            refine tk (i := 1) (v := ?_) rfl (by rfl) ?_ (by assumption) ?_
            rotate_left
            ·
             intro w hSw
             go_simp
             with_reducible rfl
            change wpAnyH _ _ _ _ _ _ _ (Act.put _ (some 110) _) _
            simp only [Act.put, List.setIfInBounds_toArray, List.set_cons_zero, List.set_cons_succ]
            refine tk (i := 2) (v := ?_) rfl (by rfl) ?_ (by assumption) ?_
            rotate_left
            ·
             intro w hSw
             have cc := hSw.2.2.cell 0
             simp only [List.getElem?_toArray, List.getElem?_cons_zero] at cc
             go_simp
             with_reducible rfl
            change wpAnyH _ _ _ _ _ _ _ (Act.put _ (some 111) _) _
            simp only [Act.put, List.setIfInBounds_toArray, List.set_cons_zero, List.set_cons_succ]
            refine tk (i := 3) (v := ?_) rfl (by rfl) ?_ (by assumption) ?_
            rotate_left
            ·
             intro w hSw
             go_simp
             with_reducible rfl
            change wpAnyH _ _ _ _ _ _ _ (Act.put _ (some 112) _) _
            simp only [Act.put, List.setIfInBounds_toArray, List.set_cons_zero, List.set_cons_succ]
            refine tk (i := 4) (v := ?_) rfl (by rfl) ?_ (by assumption) ?_
            rotate_left
            ·
             intro w hSw
             go_simp
             with_reducible rfl
            change wpAnyH _ _ _ _ _ _ _ (Act.put _ (some 113) _) _
            simp only [Act.put, List.setIfInBounds_toArray, List.set_cons_zero, List.set_cons_succ]
            refine tk (i := 6) (v := ?_) rfl (by rfl) ?_ (by assumption) ?_
            rotate_left
            ·
             intro w hSw
             have cc := HC1.out _ hSw.1
             go_simp
             with_reducible rfl
            change wpAnyH _ _ _ _ _ _ _ (Act.put _ (some 115) _) _
            simp only [Act.put, List.setIfInBounds_toArray, List.set_cons_zero, List.set_cons_succ]
            refine tk (i := 7) (v := ?_) rfl (by rfl) ?_ (by assumption) ?_
            rotate_left
            ·
             intro w hSw
             go_simp
             with_reducible rfl
            change wpAnyH _ _ _ _ _ _ _ (Act.put _ (some 116) _) _
            simp only [Act.put, List.setIfInBounds_toArray, List.set_cons_zero, List.set_cons_succ]
            refine tk (i := 8) (v := ?_) rfl (by rfl) ?_ (by assumption) ?_
            rotate_left
            ·
             intro w hSw
             go_simp
             with_reducible rfl
            change wpAnyH _ _ _ _ _ _ _ (Act.put _ (some 117) _) _
            simp only [Act.put, List.setIfInBounds_toArray, List.set_cons_zero, List.set_cons_succ]
            refine tk (i := 9) (v := ?_) rfl (by rfl) ?_ (by assumption) ?_
            rotate_left
            ·
             intro w hSw
             obtain ⟨e0, e1, e2, e3, e4, e5, e6, e7, e8, e9⟩ := cells10 (HCI.out _ hSw.1)
             go_simp
             with_reducible rfl
            change wpAnyH _ _ _ _ _ _ _ (Act.put _ (some 118) _) _
            simp only [Act.put, List.setIfInBounds_toArray, List.set_cons_zero, List.set_cons_succ]
            refine tk (i := 11) (v := ?_) rfl (by rfl) ?_ (by assumption) ?_
            rotate_left
            ·
             intro w hSw
             go_simp
             with_reducible rfl
            change wpAnyH _ _ _ _ _ _ _ (Act.put _ (some 120) _) _
            simp only [Act.put, List.setIfInBounds_toArray, List.set_cons_zero, List.set_cons_succ]
            refine tk (i := 12) (v := ?_) rfl (by rfl) ?_ (by assumption) ?_
            rotate_left
            ·
             intro w hSw
             go_simp
             with_reducible rfl
            change wpAnyH _ _ _ _ _ _ _ (Act.put _ (some 121) _) _
            simp only [Act.put, List.setIfInBounds_toArray, List.set_cons_zero, List.set_cons_succ]
            refine wpAnyH_ready (rs := [5, 10]) (by kernel_rfl) (by simp) ?_
            refine AllReadyH.cons rfl (fun K hK => ?_) (AllReadyH.cons rfl (fun K hK => ?_) AllReadyH.nil)
            ·
             go_simp
             obtain ⟨b1, hb1⟩ : ∃ q, q = w0.heap.size := ⟨_, rfl⟩
             obtain ⟨w1, hw⟩ : ∃ W, w0.alloc (.cells #[.slice none 0 0] 62) = W := ⟨_, rfl⟩
             have G2 := G.out.box hw
             rw [← hb1] at G2 ⊢
             replace G := Lib.hid G2
             clear G2
             rw [hw]
             clear hw hb1
             refine hK.out _ _ (⟨G.out.below, G.out.x1, G.out.x2⟩) (fun hS => ?_)
             clear hK K
             try simp only [Act.put, List.setIfInBounds_toArray, List.set_cons_zero, List.set_cons_succ]
             refine wpAnyH_ready (rs := [10]) (by kernel_rfl) (by simp) ?_
             refine AllReadyH.cons rfl (fun K hK => ?_) AllReadyH.nil
             go_simp
             refine (CD.out w1 G.out.below).mono ?_
             rintro e w2 ⟨b2, v2, rfl, s2⟩
             have SV := Lib.hid s2
             replace G := Lib.hid (G.out.grow b2 (Nat.le_refl _))
             clear b2 s2
             go_wp2_with fail
             refine hK.out _ _ (⟨G.out.below, G.out.x1, G.out.x2⟩) (fun hS => ?_)
             clear hK K
             try simp only [Act.put, List.setIfInBounds_toArray, List.set_cons_zero, List.set_cons_succ]
             refine wpAnyH_ready (rs := [13]) (by kernel_rfl) (by simp) ?_
             refine AllReadyH.cons rfl (fun K hK => ?_) AllReadyH.nil
             go_simp
             refine (HCN.out w2 v2 (defsF f.x) G.out.below (SV.out.at (fun _ => rfl))).mono ?_
             rintro e w3 ⟨b2, b3, o3, rfl, s3⟩
             replace G := Lib.hid (G.out.nums b2 s3)
             clear b2 s3 SV
             go_wp2_with fail
             refine hK.out _ _ (⟨G.out.below, G.out.x1, G.out.x2⟩) (fun hS => ?_)
             clear hK K
             try simp only [Act.put, List.setIfInBounds_toArray, List.set_cons_zero, List.set_cons_succ]
             refine tk (i := 14) (v := ?_) rfl (by rfl) ?_ (by assumption) ?_
             rotate_left
             ·
              intro w hSw
              go_simp
              with_reducible rfl
             change wpAnyH _ _ _ _ _ _ _ (Act.put _ (some 123) _) _
             simp only [Act.put, List.setIfInBounds_toArray, List.set_cons_zero, List.set_cons_succ]
             refine wpAnyH_ready (rs := [15]) (by kernel_rfl) (by simp) ?_
             refine AllReadyH.cons rfl (fun K hK => ?_) AllReadyH.nil
             obtain ⟨u, hu⟩ : ∃ u, L.T[i]? = some u := ⟨_, List.getElem?_eq_getElem (by rw [HLD1.out.fl.len]; exact hlt)⟩
             have cc := G.out.a1.cell i
             rw [List.getElem?_toArray, hu] at cc
             have ff := G.out.a1.frozen i
             go_simp
             obtain ⟨w4, hw⟩ : ∃ W, w3.setCell ⟨g1, i, none⟩ (.pointer (some ⟨b1, 0, none⟩)) = W := ⟨_, rfl⟩
             replace G := Lib.hid (G.out.st1 ⟨by have := HLO2.out; omega, HLO2.out.2.2.2.2⟩ i b1 hw)
             rw [hw]
             clear hw cc ff hu
             refine hK.out _ _ (⟨G.out.below, G.out.x1, G.out.x2⟩) (fun hS => ?_)
             clear hK K
             try simp only [Act.put, List.setIfInBounds_toArray, List.set_cons_zero, List.set_cons_succ]
             refine tk (i := 16) (v := ?_) rfl (by rfl) ?_ (by assumption) ?_
             rotate_left
             ·
              intro w hSw
              go_simp
              with_reducible rfl
             change wpAnyH _ _ _ _ _ _ _ (Act.put _ (some 124) _) _
             simp only [Act.put, List.setIfInBounds_toArray, List.set_cons_zero, List.set_cons_succ]
             refine wpAnyH_ready (rs := [17]) (by kernel_rfl) (by simp) ?_
             refine AllReadyH.cons rfl (fun K hK => ?_) AllReadyH.nil
             obtain ⟨u, hu⟩ : ∃ u, D.T[i]? = some u := ⟨_, List.getElem?_eq_getElem (by rw [HLD1.out.fd.len]; exact hlt)⟩
             have cc := G.out.a2.cell i
             rw [List.getElem?_toArray, hu] at cc
             have ff := G.out.a2.frozen i
             go_simp
             obtain ⟨w5, hw⟩ : ∃ W, w4.setCell ⟨g2, i, none⟩ (.pointer (some ⟨b3, 0, none⟩)) = W := ⟨_, rfl⟩
             replace G := Lib.hid (G.out.st2 ⟨by have := HLO2.out; omega, HLO2.out.2.2.2.2⟩ i b3 hw)
             rw [hw]
             clear hw cc ff hu
             refine hK.out _ _ (⟨G.out.below, G.out.x1, G.out.x2⟩) (fun hS => ?_)
             clear hK K
             try simp only [Act.put, List.setIfInBounds_toArray, List.set_cons_zero, List.set_cons_succ]
             refine wpAnyH_done (by kernel_rfl) ?_ _
             have HF2 : Hid (LD m1 n (i + 1) p1 p2 g1 g2 (L.put i b1 none []) (D.put i b3 o3 ds) w5) := Lib.hid (by rw [HDS.out]; have := G.out; rw [HZ0.out] at this; exact LG.fin HLD1.out hlt this)
             have HB2 := Lib.hid G.out.below
             clear G hS HLD1
             go_wp2_with fail
             go_meet
             exact ⟨b1, b3, o3, HF2, HB2⟩
            ·
             go_simp
             refine (CD.out w0 G.out.below).mono ?_
             rintro e w1 ⟨b2, v2, rfl, s2⟩
             have SV := Lib.hid s2
             replace G := Lib.hid (G.out.grow b2 (Nat.le_refl _))
             clear b2 s2
             go_wp2_with fail
             refine hK.out _ _ (⟨G.out.below, G.out.x1, G.out.x2⟩) (fun hS => ?_)
             clear hK K
             try simp only [Act.put, List.setIfInBounds_toArray, List.set_cons_zero, List.set_cons_succ]
             refine wpAnyH_ready (rs := [5, 13]) (by kernel_rfl) (by simp) ?_
             refine AllReadyH.cons rfl (fun K hK => ?_) (AllReadyH.cons rfl (fun K hK => ?_) AllReadyH.nil)
             ·
              go_simp
              obtain ⟨b1, hb1⟩ : ∃ q, q = w1.heap.size := ⟨_, rfl⟩
              obtain ⟨w2, hw⟩ : ∃ W, w1.alloc (.cells #[.slice none 0 0] 62) = W := ⟨_, rfl⟩
              have G2 := G.out.box hw
              rw [← hb1] at G2 ⊢
              replace G := Lib.hid G2
              clear G2
              replace SV := Lib.hid (SV.out.below (show Below w1.heap.size w1 w2 from by rw [← hw]; exact (Below.refl _ _).alloc (Nat.le_refl _) _) (fun g hg => (SV.out.lt g hg).2))
              rw [hw]
              clear hw hb1
              refine hK.out _ _ (⟨G.out.below, G.out.x1, G.out.x2⟩) (fun hS => ?_)
              clear hK K
              try simp only [Act.put, List.setIfInBounds_toArray, List.set_cons_zero, List.set_cons_succ]
              refine wpAnyH_ready (rs := [13]) (by kernel_rfl) (by simp) ?_
              refine AllReadyH.cons rfl (fun K hK => ?_) AllReadyH.nil
              go_simp
              refine (HCN.out w2 v2 (defsF f.x) G.out.below (SV.out.at (fun _ => rfl))).mono ?_
              rintro e w3 ⟨b2, b3, o3, rfl, s3⟩
              replace G := Lib.hid (G.out.nums b2 s3)
              clear b2 s3 SV
              go_wp2_with fail
              refine hK.out _ _ (⟨G.out.below, G.out.x1, G.out.x2⟩) (fun hS => ?_)
              clear hK K
              try simp only [Act.put, List.setIfInBounds_toArray, List.set_cons_zero, List.set_cons_succ]
              refine tk (i := 14) (v := ?_) rfl (by rfl) ?_ (by assumption) ?_
              rotate_left
              ·
               intro w hSw
               go_simp
               with_reducible rfl
              change wpAnyH _ _ _ _ _ _ _ (Act.put _ (some 123) _) _
              simp only [Act.put, List.setIfInBounds_toArray, List.set_cons_zero, List.set_cons_succ]
              refine wpAnyH_ready (rs := [15]) (by kernel_rfl) (by simp) ?_
              refine AllReadyH.cons rfl (fun K hK => ?_) AllReadyH.nil
              obtain ⟨u, hu⟩ : ∃ u, L.T[i]? = some u := ⟨_, List.getElem?_eq_getElem (by rw [HLD1.out.fl.len]; exact hlt)⟩
              have cc := G.out.a1.cell i
              rw [List.getElem?_toArray, hu] at cc
              have ff := G.out.a1.frozen i
              go_simp
              obtain ⟨w4, hw⟩ : ∃ W, w3.setCell ⟨g1, i, none⟩ (.pointer (some ⟨b1, 0, none⟩)) = W := ⟨_, rfl⟩
              replace G := Lib.hid (G.out.st1 ⟨by have := HLO2.out; omega, HLO2.out.2.2.2.2⟩ i b1 hw)
              rw [hw]
              clear hw cc ff hu
              refine hK.out _ _ (⟨G.out.below, G.out.x1, G.out.x2⟩) (fun hS => ?_)
              clear hK K
              try simp only [Act.put, List.setIfInBounds_toArray, List.set_cons_zero, List.set_cons_succ]
              refine tk (i := 16) (v := ?_) rfl (by rfl) ?_ (by assumption) ?_
              rotate_left
              ·
               intro w hSw
               go_simp
               with_reducible rfl
              change wpAnyH _ _ _ _ _ _ _ (Act.put _ (some 124) _) _
              simp only [Act.put, List.setIfInBounds_toArray, List.set_cons_zero, List.set_cons_succ]
              refine wpAnyH_ready (rs := [17]) (by kernel_rfl) (by simp) ?_
              refine AllReadyH.cons rfl (fun K hK => ?_) AllReadyH.nil
              obtain ⟨u, hu⟩ : ∃ u, D.T[i]? = some u := ⟨_, List.getElem?_eq_getElem (by rw [HLD1.out.fd.len]; exact hlt)⟩
              have cc := G.out.a2.cell i
              rw [List.getElem?_toArray, hu] at cc
              have ff := G.out.a2.frozen i
              go_simp
              obtain ⟨w5, hw⟩ : ∃ W, w4.setCell ⟨g2, i, none⟩ (.pointer (some ⟨b3, 0, none⟩)) = W := ⟨_, rfl⟩
              replace G := Lib.hid (G.out.st2 ⟨by have := HLO2.out; omega, HLO2.out.2.2.2.2⟩ i b3 hw)
              rw [hw]
              clear hw cc ff hu
              refine hK.out _ _ (⟨G.out.below, G.out.x1, G.out.x2⟩) (fun hS => ?_)
              clear hK K
              try simp only [Act.put, List.setIfInBounds_toArray, List.set_cons_zero, List.set_cons_succ]
              refine wpAnyH_done (by kernel_rfl) ?_ _
              have HF2 : Hid (LD m1 n (i + 1) p1 p2 g1 g2 (L.put i b1 none []) (D.put i b3 o3 ds) w5) := Lib.hid (by rw [HDS.out]; have := G.out; rw [HZ0.out] at this; exact LG.fin HLD1.out hlt this)
              have HB2 := Lib.hid G.out.below
              clear G hS HLD1
              go_wp2_with fail
              go_meet
              exact ⟨b1, b3, o3, HF2, HB2⟩
             ·
              go_simp
              refine (HCN.out w1 v2 (defsF f.x) G.out.below (SV.out.at (fun _ => rfl))).mono ?_
              rintro e w2 ⟨b2, b3, o3, rfl, s3⟩
              replace G := Lib.hid (G.out.nums b2 s3)
              clear b2 s3 SV
              go_wp2_with fail
              refine hK.out _ _ (⟨G.out.below, G.out.x1, G.out.x2⟩) (fun hS => ?_)
              clear hK K
              try simp only [Act.put, List.setIfInBounds_toArray, List.set_cons_zero, List.set_cons_succ]
              refine wpAnyH_ready (rs := [5]) (by kernel_rfl) (by simp) ?_
              refine AllReadyH.cons rfl (fun K hK => ?_) AllReadyH.nil
              go_simp
              obtain ⟨b1, hb1⟩ : ∃ q, q = w2.heap.size := ⟨_, rfl⟩
              obtain ⟨w3, hw⟩ : ∃ W, w2.alloc (.cells #[.slice none 0 0] 62) = W := ⟨_, rfl⟩
              have G2 := G.out.box hw
              rw [← hb1] at G2 ⊢
              replace G := Lib.hid G2
              clear G2
              rw [hw]
              clear hw hb1
              refine hK.out _ _ (⟨G.out.below, G.out.x1, G.out.x2⟩) (fun hS => ?_)
              clear hK K
              try simp only [Act.put, List.setIfInBounds_toArray, List.set_cons_zero, List.set_cons_succ]
              refine tk (i := 14) (v := ?_) rfl (by rfl) ?_ (by assumption) ?_
              rotate_left
              ·
               intro w hSw
               go_simp
               with_reducible rfl
              change wpAnyH _ _ _ _ _ _ _ (Act.put _ (some 123) _) _
              simp only [Act.put, List.setIfInBounds_toArray, List.set_cons_zero, List.set_cons_succ]
              refine wpAnyH_ready (rs := [15]) (by kernel_rfl) (by simp) ?_
              refine AllReadyH.cons rfl (fun K hK => ?_) AllReadyH.nil
              obtain ⟨u, hu⟩ : ∃ u, L.T[i]? = some u := ⟨_, List.getElem?_eq_getElem (by rw [HLD1.out.fl.len]; exact hlt)⟩
              have cc := G.out.a1.cell i
              rw [List.getElem?_toArray, hu] at cc
              have ff := G.out.a1.frozen i
              go_simp
              obtain ⟨w4, hw⟩ : ∃ W, w3.setCell ⟨g1, i, none⟩ (.pointer (some ⟨b1, 0, none⟩)) = W := ⟨_, rfl⟩
              replace G := Lib.hid (G.out.st1 ⟨by have := HLO2.out; omega, HLO2.out.2.2.2.2⟩ i b1 hw)
              rw [hw]
              clear hw cc ff hu
              refine hK.out _ _ (⟨G.out.below, G.out.x1, G.out.x2⟩) (fun hS => ?_)
              clear hK K
              try simp only [Act.put, List.setIfInBounds_toArray, List.set_cons_zero, List.set_cons_succ]
              refine tk (i := 16) (v := ?_) rfl (by rfl) ?_ (by assumption) ?_
              rotate_left
              ·
               intro w hSw
               go_simp
               with_reducible rfl
              change wpAnyH _ _ _ _ _ _ _ (Act.put _ (some 124) _) _
              simp only [Act.put, List.setIfInBounds_toArray, List.set_cons_zero, List.set_cons_succ]
              refine wpAnyH_ready (rs := [17]) (by kernel_rfl) (by simp) ?_
              refine AllReadyH.cons rfl (fun K hK => ?_) AllReadyH.nil
              obtain ⟨u, hu⟩ : ∃ u, D.T[i]? = some u := ⟨_, List.getElem?_eq_getElem (by rw [HLD1.out.fd.len]; exact hlt)⟩
              have cc := G.out.a2.cell i
              rw [List.getElem?_toArray, hu] at cc
              have ff := G.out.a2.frozen i
              go_simp
              obtain ⟨w5, hw⟩ : ∃ W, w4.setCell ⟨g2, i, none⟩ (.pointer (some ⟨b3, 0, none⟩)) = W := ⟨_, rfl⟩
              replace G := Lib.hid (G.out.st2 ⟨by have := HLO2.out; omega, HLO2.out.2.2.2.2⟩ i b3 hw)
              rw [hw]
              clear hw cc ff hu
              refine hK.out _ _ (⟨G.out.below, G.out.x1, G.out.x2⟩) (fun hS => ?_)
              clear hK K
              try simp only [Act.put, List.setIfInBounds_toArray, List.set_cons_zero, List.set_cons_succ]
              refine wpAnyH_done (by kernel_rfl) ?_ _
              have HF2 : Hid (LD m1 n (i + 1) p1 p2 g1 g2 (L.put i b1 none []) (D.put i b3 o3 ds) w5) := Lib.hid (by rw [HDS.out]; have := G.out; rw [HZ0.out] at this; exact LG.fin HLD1.out hlt this)
              have HB2 := Lib.hid G.out.below
              clear G hS HLD1
              go_wp2_with fail
              go_meet
              exact ⟨b1, b3, o3, HF2, HB2⟩
           case rest =>
            obtain ⟨b1, b2, o2, HLD2, HB2⟩ := hcut
            have hse := HSE.out wc HB2.out i hlt
            obtain ⟨q, hq⟩ : ∃ q, q = (Q i).isSome := ⟨_, rfl⟩
            rw [← hq] at hse
            have HQ := Lib.hid hq
            clear hq
            cases q with
            | false =>
             have HIV2 : Hid (InitV l kd idx Q (i + 1) (L.put i b1 none []) (D.put i b2 o2 ds)) := Lib.hid (HIV.out.put hil b1 none [] b2 o2 ds (fun h => by rw [← HQ.out] at h; cases h) (fun _ => rfl) (by rw [HDS.out, HF.out]))
             clear HIV HLD HB
             go_wp2_with fail
             go_roundw
             case rel => exact ⟨i + 1, _, _, by omega, by go_num, HLD2, HIV2, HB2⟩
             case measure => simp [intOf]; omega
            | true =>
             clear HLD HB
             go_upto_region 31 with fail
             refine wp_region_held_drew (S := (fun w' => Below m1 V1 w' ∧ Blk w' p1 58 #[.slice (some ⟨g1, 0, none⟩) n n] ∧ Blk w' p2 58 #[.slice (some ⟨g2, 0, none⟩) n n])) (by kernel_rfl) (⟨HB2.out.drew, HLD2.out.x1.drew, HLD2.out.x2.drew⟩) (fun hS => ?_)
             have HLD1 : Hid (LD m1 n (i + 1) p1 p2 g1 g2 (L.put i b1 none []) (D.put i b2 o2 ds) wc.drew) := Lib.hid (HLD2.out.below (Below.refl wc.heap.size wc).drew (Nat.le_refl _))
             have HB1 : Hid (Below m1 V1 wc.drew) := Lib.hid HB2.out.drew
             clear HLD2 HB2 hse
             generalize wc.drew = w0 at *
             refine tk (i := 0) (v := ?_) rfl (by rfl) ?_ (by assumption) ?_
             rotate_left
             ·
              intro w hSw
              have cc := hSw.2.1.cell 0
              simp only [List.getElem?_toArray, List.getElem?_cons_zero] at cc
              go_simp
              with_reducible rfl
             change wpAnyH _ _ _ _ _ _ _ (Act.put _ (some 129) _) _
             simp only [Act.put, List.setIfInBounds_toArray, List.set_cons_zero, List.set_cons_succ]
             refine tk (i := 1) (v := ?_) rfl (by rfl) ?_ (by assumption) ?_
             rotate_left
             ·
              intro w hSw
              go_simp
              with_reducible rfl
             change wpAnyH _ _ _ _ _ _ _ (Act.put _ (some 130) _) _
             simp only [Act.put, List.setIfInBounds_toArray, List.set_cons_zero, List.set_cons_succ]
             refine tk (i := 2) (v := ?_) rfl (by rfl) ?_ (by assumption) ?_
             rotate_left
             ·
              intro w hSw
              have cc := HC1.out _ hSw.1
              go_simp
              with_reducible rfl
             change wpAnyH _ _ _ _ _ _ _ (Act.put _ (some 131) _) _
             simp only [Act.put, List.setIfInBounds_toArray, List.set_cons_zero, List.set_cons_succ]
             refine tk (i := 3) (v := ?_) rfl (by rfl) ?_ (by assumption) ?_
             rotate_left
             ·
              intro w hSw
              go_simp
              with_reducible rfl
             change wpAnyH _ _ _ _ _ _ _ (Act.put _ (some 132) _) _
             simp only [Act.put, List.setIfInBounds_toArray, List.set_cons_zero, List.set_cons_succ]
             refine tk (i := 4) (v := ?_) rfl (by rfl) ?_ (by assumption) ?_
             rotate_left
             ·
              intro w hSw
              go_simp
              with_reducible rfl
             change wpAnyH _ _ _ _ _ _ _ (Act.put _ (some 133) _) _
             simp only [Act.put, List.setIfInBounds_toArray, List.set_cons_zero, List.set_cons_succ]
             refine tk (i := 5) (v := ?_) rfl (by rfl) ?_ (by assumption) ?_
             rotate_left
             ·
              intro w hSw
              obtain ⟨e0, e1, e2, e3, e4, e5, e6, e7, e8, e9⟩ := cells10 (HCI.out _ hSw.1)
              go_simp
              with_reducible rfl
             change wpAnyH _ _ _ _ _ _ _ (Act.put _ (some 134) _) _
             simp only [Act.put, List.setIfInBounds_toArray, List.set_cons_zero, List.set_cons_succ]
             refine tk (i := 7) (v := ?_) rfl (by rfl) ?_ (by assumption) ?_
             rotate_left
             ·
              intro w hSw
              go_simp
              with_reducible rfl
             change wpAnyH _ _ _ _ _ _ _ (Act.put _ (some 136) _) _
             simp only [Act.put, List.setIfInBounds_toArray, List.set_cons_zero, List.set_cons_succ]
             refine tk (i := 8) (v := ?_) rfl (by rfl) ?_ (by assumption) ?_
             rotate_left
             ·
              intro w hSw
              go_simp
              with_reducible rfl
             change wpAnyH _ _ _ _ _ _ _ (Act.put _ (some 137) _) _
             simp only [Act.put, List.setIfInBounds_toArray, List.set_cons_zero, List.set_cons_succ]
             refine wpAnyH_ready (rs := [6]) (by kernel_rfl) (by simp) ?_
             refine AllReadyH.cons rfl (fun K hK => ?_) AllReadyH.nil
             go_simp
             refine (CU.out w0 HB1.out).mono ?_
             rintro e w1 ⟨b3, v2, rfl, s2⟩
             have HBW : Hid (Below m1 V1 w1) := Lib.hid (HB1.out.trans (b3.mono (by have := HB1.out.size; have := HM1.out; omega)))
             have HX1 : Hid (Blk w1 p1 58 #[.slice (some ⟨g1, 0, none⟩) n n]) := Lib.hid (hS.2.1.below b3 hS.2.1.lt)
             have HX2 : Hid (Blk w1 p2 58 #[.slice (some ⟨g2, 0, none⟩) n n]) := Lib.hid (hS.2.2.below b3 hS.2.2.lt)
             have SV := Lib.hid s2
             have BB3 := Lib.hid b3
             clear b3 s2
             go_wp2_with fail
             refine hK.out _ _ (⟨HBW.out, HX1.out, HX2.out⟩) (fun hS => ?_)
             clear hK K
             try simp only [Act.put, List.setIfInBounds_toArray, List.set_cons_zero, List.set_cons_succ]
             refine wpAnyH_ready (rs := [9]) (by kernel_rfl) (by simp) ?_
             refine AllReadyH.cons rfl (fun K hK => ?_) AllReadyH.nil
             go_simp
             refine (HCN.out w1 v2 (usesF f.x) hS.1 (SV.out.at (fun _ => rfl))).mono ?_
             rintro e w2 ⟨b4, b5, o5, rfl, s5⟩
             clear HBW HX1 HX2
             have HBW0 : Hid (Below m1 V1 w1) := Lib.hid hS.1
             have HBW : Hid (Below m1 V1 w2) := Lib.hid (HBW0.out.trans (b4.mono (by have := HBW0.out.size; have := HM1.out; omega)))
             have HX1 : Hid (Blk w2 p1 58 #[.slice (some ⟨g1, 0, none⟩) n n]) := Lib.hid (hS.2.1.below b4 hS.2.1.lt)
             have HX2 : Hid (Blk w2 p2 58 #[.slice (some ⟨g2, 0, none⟩) n n]) := Lib.hid (hS.2.2.below b4 hS.2.2.lt)
             have BB4 := Lib.hid (BB3.out.trans (b4.mono BB3.out.size))
             have S5 := Lib.hid s5
             clear b4 s5 SV HBW0
             go_wp2_with fail
             refine hK.out _ _ (⟨HBW.out, HX1.out, HX2.out⟩) (fun hS => ?_)
             clear hK K
             try simp only [Act.put, List.setIfInBounds_toArray, List.set_cons_zero, List.set_cons_succ]
             have HS5 : Hid (SetAt w2 m1 b5 o5 (numF idx kd (usesF f.x) [])) := Lib.hid (S5.out.mono (by have := BB3.out.size; have := HB1.out.size; have := HM1.out; omega))
             have HFR : Hid (∀ r ∈ own b5 o5, w0.heap.size ≤ r) := Lib.hid (fun r hr => Nat.le_trans BB3.out.size (S5.out.lt r hr).1)
             have HP := Lib.hid (HLD1.out.put BB4.out (Nat.lt_succ_self i) (by omega) HS5.out HFR.out)
             have hA := (HLD1.out.below BB4.out (Nat.le_refl _)).fl.arr
             have HA := Lib.hid hA
             clear hA
             refine tk (i := 10) (v := ?_) rfl (by rfl) ?_ (by assumption) ?_
             rotate_left
             ·
              intro w hSw
              go_simp
              with_reducible rfl
             change wpAnyH _ _ _ _ _ _ _ (Act.put _ (some 139) _) _
             simp only [Act.put, List.setIfInBounds_toArray, List.set_cons_zero, List.set_cons_succ]
             refine wpAnyH_ready (rs := [11]) (by kernel_rfl) (by simp) ?_
             refine AllReadyH.cons rfl (fun K hK => ?_) AllReadyH.nil
             obtain ⟨u, hu⟩ : ∃ u, (L.put i b1 none []).T[i]? = some u := ⟨_, List.getElem?_eq_getElem (by rw [HLD1.out.fl.len]; exact hlt)⟩
             have cc := HA.out.cell i
             rw [List.getElem?_toArray, hu] at cc
             have ff := HA.out.frozen i
             go_simp
             obtain ⟨w3, hw⟩ : ∃ W, w2.setCell ⟨g1, i, none⟩ (.pointer (some ⟨b5, 0, none⟩)) = W := ⟨_, rfl⟩
             rw [hw]
             unfold sp at HP
             rw [hw] at HP
             have HB3 : Hid (Below m1 V1 w3) := Lib.hid (by rw [← hw]; exact HBW.out.setCell (p := ⟨g1, i, none⟩) (by have := HLO2.out; show m1 ≤ g1; omega) _)
             clear hw cc ff hu HA
             refine hK.out _ _ (⟨HB3.out, HP.out.x1, HP.out.x2⟩) (fun hS => ?_)
             clear hK K
             try simp only [Act.put, List.setIfInBounds_toArray, List.set_cons_zero, List.set_cons_succ]
             refine wpAnyH_done (by kernel_rfl) ?_ _
             have HIV2 : Hid (InitV l kd idx Q (i + 1) ((L.put i b1 none []).put i b5 o5 (numF idx kd (usesF f.x) [])) (D.put i b2 o2 ds)) := Lib.hid (HIV.out.again hil b1 b5 o5 _ b2 o2 ds HQ.out.symm (by rw [HF.out]) (by rw [HDS.out, HF.out]))
             clear HIV hS HLD1 HB1 HBW HX1 HX2 S5 HS5 HFR BB3 BB4
             go_wp2_with fail
             go_roundw
             case rel => exact ⟨i + 1, _, _, by omega, by go_num, HP, HIV2, HB3⟩
             case measure => simp [intOf]; omega
          ·
           have hlti : ¬ (i : Int) < (n : Int) := by omega
           obtain rfl : n = i := by omega
           have HLI : Hid (LI l fr (fun i => (Q i).getD []) kd all L.s) := Lib.hid (LI.start HIX.out HIN.out (fun i hi => ⟨fun hr => (HIV.out i hi (by rw [HN.out]; exact hi)).1 (by obtain ⟨t, e⟩ := (BL.out.shut.rch i).1 hr; rw [e]; rfl), fun hr => (HIV.out i hi (by rw [HN.out]; exact hi)).2.1 (by
            cases e : Q i with
            | none => rfl
            | some t => exact absurd ((BL.out.shut.rch i).2 ⟨t, e⟩) hr)⟩))
           have HDI : Hid (DI l kd all D.s) := Lib.hid (DI.start HIX.out HIN.out (fun i hi => (HIV.out i hi (by rw [HN.out]; exact hi)).2.2))
           clear HIV hlt
           obtain ⟨c0, hc0⟩ : ∃ q, q = wr.heap.size := ⟨_, rfl⟩
           have LZ0 : Hid (LZ l fr kd all (fun i => (Q i).getD []) m1 n p1 p2 g1 g2 D V1 L [] c0 true (wr.alloc (.cells #[.bool true] 4))) := Lib.hid ⟨List.nodup_nil, fun _ h => (by cases h), fun _ h => (by cases h), by rw [hc0]; exact Blk.new wr 4 _, ⟨by have := HB.out.size; have := HM1.out; omega, by have := HM1.out; omega⟩, HLD.out.below ((Below.refl _ wr).alloc (Nat.le_refl _) _) (Nat.le_refl _), HB.out.alloc (by have := HB.out.size; have := HM1.out; omega) _, HLI.out⟩
           go_wp2_with fail
           generalize wr.alloc (.cells #[.bool true] 4) = w4 at LZ0 ⊢
           rw [← hc0]
           clear hc0 HLD HB HLI
           have HAL9 : Hid (all.length ≤ 1000000000) := Lib.hid (by rw [← HNA.out]; exact hnAb)
           refine wp_loop_ghost_k (fun mu a' w' => ∃ (Ds : List Nat) (c : Nat) (ch : Bool) (L : Row) (X : Nat → Value), (2 * miss l.length all.length L.s + ch.toNat = mu ∧ Hid (LZ l fr kd all (fun i => (Q i).getD []) m1 n p1 p2 g1 g2 D V1 L Ds c ch w') ∧ Hid (ch = false → ∀ i, i < l.length → Cl l fr (fun i => (Q i).getD []) D.s L.s i)) ∧ (X 3 = .pointer (some ⟨A0, 0, none⟩) ∧ X 8 = .slice (some ⟨gB, 0, none⟩) n n ∧ X 9 = .slice (some ⟨gS, 0, none⟩) n n ∧ X 11 = .slice sA nA cA ∧ X 18 = .pointer (some ⟨p1, 0, none⟩) ∧ X 19 = .pointer (some ⟨p2, 0, none⟩) ∧ X 21 = .pointer (some ⟨c, 0, none⟩)) ∧ a' = { tmps := ((List.range 254).map X).toArray, defers := Ds.map rmark }) (2 * miss l.length all.length L.s + 1) ?atS ?rnd
           case atS =>
            refine ⟨[], c0, true, L, _, ⟨rfl, LZ0, Lib.hid (fun h => by cases h)⟩, ?_, congrArg (fun t => ({ tmps := t, defers := [] } : Act)) (tm_in (N := 254) rfl)⟩
            exact ⟨rfl, rfl, rfl, rfl, rfl, rfl, rfl⟩
           case rnd =>
            clear LZ0
            intro mu a' wr hinv
            obtain ⟨Ds, c, ch, L, X, ⟨hmu, HLZ, HCL⟩, ⟨x3, x8, x9, x11, x18, x19, x21⟩, ha⟩ := hinv
            subst ha
            rw [tm254, x3, x8, x9, x11, x18, x19, x21]
            clear x3 x8 x9 x11 x18 x19 x21
            intro J K hJ hK
            have cc := HLZ.out.bc.cell 0
            simp only [List.getElem?_toArray, List.getElem?_cons_zero] at cc
            cases ch with
            | false =>
             clear hJ hK
             have HCL2 : Hid (∀ i, i < l.length → Cl l fr (fun i => (Q i).getD []) D.s L.s i) := Lib.hid (HCL.out rfl)
             have cA0 := HC1.out wr HLZ.out.bl
             have mk := fun (W : World) => mk26 n (by omega) W
             clear hmu HCL
             go_upto_region 52 with fail
             obtain ⟨go, hgo⟩ : ∃ q, q = wr.heap.size := ⟨_, rfl⟩
             have HZ2 := Lib.hid (HLZ.out.grow ((Below.refl _ wr).alloc (Nat.le_refl _) (.cells (Array.replicate n (.slice none 0 0)) 23)) (Nat.le_refl _))
             have HO2 : Hid (OutI all L.s n go 0 (List.replicate n (.slice none 0 0)) (wr.alloc (.cells (Array.replicate n (.slice none 0 0)) 23))) := Lib.hid (OutI.start all L.s (by rw [hgo]; exact Blk.new wr 23 _))
             have HGL : Hid (m1 ≤ go) := Lib.hid (by rw [hgo]; exact HLZ.out.sz)
             generalize wr.alloc (.cells (Array.replicate n (.slice none 0 0)) 23) = V2 at HZ2 HO2 ⊢
             rw [← hgo]
             clear hgo HLZ cc cA0 mk
             have HKZ : Hid (∀ W, Only [go] V2 W → LZ l fr kd all (fun i => (Q i).getD []) m1 n p1 p2 g1 g2 D V1 L Ds c false W) := Lib.hid (fun W ho => HZ2.out.farO HO2.out.arr (by decide) HGL.out ho)
             have HAC : Hid (∀ W, Only [go] V2 W → Sl W m0 3 1 inC (.slice sA nA cA) all) := Lib.hid (fun W ho => by
              have h1 := HSA.out V2 HZ2.out.bl
              exact h1.only ho (sl_off_blk h1 HO2.out.arr (by decide)))
             have HTB : Hid (∀ W, Only [go] V2 W → TabAt 0 Lib.deBruijn64tab W ∧ 0 < W.heap.size) := Lib.hid (fun W ho => by
              have h1 := HIB.out W (TR.out W (HKZ.out W ho).bl)
              have h2 := HZ.out
              exact ⟨tab_below HT.out h1 h2, Nat.lt_of_lt_of_le h2 h1.size⟩)
             have c18 := HZ2.out.ld.x1.cell 0
             simp only [List.getElem?_toArray, List.getElem?_cons_zero] at c18
             go_wp2_with fail
             clear c18
             go_loopw [226] (fun z W => ∃ (i : Nat) (Vs : List Value), i ≤ n ∧ z = .int .i64 (i : Int) ∧ Hid (OutI all L.s n go i Vs W) ∧ Hid (Only [go] V2 W)) (fun z _ => n - (intOf z).toNat)
             case atStart => exact ⟨0, _, Nat.zero_le _, rfl, HO2, Lib.hid (Only.refl _ _)⟩
             case round =>
              obtain ⟨i, Vs, hi, rfl, HO, HN2⟩ := hrel
              clear HO2
              by_cases hlt : i < n
              ·
               have hlti : (i : Int) < (n : Int) := by omega
               have HZi := Lib.hid (HKZ.out wr HN2.out)
               have ck := Fam.cell HZi.out.ld.fl hlt
               unfold sp at ck
               have C38 := Lib.hid (list38 (L.b i) m1 (L.o i) (L.s i) wr (HZi.out.ld.fl.set i hlt) (by have := HZi.out.words HN.out HAL9.out hlt; omega) (HTB.out wr HN2.out).1 (HTB.out wr HN2.out).2)
               go_upto_region 55 with fail
               clear ck
               go_wp2_with fail
               refine C38.out.mono ?_
               rintro e W3 ⟨b3, v3, rfl, s3⟩
               obtain ⟨sK, cK, rfl⟩ := sl_form s3
               obtain ⟨KL, hKL⟩ : ∃ q, q = listK (L.s i) (L.s i).length := ⟨_, rfl⟩
               rw [← hKL] at s3 ⊢
               have HKI : Hid (∀ a ∈ KL, ∃ k : Nat, a = k ∧ k < nA) := Lib.hid (fun a ha => by
                rw [hKL, mem_list] at ha
                obtain ⟨k, h1, h2⟩ := ha
                obtain ⟨x, h3, _⟩ := HZi.out.li.sound i k (by rw [← HN.out]; exact hlt) h1
                exact ⟨k, h2, by rw [HNA.out]; exact (List.getElem?_eq_some_iff.1 h3).1⟩)
               have hKLl : KL.length ≤ 100000000000 := by rw [hKL]; have := listK_len (L.s i) (L.s i).length; have := HZi.out.words HN.out HAL9.out hlt; omega
               have HNM : Hid (namesF all (L.s i) = KL.map fun k => all.getD k.toNat 0) := Lib.hid (by rw [hKL]; rfl)
               obtain ⟨nK, hnK⟩ : ∃ q, q = KL.length := ⟨_, rfl⟩
               rw [← hnK] at s3 hKLl ⊢
               have HNK := Lib.hid hnK
               obtain ⟨z3, hz3⟩ : ∃ q, q = W3.heap.size := ⟨_, rfl⟩
               have HZ3 := Lib.hid hz3
               have HO3 := Lib.hid (HO.out.below b3)
               have HN3 : Hid (Only [go] V2 W3) := Lib.hid (HN2.out.trans (Only.of_below b3))
               have SK := Lib.hid s3
               clear hKL hnK s3 b3 HO C38 HZi hz3
               go_wp2_with fail
               go_loopw [234] (fun z W => ∃ (q : Nat) (vO : Value), q ≤ nK ∧ z = .int .i64 (q : Int) ∧ Hid (Blk W go 23 (Vs.set i vO).toArray) ∧ Hid (Sl W z3 3 1 inC vO ((KL.take q).map fun k => all.getD k.toNat 0)) ∧ Hid (Only [go] W3 W)) (fun z _ => nK - (intOf z).toNat)
               case atStart => exact ⟨0, .slice none 0 0, Nat.zero_le _, rfl, Lib.hid (by rw [HO3.out.same hlt]; exact HO3.out.arr), Lib.hid (Sl.nil _ _ _ _ _), Lib.hid (Only.refl _ _)⟩
               case round =>
                obtain ⟨q, vO, hq, rfl, HA, HSO, HN4⟩ := hrel
                by_cases hqk : q < nK
                ·
                 have hqki : (q : Int) < (nK : Int) := by omega
                 obtain ⟨gK, rfl⟩ : ∃ g, sK = some ⟨g, 0, none⟩ := by
                  rcases SK.out.form with ⟨e, _⟩ | ⟨g, cap, e, _⟩
                  ·
                   simp only [Value.slice.injEq] at e
                   omega
                  ·
                   simp only [Value.slice.injEq] at e
                   exact ⟨g, e.1⟩
                 have hqK : q < KL.length := by rw [← HNK.out]; exact hqk
                 have SKW := SK.out.only HN4.out (sl_off_blk SK.out HO3.out.arr (by decide))
                 have ck := SKW.cell in_len q 0 hqK (by omega)
                 simp only [inC, List.getElem?_cons_zero, Nat.add_zero, Nat.mul_one] at ck
                 obtain ⟨kk, hkk, hkA⟩ := HKI.out KL[q] (List.getElem_mem _)
                 rw [hkk] at ck
                 have HKK := Lib.hid hkk
                 have hkAi : (kk : Int) < (nA : Int) := by omega
                 obtain ⟨gA, rfl⟩ : ∃ g, sA = some ⟨g, 0, none⟩ := by
                  rcases (HAC.out V2 (Only.refl _ _)).form with ⟨e, _⟩ | ⟨g, cap, e, _⟩
                  ·
                   simp only [Value.slice.injEq] at e
                   omega
                  ·
                   simp only [Value.slice.injEq] at e
                   exact ⟨g, e.1⟩
                 have hka : kk < all.length := by rw [← HNA.out]; exact hkA
                 obtain ⟨x, hx⟩ : ∃ x, x = all[kk] := ⟨_, rfl⟩
                 have HAX : Hid (∀ W, Only [go] V2 W → W.cell? ⟨gA, kk, none⟩ = some (.int .i64 x)) := Lib.hid (fun W ho => by
                  have k0 := (HAC.out W ho).cell in_len kk 0 hka (by omega)
                  rw [← hx] at k0
                  simpa only [inC, List.getElem?_cons_zero, Nat.add_zero, Nat.mul_one] using k0)
                 have HXD : Hid (all.getD kk 0 = x) := Lib.hid (by rw [List.getD_eq_getElem?_getD, List.getElem?_eq_getElem hka, hx]; rfl)
                 clear hx hkk SKW
                 go_upto_region 58 with fail
                 clear ck
                 refine wp_region_held_drew (S := (fun w' => Only [go] V2 w')) (by kernel_rfl) ((HN3.out.trans HN4.out).trans (Only.drew _ _)) (fun hS => ?_)
                 have HA1 : Hid (Blk wr.drew go 23 (Vs.set i vO).toArray) := Lib.hid HA.out.drew
                 have HS1 := Lib.hid (HSO.out.only (Only.drew [] wr) (fun g hg hm => by cases hm))
                 have HN5 := Lib.hid (HN4.out.trans (Only.drew _ wr))
                 clear HA HSO HN4
                 generalize wr.drew = w0 at *
                 refine tk (i := 0) (v := ?_) rfl (by rfl) ?_ (by assumption) ?_
                 rotate_left
                 ·
                  intro w hSw
                  go_simp
                  with_reducible rfl
                 change wpAnyH _ _ _ _ _ _ _ (Act.put _ (some 238) _) _
                 simp only [Act.put, List.setIfInBounds_toArray, List.set_cons_zero, List.set_cons_succ]
                 refine tk (i := 1) (v := ?_) rfl (by rfl) ?_ (by assumption) ?_
                 rotate_left
                 ·
                  intro w hSw
                  go_simp
                  with_reducible rfl
                 change wpAnyH _ _ _ _ _ _ _ (Act.put _ (some 239) _) _
                 simp only [Act.put, List.setIfInBounds_toArray, List.set_cons_zero, List.set_cons_succ]
                 refine tk (i := 2) (v := ?_) rfl (by rfl) ?_ (by assumption) ?_
                 rotate_left
                 ·
                  intro w hSw
                  go_simp
                  with_reducible rfl
                 change wpAnyH _ _ _ _ _ _ _ (Act.put _ (some 240) _) _
                 simp only [Act.put, List.setIfInBounds_toArray, List.set_cons_zero, List.set_cons_succ]
                 refine tk (i := 3) (v := ?_) rfl (by rfl) ?_ (by assumption) ?_
                 rotate_left
                 ·
                  intro w hSw
                  go_simp
                  with_reducible rfl
                 change wpAnyH _ _ _ _ _ _ _ (Act.put _ (some 241) _) _
                 simp only [Act.put, List.setIfInBounds_toArray, List.set_cons_zero, List.set_cons_succ]
                 refine tk (i := 4) (v := ?_) rfl (by rfl) ?_ (by assumption) ?_
                 rotate_left
                 ·
                  intro w hSw
                  go_simp
                  with_reducible rfl
                 change wpAnyH _ _ _ _ _ _ _ (Act.put _ (some 242) _) _
                 simp only [Act.put, List.setIfInBounds_toArray, List.set_cons_zero, List.set_cons_succ]
                 refine tk (i := 6) (v := ?_) rfl (by rfl) ?_ (by assumption) ?_
                 rotate_left
                 ·
                  intro w hSw
                  go_simp
                  with_reducible rfl
                 change wpAnyH _ _ _ _ _ _ _ (Act.put _ (some 244) _) _
                 simp only [Act.put, List.setIfInBounds_toArray, List.set_cons_zero, List.set_cons_succ]
                 refine tk (i := 7) (v := ?_) rfl (by rfl) ?_ (by assumption) ?_
                 rotate_left
                 ·
                  intro w hSw
                  go_simp
                  with_reducible rfl
                 change wpAnyH _ _ _ _ _ _ _ (Act.put _ (some 245) _) _
                 simp only [Act.put, List.setIfInBounds_toArray, List.set_cons_zero, List.set_cons_succ]
                 refine tk (i := 8) (v := ?_) rfl (by rfl) ?_ (by assumption) ?_
                 rotate_left
                 ·
                  intro w hSw
                  go_simp
                  with_reducible rfl
                 change wpAnyH _ _ _ _ _ _ _ (Act.put _ (some 246) _) _
                 simp only [Act.put, List.setIfInBounds_toArray, List.set_cons_zero, List.set_cons_succ]
                 refine tk (i := 9) (v := ?_) rfl (by rfl) ?_ (by assumption) ?_
                 rotate_left
                 ·
                  intro w hSw
                  have cc := HAX.out _ hSw
                  go_simp
                  with_reducible rfl
                 change wpAnyH _ _ _ _ _ _ _ (Act.put _ (some 247) _) _
                 simp only [Act.put, List.setIfInBounds_toArray, List.set_cons_zero, List.set_cons_succ]
                 obtain ⟨bn, hbn⟩ : ∃ q, q = w0.heap.size := ⟨_, rfl⟩
                 obtain ⟨LO, hLO⟩ : ∃ y, y = (KL.take q).map fun k => all.getD k.toNat 0 := ⟨_, rfl⟩
                 rw [← hLO] at HS1
                 have HL2 : Hid ((KL.take (q + 1)).map (fun k => all.getD k.toNat 0) = LO ++ [x]) := Lib.hid (by
                  rw [List.take_succ_eq_append_getElem hqK, List.map_append, ← hLO, List.map_cons, List.map_nil, HKK.out, Int.toNat_natCast, HXD.out])
                 have hLOl : LO.length ≤ 100000000000 := by rw [hLO, List.length_map, List.length_take]; omega
                 clear hLO
                 obtain ⟨w1, hw1⟩ : ∃ W, w0.alloc (.cells #[.int .i64 x] 3) = W := ⟨_, rfl⟩
                 have ho1 : ∀ bs, Only bs w0 w1 := fun bs => by rw [← hw1]; exact Only.alloc bs w0 _
                 have hb1 : Blk w1 bn 3 #[.int .i64 x] := by rw [← hw1, hbn]; exact Blk.new w0 3 _
                 have hS2 := HS1.out.only (ho1 []) (fun g hg hm => by cases hm)
                 have hA2 := HA1.out.only (ho1 []) (by simp)
                 have hzz : z3 ≤ w1.heap.size := by have := (ho1 []).size; have := HN5.out.size; have := HZ3.out; omega
                 obtain ⟨g, cap2, w2, hrun, sl2, hgr, _⟩ := sl_push_in hS2 x bn hb1 (by omega) hzz
                 obtain ⟨lN, hlN⟩ : ∃ y, y = LO.length + 1 := ⟨_, rfl⟩
                 rw [← hlN] at hrun sl2
                 have HRN := Lib.hid hrun
                 have hA3 := hA2.only (grown_only hgr) (fun hm => by
                  rw [Option.mem_toList] at hm
                  exact sl_off_blk hS2 hA2 (by decide) go hm (by simp))
                 have hN2 : Only [go] W3 w2 := (((HN5.out.trans (ho1 _)).mono (cs := go :: vO.ownBlock.toList) (fun r hr => .inl (by simp at hr; simp [hr]))).trans ((grown_only hgr).mono (fun r hr => .inl (List.mem_cons_of_mem _ hr)))).mono (fun r hr => by
                  rcases List.mem_cons.1 hr with h | h
                  ·
                   exact .inl (by simp [h])
                  ·
                   rw [Option.mem_toList] at h
                   have h1 := (HS1.out.lt r h).1
                   have h2 := HZ3.out
                   exact .inr (by omega))
                 have HSa : Hid (Only [go] V2 w1) := Lib.hid (hS.trans (ho1 _))
                 have HSb : Hid (Only [go] V2 w2) := Lib.hid (HN3.out.trans hN2)
                 have HSc : Hid (Only [go] V2 (w2.setCell ⟨go, i, none⟩ (.slice (some ⟨g, 0, none⟩) lN cap2))) := Lib.hid (HSb.out.trans (Only.setCell w2 _ _ (by simp)))
                 have HN6 : Hid (Only [go] W3 (w2.setCell ⟨go, i, none⟩ (.slice (some ⟨g, 0, none⟩) lN cap2))) := Lib.hid (hN2.trans (Only.setCell w2 _ _ (by simp)))
                 have HA6 : Hid (Blk (w2.setCell ⟨go, i, none⟩ (.slice (some ⟨g, 0, none⟩) lN cap2)) go 23 (Vs.set i (.slice (some ⟨g, 0, none⟩) lN cap2)).toArray) := Lib.hid (by
                  have := hA3.set_ i (.slice (some ⟨g, 0, none⟩) lN cap2)
                  rwa [List.setIfInBounds_toArray, List.set_set] at this)
                 have HS6 : Hid (Sl (w2.setCell ⟨go, i, none⟩ (.slice (some ⟨g, 0, none⟩) lN cap2)) z3 3 1 inC (.slice (some ⟨g, 0, none⟩) lN cap2) ((KL.take (q + 1)).map fun k => all.getD k.toNat 0)) := Lib.hid (by
                  rw [HL2.out]
                  exact sl2.only (Only.setCell w2 ⟨go, i, none⟩ (.slice (some ⟨g, 0, none⟩) lN cap2) (by simp)) (sl_off_blk sl2 hA3 (by decide)))
                 have hse : (Vs.set i vO).toArray[i]? = some vO := by rw [List.getElem?_toArray, List.getElem?_set_self (by rw [HO3.out.len]; exact hlt)]
                 have cv0 := HA1.out.cell i
                 have cv1 := hA2.cell i
                 have cv2 := hA3.cell i
                 have ff2 := hA3.frozen i
                 rw [hse] at cv0 cv1 cv2
                 have HBN := Lib.hid hbn
                 clear hbn hse hrun sl2 hgr hlN hA3 hA2 hS2 hb1 ho1 hzz hN2 HS1 HA1 HN5 HL2 HKK HXD
                 refine wpAnyH_ready (rs := [5, 10]) (by kernel_rfl) (by simp) ?_
                 refine AllReadyH.cons rfl (fun K hK => ?_) (AllReadyH.cons rfl (fun K hK => ?_) AllReadyH.nil)
                 ·
                  go_simp
                  refine hK.out _ _ (hS) (fun hS => ?_)
                  clear hK K
                  try simp only [Act.put, List.setIfInBounds_toArray, List.set_cons_zero, List.set_cons_succ]
                  refine wpAnyH_ready (rs := [10]) (by kernel_rfl) (by simp) ?_
                  refine AllReadyH.cons rfl (fun K hK => ?_) AllReadyH.nil
                  go_simp
                  rw [← HBN.out]
                  refine hK.out _ _ (HSa.out) (fun hS => ?_)
                  clear hK K
                  try simp only [Act.put, List.setIfInBounds_toArray, List.set_cons_zero, List.set_cons_succ]
                  refine wpAnyH_ready (rs := [11]) (by kernel_rfl) (by simp) ?_
                  refine AllReadyH.cons rfl (fun K hK => ?_) AllReadyH.nil
                  refine step_append_run (v := vO) (src := .slice (some ⟨bn, 0, none⟩) 1 1) rfl (.tmp 243) (.tmp 248) 23 23 rfl (by kernel_rfl) (by kernel_rfl) HRN.out ?_
                  change K (Act.put _ (some 249) _) _
                  refine hK.out _ _ (HSb.out) (fun hS => ?_)
                  clear hK K
                  try simp only [Act.put, List.setIfInBounds_toArray, List.set_cons_zero, List.set_cons_succ]
                  refine tk (i := 12) (v := ?_) rfl (by rfl) ?_ (by assumption) ?_
                  rotate_left
                  ·
                   intro w hSw
                   go_simp
                   with_reducible rfl
                  change wpAnyH _ _ _ _ _ _ _ (Act.put _ (some 250) _) _
                  simp only [Act.put, List.setIfInBounds_toArray, List.set_cons_zero, List.set_cons_succ]
                  refine wpAnyH_ready (rs := [13]) (by kernel_rfl) (by simp) ?_
                  refine AllReadyH.cons rfl (fun K hK => ?_) AllReadyH.nil
                  go_simp
                  generalize w2.setCell ⟨go, i, none⟩ (.slice (some ⟨g, 0, none⟩) lN cap2) = w4 at HSc HN6 HA6 HS6 ⊢
                  refine hK.out _ _ (HSc.out) (fun hS => ?_)
                  clear hK K
                  try simp only [Act.put, List.setIfInBounds_toArray, List.set_cons_zero, List.set_cons_succ]
                  refine wpAnyH_done (by kernel_rfl) ?_ _
                  clear cv0 cv1 cv2 ff2 HRN HSa HSb HSc hS hw1
                  go_wp2_with fail
                  go_roundw
                  case rel => exact ⟨q + 1, _, by omega, by go_num, HA6, HS6, HN6⟩
                  case measure => simp [intOf]; omega
                 ·
                  go_simp
                  rw [← HBN.out]
                  refine hK.out _ _ (HSa.out) (fun hS => ?_)
                  clear hK K
                  try simp only [Act.put, List.setIfInBounds_toArray, List.set_cons_zero, List.set_cons_succ]
                  refine wpAnyH_ready (rs := [5]) (by kernel_rfl) (by simp) ?_
                  refine AllReadyH.cons rfl (fun K hK => ?_) AllReadyH.nil
                  go_simp
                  refine hK.out _ _ (HSa.out) (fun hS => ?_)
                  clear hK K
                  try simp only [Act.put, List.setIfInBounds_toArray, List.set_cons_zero, List.set_cons_succ]
                  refine wpAnyH_ready (rs := [11]) (by kernel_rfl) (by simp) ?_
                  refine AllReadyH.cons rfl (fun K hK => ?_) AllReadyH.nil
                  refine step_append_run (v := vO) (src := .slice (some ⟨bn, 0, none⟩) 1 1) rfl (.tmp 243) (.tmp 248) 23 23 rfl (by kernel_rfl) (by kernel_rfl) HRN.out ?_
                  change K (Act.put _ (some 249) _) _
                  refine hK.out _ _ (HSb.out) (fun hS => ?_)
                  clear hK K
                  try simp only [Act.put, List.setIfInBounds_toArray, List.set_cons_zero, List.set_cons_succ]
                  refine tk (i := 12) (v := ?_) rfl (by rfl) ?_ (by assumption) ?_
                  rotate_left
                  ·
                   intro w hSw
                   go_simp
                   with_reducible rfl
                  change wpAnyH _ _ _ _ _ _ _ (Act.put _ (some 250) _) _
                  simp only [Act.put, List.setIfInBounds_toArray, List.set_cons_zero, List.set_cons_succ]
                  refine wpAnyH_ready (rs := [13]) (by kernel_rfl) (by simp) ?_
                  refine AllReadyH.cons rfl (fun K hK => ?_) AllReadyH.nil
                  go_simp
                  generalize w2.setCell ⟨go, i, none⟩ (.slice (some ⟨g, 0, none⟩) lN cap2) = w4 at HSc HN6 HA6 HS6 ⊢
                  refine hK.out _ _ (HSc.out) (fun hS => ?_)
                  clear hK K
                  try simp only [Act.put, List.setIfInBounds_toArray, List.set_cons_zero, List.set_cons_succ]
                  refine wpAnyH_done (by kernel_rfl) ?_ _
                  clear cv0 cv1 cv2 ff2 HRN HSa HSb HSc hS hw1
                  go_wp2_with fail
                  go_roundw
                  case rel => exact ⟨q + 1, _, by omega, by go_num, HA6, HS6, HN6⟩
                  case measure => simp [intOf]; omega
                ·
                 have hqki : ¬ (q : Int) < (nK : Int) := by omega
                 obtain rfl : nK = q := by omega
                 have HO4 : Hid (OutI all L.s n go (i + 1) (Vs.set i vO) wr) := Lib.hid (HO3.out.next HN4.out hlt HA.out (by have := HSO.out; rw [List.take_of_length_le (by rw [← HNK.out]; exact Nat.le_refl _), ← HNM.out] at this; exact this))
                 have HN5 : Hid (Only [go] V2 wr) := Lib.hid (HN3.out.trans HN4.out)
                 clear hqk HA HSO HN4
                 go_wp2_with fail
                 go_roundw
                 case rel => exact ⟨i + 1, _, by omega, by go_num, HO4, HN5⟩
                 case measure => simp [intOf]; omega
              ·
               have hlti : ¬ (i : Int) < (n : Int) := by omega
               obtain rfl : n = i := by omega
               have HZE := Lib.hid (HKZ.out wr HN2.out)
               have HLV : Hid (LvL l fr (fun i => (Q i).getD []) kd ((List.range n).map fun i => namesF all (L.s i))) := Lib.hid (by have := HZE.out.li.lvl HDI.out HUP.out HCL2.out; rw [← HN.out] at this; exact this)
               clear hlt
               go_wp2_with fail
               refine leaves_marks Ds wr HZE.out.nd HZE.out.ds fun w' ho => ?_
               exact ⟨_, results_tt (a := 6) (b := 7) rfl _ w' (.slice (some ⟨go, 0, none⟩) n n) (.int .i64 0) rfl rfl, (HIB.out wr (TR.out wr HZE.out.bl)).trans (ho.below (fun r hr => by have h1 := HZE.out.lo r hr; have h2 := hA0l; rw [HA0.out] at h2; omega) (HIB.out wr (TR.out wr HZE.out.bl)).size), _, _, 0, rfl, HO.out.ls HZE.out.ds ho (by omega), .inr ⟨HKD.out, .inr ⟨rfl, BL.out.inn, Q, BL.out.shut, HLV.out⟩⟩⟩
            | true =>
             have HMU := Lib.hid hmu
             have ff := HLZ.out.bc.frozen 0
             clear hmu HCL
             go_upto_region 36 with fail
             have LZ5 := Lib.hid (HLZ.out.note false)
             generalize wr.setCell ⟨c, 0, none⟩ (.bool false) = w5 at LZ5 ⊢
             clear HLZ cc ff
             have cA0 := HC1.out w5 LZ5.out.bl
             have hwn : wrap64 ((n : Int) - 1) = (n : Int) - 1 := by unfold wrap64; omega
             obtain ⟨ib0, hib0⟩ : ∃ q, q = w5.heap.size := ⟨_, rfl⟩
             have LZ6 := Lib.hid (LZ5.out.grow ((Below.refl _ w5).alloc (Nat.le_refl _) (.cells #[.int .i64 ((n : Int) - 1)] 3)) (Nat.le_refl _))
             have B6 : Hid (Blk (w5.alloc (.cells #[.int .i64 ((n : Int) - 1)] 3)) ib0 3 #[.int .i64 ((n : Int) - 1)] ∧ m1 ≤ ib0) := Lib.hid ⟨by rw [hib0]; exact Blk.new w5 3 _, by rw [hib0]; exact LZ5.out.sz⟩
             go_wp2_with fail
             generalize w5.alloc (.cells #[.int .i64 ((n : Int) - 1)] 3) = w6 at LZ6 B6 ⊢
             rw [← hib0]
             clear hib0 LZ5 cA0 hwn
             obtain ⟨M, hM⟩ : ∃ q, q = miss l.length all.length L.s := ⟨_, rfl⟩
             have PI6 : Hid (PI l.length all.length M L.s false (∀ j : Nat, ((n : Int) - 1) < j → j < l.length → Cl l fr (fun i => (Q i).getD []) D.s L.s j)) := Lib.hid ⟨fun _ => ⟨hM.symm, fun j h1 h2 => by have := HN.out; omega⟩, fun h => by cases h⟩
             rw [← hM] at HMU
             clear hM
             refine wp_loop_ghost_k (fun mu2 a' w' => ∃ (Ds : List Nat) (ib : Nat) (z : Int) (ch : Bool) (L : Row) (X : Nat → Value), (((z + 1).toNat = mu2 ∧ -1 ≤ z ∧ z < n) ∧ Hid (LZ l fr kd all (fun i => (Q i).getD []) m1 n p1 p2 g1 g2 D V1 L Ds c ch w') ∧ Hid (Blk w' ib 3 #[.int .i64 z] ∧ m1 ≤ ib) ∧ Hid (PI l.length all.length M L.s ch (∀ j : Nat, z < j → j < l.length → Cl l fr (fun i => (Q i).getD []) D.s L.s j))) ∧ (X 3 = .pointer (some ⟨A0, 0, none⟩) ∧ X 8 = .slice (some ⟨gB, 0, none⟩) n n ∧ X 9 = .slice (some ⟨gS, 0, none⟩) n n ∧ X 11 = .slice sA nA cA ∧ X 18 = .pointer (some ⟨p1, 0, none⟩) ∧ X 19 = .pointer (some ⟨p2, 0, none⟩) ∧ X 21 = .pointer (some ⟨c, 0, none⟩) ∧ X 22 = .pointer (some ⟨ib, 0, none⟩)) ∧ a' = { tmps := ((List.range 254).map X).toArray, defers := Ds.map rmark }) n ?atS2 ?rnd2
             case atS2 =>
              refine ⟨Ds, ib0, (n : Int) - 1, false, L, _, ⟨⟨by omega, by omega, by omega⟩, LZ6, B6, PI6⟩, ?_, congrArg (fun t => ({ tmps := t, defers := Ds.map rmark } : Act)) (tm_in (N := 254) rfl)⟩
              exact ⟨rfl, rfl, rfl, rfl, rfl, rfl, rfl, rfl⟩
             case rnd2 =>
              clear LZ6 B6 PI6
              intro mu2 a' wr hinv
              obtain ⟨Ds, ib, z, ch, L, X, ⟨⟨hmu2, hz1, hz2⟩, HLZ, HBI, HPI⟩, ⟨x3, x8, x9, x11, x18, x19, x21, x22⟩, ha⟩ := hinv
              subst ha
              rw [tm254, x3, x8, x9, x11, x18, x19, x21, x22]
              clear x3 x8 x9 x11 x18 x19 x21 x22
              intro J2 K2 hJ2 hK2
              have ci := HBI.out.1.cell 0
              simp only [List.getElem?_toArray, List.getElem?_cons_zero] at ci
              by_cases hz0 : 0 ≤ z
              ·
               obtain ⟨i, rfl⟩ : ∃ i : Nat, z = i := ⟨z.toNat, by omega⟩
               have HMU2 := Lib.hid hmu2
               have hin : i < n := by omega
               have hini : (i : Int) < (n : Int) := by omega
               have hil : i < l.length := by rw [← HN.out]; exact hin
               have cse := HSE.out wr HLZ.out.bl i hin
               clear hmu2 hz1 hz2 hz0
               obtain ⟨q, hq⟩ : ∃ q, q = (Q i).isSome := ⟨_, rfl⟩
               rw [← hq] at cse
               have HQ := Lib.hid hq
               clear hq
               cases q with
               | false =>
                have HNR : Hid (¬ Rch l fr i) := Lib.hid (fun h => by obtain ⟨t, e⟩ := (BL.out.shut.rch i).1 h; have := HQ.out; rw [e] at this; cases this)
                have HPW := Lib.hid (HPI.out.blind HNR.out)
                have HZW := HLZ
                have HBW := HBI
                clear HLZ HBI HPI HNR
                have ci := HBW.out.1.cell 0
                simp only [List.getElem?_toArray, List.getElem?_cons_zero] at ci
                go_upto_region 38 with fail
                obtain ⟨ib2, hib2⟩ : ∃ q, q = wr.heap.size := ⟨_, rfl⟩
                have LZA := Lib.hid (HZW.out.grow ((Below.refl _ wr).alloc (Nat.le_refl _) (.cells #[.int .i64 (i : Int)] 3)) (Nat.le_refl _))
                have BA : Hid (Blk (wr.alloc (.cells #[.int .i64 (i : Int)] 3)) ib2 3 #[.int .i64 (i : Int)] ∧ m1 ≤ ib2) := Lib.hid ⟨by rw [hib2]; exact Blk.new _ 3 _, by rw [hib2]; exact HZW.out.sz⟩
                generalize wr.alloc (.cells #[.int .i64 (i : Int)] 3) = wA at LZA BA ⊢
                rw [← hib2]
                clear hib2 HZW HBW ci
                have ca := BA.out.1.cell 0
                simp only [List.getElem?_toArray, List.getElem?_cons_zero] at ca
                have fa := BA.out.1.frozen 0
                have hwi : wrap64 ((i : Int) - 1) = (i : Int) - 1 := by unfold wrap64; omega
                have LZB := Lib.hid (LZA.out.far BA.out.1 (by decide) BA.out.2 (.int .i64 ((i : Int) - 1)))
                have BB : Hid (Blk (wA.setCell ⟨ib2, 0, none⟩ (.int .i64 ((i : Int) - 1))) ib2 3 #[.int .i64 ((i : Int) - 1)] ∧ m1 ≤ ib2) := Lib.hid ⟨by have := BA.out.1.set_ 0 (.int .i64 ((i : Int) - 1)); simpa using this, BA.out.2⟩
                go_wp2_with fail
                refine Handed.intro i (by have := HMU2.out; omega) (hJ2 _ _ _ ?_)
                refine ⟨_, ib2, (i : Int) - 1, ch, _, _, ⟨⟨by omega, by omega, by omega⟩, LZB, BB, HPW⟩, ?_, congrArg (fun t => ({ tmps := t, defers := _ } : Act)) (tm_in (N := 254) rfl)⟩
                exact ⟨rfl, rfl, rfl, rfl, rfl, rfl, rfl, rfl⟩
               | true =>
                have HRCH : Hid (Rch l fr i) := Lib.hid ((BL.out.shut.rch i).2 (by have h := HQ.out; cases e : Q i with | none => rw [e] at h; cases h | some t => exact ⟨t, rfl⟩))
                go_upto_region 40 with fail
                obtain ⟨b, o, rfl, hb, hc⟩ := HH.out.get (by omega)
                obtain ⟨f, hf, hfa, hcell⟩ := hc i hil
                have HF := Lib.hid hf
                have HFA := Lib.hid hfa
                have HCI : Hid (∀ W, Below m1 V1 W → ∀ j, j < 10 → W.cell? ⟨b, o + i * 10 + j, none⟩ = (imC f)[j]?) := Lib.hid (fun W hW j hj => by rw [← hcell j hj]; exact (HIB.out W (TR.out W hW)).cell (p := ⟨b, _, none⟩) hb)
                clear hc hf hfa hcell
                refine wp_region_held_drew (S := (fun w' => Below m1 V1 w' ∧ Blk w' ib 3 #[.int .i64 (i : Int)])) (by kernel_rfl) (⟨HLZ.out.bl.drew, (show Blk wr.drew ib 3 _ from HBI.out.1)⟩) (fun hS => ?_)
                have HZW := Lib.hid (HLZ.out.grow (Below.refl wr.heap.size wr).drew (Nat.le_refl _))
                have HBW : Hid (Blk wr.drew ib 3 #[.int .i64 (i : Int)] ∧ m1 ≤ ib) := HBI
                clear HLZ HBI ci cse
                generalize wr.drew = w0 at *
                refine tk (i := 0) (v := ?_) rfl (by rfl) ?_ (by assumption) ?_
                rotate_left
                ·
                 intro w hSw
                 have cc := HC1.out _ hSw.1
                 go_simp
                 with_reducible rfl
                change wpAnyH _ _ _ _ _ _ _ (Act.put _ (some 154) _) _
                simp only [Act.put, List.setIfInBounds_toArray, List.set_cons_zero, List.set_cons_succ]
                refine tk (i := 1) (v := ?_) rfl (by rfl) ?_ (by assumption) ?_
                rotate_left
                ·
                 intro w hSw
                 have cc := hSw.2.cell 0
                 simp only [List.getElem?_toArray, List.getElem?_cons_zero] at cc
                 go_simp
                 with_reducible rfl
                change wpAnyH _ _ _ _ _ _ _ (Act.put _ (some 155) _) _
                simp only [Act.put, List.setIfInBounds_toArray, List.set_cons_zero, List.set_cons_succ]
                refine tk (i := 2) (v := ?_) rfl (by rfl) ?_ (by assumption) ?_
                rotate_left
                ·
                 intro w hSw
                 go_simp
                 with_reducible rfl
                change wpAnyH _ _ _ _ _ _ _ (Act.put _ (some 156) _) _
                simp only [Act.put, List.setIfInBounds_toArray, List.set_cons_zero, List.set_cons_succ]
                refine tk (i := 3) (v := ?_) rfl (by rfl) ?_ (by assumption) ?_
                rotate_left
                ·
                 intro w hSw
                 have cc := hSw.2.cell 0
                 simp only [List.getElem?_toArray, List.getElem?_cons_zero] at cc
                 go_simp
                 with_reducible rfl
                change wpAnyH _ _ _ _ _ _ _ (Act.put _ (some 157) _) _
                simp only [Act.put, List.setIfInBounds_toArray, List.set_cons_zero, List.set_cons_succ]
                refine wpAnyH_ready (rs := [4]) (by kernel_rfl) (by simp) ?_
                refine AllReadyH.cons rfl (fun K hK => ?_) AllReadyH.nil
                go_simp
                refine (callsIn_wide.1 (targ36 Fence.wide 1 trivial rfl b (o + i * 10) i w0)).mono ?_
                rintro e wS ⟨rfl, hwS⟩
                obtain ⟨Dd, hD⟩ : ∃ q, q = w0.heap.size + 2 := ⟨_, rfl⟩
                have BS : Hid (Below w0.heap.size w0 wS) := Lib.hid (by rw [hwS]; exact ((Below.refl _ w0).alloc (Nat.le_refl _) _).alloc (by simp) _)
                have ZS : Hid (wS.heap.size = Dd) := Lib.hid (by rw [hwS, hD]; simp)
                have XS1 : Hid (Boxed wS (Dd - 2) 67 (.pointer (some ⟨b, o + i * 10, none⟩))) := Lib.hid (by rw [hwS, hD, Nat.add_sub_cancel]; exact (Boxed.new w0 67 _).alloc _)
                have XS2 : Hid (Boxed wS (Dd - 1) 3 (.int .i64 i)) := Lib.hid (by rw [hwS, hD]; have := Boxed.new (w0.alloc (.cells #[.pointer (some ⟨b, o + i * 10, none⟩)] 67)) 3 (.int .i64 i); rw [World.size_alloc] at this; exact this)
                have eD1 : w0.heap.size = Dd - 2 := by omega
                have eD2 : Dd - 2 + 1 = Dd - 1 := by omega
                rw [eD1, eD2]
                have HLOW : Hid (LowD p1 p2 g1 g2 c ib Dd m1 n D Ds) := Lib.hid ⟨by have h1 := HZW.out.ld.x1.lt; have h2 := HZW.out.ld.x2.lt; have h3 := HZW.out.ld.fl.arr.lt; have h4 := HZW.out.ld.fd.arr.lt; have h5 := HZW.out.bc.lt; have h6 := HBW.out.1.lt; have h7 := HBW.out.2; have h8 := HZW.out.sz; omega, fun d hd => by have := (Array.getElem?_eq_some_iff.1 (HZW.out.ds d hd)).1; omega, fun j hj r hr => by have := ((HZW.out.ld.fd.set j hj).lt r hr).2; omega⟩
                have HZS := Lib.hid (HZW.out.grow BS.out (Nat.le_refl _))
                have HBS : Hid (Blk wS ib 3 #[.int .i64 (i : Int)]) := Lib.hid (HBW.out.1.below BS.out HBW.out.1.lt)
                have HWM : Hid (w.heap.size ≤ m1) := Lib.hid (by rw [← HA0.out]; have := hA0l; omega)
                have HRL : Hid (RLJ l fr kd all (fun i => (Q i).getD []) m1 n p1 p2 g1 g2 D V1 Ds c M Dd ib b (o + i * 10) i f 0 L ch ch wS) := Lib.hid ⟨HZS.out, HBS.out, ⟨XS1.out, XS2.out, HCI.out wS HZS.out.bl, HFA.out.cases.keep (HIB.out wS (TR.out wS HZS.out.bl))⟩, fun j hj r hr => nin2 (by have := ((HZW.out.ld.fl.set j hj).lt r hr).2; omega), HPI.out.keep (fun h => ⟨fun j h1 h2 => h j (by omega) h2, fun a _ j h => by omega⟩)⟩
                have HBLW := Lib.hid HZS.out.bl
                clear hwS hD BS XS1 XS2 HZW HBW HZS HPI eD1 eD2
                go_wp2_with fail
                refine hK.out _ _ (⟨HBLW.out, HBS.out⟩) (fun hS => ?_)
                clear hK K
                try simp only [Act.put, List.setIfInBounds_toArray, List.set_cons_zero, List.set_cons_succ]
                refine wpAnyH_done (by kernel_rfl) ?_ _
                go_wp2_with fail
                refine (wpIn_wide (n := 3)).1 ?_
                have hDlt := HLOW.out.lt
                refine' wpIn_rangeFunc_P (F := Fence.wide) (n := 3) rfl (by omega) (gf := 59) (lb := #[.pointer (some ⟨Dd - 2, 0, none⟩), .pointer (some ⟨Dd - 1, 0, none⟩)]) rfl trivial (enters_of Tryd.func59 (by kernel_rfl) rfl)
                 (targ_reads Fence.wide (3 - 1) trivial rfl (by omega) (Dd - 2) (Dd - 1) b (o + i * 10) f i (by omega) (by omega))
                 (fun _ => rfl)
                 (fun k W => RLI l fr kd all (fun i => (Q i).getD []) m1 n p1 p2 g1 g2 D V1 Ds c M Dd ib b (o + i * 10) i f k W) (fun _ _ _ => False) ?abides (fun _ _ _ _ h _ => h) (fun _ _ h => by obtain ⟨_, _, h⟩ := h; exact h.pre) ⟨_, _, HRL.out⟩
                 _ ?assign ?body ?done ?stop
                case assign =>
                 intro l' x W K hK
                 gi_wp2
                 exact hK
                case abides =>
                 rw [ZS.out]
                 rintro k A B ⟨L', ch', h⟩ ho
                 exact ⟨L', ch', h.abide ho HLOW.out HFA.out.cases hb HWM.out⟩
                case body =>
                 rw [ZS.out]
                 rintro l' k hk W ⟨L', ch', hI⟩ hz
                 have hkx : k < (targF f.x i).length := hk
                 obtain ⟨x, hx⟩ : ∃ x, x = (targF f.x i)[k] := ⟨_, rfl⟩
                 rw [← hx]
                 have HX := Lib.hid hx
                 have HR : Hid (RLJ l fr kd all (fun i => (Q i).getD []) m1 n p1 p2 g1 g2 D V1 Ds c M Dd ib b (o + i * 10) i f k L' ch' ch' W.drew) := Lib.hid (hI.abide (Only.drew _ W) HLOW.out HFA.out.cases hb HWM.out)
                 have hSd := HR.out.z.reads HR.out.bi
                 have HWD : Hid (W.drew.heap[Dd]? = W.heap[Dd]? ∧ W.drew.heap[Dd + 1]? = W.heap[Dd + 1]?) := Lib.hid ⟨rfl, rfl⟩
                 have HZL : Hid (Dd + 2 ≤ W.drew.heap.size) := Lib.hid hz
                 clear hx hI hz
                 gi_upto_region 42 with fail
                 refine round_region_held (S := fun w' => SZ m1 n p1 p2 g1 g2 ib i L'.T D.T V1 w') (by kernel_rfl) (by kernel_rfl) (fun ⟨_, _, h⟩ => h) hSd (fun hS => ?_)
                 clear hSd
                 generalize W.drew = w0 at *
                 by_cases hx0 : 0 ≤ x
                 ·
                  have e0 : decide (0 ≤ x) = true := by simpa using hx0
                  by_cases hxn : x < (n : Int)
                  ·
                   obtain ⟨j, rfl⟩ : ∃ j : Nat, x = j := ⟨x.toNat, by omega⟩
                   have hjn : j < n := by omega
                   have PTI : Hid (L'.T[i]? = some (.pointer (some ⟨L'.b i, 0, none⟩))) := Lib.hid (HR.out.z.ld.fl.ptr i hin)
                   have PTJ : Hid (L'.T[j]? = some (.pointer (some ⟨L'.b j, 0, none⟩))) := Lib.hid (HR.out.z.ld.fl.ptr j hjn)
                   have PTD : Hid (D.T[i]? = some (.pointer (some ⟨D.b i, 0, none⟩))) := Lib.hid (HR.out.z.ld.fd.ptr i hin)
                   refine tk (i := 0) (v := ?_) rfl (by rfl) ?_ (by assumption) ?_
                   rotate_left
                   ·
                    intro w hSw
                    go_simp
                    with_reducible rfl
                   change wpAnyH _ _ _ _ _ _ _ (Act.put _ (some 160) _) _
                   simp only [Act.put, List.setIfInBounds_toArray, List.set_cons_zero, List.set_cons_succ]
                   refine tk (i := 1) (v := ?_) rfl (by rfl) ?_ (by assumption) ?_
                   rotate_left
                   ·
                    intro w hSw
                    go_simp
                    with_reducible rfl
                   change wpAnyH _ _ _ _ _ _ _ (Act.put _ (some 161) _) _
                   simp only [Act.put, List.setIfInBounds_toArray, List.set_cons_zero, List.set_cons_succ]
                   refine tk (i := 2) (v := ?_) rfl (by rfl) ?_ (by assumption) ?_
                   rotate_left
                   ·
                    intro w hSw
                    go_simp
                    with_reducible rfl
                   change wpAnyH _ _ _ _ _ _ _ (Act.put _ (some 162) _) _
                   simp only [Act.put, List.setIfInBounds_toArray, List.set_cons_zero, List.set_cons_succ]
                   refine tk (i := 3) (v := ?_) rfl (by rfl) ?_ (by assumption) ?_
                   rotate_left
                   ·
                    intro w hSw
                    go_simp
                    with_reducible rfl
                   change wpAnyH _ _ _ _ _ _ _ (Act.put _ (some 163) _) _
                   simp only [Act.put, List.setIfInBounds_toArray, List.set_cons_zero, List.set_cons_succ]
                   refine tk (i := 4) (v := ?_) rfl (by rfl) ?_ (by assumption) ?_
                   rotate_left
                   ·
                    intro w hSw
                    have cc := HC1.out _ hSw.bl
                    go_simp
                    with_reducible rfl
                   change wpAnyH _ _ _ _ _ _ _ (Act.put _ (some 164) _) _
                   simp only [Act.put, List.setIfInBounds_toArray, List.set_cons_zero, List.set_cons_succ]
                   refine tk (i := 5) (v := ?_) rfl (by rfl) ?_ (by assumption) ?_
                   rotate_left
                   ·
                    intro w hSw
                    go_simp
                    with_reducible rfl
                   change wpAnyH _ _ _ _ _ _ _ (Act.put _ (some 165) _) _
                   simp only [Act.put, List.setIfInBounds_toArray, List.set_cons_zero, List.set_cons_succ]
                   refine tk (i := 6) (v := ?_) rfl (by rfl) ?_ (by assumption) ?_
                   rotate_left
                   ·
                    intro w hSw
                    go_simp
                    with_reducible rfl
                   change wpAnyH _ _ _ _ _ _ _ (Act.put _ (some 166) _) _
                   simp only [Act.put, List.setIfInBounds_toArray, List.set_cons_zero, List.set_cons_succ]
                   refine tk (i := 7) (v := ?_) rfl (by rfl) ?_ (by assumption) ?_
                   rotate_left
                   ·
                    intro w hSw
                    go_simp
                    with_reducible rfl
                   change wpAnyH _ _ _ _ _ _ _ (Act.put _ (some 167) _) _
                   simp only [Act.put, List.setIfInBounds_toArray, List.set_cons_zero, List.set_cons_succ]
                   refine tk (i := 8) (v := ?_) rfl (by rfl) ?_ (by assumption) ?_
                   rotate_left
                   ·
                    intro w hSw
                    go_simp
                    with_reducible rfl
                   change wpAnyH _ _ _ _ _ _ _ (Act.put _ (some 168) _) _
                   simp only [Act.put, List.setIfInBounds_toArray, List.set_cons_zero, List.set_cons_succ]
                   refine tk (i := 9) (v := ?_) rfl (by rfl) ?_ (by assumption) ?_
                   rotate_left
                   ·
                    intro w hSw
                    have cc := hSw.x1.cell 0
                    simp only [List.getElem?_toArray, List.getElem?_cons_zero] at cc
                    go_simp
                    with_reducible rfl
                   change wpAnyH _ _ _ _ _ _ _ (Act.put _ (some 169) _) _
                   simp only [Act.put, List.setIfInBounds_toArray, List.set_cons_zero, List.set_cons_succ]
                   refine tk (i := 10) (v := ?_) rfl (by rfl) ?_ (by assumption) ?_
                   rotate_left
                   ·
                    intro w hSw
                    have cc := hSw.bi.cell 0
                    simp only [List.getElem?_toArray, List.getElem?_cons_zero] at cc
                    go_simp
                    with_reducible rfl
                   change wpAnyH _ _ _ _ _ _ _ (Act.put _ (some 170) _) _
                   simp only [Act.put, List.setIfInBounds_toArray, List.set_cons_zero, List.set_cons_succ]
                   refine tk (i := 11) (v := ?_) rfl (by rfl) ?_ (by assumption) ?_
                   rotate_left
                   ·
                    intro w hSw
                    go_simp
                    with_reducible rfl
                   change wpAnyH _ _ _ _ _ _ _ (Act.put _ (some 171) _) _
                   simp only [Act.put, List.setIfInBounds_toArray, List.set_cons_zero, List.set_cons_succ]
                   refine tk (i := 12) (v := ?_) rfl (by rfl) ?_ (by assumption) ?_
                   rotate_left
                   ·
                    intro w hSw
                    have cc := hSw.a1.cell i
                    rw [List.getElem?_toArray, PTI.out] at cc
                    go_simp
                    with_reducible rfl
                   change wpAnyH _ _ _ _ _ _ _ (Act.put _ (some 172) _) _
                   simp only [Act.put, List.setIfInBounds_toArray, List.set_cons_zero, List.set_cons_succ]
                   refine tk (i := 13) (v := ?_) rfl (by rfl) ?_ (by assumption) ?_
                   rotate_left
                   ·
                    intro w hSw
                    have cc := hSw.x1.cell 0
                    simp only [List.getElem?_toArray, List.getElem?_cons_zero] at cc
                    go_simp
                    with_reducible rfl
                   change wpAnyH _ _ _ _ _ _ _ (Act.put _ (some 173) _) _
                   simp only [Act.put, List.setIfInBounds_toArray, List.set_cons_zero, List.set_cons_succ]
                   refine tk (i := 14) (v := ?_) rfl (by rfl) ?_ (by assumption) ?_
                   rotate_left
                   ·
                    intro w hSw
                    go_simp
                    with_reducible rfl
                   change wpAnyH _ _ _ _ _ _ _ (Act.put _ (some 174) _) _
                   simp only [Act.put, List.setIfInBounds_toArray, List.set_cons_zero, List.set_cons_succ]
                   refine tk (i := 15) (v := ?_) rfl (by rfl) ?_ (by assumption) ?_
                   rotate_left
                   ·
                    intro w hSw
                    go_simp
                    with_reducible rfl
                   change wpAnyH _ _ _ _ _ _ _ (Act.put _ (some 175) _) _
                   simp only [Act.put, List.setIfInBounds_toArray, List.set_cons_zero, List.set_cons_succ]
                   refine tk (i := 16) (v := ?_) rfl (by rfl) ?_ (by assumption) ?_
                   rotate_left
                   ·
                    intro w hSw
                    have cc := hSw.a1.cell j
                    rw [List.getElem?_toArray, PTJ.out] at cc
                    go_simp
                    with_reducible rfl
                   change wpAnyH _ _ _ _ _ _ _ (Act.put _ (some 176) _) _
                   simp only [Act.put, List.setIfInBounds_toArray, List.set_cons_zero, List.set_cons_succ]
                   refine tk (i := 17) (v := ?_) rfl (by rfl) ?_ (by assumption) ?_
                   rotate_left
                   ·
                    intro w hSw
                    have cc := hSw.x2.cell 0
                    simp only [List.getElem?_toArray, List.getElem?_cons_zero] at cc
                    go_simp
                    with_reducible rfl
                   change wpAnyH _ _ _ _ _ _ _ (Act.put _ (some 177) _) _
                   simp only [Act.put, List.setIfInBounds_toArray, List.set_cons_zero, List.set_cons_succ]
                   refine tk (i := 18) (v := ?_) rfl (by rfl) ?_ (by assumption) ?_
                   rotate_left
                   ·
                    intro w hSw
                    have cc := hSw.bi.cell 0
                    simp only [List.getElem?_toArray, List.getElem?_cons_zero] at cc
                    go_simp
                    with_reducible rfl
                   change wpAnyH _ _ _ _ _ _ _ (Act.put _ (some 178) _) _
                   simp only [Act.put, List.setIfInBounds_toArray, List.set_cons_zero, List.set_cons_succ]
                   refine tk (i := 19) (v := ?_) rfl (by rfl) ?_ (by assumption) ?_
                   rotate_left
                   ·
                    intro w hSw
                    go_simp
                    with_reducible rfl
                   change wpAnyH _ _ _ _ _ _ _ (Act.put _ (some 179) _) _
                   simp only [Act.put, List.setIfInBounds_toArray, List.set_cons_zero, List.set_cons_succ]
                   refine tk (i := 20) (v := ?_) rfl (by rfl) ?_ (by assumption) ?_
                   rotate_left
                   ·
                    intro w hSw
                    have cc := hSw.a2.cell i
                    rw [List.getElem?_toArray, PTD.out] at cc
                    go_simp
                    with_reducible rfl
                   change wpAnyH _ _ _ _ _ _ _ (Act.put _ (some 180) _) _
                   simp only [Act.put, List.setIfInBounds_toArray, List.set_cons_zero, List.set_cons_succ]
                   by_cases hji : j = i
                   ·
                    subst hji
                    have HSELF : Hid (∀ j2 : Nat, (targF f.x j)[k] = j2 → j2 < l.length → ClT l D.s L'.s j j2) := Lib.hid (fun j2 e _ => by
                     have h1 := HX.out
                     rw [e] at h1
                     have h2 : j = j2 := by omega
                     subst h2
                     exact fun _ h _ => h)
                    refine wpAnyH_ready (rs := [21]) (by kernel_rfl) (by simp) ?_
                    refine AllReadyH.cons rfl (fun K hK => ?_) AllReadyH.nil
                    go_simp
                    refine (HR.out.z.selfs HN.out HAL9.out hin).mono ?_
                    rintro e w1 ⟨rfl, rfl⟩
                    go_wp2_with fail
                    refine hK.out _ _ (hS) (fun hS => ?_)
                    clear hK K
                    try simp only [Act.put, List.setIfInBounds_toArray, List.set_cons_zero, List.set_cons_succ]
                    refine tk (i := 22) (v := ?_) rfl (by rfl) ?_ (by assumption) ?_
                    rotate_left
                    ·
                     intro w hSw
                     go_simp
                     with_reducible rfl
                    change wpAnyH _ _ _ _ _ _ _ (Act.put _ (some 182) _) _
                    simp only [Act.put, List.setIfInBounds_toArray, List.set_cons_zero, List.set_cons_succ]
                    refine wpAnyH_done (by kernel_rfl) ?_ _
                    gi_wp2_with fail
                    exact ⟨HWD.out, L', ch', HR.out.skip hkx HSELF.out⟩
                   ·
                    obtain ⟨r, hr⟩ : ∃ r, r = joinB (L'.s j) (D.s i) (L'.s i) := ⟨_, rfl⟩
                    have CJ := HR.out.z.calls HN.out HAL9.out hin hjn hji
                    rw [← hr] at CJ
                    have CJ2 := Lib.hid CJ
                    have FX := fix_step HR.out.z.li HDI.out hil (by rw [← HN.out]; exact hjn) HRCH.out (by rw [← HF.out, HX.out]; exact List.getElem_mem _) (HR.out.z.w64 hjn)
                    rw [← hr] at FX
                    have HFX := Lib.hid FX
                    clear CJ FX hr
                    refine wpAnyH_ready (rs := [21]) (by kernel_rfl) (by simp) ?_
                    refine AllReadyH.cons rfl (fun K hK => ?_) AllReadyH.nil
                    go_simp
                    refine CJ2.out.mono ?_
                    rintro e w1 ⟨rfl, o', s1, s2, s3⟩
                    have hS1 := hS.joined HR.out.z.sz (HR.out.z.ld.fl.set i hin) s3
                    have RJ := Lib.hid (HR.out.join HFA.out.cases hb HWM.out hin hkx HX.out.symm s1 s2 s3 HZL.out HFX.out.1 HFX.out.2.1 HFX.out.2.2)
                    have KD : Hid (w1.heap[Dd]? = W.heap[Dd]? ∧ w1.heap[Dd + 1]? = W.heap[Dd + 1]?) := Lib.hid ⟨(s3.block Dd (by have := HZL.out; omega) (fun hm => HR.out.offL i hin Dd hm (by simp))).trans HWD.out.1, (s3.block (Dd + 1) (by have := HZL.out; omega) (fun hm => HR.out.offL i hin (Dd + 1) hm (by simp))).trans HWD.out.2⟩
                    clear s1 s2 s3 CJ2 HFX HR HWD HZL PTI PTJ PTD
                    go_wp2_with fail
                    refine hK.out _ _ (hS1) (fun hS => ?_)
                    clear hK K
                    try simp only [Act.put, List.setIfInBounds_toArray, List.set_cons_zero, List.set_cons_succ]
                    refine tk (i := 22) (v := ?_) rfl (by rfl) ?_ (by assumption) ?_
                    rotate_left
                    ·
                     intro w hSw
                     go_simp
                     with_reducible rfl
                    change wpAnyH _ _ _ _ _ _ _ (Act.put _ (some 182) _) _
                    simp only [Act.put, List.setIfInBounds_toArray, List.set_cons_zero, List.set_cons_succ]
                    refine wpAnyH_done (by kernel_rfl) ?_ _
                    cases r with
                    | false =>
                     rw [Bool.or_false] at RJ
                     gi_wp2_with fail
                     exact ⟨KD.out, _, _, RJ.out⟩
                    | true =>
                     rw [Bool.or_true] at RJ
                     have cc := RJ.out.z.bc.cell 0
                     have ff := RJ.out.z.bc.frozen 0
                     simp only [List.getElem?_toArray, List.getElem?_cons_zero] at cc
                     have RN := Lib.hid (RJ.out.note HFA.out.cases hb HWM.out true)
                     have KN : Hid ((w1.setCell ⟨c, 0, none⟩ (.bool true)).heap[Dd]? = W.heap[Dd]? ∧ (w1.setCell ⟨c, 0, none⟩ (.bool true)).heap[Dd + 1]? = W.heap[Dd + 1]?) := Lib.hid ⟨(Below.heap_setCell w1 ⟨c, 0, none⟩ _ Dd (by have := hDlt; show Dd ≠ c; omega)).trans KD.out.1, (Below.heap_setCell w1 ⟨c, 0, none⟩ _ (Dd + 1) (by have := hDlt; show Dd + 1 ≠ c; omega)).trans KD.out.2⟩
                     clear KD
                     gi_wp2_with fail
                     exact ⟨KN.out, _, _, RN.out⟩
                  ·
                   have e1 : decide (x < (n : Int)) = false := by simpa using hxn
                   refine tk (i := 0) (v := ?_) rfl (by rfl) ?_ (by assumption) ?_
                   rotate_left
                   ·
                    intro w hSw
                    go_simp
                    with_reducible rfl
                   change wpAnyH _ _ _ _ _ _ _ (Act.put _ (some 160) _) _
                   simp only [Act.put, List.setIfInBounds_toArray, List.set_cons_zero, List.set_cons_succ]
                   refine tk (i := 1) (v := ?_) rfl (by rfl) ?_ (by assumption) ?_
                   rotate_left
                   ·
                    intro w hSw
                    go_simp
                    with_reducible rfl
                   change wpAnyH _ _ _ _ _ _ _ (Act.put _ (some 161) _) _
                   simp only [Act.put, List.setIfInBounds_toArray, List.set_cons_zero, List.set_cons_succ]
                   refine tk (i := 2) (v := ?_) rfl (by rfl) ?_ (by assumption) ?_
                   rotate_left
                   ·
                    intro w hSw
                    go_simp
                    with_reducible rfl
                   change wpAnyH _ _ _ _ _ _ _ (Act.put _ (some 162) _) _
                   simp only [Act.put, List.setIfInBounds_toArray, List.set_cons_zero, List.set_cons_succ]
                   refine tk (i := 3) (v := ?_) rfl (by rfl) ?_ (by assumption) ?_
                   rotate_left
                   ·
                    intro w hSw
                    go_simp
                    with_reducible rfl
                   change wpAnyH _ _ _ _ _ _ _ (Act.put _ (some 163) _) _
                   simp only [Act.put, List.setIfInBounds_toArray, List.set_cons_zero, List.set_cons_succ]
                   refine tk (i := 4) (v := ?_) rfl (by rfl) ?_ (by assumption) ?_
                   rotate_left
                   ·
                    intro w hSw
                    have cc := HC1.out _ hSw.bl
                    go_simp
                    with_reducible rfl
                   change wpAnyH _ _ _ _ _ _ _ (Act.put _ (some 164) _) _
                   simp only [Act.put, List.setIfInBounds_toArray, List.set_cons_zero, List.set_cons_succ]
                   refine tk (i := 5) (v := ?_) rfl (by rfl) ?_ (by assumption) ?_
                   rotate_left
                   ·
                    intro w hSw
                    go_simp
                    with_reducible rfl
                   change wpAnyH _ _ _ _ _ _ _ (Act.put _ (some 165) _) _
                   simp only [Act.put, List.setIfInBounds_toArray, List.set_cons_zero, List.set_cons_succ]
                   refine tk (i := 6) (v := ?_) rfl (by rfl) ?_ (by assumption) ?_
                   rotate_left
                   ·
                    intro w hSw
                    go_simp
                    with_reducible rfl
                   change wpAnyH _ _ _ _ _ _ _ (Act.put _ (some 166) _) _
                   simp only [Act.put, List.setIfInBounds_toArray, List.set_cons_zero, List.set_cons_succ]
                   refine tk (i := 7) (v := ?_) rfl (by rfl) ?_ (by assumption) ?_
                   rotate_left
                   ·
                    intro w hSw
                    go_simp
                    with_reducible rfl
                   change wpAnyH _ _ _ _ _ _ _ (Act.put _ (some 167) _) _
                   simp only [Act.put, List.setIfInBounds_toArray, List.set_cons_zero, List.set_cons_succ]
                   refine tk (i := 8) (v := ?_) rfl (by rfl) ?_ (by assumption) ?_
                   rotate_left
                   ·
                    intro w hSw
                    go_simp
                    with_reducible rfl
                   change wpAnyH _ _ _ _ _ _ _ (Act.put _ (some 168) _) _
                   simp only [Act.put, List.setIfInBounds_toArray, List.set_cons_zero, List.set_cons_succ]
                   refine tks (i := 9) rfl (by rfl) (by assumption) ?_
                   change wpAnyH _ _ _ _ _ _ _ (Act.put _ (some 169) _) _
                   simp only [Act.put, List.setIfInBounds_toArray, List.set_cons_zero, List.set_cons_succ]
                   refine tks (i := 10) rfl (by rfl) (by assumption) ?_
                   change wpAnyH _ _ _ _ _ _ _ (Act.put _ (some 170) _) _
                   simp only [Act.put, List.setIfInBounds_toArray, List.set_cons_zero, List.set_cons_succ]
                   refine tks (i := 11) rfl (by rfl) (by assumption) ?_
                   change wpAnyH _ _ _ _ _ _ _ (Act.put _ (some 171) _) _
                   simp only [Act.put, List.setIfInBounds_toArray, List.set_cons_zero, List.set_cons_succ]
                   refine tks (i := 12) rfl (by rfl) (by assumption) ?_
                   change wpAnyH _ _ _ _ _ _ _ (Act.put _ (some 172) _) _
                   simp only [Act.put, List.setIfInBounds_toArray, List.set_cons_zero, List.set_cons_succ]
                   refine tks (i := 13) rfl (by rfl) (by assumption) ?_
                   change wpAnyH _ _ _ _ _ _ _ (Act.put _ (some 173) _) _
                   simp only [Act.put, List.setIfInBounds_toArray, List.set_cons_zero, List.set_cons_succ]
                   refine tks (i := 14) rfl (by rfl) (by assumption) ?_
                   change wpAnyH _ _ _ _ _ _ _ (Act.put _ (some 174) _) _
                   simp only [Act.put, List.setIfInBounds_toArray, List.set_cons_zero, List.set_cons_succ]
                   refine tks (i := 15) rfl (by rfl) (by assumption) ?_
                   change wpAnyH _ _ _ _ _ _ _ (Act.put _ (some 175) _) _
                   simp only [Act.put, List.setIfInBounds_toArray, List.set_cons_zero, List.set_cons_succ]
                   refine tks (i := 16) rfl (by rfl) (by assumption) ?_
                   change wpAnyH _ _ _ _ _ _ _ (Act.put _ (some 176) _) _
                   simp only [Act.put, List.setIfInBounds_toArray, List.set_cons_zero, List.set_cons_succ]
                   refine tks (i := 17) rfl (by rfl) (by assumption) ?_
                   change wpAnyH _ _ _ _ _ _ _ (Act.put _ (some 177) _) _
                   simp only [Act.put, List.setIfInBounds_toArray, List.set_cons_zero, List.set_cons_succ]
                   refine tks (i := 18) rfl (by rfl) (by assumption) ?_
                   change wpAnyH _ _ _ _ _ _ _ (Act.put _ (some 178) _) _
                   simp only [Act.put, List.setIfInBounds_toArray, List.set_cons_zero, List.set_cons_succ]
                   refine tks (i := 19) rfl (by rfl) (by assumption) ?_
                   change wpAnyH _ _ _ _ _ _ _ (Act.put _ (some 179) _) _
                   simp only [Act.put, List.setIfInBounds_toArray, List.set_cons_zero, List.set_cons_succ]
                   refine tks (i := 20) rfl (by rfl) (by assumption) ?_
                   change wpAnyH _ _ _ _ _ _ _ (Act.put _ (some 180) _) _
                   simp only [Act.put, List.setIfInBounds_toArray, List.set_cons_zero, List.set_cons_succ]
                   refine tks (i := 21) rfl (by rfl) (by assumption) ?_
                   change wpAnyH _ _ _ _ _ _ _ (Act.put _ (some 181) _) _
                   simp only [Act.put, List.setIfInBounds_toArray, List.set_cons_zero, List.set_cons_succ]
                   refine tk (i := 22) (v := ?_) rfl (by rfl) ?_ (by assumption) ?_
                   rotate_left
                   ·
                    intro w hSw
                    go_simp
                    with_reducible rfl
                   change wpAnyH _ _ _ _ _ _ _ (Act.put _ (some 182) _) _
                   simp only [Act.put, List.setIfInBounds_toArray, List.set_cons_zero, List.set_cons_succ]
                   refine wpAnyH_done (by kernel_rfl) ?_ _
                   gi_wp2_with fail
                   exact ⟨HWD.out, L', ch', HR.out.skip hkx (fun j e hj => by have := HX.out; rw [e] at this; have := HN.out; omega)⟩
                 ·
                  have e0 : decide (0 ≤ x) = false := by simpa using hx0
                  refine tk (i := 0) (v := ?_) rfl (by rfl) ?_ (by assumption) ?_
                  rotate_left
                  ·
                   intro w hSw
                   go_simp
                   with_reducible rfl
                  change wpAnyH _ _ _ _ _ _ _ (Act.put _ (some 160) _) _
                  simp only [Act.put, List.setIfInBounds_toArray, List.set_cons_zero, List.set_cons_succ]
                  refine tk (i := 1) (v := ?_) rfl (by rfl) ?_ (by assumption) ?_
                  rotate_left
                  ·
                   intro w hSw
                   go_simp
                   with_reducible rfl
                  change wpAnyH _ _ _ _ _ _ _ (Act.put _ (some 161) _) _
                  simp only [Act.put, List.setIfInBounds_toArray, List.set_cons_zero, List.set_cons_succ]
                  refine tk (i := 2) (v := ?_) rfl (by rfl) ?_ (by assumption) ?_
                  rotate_left
                  ·
                   intro w hSw
                   go_simp
                   with_reducible rfl
                  change wpAnyH _ _ _ _ _ _ _ (Act.put _ (some 162) _) _
                  simp only [Act.put, List.setIfInBounds_toArray, List.set_cons_zero, List.set_cons_succ]
                  refine tks (i := 3) rfl (by rfl) (by assumption) ?_
                  change wpAnyH _ _ _ _ _ _ _ (Act.put _ (some 163) _) _
                  simp only [Act.put, List.setIfInBounds_toArray, List.set_cons_zero, List.set_cons_succ]
                  refine tks (i := 4) rfl (by rfl) (by assumption) ?_
                  change wpAnyH _ _ _ _ _ _ _ (Act.put _ (some 164) _) _
                  simp only [Act.put, List.setIfInBounds_toArray, List.set_cons_zero, List.set_cons_succ]
                  refine tks (i := 5) rfl (by rfl) (by assumption) ?_
                  change wpAnyH _ _ _ _ _ _ _ (Act.put _ (some 165) _) _
                  simp only [Act.put, List.setIfInBounds_toArray, List.set_cons_zero, List.set_cons_succ]
                  refine tks (i := 6) rfl (by rfl) (by assumption) ?_
                  change wpAnyH _ _ _ _ _ _ _ (Act.put _ (some 166) _) _
                  simp only [Act.put, List.setIfInBounds_toArray, List.set_cons_zero, List.set_cons_succ]
                  refine tk (i := 7) (v := ?_) rfl (by rfl) ?_ (by assumption) ?_
                  rotate_left
                  ·
                   intro w hSw
                   go_simp
                   with_reducible rfl
                  change wpAnyH _ _ _ _ _ _ _ (Act.put _ (some 167) _) _
                  simp only [Act.put, List.setIfInBounds_toArray, List.set_cons_zero, List.set_cons_succ]
                  refine tk (i := 8) (v := ?_) rfl (by rfl) ?_ (by assumption) ?_
                  rotate_left
                  ·
                   intro w hSw
                   go_simp
                   with_reducible rfl
                  change wpAnyH _ _ _ _ _ _ _ (Act.put _ (some 168) _) _
                  simp only [Act.put, List.setIfInBounds_toArray, List.set_cons_zero, List.set_cons_succ]
                  refine tks (i := 9) rfl (by rfl) (by assumption) ?_
                  change wpAnyH _ _ _ _ _ _ _ (Act.put _ (some 169) _) _
                  simp only [Act.put, List.setIfInBounds_toArray, List.set_cons_zero, List.set_cons_succ]
                  refine tks (i := 10) rfl (by rfl) (by assumption) ?_
                  change wpAnyH _ _ _ _ _ _ _ (Act.put _ (some 170) _) _
                  simp only [Act.put, List.setIfInBounds_toArray, List.set_cons_zero, List.set_cons_succ]
                  refine tks (i := 11) rfl (by rfl) (by assumption) ?_
                  change wpAnyH _ _ _ _ _ _ _ (Act.put _ (some 171) _) _
                  simp only [Act.put, List.setIfInBounds_toArray, List.set_cons_zero, List.set_cons_succ]
                  refine tks (i := 12) rfl (by rfl) (by assumption) ?_
                  change wpAnyH _ _ _ _ _ _ _ (Act.put _ (some 172) _) _
                  simp only [Act.put, List.setIfInBounds_toArray, List.set_cons_zero, List.set_cons_succ]
                  refine tks (i := 13) rfl (by rfl) (by assumption) ?_
                  change wpAnyH _ _ _ _ _ _ _ (Act.put _ (some 173) _) _
                  simp only [Act.put, List.setIfInBounds_toArray, List.set_cons_zero, List.set_cons_succ]
                  refine tks (i := 14) rfl (by rfl) (by assumption) ?_
                  change wpAnyH _ _ _ _ _ _ _ (Act.put _ (some 174) _) _
                  simp only [Act.put, List.setIfInBounds_toArray, List.set_cons_zero, List.set_cons_succ]
                  refine tks (i := 15) rfl (by rfl) (by assumption) ?_
                  change wpAnyH _ _ _ _ _ _ _ (Act.put _ (some 175) _) _
                  simp only [Act.put, List.setIfInBounds_toArray, List.set_cons_zero, List.set_cons_succ]
                  refine tks (i := 16) rfl (by rfl) (by assumption) ?_
                  change wpAnyH _ _ _ _ _ _ _ (Act.put _ (some 176) _) _
                  simp only [Act.put, List.setIfInBounds_toArray, List.set_cons_zero, List.set_cons_succ]
                  refine tks (i := 17) rfl (by rfl) (by assumption) ?_
                  change wpAnyH _ _ _ _ _ _ _ (Act.put _ (some 177) _) _
                  simp only [Act.put, List.setIfInBounds_toArray, List.set_cons_zero, List.set_cons_succ]
                  refine tks (i := 18) rfl (by rfl) (by assumption) ?_
                  change wpAnyH _ _ _ _ _ _ _ (Act.put _ (some 178) _) _
                  simp only [Act.put, List.setIfInBounds_toArray, List.set_cons_zero, List.set_cons_succ]
                  refine tks (i := 19) rfl (by rfl) (by assumption) ?_
                  change wpAnyH _ _ _ _ _ _ _ (Act.put _ (some 179) _) _
                  simp only [Act.put, List.setIfInBounds_toArray, List.set_cons_zero, List.set_cons_succ]
                  refine tks (i := 20) rfl (by rfl) (by assumption) ?_
                  change wpAnyH _ _ _ _ _ _ _ (Act.put _ (some 180) _) _
                  simp only [Act.put, List.setIfInBounds_toArray, List.set_cons_zero, List.set_cons_succ]
                  refine tks (i := 21) rfl (by rfl) (by assumption) ?_
                  change wpAnyH _ _ _ _ _ _ _ (Act.put _ (some 181) _) _
                  simp only [Act.put, List.setIfInBounds_toArray, List.set_cons_zero, List.set_cons_succ]
                  refine tk (i := 22) (v := ?_) rfl (by rfl) ?_ (by assumption) ?_
                  rotate_left
                  ·
                   intro w hSw
                   go_simp
                   with_reducible rfl
                  change wpAnyH _ _ _ _ _ _ _ (Act.put _ (some 182) _) _
                  simp only [Act.put, List.setIfInBounds_toArray, List.set_cons_zero, List.set_cons_succ]
                  refine wpAnyH_done (by kernel_rfl) ?_ _
                  gi_wp2_with fail
                  exact ⟨HWD.out, L', ch', HR.out.skip hkx (fun j e _ => by have := HX.out; rw [e] at this; omega)⟩
                case stop =>
                 intro c k W _ _ h _
                 exact h.elim
                case done =>
                 rw [ZS.out]
                 rintro W hz ⟨L', ch', hI⟩ hDm
                 have hnD : Dd ∉ Ds := fun hm => by have := HLOW.out.ds Dd hm; omega
                 have HZM := Lib.hid (hI.z.mark hnD (by have := hDlt; omega) hDm)
                 have HBM : Hid (Blk W ib 3 #[.int .i64 (i : Int)] ∧ m1 ≤ ib) := Lib.hid ⟨hI.bi, hDlt.2.2.2.2.2.2.2⟩
                 have HPM : Hid (PI l.length all.length M L'.s ch' ((∀ j, i < j → j < l.length → Cl l fr (fun i => (Q i).getD []) D.s L'.s j) ∧ AllT l D.s L'.s i)) := Lib.hid (hI.pi.keep (fun h => SeenT.all hil (by rw [← HF.out]; exact h)))
                 have htl : i < T.length := by rw [BL.out.tl]; exact hil
                 obtain ⟨tv, htv⟩ : ∃ v, v = T[i] := ⟨_, rfl⟩
                 have HNE : Hid (NestAt W1 ((Q i).getD []).reverse tv) := Lib.hid (by rw [htv]; exact BL.out.nest i _)
                 have cB : W.cell? ⟨gB, i, none⟩ = some tv := by
                  have h1 := BL.out.bef
                  have h2 := h1.lt
                  rw [BL.out.size] at h2
                  rw [(h1.below (TR.out W HZM.out.bl) h2).cell i, List.getElem?_toArray, List.getElem?_eq_getElem htl, htv]
                 have ci := HBM.out.1.cell 0
                 simp only [List.getElem?_toArray, List.getElem?_cons_zero] at ci
                 clear hI hDm hnD htv
                 go_upto_region 45 with fail
                 clear ci cB
                 go_cut [218] from 999 (fun z218 wx => ∃ (r : Bool) (L2 : Row), z218 = .bool r ∧ Hid (LZ l fr kd all (fun i => (Q i).getD []) m1 n p1 p2 g1 g2 D V1 L2 (Dd :: Ds) c ch' wx) ∧ Hid (Blk wx ib 3 #[.int .i64 (i : Int)] ∧ m1 ≤ ib) ∧ Hid (PI l.length all.length M L2.s (ch' || r) (∀ j : Nat, ((i : Int) - 1) < j → j < l.length → Cl l fr (fun i => (Q i).getD []) D.s L2.s j)))
                 case first =>
                  have HZD := Lib.hid (HZM.out.grow (Below.refl W.heap.size W).drew (Nat.le_refl _))
                  have hSd : SZ m1 n p1 p2 g1 g2 ib i L'.T D.T V1 W.drew := HZD.out.reads HBM.out.1
                  have HBD : Hid (Blk W.drew ib 3 #[.int .i64 (i : Int)] ∧ m1 ≤ ib) := HBM
                  clear HZM HBM
                  refine wp_region_held_drew (S := fun w' => SZ m1 n p1 p2 g1 g2 ib i L'.T D.T V1 w') (by kernel_rfl) hSd (fun hS => ?_)
                  clear hSd
                  generalize W.drew = w0 at *
                  have hne := HNE.out
                  rcases hrev : ((Q i).getD []).reverse with _ | ⟨a, r0⟩
                  ·
                   rw [hrev] at hne
                   obtain rfl : tv = .pointer none := hne
                   have HAH : Hid (AllH l (fun i => (Q i).getD []) L'.s i) := Lib.hid (fun j _ he => by
                    have h1 : (Q i).getD [] = [] := List.reverse_eq_nil_iff.1 hrev
                    have h2 : ((Q i).getD []).getLast? = some (j : Int) := he
                    rw [h1] at h2
                    cases h2)
                   clear hrev
                   refine tk (i := 0) (v := ?_) rfl (by rfl) ?_ (by assumption) ?_
                   rotate_left
                   ·
                    intro w hSw
                    go_simp
                    with_reducible rfl
                   change wpAnyH _ _ _ _ _ _ _ (Act.put _ (some 187) _) _
                   simp only [Act.put, List.setIfInBounds_toArray, List.set_cons_zero, List.set_cons_succ]
                   refine tk (i := 1) (v := ?_) rfl (by rfl) ?_ (by assumption) ?_
                   rotate_left
                   ·
                    intro w hSw
                    go_simp
                    with_reducible rfl
                   change wpAnyH _ _ _ _ _ _ _ (Act.put _ (some 188) _) _
                   simp only [Act.put, List.setIfInBounds_toArray, List.set_cons_zero, List.set_cons_succ]
                   refine tk (i := 2) (v := ?_) rfl (by rfl) ?_ (by assumption) ?_
                   rotate_left
                   ·
                    intro w hSw
                    go_simp
                    with_reducible rfl
                   change wpAnyH _ _ _ _ _ _ _ (Act.put _ (some 189) _) _
                   simp only [Act.put, List.setIfInBounds_toArray, List.set_cons_zero, List.set_cons_succ]
                   refine tks (i := 3) rfl (by rfl) (by assumption) ?_
                   change wpAnyH _ _ _ _ _ _ _ (Act.put _ (some 190) _) _
                   simp only [Act.put, List.setIfInBounds_toArray, List.set_cons_zero, List.set_cons_succ]
                   refine tks (i := 4) rfl (by rfl) (by assumption) ?_
                   change wpAnyH _ _ _ _ _ _ _ (Act.put _ (some 191) _) _
                   simp only [Act.put, List.setIfInBounds_toArray, List.set_cons_zero, List.set_cons_succ]
                   refine tks (i := 5) rfl (by rfl) (by assumption) ?_
                   change wpAnyH _ _ _ _ _ _ _ (Act.put _ (some 192) _) _
                   simp only [Act.put, List.setIfInBounds_toArray, List.set_cons_zero, List.set_cons_succ]
                   refine tks (i := 6) rfl (by rfl) (by assumption) ?_
                   change wpAnyH _ _ _ _ _ _ _ (Act.put _ (some 193) _) _
                   simp only [Act.put, List.setIfInBounds_toArray, List.set_cons_zero, List.set_cons_succ]
                   refine tks (i := 7) rfl (by rfl) (by assumption) ?_
                   change wpAnyH _ _ _ _ _ _ _ (Act.put _ (some 194) _) _
                   simp only [Act.put, List.setIfInBounds_toArray, List.set_cons_zero, List.set_cons_succ]
                   refine tk (i := 8) (v := ?_) rfl (by rfl) ?_ (by assumption) ?_
                   rotate_left
                   ·
                    intro w hSw
                    go_simp
                    with_reducible rfl
                   change wpAnyH _ _ _ _ _ _ _ (Act.put _ (some 195) _) _
                   simp only [Act.put, List.setIfInBounds_toArray, List.set_cons_zero, List.set_cons_succ]
                   refine tk (i := 9) (v := ?_) rfl (by rfl) ?_ (by assumption) ?_
                   rotate_left
                   ·
                    intro w hSw
                    go_simp
                    with_reducible rfl
                   change wpAnyH _ _ _ _ _ _ _ (Act.put _ (some 196) _) _
                   simp only [Act.put, List.setIfInBounds_toArray, List.set_cons_zero, List.set_cons_succ]
                   refine tks (i := 10) rfl (by rfl) (by assumption) ?_
                   change wpAnyH _ _ _ _ _ _ _ (Act.put _ (some 197) _) _
                   simp only [Act.put, List.setIfInBounds_toArray, List.set_cons_zero, List.set_cons_succ]
                   refine tks (i := 11) rfl (by rfl) (by assumption) ?_
                   change wpAnyH _ _ _ _ _ _ _ (Act.put _ (some 198) _) _
                   simp only [Act.put, List.setIfInBounds_toArray, List.set_cons_zero, List.set_cons_succ]
                   refine tks (i := 12) rfl (by rfl) (by assumption) ?_
                   change wpAnyH _ _ _ _ _ _ _ (Act.put _ (some 199) _) _
                   simp only [Act.put, List.setIfInBounds_toArray, List.set_cons_zero, List.set_cons_succ]
                   refine tks (i := 13) rfl (by rfl) (by assumption) ?_
                   change wpAnyH _ _ _ _ _ _ _ (Act.put _ (some 200) _) _
                   simp only [Act.put, List.setIfInBounds_toArray, List.set_cons_zero, List.set_cons_succ]
                   refine tks (i := 14) rfl (by rfl) (by assumption) ?_
                   change wpAnyH _ _ _ _ _ _ _ (Act.put _ (some 201) _) _
                   simp only [Act.put, List.setIfInBounds_toArray, List.set_cons_zero, List.set_cons_succ]
                   refine tks (i := 15) rfl (by rfl) (by assumption) ?_
                   change wpAnyH _ _ _ _ _ _ _ (Act.put _ (some 202) _) _
                   simp only [Act.put, List.setIfInBounds_toArray, List.set_cons_zero, List.set_cons_succ]
                   refine tks (i := 16) rfl (by rfl) (by assumption) ?_
                   change wpAnyH _ _ _ _ _ _ _ (Act.put _ (some 203) _) _
                   simp only [Act.put, List.setIfInBounds_toArray, List.set_cons_zero, List.set_cons_succ]
                   refine tk (i := 17) (v := ?_) rfl (by rfl) ?_ (by assumption) ?_
                   rotate_left
                   ·
                    intro w hSw
                    go_simp
                    with_reducible rfl
                   change wpAnyH _ _ _ _ _ _ _ (Act.put _ (some 204) _) _
                   simp only [Act.put, List.setIfInBounds_toArray, List.set_cons_zero, List.set_cons_succ]
                   refine tk (i := 18) (v := ?_) rfl (by rfl) ?_ (by assumption) ?_
                   rotate_left
                   ·
                    intro w hSw
                    go_simp
                    with_reducible rfl
                   change wpAnyH _ _ _ _ _ _ _ (Act.put _ (some 205) _) _
                   simp only [Act.put, List.setIfInBounds_toArray, List.set_cons_zero, List.set_cons_succ]
                   refine tks (i := 19) rfl (by rfl) (by assumption) ?_
                   change wpAnyH _ _ _ _ _ _ _ (Act.put _ (some 206) _) _
                   simp only [Act.put, List.setIfInBounds_toArray, List.set_cons_zero, List.set_cons_succ]
                   refine tks (i := 20) rfl (by rfl) (by assumption) ?_
                   change wpAnyH _ _ _ _ _ _ _ (Act.put _ (some 207) _) _
                   simp only [Act.put, List.setIfInBounds_toArray, List.set_cons_zero, List.set_cons_succ]
                   refine tks (i := 21) rfl (by rfl) (by assumption) ?_
                   change wpAnyH _ _ _ _ _ _ _ (Act.put _ (some 208) _) _
                   simp only [Act.put, List.setIfInBounds_toArray, List.set_cons_zero, List.set_cons_succ]
                   refine tks (i := 22) rfl (by rfl) (by assumption) ?_
                   change wpAnyH _ _ _ _ _ _ _ (Act.put _ (some 209) _) _
                   simp only [Act.put, List.setIfInBounds_toArray, List.set_cons_zero, List.set_cons_succ]
                   refine tks (i := 23) rfl (by rfl) (by assumption) ?_
                   change wpAnyH _ _ _ _ _ _ _ (Act.put _ (some 210) _) _
                   simp only [Act.put, List.setIfInBounds_toArray, List.set_cons_zero, List.set_cons_succ]
                   refine tks (i := 24) rfl (by rfl) (by assumption) ?_
                   change wpAnyH _ _ _ _ _ _ _ (Act.put _ (some 211) _) _
                   simp only [Act.put, List.setIfInBounds_toArray, List.set_cons_zero, List.set_cons_succ]
                   refine tks (i := 25) rfl (by rfl) (by assumption) ?_
                   change wpAnyH _ _ _ _ _ _ _ (Act.put _ (some 212) _) _
                   simp only [Act.put, List.setIfInBounds_toArray, List.set_cons_zero, List.set_cons_succ]
                   refine tks (i := 26) rfl (by rfl) (by assumption) ?_
                   change wpAnyH _ _ _ _ _ _ _ (Act.put _ (some 213) _) _
                   simp only [Act.put, List.setIfInBounds_toArray, List.set_cons_zero, List.set_cons_succ]
                   refine tks (i := 27) rfl (by rfl) (by assumption) ?_
                   change wpAnyH _ _ _ _ _ _ _ (Act.put _ (some 214) _) _
                   simp only [Act.put, List.setIfInBounds_toArray, List.set_cons_zero, List.set_cons_succ]
                   refine tks (i := 28) rfl (by rfl) (by assumption) ?_
                   change wpAnyH _ _ _ _ _ _ _ (Act.put _ (some 215) _) _
                   simp only [Act.put, List.setIfInBounds_toArray, List.set_cons_zero, List.set_cons_succ]
                   refine tks (i := 29) rfl (by rfl) (by assumption) ?_
                   change wpAnyH _ _ _ _ _ _ _ (Act.put _ (some 216) _) _
                   simp only [Act.put, List.setIfInBounds_toArray, List.set_cons_zero, List.set_cons_succ]
                   refine tks (i := 30) rfl (by rfl) (by assumption) ?_
                   change wpAnyH _ _ _ _ _ _ _ (Act.put _ (some 217) _) _
                   simp only [Act.put, List.setIfInBounds_toArray, List.set_cons_zero, List.set_cons_succ]
                   refine tk (i := 31) (v := ?_) rfl (by rfl) ?_ (by assumption) ?_
                   rotate_left
                   ·
                    intro w hSw
                    go_simp
                    with_reducible rfl
                   change wpAnyH _ _ _ _ _ _ _ (Act.put _ (some 218) _) _
                   simp only [Act.put, List.setIfInBounds_toArray, List.set_cons_zero, List.set_cons_succ]
                   refine wpAnyH_done (by kernel_rfl) ?_ _
                   go_wp2_with fail
                   go_meet
                   exact ⟨false, L', rfl, HZD, HBD, Lib.hid (by rw [Bool.or_false]; exact HPM.out.hand0 HAH.out)⟩
                  ·
                   rw [hrev] at hne
                   obtain ⟨b5, outer, rfl, hblk, _⟩ := hne
                   have HLAST : Hid (((Q i).getD []).getLast? = some a) := Lib.hid (by rw [← List.head?_reverse, hrev]; rfl)
                   have HN5 : Hid (∀ W', Below m1 V1 W' → W'.cell? ⟨b5, 0, none⟩ = some (.int .i64 a)) := Lib.hid (fun W' hW => by
                    have h2 := hblk.lt
                    rw [BL.out.size] at h2
                    rw [(hblk.below (TR.out W' hW) h2).cell 0]
                    rfl)
                   clear hrev hblk
                   by_cases hx0 : 0 ≤ a
                   ·
                    have e0 : decide (0 ≤ a) = true := by simpa using hx0
                    by_cases hxn : a < (n : Int)
                    ·
                     obtain ⟨j, rfl⟩ : ∃ j : Nat, a = j := ⟨a.toNat, by omega⟩
                     have hjn : j < n := by omega
                     have PTI : Hid (L'.T[i]? = some (.pointer (some ⟨L'.b i, 0, none⟩))) := Lib.hid (HZD.out.ld.fl.ptr i hin)
                     have PTJ : Hid (L'.T[j]? = some (.pointer (some ⟨L'.b j, 0, none⟩))) := Lib.hid (HZD.out.ld.fl.ptr j hjn)
                     refine tk (i := 0) (v := ?_) rfl (by rfl) ?_ (by assumption) ?_
                     rotate_left
                     ·
                      intro w hSw
                      go_simp
                      with_reducible rfl
                     change wpAnyH _ _ _ _ _ _ _ (Act.put _ (some 187) _) _
                     simp only [Act.put, List.setIfInBounds_toArray, List.set_cons_zero, List.set_cons_succ]
                     refine tk (i := 1) (v := ?_) rfl (by rfl) ?_ (by assumption) ?_
                     rotate_left
                     ·
                      intro w hSw
                      go_simp
                      with_reducible rfl
                     change wpAnyH _ _ _ _ _ _ _ (Act.put _ (some 188) _) _
                     simp only [Act.put, List.setIfInBounds_toArray, List.set_cons_zero, List.set_cons_succ]
                     refine tk (i := 2) (v := ?_) rfl (by rfl) ?_ (by assumption) ?_
                     rotate_left
                     ·
                      intro w hSw
                      go_simp
                      with_reducible rfl
                     change wpAnyH _ _ _ _ _ _ _ (Act.put _ (some 189) _) _
                     simp only [Act.put, List.setIfInBounds_toArray, List.set_cons_zero, List.set_cons_succ]
                     refine tk (i := 3) (v := ?_) rfl (by rfl) ?_ (by assumption) ?_
                     rotate_left
                     ·
                      intro w hSw
                      go_simp
                      with_reducible rfl
                     change wpAnyH _ _ _ _ _ _ _ (Act.put _ (some 190) _) _
                     simp only [Act.put, List.setIfInBounds_toArray, List.set_cons_zero, List.set_cons_succ]
                     refine tk (i := 4) (v := ?_) rfl (by rfl) ?_ (by assumption) ?_
                     rotate_left
                     ·
                      intro w hSw
                      go_simp
                      with_reducible rfl
                     change wpAnyH _ _ _ _ _ _ _ (Act.put _ (some 191) _) _
                     simp only [Act.put, List.setIfInBounds_toArray, List.set_cons_zero, List.set_cons_succ]
                     refine tk (i := 5) (v := ?_) rfl (by rfl) ?_ (by assumption) ?_
                     rotate_left
                     ·
                      intro w hSw
                      go_simp
                      with_reducible rfl
                     change wpAnyH _ _ _ _ _ _ _ (Act.put _ (some 192) _) _
                     simp only [Act.put, List.setIfInBounds_toArray, List.set_cons_zero, List.set_cons_succ]
                     refine tk (i := 6) (v := ?_) rfl (by rfl) ?_ (by assumption) ?_
                     rotate_left
                     ·
                      intro w hSw
                      have cc := HN5.out _ hSw.bl
                      go_simp
                      with_reducible rfl
                     change wpAnyH _ _ _ _ _ _ _ (Act.put _ (some 193) _) _
                     simp only [Act.put, List.setIfInBounds_toArray, List.set_cons_zero, List.set_cons_succ]
                     refine tk (i := 7) (v := ?_) rfl (by rfl) ?_ (by assumption) ?_
                     rotate_left
                     ·
                      intro w hSw
                      go_simp
                      with_reducible rfl
                     change wpAnyH _ _ _ _ _ _ _ (Act.put _ (some 194) _) _
                     simp only [Act.put, List.setIfInBounds_toArray, List.set_cons_zero, List.set_cons_succ]
                     refine tk (i := 8) (v := ?_) rfl (by rfl) ?_ (by assumption) ?_
                     rotate_left
                     ·
                      intro w hSw
                      go_simp
                      with_reducible rfl
                     change wpAnyH _ _ _ _ _ _ _ (Act.put _ (some 195) _) _
                     simp only [Act.put, List.setIfInBounds_toArray, List.set_cons_zero, List.set_cons_succ]
                     refine tk (i := 9) (v := ?_) rfl (by rfl) ?_ (by assumption) ?_
                     rotate_left
                     ·
                      intro w hSw
                      go_simp
                      with_reducible rfl
                     change wpAnyH _ _ _ _ _ _ _ (Act.put _ (some 196) _) _
                     simp only [Act.put, List.setIfInBounds_toArray, List.set_cons_zero, List.set_cons_succ]
                     refine tk (i := 10) (v := ?_) rfl (by rfl) ?_ (by assumption) ?_
                     rotate_left
                     ·
                      intro w hSw
                      go_simp
                      with_reducible rfl
                     change wpAnyH _ _ _ _ _ _ _ (Act.put _ (some 197) _) _
                     simp only [Act.put, List.setIfInBounds_toArray, List.set_cons_zero, List.set_cons_succ]
                     refine tk (i := 11) (v := ?_) rfl (by rfl) ?_ (by assumption) ?_
                     rotate_left
                     ·
                      intro w hSw
                      go_simp
                      with_reducible rfl
                     change wpAnyH _ _ _ _ _ _ _ (Act.put _ (some 198) _) _
                     simp only [Act.put, List.setIfInBounds_toArray, List.set_cons_zero, List.set_cons_succ]
                     refine tk (i := 12) (v := ?_) rfl (by rfl) ?_ (by assumption) ?_
                     rotate_left
                     ·
                      intro w hSw
                      go_simp
                      with_reducible rfl
                     change wpAnyH _ _ _ _ _ _ _ (Act.put _ (some 199) _) _
                     simp only [Act.put, List.setIfInBounds_toArray, List.set_cons_zero, List.set_cons_succ]
                     refine tk (i := 13) (v := ?_) rfl (by rfl) ?_ (by assumption) ?_
                     rotate_left
                     ·
                      intro w hSw
                      have cc := HN5.out _ hSw.bl
                      go_simp
                      with_reducible rfl
                     change wpAnyH _ _ _ _ _ _ _ (Act.put _ (some 200) _) _
                     simp only [Act.put, List.setIfInBounds_toArray, List.set_cons_zero, List.set_cons_succ]
                     refine tk (i := 14) (v := ?_) rfl (by rfl) ?_ (by assumption) ?_
                     rotate_left
                     ·
                      intro w hSw
                      have cc := HC1.out _ hSw.bl
                      go_simp
                      with_reducible rfl
                     change wpAnyH _ _ _ _ _ _ _ (Act.put _ (some 201) _) _
                     simp only [Act.put, List.setIfInBounds_toArray, List.set_cons_zero, List.set_cons_succ]
                     refine tk (i := 15) (v := ?_) rfl (by rfl) ?_ (by assumption) ?_
                     rotate_left
                     ·
                      intro w hSw
                      go_simp
                      with_reducible rfl
                     change wpAnyH _ _ _ _ _ _ _ (Act.put _ (some 202) _) _
                     simp only [Act.put, List.setIfInBounds_toArray, List.set_cons_zero, List.set_cons_succ]
                     refine tk (i := 16) (v := ?_) rfl (by rfl) ?_ (by assumption) ?_
                     rotate_left
                     ·
                      intro w hSw
                      go_simp
                      with_reducible rfl
                     change wpAnyH _ _ _ _ _ _ _ (Act.put _ (some 203) _) _
                     simp only [Act.put, List.setIfInBounds_toArray, List.set_cons_zero, List.set_cons_succ]
                     refine tk (i := 17) (v := ?_) rfl (by rfl) ?_ (by assumption) ?_
                     rotate_left
                     ·
                      intro w hSw
                      go_simp
                      with_reducible rfl
                     change wpAnyH _ _ _ _ _ _ _ (Act.put _ (some 204) _) _
                     simp only [Act.put, List.setIfInBounds_toArray, List.set_cons_zero, List.set_cons_succ]
                     refine tk (i := 18) (v := ?_) rfl (by rfl) ?_ (by assumption) ?_
                     rotate_left
                     ·
                      intro w hSw
                      go_simp
                      with_reducible rfl
                     change wpAnyH _ _ _ _ _ _ _ (Act.put _ (some 205) _) _
                     simp only [Act.put, List.setIfInBounds_toArray, List.set_cons_zero, List.set_cons_succ]
                     refine tk (i := 19) (v := ?_) rfl (by rfl) ?_ (by assumption) ?_
                     rotate_left
                     ·
                      intro w hSw
                      have cc := hSw.x1.cell 0
                      simp only [List.getElem?_toArray, List.getElem?_cons_zero] at cc
                      go_simp
                      with_reducible rfl
                     change wpAnyH _ _ _ _ _ _ _ (Act.put _ (some 206) _) _
                     simp only [Act.put, List.setIfInBounds_toArray, List.set_cons_zero, List.set_cons_succ]
                     refine tk (i := 20) (v := ?_) rfl (by rfl) ?_ (by assumption) ?_
                     rotate_left
                     ·
                      intro w hSw
                      have cc := hSw.bi.cell 0
                      simp only [List.getElem?_toArray, List.getElem?_cons_zero] at cc
                      go_simp
                      with_reducible rfl
                     change wpAnyH _ _ _ _ _ _ _ (Act.put _ (some 207) _) _
                     simp only [Act.put, List.setIfInBounds_toArray, List.set_cons_zero, List.set_cons_succ]
                     refine tk (i := 21) (v := ?_) rfl (by rfl) ?_ (by assumption) ?_
                     rotate_left
                     ·
                      intro w hSw
                      go_simp
                      with_reducible rfl
                     change wpAnyH _ _ _ _ _ _ _ (Act.put _ (some 208) _) _
                     simp only [Act.put, List.setIfInBounds_toArray, List.set_cons_zero, List.set_cons_succ]
                     refine tk (i := 22) (v := ?_) rfl (by rfl) ?_ (by assumption) ?_
                     rotate_left
                     ·
                      intro w hSw
                      have cc := hSw.a1.cell i
                      rw [List.getElem?_toArray, PTI.out] at cc
                      go_simp
                      with_reducible rfl
                     change wpAnyH _ _ _ _ _ _ _ (Act.put _ (some 209) _) _
                     simp only [Act.put, List.setIfInBounds_toArray, List.set_cons_zero, List.set_cons_succ]
                     refine tk (i := 23) (v := ?_) rfl (by rfl) ?_ (by assumption) ?_
                     rotate_left
                     ·
                      intro w hSw
                      have cc := hSw.x1.cell 0
                      simp only [List.getElem?_toArray, List.getElem?_cons_zero] at cc
                      go_simp
                      with_reducible rfl
                     change wpAnyH _ _ _ _ _ _ _ (Act.put _ (some 210) _) _
                     simp only [Act.put, List.setIfInBounds_toArray, List.set_cons_zero, List.set_cons_succ]
                     refine tk (i := 24) (v := ?_) rfl (by rfl) ?_ (by assumption) ?_
                     rotate_left
                     ·
                      intro w hSw
                      go_simp
                      with_reducible rfl
                     change wpAnyH _ _ _ _ _ _ _ (Act.put _ (some 211) _) _
                     simp only [Act.put, List.setIfInBounds_toArray, List.set_cons_zero, List.set_cons_succ]
                     refine tk (i := 25) (v := ?_) rfl (by rfl) ?_ (by assumption) ?_
                     rotate_left
                     ·
                      intro w hSw
                      go_simp
                      with_reducible rfl
                     change wpAnyH _ _ _ _ _ _ _ (Act.put _ (some 212) _) _
                     simp only [Act.put, List.setIfInBounds_toArray, List.set_cons_zero, List.set_cons_succ]
                     refine tk (i := 26) (v := ?_) rfl (by rfl) ?_ (by assumption) ?_
                     rotate_left
                     ·
                      intro w hSw
                      go_simp
                      with_reducible rfl
                     change wpAnyH _ _ _ _ _ _ _ (Act.put _ (some 213) _) _
                     simp only [Act.put, List.setIfInBounds_toArray, List.set_cons_zero, List.set_cons_succ]
                     refine tk (i := 27) (v := ?_) rfl (by rfl) ?_ (by assumption) ?_
                     rotate_left
                     ·
                      intro w hSw
                      have cc := HN5.out _ hSw.bl
                      go_simp
                      with_reducible rfl
                     change wpAnyH _ _ _ _ _ _ _ (Act.put _ (some 214) _) _
                     simp only [Act.put, List.setIfInBounds_toArray, List.set_cons_zero, List.set_cons_succ]
                     refine tk (i := 28) (v := ?_) rfl (by rfl) ?_ (by assumption) ?_
                     rotate_left
                     ·
                      intro w hSw
                      go_simp
                      with_reducible rfl
                     change wpAnyH _ _ _ _ _ _ _ (Act.put _ (some 215) _) _
                     simp only [Act.put, List.setIfInBounds_toArray, List.set_cons_zero, List.set_cons_succ]
                     refine tk (i := 29) (v := ?_) rfl (by rfl) ?_ (by assumption) ?_
                     rotate_left
                     ·
                      intro w hSw
                      have cc := hSw.a1.cell j
                      rw [List.getElem?_toArray, PTJ.out] at cc
                      go_simp
                      with_reducible rfl
                     change wpAnyH _ _ _ _ _ _ _ (Act.put _ (some 216) _) _
                     simp only [Act.put, List.setIfInBounds_toArray, List.set_cons_zero, List.set_cons_succ]
                     by_cases hji : j = i
                     ·
                      subst hji
                      have HAH : Hid (AllH l (fun i => (Q i).getD []) L'.s j) := Lib.hid (fun j2 _ he => by
                       have h2 := HLAST.out.symm.trans he
                       have h3 : j = j2 := by have h4 := Option.some.inj h2; omega
                       subst h3
                       exact fun _ h => h)
                      refine wpAnyH_ready (rs := [30]) (by kernel_rfl) (by simp) ?_
                      refine AllReadyH.cons rfl (fun K hK => ?_) AllReadyH.nil
                      go_simp
                      refine (HZD.out.selfh HN.out HAL9.out hin).mono ?_
                      rintro e w1 ⟨rfl, rfl⟩
                      go_wp2_with fail
                      refine hK.out _ _ (hS) (fun hS => ?_)
                      clear hK K
                      try simp only [Act.put, List.setIfInBounds_toArray, List.set_cons_zero, List.set_cons_succ]
                      refine tk (i := 31) (v := ?_) rfl (by rfl) ?_ (by assumption) ?_
                      rotate_left
                      ·
                       intro w hSw
                       go_simp
                       with_reducible rfl
                      change wpAnyH _ _ _ _ _ _ _ (Act.put _ (some 218) _) _
                      simp only [Act.put, List.setIfInBounds_toArray, List.set_cons_zero, List.set_cons_succ]
                      refine wpAnyH_done (by kernel_rfl) ?_ _
                      go_wp2_with fail
                      go_meet
                      exact ⟨false, L', rfl, HZD, HBD, Lib.hid (by rw [Bool.or_false]; exact HPM.out.hand0 HAH.out)⟩
                     ·
                      obtain ⟨r, hr⟩ : ∃ r, r = joinB (L'.s j) [] (L'.s i) := ⟨_, rfl⟩
                      have CJ := HZD.out.callh HN.out HAL9.out hin hjn hji
                      rw [← hr] at CJ
                      have CJ2 := Lib.hid CJ
                      have FX := fix_hand HZD.out.li hil (by rw [← HN.out]; exact hjn) HRCH.out HLAST.out (HZD.out.w64 hjn)
                      rw [← hr] at FX
                      have HFX := Lib.hid FX
                      clear CJ FX hr
                      refine wpAnyH_ready (rs := [30]) (by kernel_rfl) (by simp) ?_
                      refine AllReadyH.cons rfl (fun K hK => ?_) AllReadyH.nil
                      go_simp
                      refine CJ2.out.mono ?_
                      rintro e w1 ⟨rfl, o', s1, s2, s3⟩
                      have hS1 := hS.joined HZD.out.sz (HZD.out.ld.fl.set i hin) s3
                      have RZ := Lib.hid (HZD.out.join hin s1 s2 s3 HFX.out.1)
                      have RB : Hid (Blk w1 ib 3 #[.int .i64 (i : Int)] ∧ m1 ≤ ib) := Lib.hid ⟨hS1.bi, HBD.out.2⟩
                      have RP := Lib.hid (HPM.out.hand1 HFX.out.2.1 (fun hr => fun j2 _ he => by
                       have h2 := HLAST.out.symm.trans he
                       have h3 : j = j2 := by have h4 := Option.some.inj h2; omega
                       subst h3
                       exact HFX.out.2.2 hr))
                      clear s1 s2 s3 CJ2 HFX HZD HBD HPM PTI PTJ
                      go_wp2_with fail
                      refine hK.out _ _ (hS1) (fun hS => ?_)
                      clear hK K
                      try simp only [Act.put, List.setIfInBounds_toArray, List.set_cons_zero, List.set_cons_succ]
                      refine tk (i := 31) (v := ?_) rfl (by rfl) ?_ (by assumption) ?_
                      rotate_left
                      ·
                       intro w hSw
                       go_simp
                       with_reducible rfl
                      change wpAnyH _ _ _ _ _ _ _ (Act.put _ (some 218) _) _
                      simp only [Act.put, List.setIfInBounds_toArray, List.set_cons_zero, List.set_cons_succ]
                      refine wpAnyH_done (by kernel_rfl) ?_ _
                      go_wp2_with fail
                      go_meet
                      exact ⟨r, _, rfl, RZ, RB, RP⟩
                    ·
                     have e1 : decide (a < (n : Int)) = false := by simpa using hxn
                     have HAH : Hid (AllH l (fun i => (Q i).getD []) L'.s i) := Lib.hid (fun j hj he => by
                      have h2 := HLAST.out.symm.trans he
                      cases h2
                      have := HN.out
                      omega)
                     refine tk (i := 0) (v := ?_) rfl (by rfl) ?_ (by assumption) ?_
                     rotate_left
                     ·
                      intro w hSw
                      go_simp
                      with_reducible rfl
                     change wpAnyH _ _ _ _ _ _ _ (Act.put _ (some 187) _) _
                     simp only [Act.put, List.setIfInBounds_toArray, List.set_cons_zero, List.set_cons_succ]
                     refine tk (i := 1) (v := ?_) rfl (by rfl) ?_ (by assumption) ?_
                     rotate_left
                     ·
                      intro w hSw
                      go_simp
                      with_reducible rfl
                     change wpAnyH _ _ _ _ _ _ _ (Act.put _ (some 188) _) _
                     simp only [Act.put, List.setIfInBounds_toArray, List.set_cons_zero, List.set_cons_succ]
                     refine tk (i := 2) (v := ?_) rfl (by rfl) ?_ (by assumption) ?_
                     rotate_left
                     ·
                      intro w hSw
                      go_simp
                      with_reducible rfl
                     change wpAnyH _ _ _ _ _ _ _ (Act.put _ (some 189) _) _
                     simp only [Act.put, List.setIfInBounds_toArray, List.set_cons_zero, List.set_cons_succ]
                     refine tk (i := 3) (v := ?_) rfl (by rfl) ?_ (by assumption) ?_
                     rotate_left
                     ·
                      intro w hSw
                      go_simp
                      with_reducible rfl
                     change wpAnyH _ _ _ _ _ _ _ (Act.put _ (some 190) _) _
                     simp only [Act.put, List.setIfInBounds_toArray, List.set_cons_zero, List.set_cons_succ]
                     refine tk (i := 4) (v := ?_) rfl (by rfl) ?_ (by assumption) ?_
                     rotate_left
                     ·
                      intro w hSw
                      go_simp
                      with_reducible rfl
                     change wpAnyH _ _ _ _ _ _ _ (Act.put _ (some 191) _) _
                     simp only [Act.put, List.setIfInBounds_toArray, List.set_cons_zero, List.set_cons_succ]
                     refine tk (i := 5) (v := ?_) rfl (by rfl) ?_ (by assumption) ?_
                     rotate_left
                     ·
                      intro w hSw
                      go_simp
                      with_reducible rfl
                     change wpAnyH _ _ _ _ _ _ _ (Act.put _ (some 192) _) _
                     simp only [Act.put, List.setIfInBounds_toArray, List.set_cons_zero, List.set_cons_succ]
                     refine tk (i := 6) (v := ?_) rfl (by rfl) ?_ (by assumption) ?_
                     rotate_left
                     ·
                      intro w hSw
                      have cc := HN5.out _ hSw.bl
                      go_simp
                      with_reducible rfl
                     change wpAnyH _ _ _ _ _ _ _ (Act.put _ (some 193) _) _
                     simp only [Act.put, List.setIfInBounds_toArray, List.set_cons_zero, List.set_cons_succ]
                     refine tk (i := 7) (v := ?_) rfl (by rfl) ?_ (by assumption) ?_
                     rotate_left
                     ·
                      intro w hSw
                      go_simp
                      with_reducible rfl
                     change wpAnyH _ _ _ _ _ _ _ (Act.put _ (some 194) _) _
                     simp only [Act.put, List.setIfInBounds_toArray, List.set_cons_zero, List.set_cons_succ]
                     refine tk (i := 8) (v := ?_) rfl (by rfl) ?_ (by assumption) ?_
                     rotate_left
                     ·
                      intro w hSw
                      go_simp
                      with_reducible rfl
                     change wpAnyH _ _ _ _ _ _ _ (Act.put _ (some 195) _) _
                     simp only [Act.put, List.setIfInBounds_toArray, List.set_cons_zero, List.set_cons_succ]
                     refine tk (i := 9) (v := ?_) rfl (by rfl) ?_ (by assumption) ?_
                     rotate_left
                     ·
                      intro w hSw
                      go_simp
                      with_reducible rfl
                     change wpAnyH _ _ _ _ _ _ _ (Act.put _ (some 196) _) _
                     simp only [Act.put, List.setIfInBounds_toArray, List.set_cons_zero, List.set_cons_succ]
                     refine tk (i := 10) (v := ?_) rfl (by rfl) ?_ (by assumption) ?_
                     rotate_left
                     ·
                      intro w hSw
                      go_simp
                      with_reducible rfl
                     change wpAnyH _ _ _ _ _ _ _ (Act.put _ (some 197) _) _
                     simp only [Act.put, List.setIfInBounds_toArray, List.set_cons_zero, List.set_cons_succ]
                     refine tk (i := 11) (v := ?_) rfl (by rfl) ?_ (by assumption) ?_
                     rotate_left
                     ·
                      intro w hSw
                      go_simp
                      with_reducible rfl
                     change wpAnyH _ _ _ _ _ _ _ (Act.put _ (some 198) _) _
                     simp only [Act.put, List.setIfInBounds_toArray, List.set_cons_zero, List.set_cons_succ]
                     refine tk (i := 12) (v := ?_) rfl (by rfl) ?_ (by assumption) ?_
                     rotate_left
                     ·
                      intro w hSw
                      go_simp
                      with_reducible rfl
                     change wpAnyH _ _ _ _ _ _ _ (Act.put _ (some 199) _) _
                     simp only [Act.put, List.setIfInBounds_toArray, List.set_cons_zero, List.set_cons_succ]
                     refine tk (i := 13) (v := ?_) rfl (by rfl) ?_ (by assumption) ?_
                     rotate_left
                     ·
                      intro w hSw
                      have cc := HN5.out _ hSw.bl
                      go_simp
                      with_reducible rfl
                     change wpAnyH _ _ _ _ _ _ _ (Act.put _ (some 200) _) _
                     simp only [Act.put, List.setIfInBounds_toArray, List.set_cons_zero, List.set_cons_succ]
                     refine tk (i := 14) (v := ?_) rfl (by rfl) ?_ (by assumption) ?_
                     rotate_left
                     ·
                      intro w hSw
                      have cc := HC1.out _ hSw.bl
                      go_simp
                      with_reducible rfl
                     change wpAnyH _ _ _ _ _ _ _ (Act.put _ (some 201) _) _
                     simp only [Act.put, List.setIfInBounds_toArray, List.set_cons_zero, List.set_cons_succ]
                     refine tk (i := 15) (v := ?_) rfl (by rfl) ?_ (by assumption) ?_
                     rotate_left
                     ·
                      intro w hSw
                      go_simp
                      with_reducible rfl
                     change wpAnyH _ _ _ _ _ _ _ (Act.put _ (some 202) _) _
                     simp only [Act.put, List.setIfInBounds_toArray, List.set_cons_zero, List.set_cons_succ]
                     refine tk (i := 16) (v := ?_) rfl (by rfl) ?_ (by assumption) ?_
                     rotate_left
                     ·
                      intro w hSw
                      go_simp
                      with_reducible rfl
                     change wpAnyH _ _ _ _ _ _ _ (Act.put _ (some 203) _) _
                     simp only [Act.put, List.setIfInBounds_toArray, List.set_cons_zero, List.set_cons_succ]
                     refine tk (i := 17) (v := ?_) rfl (by rfl) ?_ (by assumption) ?_
                     rotate_left
                     ·
                      intro w hSw
                      go_simp
                      with_reducible rfl
                     change wpAnyH _ _ _ _ _ _ _ (Act.put _ (some 204) _) _
                     simp only [Act.put, List.setIfInBounds_toArray, List.set_cons_zero, List.set_cons_succ]
                     refine tk (i := 18) (v := ?_) rfl (by rfl) ?_ (by assumption) ?_
                     rotate_left
                     ·
                      intro w hSw
                      go_simp
                      with_reducible rfl
                     change wpAnyH _ _ _ _ _ _ _ (Act.put _ (some 205) _) _
                     simp only [Act.put, List.setIfInBounds_toArray, List.set_cons_zero, List.set_cons_succ]
                     refine tks (i := 19) rfl (by rfl) (by assumption) ?_
                     change wpAnyH _ _ _ _ _ _ _ (Act.put _ (some 206) _) _
                     simp only [Act.put, List.setIfInBounds_toArray, List.set_cons_zero, List.set_cons_succ]
                     refine tks (i := 20) rfl (by rfl) (by assumption) ?_
                     change wpAnyH _ _ _ _ _ _ _ (Act.put _ (some 207) _) _
                     simp only [Act.put, List.setIfInBounds_toArray, List.set_cons_zero, List.set_cons_succ]
                     refine tks (i := 21) rfl (by rfl) (by assumption) ?_
                     change wpAnyH _ _ _ _ _ _ _ (Act.put _ (some 208) _) _
                     simp only [Act.put, List.setIfInBounds_toArray, List.set_cons_zero, List.set_cons_succ]
                     refine tks (i := 22) rfl (by rfl) (by assumption) ?_
                     change wpAnyH _ _ _ _ _ _ _ (Act.put _ (some 209) _) _
                     simp only [Act.put, List.setIfInBounds_toArray, List.set_cons_zero, List.set_cons_succ]
                     refine tks (i := 23) rfl (by rfl) (by assumption) ?_
                     change wpAnyH _ _ _ _ _ _ _ (Act.put _ (some 210) _) _
                     simp only [Act.put, List.setIfInBounds_toArray, List.set_cons_zero, List.set_cons_succ]
                     refine tks (i := 24) rfl (by rfl) (by assumption) ?_
                     change wpAnyH _ _ _ _ _ _ _ (Act.put _ (some 211) _) _
                     simp only [Act.put, List.setIfInBounds_toArray, List.set_cons_zero, List.set_cons_succ]
                     refine tks (i := 25) rfl (by rfl) (by assumption) ?_
                     change wpAnyH _ _ _ _ _ _ _ (Act.put _ (some 212) _) _
                     simp only [Act.put, List.setIfInBounds_toArray, List.set_cons_zero, List.set_cons_succ]
                     refine tks (i := 26) rfl (by rfl) (by assumption) ?_
                     change wpAnyH _ _ _ _ _ _ _ (Act.put _ (some 213) _) _
                     simp only [Act.put, List.setIfInBounds_toArray, List.set_cons_zero, List.set_cons_succ]
                     refine tks (i := 27) rfl (by rfl) (by assumption) ?_
                     change wpAnyH _ _ _ _ _ _ _ (Act.put _ (some 214) _) _
                     simp only [Act.put, List.setIfInBounds_toArray, List.set_cons_zero, List.set_cons_succ]
                     refine tks (i := 28) rfl (by rfl) (by assumption) ?_
                     change wpAnyH _ _ _ _ _ _ _ (Act.put _ (some 215) _) _
                     simp only [Act.put, List.setIfInBounds_toArray, List.set_cons_zero, List.set_cons_succ]
                     refine tks (i := 29) rfl (by rfl) (by assumption) ?_
                     change wpAnyH _ _ _ _ _ _ _ (Act.put _ (some 216) _) _
                     simp only [Act.put, List.setIfInBounds_toArray, List.set_cons_zero, List.set_cons_succ]
                     refine tks (i := 30) rfl (by rfl) (by assumption) ?_
                     change wpAnyH _ _ _ _ _ _ _ (Act.put _ (some 217) _) _
                     simp only [Act.put, List.setIfInBounds_toArray, List.set_cons_zero, List.set_cons_succ]
                     refine tk (i := 31) (v := ?_) rfl (by rfl) ?_ (by assumption) ?_
                     rotate_left
                     ·
                      intro w hSw
                      go_simp
                      with_reducible rfl
                     change wpAnyH _ _ _ _ _ _ _ (Act.put _ (some 218) _) _
                     simp only [Act.put, List.setIfInBounds_toArray, List.set_cons_zero, List.set_cons_succ]
                     refine wpAnyH_done (by kernel_rfl) ?_ _
                     go_wp2_with fail
                     go_meet
                     exact ⟨false, L', rfl, HZD, HBD, Lib.hid (by rw [Bool.or_false]; exact HPM.out.hand0 HAH.out)⟩
                   ·
                    have e0 : decide (0 ≤ a) = false := by simpa using hx0
                    have HAH : Hid (AllH l (fun i => (Q i).getD []) L'.s i) := Lib.hid (fun j hj he => by
                     have h2 := HLAST.out.symm.trans he
                     cases h2
                     omega)
                    refine tk (i := 0) (v := ?_) rfl (by rfl) ?_ (by assumption) ?_
                    rotate_left
                    ·
                     intro w hSw
                     go_simp
                     with_reducible rfl
                    change wpAnyH _ _ _ _ _ _ _ (Act.put _ (some 187) _) _
                    simp only [Act.put, List.setIfInBounds_toArray, List.set_cons_zero, List.set_cons_succ]
                    refine tk (i := 1) (v := ?_) rfl (by rfl) ?_ (by assumption) ?_
                    rotate_left
                    ·
                     intro w hSw
                     go_simp
                     with_reducible rfl
                    change wpAnyH _ _ _ _ _ _ _ (Act.put _ (some 188) _) _
                    simp only [Act.put, List.setIfInBounds_toArray, List.set_cons_zero, List.set_cons_succ]
                    refine tk (i := 2) (v := ?_) rfl (by rfl) ?_ (by assumption) ?_
                    rotate_left
                    ·
                     intro w hSw
                     go_simp
                     with_reducible rfl
                    change wpAnyH _ _ _ _ _ _ _ (Act.put _ (some 189) _) _
                    simp only [Act.put, List.setIfInBounds_toArray, List.set_cons_zero, List.set_cons_succ]
                    refine tk (i := 3) (v := ?_) rfl (by rfl) ?_ (by assumption) ?_
                    rotate_left
                    ·
                     intro w hSw
                     go_simp
                     with_reducible rfl
                    change wpAnyH _ _ _ _ _ _ _ (Act.put _ (some 190) _) _
                    simp only [Act.put, List.setIfInBounds_toArray, List.set_cons_zero, List.set_cons_succ]
                    refine tk (i := 4) (v := ?_) rfl (by rfl) ?_ (by assumption) ?_
                    rotate_left
                    ·
                     intro w hSw
                     go_simp
                     with_reducible rfl
                    change wpAnyH _ _ _ _ _ _ _ (Act.put _ (some 191) _) _
                    simp only [Act.put, List.setIfInBounds_toArray, List.set_cons_zero, List.set_cons_succ]
                    refine tk (i := 5) (v := ?_) rfl (by rfl) ?_ (by assumption) ?_
                    rotate_left
                    ·
                     intro w hSw
                     go_simp
                     with_reducible rfl
                    change wpAnyH _ _ _ _ _ _ _ (Act.put _ (some 192) _) _
                    simp only [Act.put, List.setIfInBounds_toArray, List.set_cons_zero, List.set_cons_succ]
                    refine tk (i := 6) (v := ?_) rfl (by rfl) ?_ (by assumption) ?_
                    rotate_left
                    ·
                     intro w hSw
                     have cc := HN5.out _ hSw.bl
                     go_simp
                     with_reducible rfl
                    change wpAnyH _ _ _ _ _ _ _ (Act.put _ (some 193) _) _
                    simp only [Act.put, List.setIfInBounds_toArray, List.set_cons_zero, List.set_cons_succ]
                    refine tk (i := 7) (v := ?_) rfl (by rfl) ?_ (by assumption) ?_
                    rotate_left
                    ·
                     intro w hSw
                     go_simp
                     with_reducible rfl
                    change wpAnyH _ _ _ _ _ _ _ (Act.put _ (some 194) _) _
                    simp only [Act.put, List.setIfInBounds_toArray, List.set_cons_zero, List.set_cons_succ]
                    refine tk (i := 8) (v := ?_) rfl (by rfl) ?_ (by assumption) ?_
                    rotate_left
                    ·
                     intro w hSw
                     go_simp
                     with_reducible rfl
                    change wpAnyH _ _ _ _ _ _ _ (Act.put _ (some 195) _) _
                    simp only [Act.put, List.setIfInBounds_toArray, List.set_cons_zero, List.set_cons_succ]
                    refine tk (i := 9) (v := ?_) rfl (by rfl) ?_ (by assumption) ?_
                    rotate_left
                    ·
                     intro w hSw
                     go_simp
                     with_reducible rfl
                    change wpAnyH _ _ _ _ _ _ _ (Act.put _ (some 196) _) _
                    simp only [Act.put, List.setIfInBounds_toArray, List.set_cons_zero, List.set_cons_succ]
                    refine tks (i := 10) rfl (by rfl) (by assumption) ?_
                    change wpAnyH _ _ _ _ _ _ _ (Act.put _ (some 197) _) _
                    simp only [Act.put, List.setIfInBounds_toArray, List.set_cons_zero, List.set_cons_succ]
                    refine tks (i := 11) rfl (by rfl) (by assumption) ?_
                    change wpAnyH _ _ _ _ _ _ _ (Act.put _ (some 198) _) _
                    simp only [Act.put, List.setIfInBounds_toArray, List.set_cons_zero, List.set_cons_succ]
                    refine tks (i := 12) rfl (by rfl) (by assumption) ?_
                    change wpAnyH _ _ _ _ _ _ _ (Act.put _ (some 199) _) _
                    simp only [Act.put, List.setIfInBounds_toArray, List.set_cons_zero, List.set_cons_succ]
                    refine tks (i := 13) rfl (by rfl) (by assumption) ?_
                    change wpAnyH _ _ _ _ _ _ _ (Act.put _ (some 200) _) _
                    simp only [Act.put, List.setIfInBounds_toArray, List.set_cons_zero, List.set_cons_succ]
                    refine tks (i := 14) rfl (by rfl) (by assumption) ?_
                    change wpAnyH _ _ _ _ _ _ _ (Act.put _ (some 201) _) _
                    simp only [Act.put, List.setIfInBounds_toArray, List.set_cons_zero, List.set_cons_succ]
                    refine tks (i := 15) rfl (by rfl) (by assumption) ?_
                    change wpAnyH _ _ _ _ _ _ _ (Act.put _ (some 202) _) _
                    simp only [Act.put, List.setIfInBounds_toArray, List.set_cons_zero, List.set_cons_succ]
                    refine tks (i := 16) rfl (by rfl) (by assumption) ?_
                    change wpAnyH _ _ _ _ _ _ _ (Act.put _ (some 203) _) _
                    simp only [Act.put, List.setIfInBounds_toArray, List.set_cons_zero, List.set_cons_succ]
                    refine tk (i := 17) (v := ?_) rfl (by rfl) ?_ (by assumption) ?_
                    rotate_left
                    ·
                     intro w hSw
                     go_simp
                     with_reducible rfl
                    change wpAnyH _ _ _ _ _ _ _ (Act.put _ (some 204) _) _
                    simp only [Act.put, List.setIfInBounds_toArray, List.set_cons_zero, List.set_cons_succ]
                    refine tk (i := 18) (v := ?_) rfl (by rfl) ?_ (by assumption) ?_
                    rotate_left
                    ·
                     intro w hSw
                     go_simp
                     with_reducible rfl
                    change wpAnyH _ _ _ _ _ _ _ (Act.put _ (some 205) _) _
                    simp only [Act.put, List.setIfInBounds_toArray, List.set_cons_zero, List.set_cons_succ]
                    refine tks (i := 19) rfl (by rfl) (by assumption) ?_
                    change wpAnyH _ _ _ _ _ _ _ (Act.put _ (some 206) _) _
                    simp only [Act.put, List.setIfInBounds_toArray, List.set_cons_zero, List.set_cons_succ]
                    refine tks (i := 20) rfl (by rfl) (by assumption) ?_
                    change wpAnyH _ _ _ _ _ _ _ (Act.put _ (some 207) _) _
                    simp only [Act.put, List.setIfInBounds_toArray, List.set_cons_zero, List.set_cons_succ]
                    refine tks (i := 21) rfl (by rfl) (by assumption) ?_
                    change wpAnyH _ _ _ _ _ _ _ (Act.put _ (some 208) _) _
                    simp only [Act.put, List.setIfInBounds_toArray, List.set_cons_zero, List.set_cons_succ]
                    refine tks (i := 22) rfl (by rfl) (by assumption) ?_
                    change wpAnyH _ _ _ _ _ _ _ (Act.put _ (some 209) _) _
                    simp only [Act.put, List.setIfInBounds_toArray, List.set_cons_zero, List.set_cons_succ]
                    refine tks (i := 23) rfl (by rfl) (by assumption) ?_
                    change wpAnyH _ _ _ _ _ _ _ (Act.put _ (some 210) _) _
                    simp only [Act.put, List.setIfInBounds_toArray, List.set_cons_zero, List.set_cons_succ]
                    refine tks (i := 24) rfl (by rfl) (by assumption) ?_
                    change wpAnyH _ _ _ _ _ _ _ (Act.put _ (some 211) _) _
                    simp only [Act.put, List.setIfInBounds_toArray, List.set_cons_zero, List.set_cons_succ]
                    refine tks (i := 25) rfl (by rfl) (by assumption) ?_
                    change wpAnyH _ _ _ _ _ _ _ (Act.put _ (some 212) _) _
                    simp only [Act.put, List.setIfInBounds_toArray, List.set_cons_zero, List.set_cons_succ]
                    refine tks (i := 26) rfl (by rfl) (by assumption) ?_
                    change wpAnyH _ _ _ _ _ _ _ (Act.put _ (some 213) _) _
                    simp only [Act.put, List.setIfInBounds_toArray, List.set_cons_zero, List.set_cons_succ]
                    refine tks (i := 27) rfl (by rfl) (by assumption) ?_
                    change wpAnyH _ _ _ _ _ _ _ (Act.put _ (some 214) _) _
                    simp only [Act.put, List.setIfInBounds_toArray, List.set_cons_zero, List.set_cons_succ]
                    refine tks (i := 28) rfl (by rfl) (by assumption) ?_
                    change wpAnyH _ _ _ _ _ _ _ (Act.put _ (some 215) _) _
                    simp only [Act.put, List.setIfInBounds_toArray, List.set_cons_zero, List.set_cons_succ]
                    refine tks (i := 29) rfl (by rfl) (by assumption) ?_
                    change wpAnyH _ _ _ _ _ _ _ (Act.put _ (some 216) _) _
                    simp only [Act.put, List.setIfInBounds_toArray, List.set_cons_zero, List.set_cons_succ]
                    refine tks (i := 30) rfl (by rfl) (by assumption) ?_
                    change wpAnyH _ _ _ _ _ _ _ (Act.put _ (some 217) _) _
                    simp only [Act.put, List.setIfInBounds_toArray, List.set_cons_zero, List.set_cons_succ]
                    refine tk (i := 31) (v := ?_) rfl (by rfl) ?_ (by assumption) ?_
                    rotate_left
                    ·
                     intro w hSw
                     go_simp
                     with_reducible rfl
                    change wpAnyH _ _ _ _ _ _ _ (Act.put _ (some 218) _) _
                    simp only [Act.put, List.setIfInBounds_toArray, List.set_cons_zero, List.set_cons_succ]
                    refine wpAnyH_done (by kernel_rfl) ?_ _
                    go_wp2_with fail
                    go_meet
                    exact ⟨false, L', rfl, HZD, HBD, Lib.hid (by rw [Bool.or_false]; exact HPM.out.hand0 HAH.out)⟩
                 case rest =>
                  obtain ⟨r, L2, rfl, HZ2, HB2, HP2⟩ := hcut
                  clear HZM HBM HPM HNE
                  cases r with
                  | false =>
                   rw [Bool.or_false] at HP2
                   have HZW := HZ2
                   have HBW := HB2
                   have HPW := HP2
                   clear HZ2 HB2 HP2
                   have ci := HBW.out.1.cell 0
                   simp only [List.getElem?_toArray, List.getElem?_cons_zero] at ci
                   go_upto_region 38 with fail
                   obtain ⟨ib2, hib2⟩ : ∃ q, q = wc.heap.size := ⟨_, rfl⟩
                   have LZA := Lib.hid (HZW.out.grow ((Below.refl _ wc).alloc (Nat.le_refl _) (.cells #[.int .i64 (i : Int)] 3)) (Nat.le_refl _))
                   have BA : Hid (Blk (wc.alloc (.cells #[.int .i64 (i : Int)] 3)) ib2 3 #[.int .i64 (i : Int)] ∧ m1 ≤ ib2) := Lib.hid ⟨by rw [hib2]; exact Blk.new _ 3 _, by rw [hib2]; exact HZW.out.sz⟩
                   generalize wc.alloc (.cells #[.int .i64 (i : Int)] 3) = wA at LZA BA ⊢
                   rw [← hib2]
                   clear hib2 HZW HBW ci
                   have ca := BA.out.1.cell 0
                   simp only [List.getElem?_toArray, List.getElem?_cons_zero] at ca
                   have fa := BA.out.1.frozen 0
                   have hwi : wrap64 ((i : Int) - 1) = (i : Int) - 1 := by unfold wrap64; omega
                   have LZB := Lib.hid (LZA.out.far BA.out.1 (by decide) BA.out.2 (.int .i64 ((i : Int) - 1)))
                   have BB : Hid (Blk (wA.setCell ⟨ib2, 0, none⟩ (.int .i64 ((i : Int) - 1))) ib2 3 #[.int .i64 ((i : Int) - 1)] ∧ m1 ≤ ib2) := Lib.hid ⟨by have := BA.out.1.set_ 0 (.int .i64 ((i : Int) - 1)); simpa using this, BA.out.2⟩
                   go_wp2_with fail
                   refine Handed.intro i (by have := HMU2.out; omega) (hJ2 _ _ _ ?_)
                   refine ⟨_, ib2, (i : Int) - 1, ch', _, _, ⟨⟨by omega, by omega, by omega⟩, LZB, BB, HPW⟩, ?_, congrArg (fun t => ({ tmps := t, defers := _ } : Act)) (tm_in (N := 254) rfl)⟩
                   exact ⟨rfl, rfl, rfl, rfl, rfl, rfl, rfl, rfl⟩
                  | true =>
                   rw [Bool.or_true] at HP2
                   have HPW := HP2
                   have cc := HZ2.out.bc.cell 0
                   have ff := HZ2.out.bc.frozen 0
                   simp only [List.getElem?_toArray, List.getElem?_cons_zero] at cc
                   go_upto_region 47 with fail
                   have HZW := Lib.hid (HZ2.out.note true)
                   have HBW : Hid (Blk (wc.setCell ⟨c, 0, none⟩ (.bool true)) ib 3 #[.int .i64 (i : Int)] ∧ m1 ≤ ib) := Lib.hid ⟨HB2.out.1.far (p := ⟨c, 0, none⟩) (blk_ne HB2.out.1 HZ2.out.bc (by decide)) _, HB2.out.2⟩
                   generalize wc.setCell ⟨c, 0, none⟩ (.bool true) = wq at HZW HBW ⊢
                   clear HZ2 HB2 HP2 cc ff
                   have ci := HBW.out.1.cell 0
                   simp only [List.getElem?_toArray, List.getElem?_cons_zero] at ci
                   go_upto_region 38 with fail
                   obtain ⟨ib2, hib2⟩ : ∃ q, q = wq.heap.size := ⟨_, rfl⟩
                   have LZA := Lib.hid (HZW.out.grow ((Below.refl _ wq).alloc (Nat.le_refl _) (.cells #[.int .i64 (i : Int)] 3)) (Nat.le_refl _))
                   have BA : Hid (Blk (wq.alloc (.cells #[.int .i64 (i : Int)] 3)) ib2 3 #[.int .i64 (i : Int)] ∧ m1 ≤ ib2) := Lib.hid ⟨by rw [hib2]; exact Blk.new _ 3 _, by rw [hib2]; exact HZW.out.sz⟩
                   generalize wq.alloc (.cells #[.int .i64 (i : Int)] 3) = wA at LZA BA ⊢
                   rw [← hib2]
                   clear hib2 HZW HBW ci
                   have ca := BA.out.1.cell 0
                   simp only [List.getElem?_toArray, List.getElem?_cons_zero] at ca
                   have fa := BA.out.1.frozen 0
                   have hwi : wrap64 ((i : Int) - 1) = (i : Int) - 1 := by unfold wrap64; omega
                   have LZB := Lib.hid (LZA.out.far BA.out.1 (by decide) BA.out.2 (.int .i64 ((i : Int) - 1)))
                   have BB : Hid (Blk (wA.setCell ⟨ib2, 0, none⟩ (.int .i64 ((i : Int) - 1))) ib2 3 #[.int .i64 ((i : Int) - 1)] ∧ m1 ≤ ib2) := Lib.hid ⟨by have := BA.out.1.set_ 0 (.int .i64 ((i : Int) - 1)); simpa using this, BA.out.2⟩
                   go_wp2_with fail
                   refine Handed.intro i (by have := HMU2.out; omega) (hJ2 _ _ _ ?_)
                   refine ⟨_, ib2, (i : Int) - 1, true, _, _, ⟨⟨by omega, by omega, by omega⟩, LZB, BB, HPW⟩, ?_, congrArg (fun t => ({ tmps := t, defers := _ } : Act)) (tm_in (N := 254) rfl)⟩
                   exact ⟨rfl, rfl, rfl, rfl, rfl, rfl, rfl, rfl⟩
              ·
               have hz : z = -1 := by omega
               subst hz
               clear hmu2 hz0 hz1 hz2
               have cc := HLZ.out.bc.cell 0
               simp only [List.getElem?_toArray, List.getElem?_cons_zero] at cc
               obtain ⟨c2, hc2⟩ : ∃ q, q = wr.heap.size := ⟨_, rfl⟩
               have LZA := Lib.hid ((HLZ.out.grow ((Below.refl _ wr).alloc (Nat.le_refl _) (.cells #[.bool ch] 4)) (Nat.le_refl _)).anew (c' := c2) (ch' := ch) (by rw [hc2]; exact Blk.new wr 4 _) (by rw [hc2]; exact HLZ.out.sz))
               go_wp2_with fail
               generalize wr.alloc (.cells #[.bool ch] 4) = wA at LZA ⊢
               rw [← hc2]
               have HCL2 : Hid (ch = false → ∀ i, i < l.length → Cl l fr (fun i => (Q i).getD []) D.s L.s i) := Lib.hid (fun h i hi => (HPI.out.no h).2 i (by omega) hi)
               refine Handed.intro (2 * miss l.length all.length L.s + ch.toNat) ?_ (hJ _ _ _ ?_)
               ·
                have h1 := HMU.out
                have h2 := HPI.out.no
                have h3 := HPI.out.yes
                cases ch with
                | false =>
                 have := (h2 rfl).1
                 simp at h1 ⊢
                 omega
                | true =>
                 have := h3 rfl
                 simp at h1 ⊢
                 omega
               refine ⟨Ds, c2, ch, L, _, ⟨rfl, LZA, HCL2⟩, ?_, congrArg (fun t => ({ tmps := t, defers := Ds.map rmark } : Act)) (tm_in (N := 254) rfl)⟩
               exact ⟨rfl, rfl, rfl, rfl, rfl, rfl, rfl⟩
end Go.Proofs.YtekfnonjhcfdmaaDoor
