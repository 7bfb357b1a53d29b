/- A lent copy of a term beside its original: behind the parts of each of its slices two marks lie. No condition beyond the premises of each theorem. -/
import Derived.Test.YtcpdmlnodhokmaaArgs
namespace Go.Proofs.Ytcpdmlnodhokmaa
open Go.RowKit Go.Rt Go.Rw

def spareB : ByteArray := ⟨#[115, 112, 97, 114, 101]⟩
def mkFl : Fl := ⟨-7, 4711, 0, spareB, noB, 0, noB, 0⟩
def mkFt : Ft := ⟨mkFl, .slice none 0 0⟩
def mkTm : Tm := .mk mkFl []
theorem mk_at (S : Nat → Prop) (w : World) : TmAt S w mkTm mkFt := TmAt.of rfl (ItsAt.nil none 0)
theorem slat_take {w : World} {g n n' cap : Nat} {L M : List Ft} (h : SlAt w 9 ftC (.slice (some ⟨g, 0, none⟩) n' cap) (L ++ M)) (hn : n = L.length) : SlAt w 9 ftC (.slice (some ⟨g, 0, none⟩) n cap) L := by
  subst hn
  rcases h with ⟨h0, _⟩ | ⟨b, o, c, e, h1, h2, h3⟩
  · obtain ⟨rfl, _⟩ := List.append_eq_nil_iff.1 h0
    exact .inl ⟨rfl, _, _, rfl⟩
  · cases e
    rw [List.length_append] at h1
    refine .inr ⟨g, 0, cap, rfl, by omega, h2, fun i j hi hj => ?_⟩
    rw [h3 i j (by rw [List.length_append]; omega) hj, List.getElem_append_left hi]
mutual
def PairAt (S : Nat → Prop) (w : World) : Tm → Ft → Ft → Prop
  | .mk f l, y, x => y.f = f ∧ x.f = f ∧ ((l = [] ∧ (∃ c, x.v = .slice none 0 c) ∧ y.v = .slice none 0 0) ∨
     ∃ a c g cap Ys Xs, x.v = .slice (some a) l.length c ∧ y.v = .slice (some ⟨g, 0, none⟩) l.length cap ∧ l.length + 2 ≤ cap ∧ cap ≤ 9223372036854775807 ∧ S g ∧ g < w.heap.size ∧ SlAt w 9 ftC (.slice (some ⟨g, 0, none⟩) (l.length + 2) cap) (Ys ++ [mkFt, mkFt]) ∧ SlAt w 9 ftC x.v Xs ∧ InS S x.v ∧ PairsAt S w l Ys Xs)
def PairsAt (S : Nat → Prop) (w : World) : List Tm → List Ft → List Ft → Prop
  | [], Ys, Xs => Ys = [] ∧ Xs = []
  | t :: r, Ys, Xs => ∃ y q x p, Ys = y :: q ∧ Xs = x :: p ∧ PairAt S w t y x ∧ PairsAt S w r q p
end
/-- A lent slice beside the original's. -/
def PairV (S : Nat → Prop) (w : World) (l : List Tm) (yv xv : Value) : Prop := (l = [] ∧ (∃ c, xv = .slice none 0 c) ∧ yv = .slice none 0 0) ∨
     ∃ a c g cap Ys Xs, xv = .slice (some a) l.length c ∧ yv = .slice (some ⟨g, 0, none⟩) l.length cap ∧ l.length + 2 ≤ cap ∧ cap ≤ 9223372036854775807 ∧ S g ∧ g < w.heap.size ∧ SlAt w 9 ftC (.slice (some ⟨g, 0, none⟩) (l.length + 2) cap) (Ys ++ [mkFt, mkFt]) ∧ SlAt w 9 ftC xv Xs ∧ InS S xv ∧ PairsAt S w l Ys Xs
theorem PairAt.its {S : Nat → Prop} {w : World} {t : Tm} {y x : Ft} (h : PairAt S w t y x) : y.f = t.f ∧ x.f = t.f ∧ PairV S w t.l y.v x.v := by
  cases t
  unfold PairAt at h
  exact h
theorem PairAt.of {S : Nat → Prop} {w : World} {t : Tm} {y x : Ft} (h1 : y.f = t.f) (h2 : x.f = t.f) (h3 : PairV S w t.l y.v x.v) : PairAt S w t y x := by
  cases t
  unfold PairAt
  exact ⟨h1, h2, h3⟩
theorem PairsAt.length {S : Nat → Prop} {w : World} : ∀ {l : List Tm} {Ys Xs : List Ft}, PairsAt S w l Ys Xs → Ys.length = l.length ∧ Xs.length = l.length
  | [], Ys, Xs, h => by unfold PairsAt at h; rw [h.1, h.2]; exact ⟨rfl, rfl⟩
  | t :: r, Ys, Xs, h => by
    unfold PairsAt at h
    obtain ⟨y, q, x, p, rfl, rfl, _, h2⟩ := h
    simp [h2.length.1, h2.length.2]
theorem PairsAt.get {S : Nat → Prop} {w : World} : ∀ {l : List Tm} {Ys Xs : List Ft}, PairsAt S w l Ys Xs → ∀ i (h1 : i < l.length) (h2 : i < Ys.length) (h3 : i < Xs.length), PairAt S w l[i] Ys[i] Xs[i]
  | [], Ys, Xs, h, i, h1, _, _ => by simp at h1
  | t :: r, Ys, Xs, h, i, h1, h2, h3 => by
    unfold PairsAt at h
    obtain ⟨y, q, x, p, rfl, rfl, hx, hq⟩ := h
    cases i with
    | zero => exact hx
    | succ i => exact hq.get i (by simpa using h1) (by simpa using h2) (by simpa using h3)
theorem PairsAt.snoc {S : Nat → Prop} {w : World} {t : Tm} {y x : Ft} : ∀ {l : List Tm} {Ys Xs : List Ft}, PairsAt S w l Ys Xs → PairAt S w t y x → PairsAt S w (l ++ [t]) (Ys ++ [y]) (Xs ++ [x])
  | [], Ys, Xs, h, hx => by
    unfold PairsAt at h
    obtain ⟨rfl, rfl⟩ := h
    show PairsAt S w [t] [y] [x]
    unfold PairsAt
    exact ⟨y, [], x, [], rfl, rfl, hx, by unfold PairsAt; exact ⟨rfl, rfl⟩⟩
  | u :: r, Ys, Xs, h, hx => by
    unfold PairsAt at h
    obtain ⟨z, q, v, p, rfl, rfl, hy, hq⟩ := h
    rw [List.cons_append]
    unfold PairsAt
    exact ⟨z, q ++ [y], v, p ++ [x], rfl, rfl, hy, hq.snoc hx⟩
mutual
theorem PairAt.map {S S' : Nat → Prop} {w w' : World} (hs : w.heap.size ≤ w'.heap.size) (hb : ∀ b, S b → b < w.heap.size → w'.heap[b]? = w.heap[b]?) (hS : ∀ b, S b → b < w.heap.size → S' b) : ∀ {t : Tm} {y x : Ft}, PairAt S w t y x → PairAt S' w' t y x
  | .mk f l, y, x, h => by
    unfold PairAt at h ⊢
    obtain ⟨e1, e2, h | ⟨a, c, g, cap, Ys, Xs, h1, h2, h3, h4, h5, h6, h7, h8, h9, h10⟩⟩ := h
    · exact ⟨e1, e2, .inl h⟩
    · have hl := slat_lt h8
      exact ⟨e1, e2, .inr ⟨a, c, g, cap, Ys, Xs, h1, h2, h3, h4, hS g h5 h6, by omega, slat_same h7 hs (fun b o n c' e hn => by cases e; exact hb _ h5 h6), slat_same h8 hs (fun b o n cap q hn => hb b (h9 b o n cap q hn) (hl b o n cap q hn)), fun b o n cap q hn => hS b (h9 b o n cap q hn) (hl b o n cap q hn), PairsAt.map hs hb hS h10⟩⟩
theorem PairsAt.map {S S' : Nat → Prop} {w w' : World} (hs : w.heap.size ≤ w'.heap.size) (hb : ∀ b, S b → b < w.heap.size → w'.heap[b]? = w.heap[b]?) (hS : ∀ b, S b → b < w.heap.size → S' b) : ∀ {l : List Tm} {Ys Xs : List Ft}, PairsAt S w l Ys Xs → PairsAt S' w' l Ys Xs
  | [], Ys, Xs, h => by unfold PairsAt at h ⊢; exact h
  | t :: r, Ys, Xs, h => by
    unfold PairsAt at h ⊢
    obtain ⟨y, q, x, p, e1, e2, hx, hq⟩ := h
    exact ⟨y, q, x, p, e1, e2, PairAt.map hs hb hS hx, PairsAt.map hs hb hS hq⟩
end
theorem PairV.map {S S' : Nat → Prop} {w w' : World} (hs : w.heap.size ≤ w'.heap.size) (hb : ∀ b, S b → b < w.heap.size → w'.heap[b]? = w.heap[b]?) (hS : ∀ b, S b → b < w.heap.size → S' b) {l : List Tm} {yv xv : Value} (h : PairV S w l yv xv) : PairV S' w' l yv xv := by
  rcases h with h | ⟨a, c, g, cap, Ys, Xs, h1, h2, h3, h4, h5, h6, h7, h8, h9, h10⟩
  · exact .inl h
  · have hl := slat_lt h8
    exact .inr ⟨a, c, g, cap, Ys, Xs, h1, h2, h3, h4, hS g h5 h6, by omega, slat_same h7 hs (fun b o n c' e hn => by cases e; exact hb _ h5 h6), slat_same h8 hs (fun b o n cap q hn => hb b (h9 b o n cap q hn) (hl b o n cap q hn)), fun b o n cap q hn => hS b (h9 b o n cap q hn) (hl b o n cap q hn), PairsAt.map hs hb hS h10⟩
theorem PairV.below {S : Nat → Prop} {w w' : World} {l : List Tm} {yv xv : Value} (h : PairV S w l yv xv) (b : Below w.heap.size w w') : PairV S w' l yv xv := h.map b.size (fun k _ hk => b.block k hk) (fun _ h _ => h)
theorem PairAt.below {S : Nat → Prop} {w w' : World} {t : Tm} {y x : Ft} (h : PairAt S w t y x) (b : Below w.heap.size w w') : PairAt S w' t y x := h.map b.size (fun k _ hk => b.block k hk) (fun _ h _ => h)
theorem PairV.form {S : Nat → Prop} {w : World} {l : List Tm} {yv xv : Value} (h : PairV S w l yv xv) : (∃ sy cy, yv = .slice sy l.length cy) ∧ ∃ sx cx, xv = .slice sx l.length cx := by
  rcases h with ⟨rfl, ⟨c, rfl⟩, rfl⟩ | ⟨a, c, g, cap, Ys, Xs, rfl, rfl, _⟩
  · exact ⟨⟨_, _, rfl⟩, ⟨_, _, rfl⟩⟩
  · exact ⟨⟨_, _, rfl⟩, ⟨_, _, rfl⟩⟩
mutual
theorem PairAt.own {S : Nat → Prop} {w : World} : ∀ {t : Tm} {y x : Ft}, PairAt S w t y x → TmAt S w t y
  | .mk f l, y, x, h => by
    unfold PairAt at h
    unfold TmAt
    obtain ⟨e1, _, ⟨rfl, _, e⟩ | ⟨a, c, g, cap, Ys, Xs, _, h2, h3, _, h5, _, h7, _, _, h10⟩⟩ := h
    · refine ⟨e1, [], .inl ⟨rfl, none, 0, e⟩, fun b o n cap q hn => ?_, by unfold TmsAt; rfl⟩
      rw [e] at q
      cases q
    · refine ⟨e1, Ys, ?_, fun b o n cap q hn => ?_, PairsAt.own h10⟩
      · rw [h2]
        exact slat_take h7 h10.length.1.symm
      · rw [h2] at q
        cases q
        exact h5
theorem PairsAt.own {S : Nat → Prop} {w : World} : ∀ {l : List Tm} {Ys Xs : List Ft}, PairsAt S w l Ys Xs → TmsAt S w l Ys
  | [], Ys, Xs, h => by unfold PairsAt at h; unfold TmsAt; exact h.1
  | t :: r, Ys, Xs, h => by
    unfold PairsAt at h
    unfold TmsAt
    obtain ⟨y, q, x, p, e1, e2, hx, hq⟩ := h
    exact ⟨y, q, e1, PairAt.own hx, PairsAt.own hq⟩
end
/-- What Lend and LendList return. -/
def LendR (B : Nat) (t : Tm) (x : Ft) (w : World) (e : Ending) (w' : World) : Prop := Below w.heap.size w w' ∧ ∃ y, e = .returned (ftV y) ∧ PairAt (fun b => b < B ∨ w.heap.size ≤ b) w' t y x
def LendLR (B : Nat) (l : List Tm) (xv : Value) (w : World) (e : Ending) (w' : World) : Prop := Below w.heap.size w w' ∧ ∃ yv, e = .returned yv ∧ PairV (fun b => b < B ∨ w.heap.size ≤ b) w' l yv xv
end Go.Proofs.Ytcpdmlnodhokmaa
