/- Lists of instructions in memory, read. No condition beyond the premises of each theorem. -/
import Derived.Test.YtekfnonjhcfdmaaDoorBlk
import Derived.Test.YtekfnonjhcfdmaaDoorPlan
namespace Go.Rw
open Go Go.RowKit Go.Rt
theorem SlAt.keep {α : Type} {c : α → List Value} {m : Nat} {w w' : World} {v : Value} {L : List α} (h : SlAt w m c v L) (b : Below w.heap.size w w') : SlAt w' m c v L := by
  rcases h with h | ⟨g, o, cap, rfl, h1, h2, h3⟩
  · exact .inl h
  · exact .inr ⟨g, o, cap, rfl, h1, Nat.lt_of_lt_of_le h2 b.size, fun i j hi hj => by rw [← h3 i j hi hj]; exact b.cell (p := ⟨g, _, none⟩) h2⟩
end Go.Rw
namespace Go.Proofs.YtekfnonjhcfdmaaDoor
open Go.RowKit Go.Rt Go.Rw

def inC (n : Int) : List Value := [.int .i64 n]
def boC (b : Bool) : List Value := [.bool b]
def arC (a : Ar) : List Value := [.int .i64 a.k, .int .i64 a.n]
def csC (c : Cs) : List Value := [.int .i64 c.lit, .int .i64 c.to]
def sgC (g : Sg) : List Value := [.int .i64 g.ty, .int .i64 g.val.k, .int .i64 g.val.n, .int .i64 g.size.k, .int .i64 g.size.n, .bool g.little]
/-- An instruction in memory: its three slices beside it. -/
structure Im where
  x : In
  sv : Value
  cv : Value
  gv : Value
def imC (f : Im) : List Value := [.int .i64 f.x.op, .int .i64 f.x.dst.k, .int .i64 f.x.dst.n, f.sv, .int .i64 f.x.to, .int .i64 f.x.n, .int .i64 f.x.live, .string f.x.name, f.cv, f.gv]
def imV (f : Im) : Value := .agg #[.int .i64 f.x.op, .int .i64 f.x.dst.k, .int .i64 f.x.dst.n, f.sv, .int .i64 f.x.to, .int .i64 f.x.n, .int .i64 f.x.live, .string f.x.name, f.cv, f.gv]
/-- The slices of an instruction. -/
structure ImAt (w : World) (f : Im) : Prop where
  src : SlAt w 2 arC f.sv f.x.src
  cases : SlAt w 2 csC f.cv f.x.cases
  segs : SlAt w 6 sgC f.gv f.x.segs
theorem ImAt.keep {w w' : World} {f : Im} (h : ImAt w f) (b : Below w.heap.size w w') : ImAt w' f := ⟨h.src.keep b, h.cases.keep b, h.segs.keep b⟩
/-- A list of instructions. -/
def InsAt (w : World) (l : List In) (v : Value) : Prop := ∃ Fs : List Im, Fs.map (·.x) = l ∧ SlAt w 10 imC v Fs ∧ ∀ f ∈ Fs, ImAt w f
theorem InsAt.keep {w w' : World} {l : List In} {v : Value} (h : InsAt w l v) (b : Below w.heap.size w w') : InsAt w' l v := by
  obtain ⟨Fs, h1, h2, h3⟩ := h
  exact ⟨Fs, h1, h2.keep b, fun f hf => (h3 f hf).keep b⟩
theorem InsAt.form {w : World} {l : List In} {v : Value} (h : InsAt w l v) : l.length ≤ 9223372036854775807 ∧ ∃ sa cap, v = .slice sa l.length cap := by
  obtain ⟨Fs, h1, h2, _⟩ := h
  have := h2.len
  rw [show Fs.length = l.length from by rw [← h1, List.length_map]] at this
  exact this
/-- The cells of instruction i. -/
theorem InsAt.get {w : World} {l : List In} {sa : Option Addr} {n cap : Nat} (h : InsAt w l (.slice sa n cap)) (hne : 0 < l.length) : ∃ b o, sa = some ⟨b, o, none⟩ ∧ b < w.heap.size ∧
    ∀ i (hi : i < l.length), ∃ f : Im, f.x = l[i] ∧ ImAt w f ∧ ∀ j, j < 10 → w.cell? ⟨b, o + i * 10 + j, none⟩ = (imC f)[j]? := by
  obtain ⟨Fs, h1, h2, h3⟩ := h
  have hlen : Fs.length = l.length := by rw [← h1, List.length_map]
  obtain ⟨b, o, rfl, hb, hc⟩ := h2.get (by omega)
  refine ⟨b, o, rfl, hb, fun i hi => ⟨Fs[i], ?_, h3 _ (List.getElem_mem _), fun j hj => hc i j (by omega) hj⟩⟩
  subst h1
  simp
/-- The ten cells. -/
theorem cells10 {W : World} {b p : Nat} {f : Im} (h : ∀ j, j < 10 → W.cell? ⟨b, p + j, none⟩ = (imC f)[j]?) :
    W.cell? ⟨b, p, none⟩ = some (.int .i64 f.x.op) ∧ W.cell? ⟨b, p + 1, none⟩ = some (.int .i64 f.x.dst.k) ∧ W.cell? ⟨b, p + 2, none⟩ = some (.int .i64 f.x.dst.n) ∧ W.cell? ⟨b, p + 3, none⟩ = some f.sv ∧ W.cell? ⟨b, p + 4, none⟩ = some (.int .i64 f.x.to) ∧
      W.cell? ⟨b, p + 5, none⟩ = some (.int .i64 f.x.n) ∧ W.cell? ⟨b, p + 6, none⟩ = some (.int .i64 f.x.live) ∧ W.cell? ⟨b, p + 7, none⟩ = some (.string f.x.name) ∧ W.cell? ⟨b, p + 8, none⟩ = some f.cv ∧ W.cell? ⟨b, p + 9, none⟩ = some f.gv :=
  ⟨h 0 (by omega), h 1 (by omega), h 2 (by omega), h 3 (by omega), h 4 (by omega), h 5 (by omega), h 6 (by omega), h 7 (by omega), h 8 (by omega), h 9 (by omega)⟩
end Go.Proofs.YtekfnonjhcfdmaaDoor
