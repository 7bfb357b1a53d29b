/- stagehandref07.Put. -/
import Derived.Test.YtemlogadbopffaaGreatRefC
namespace Go.Proofs.YtemlogadbopffaaGreat
open Go.RowKit Go.Rt Go.Rw

theorem bs_string {W : World} {B g n c : Nat} {l : List UInt8} (h : BS W B (.slice (some ⟨g, 0, none⟩) n c) l) : (convert 48 9 (.slice (some ⟨g, 0, none⟩) n c)).run Tryz.prog W = .ok (.string ⟨l.toArray⟩) W := by
 obtain rfl : n = l.length := by
  rcases Sl.form h with ⟨e, _⟩ | ⟨g', cap', e, _⟩
  ·
   cases e
  ·
   cases e; rfl
 refine run_convert_bytes_back W 48 9 5 ⟨g, 0, none⟩ c l Tryz.underlying48 Tryz.underlying5 Tryz.underlying9 ?_
 intro j hj
 exact World.ownsRow.cells (g := g) h rfl j (.int .u8 (l[j].toNat : Int)) (by rw [bC_flat]; simp [Lib.byteCells, hj])
end Go.Proofs.YtemlogadbopffaaGreat
