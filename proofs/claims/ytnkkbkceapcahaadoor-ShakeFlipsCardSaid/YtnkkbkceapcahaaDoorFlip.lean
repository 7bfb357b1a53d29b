/- flipped: a string with one bit changed. -/
import Derived.Test.YtnkkbkceapcahaaDoorNum1
import Derived.Test.YtnkkbkceapcahaaDoorTail1
import Derived.BigRegion
import Derived.Laws.Closers25b
import Derived.Laws.IdiomStrings
namespace Go.Proofs.YtnkkbkceapcahaaDoor
open Go.RowKit Go.Rt

/-- A byte with one bit changed. -/
def flipY (c k : Nat) : Int := bits BinOp.xor IntKind.u8 (c : Int) (2 ^ (k % 8) % 256)
theorem flipY_u8 (c k : Nat) : flipY c k = ((UInt8.ofNat (flipY c k).toNat).toNat : Int) := by
  have h := bits_within BinOp.xor IntKind.u8 (c : Int) (2 ^ (k % 8) % 256)
  have h1 : 0 ≤ flipY c k := h.1
  have h2 : flipY c k ≤ 255 := h.2
  rw [UInt8.toNat_ofNat', Nat.mod_eq_of_lt (by show _ < 256; omega)]
  omega
/-- A string with one bit changed. -/
def flipK (b : ByteArray) (k : Nat) : ByteArray := b.extract 0 (k / 8) ++ ⟨#[UInt8.ofNat (flipY (b.data.getD (k / 8) 0).toNat k).toNat]⟩ ++ b.extract (k / 8 + 1) b.size
def flipF (b : ByteArray) (bit : Nat) : ByteArray := if b.size = 0 then b else flipK b (bit % (8 * b.size))
theorem flip_conv (c k : Nat) (W : World) (g : Nat) (hc : W.cell? ⟨g, 0, none⟩ = some (.int .u8 (flipY c k))) :
    (convert 81 9 (.slice (some ⟨g, 0, none⟩) 1 1)).run Tryd.prog W = .ok (.string ⟨#[UInt8.ofNat (flipY c k).toNat]⟩) W := by
  have q := run_convert_bytes_back (P := Tryd.prog) W 81 9 5 ⟨g, 0, none⟩ 1 [UInt8.ofNat (flipY c k).toNat] Tryd.underlying81 Tryd.underlying5 Tryd.underlying9 (by
    intro j hj
    simp only [List.length_cons, List.length_nil] at hj
    obtain rfl : j = 0 := by omega
    have e : (⟨g, 0, none⟩ : Addr).add 0 = ⟨g, 0, none⟩ := rfl
    rw [e, hc]
    show some (Value.int IntKind.u8 (flipY c k)) = some (Value.int IntKind.u8 ((UInt8.ofNat (flipY c k).toNat).toNat : Int))
    rw [← flipY_u8])
  exact q
theorem flipF_size (b : ByteArray) (bit : Nat) : (flipF b bit).size ≤ b.size := by
  unfold flipF
  split
  · exact Nat.le_refl _
  · rename_i h
    have := Nat.mod_lt bit (y := 8 * b.size) (by omega)
    unfold flipK
    simp only [ByteArray.size_append, ByteArray.size_extract]
    have e : ∀ u : UInt8, (ByteArray.mk #[u]).size = 1 := fun _ => rfl
    rw [e]
    omega

set_option maxRecDepth 100000 in
set_option maxHeartbeats 2000000 in
theorem flipped_yes (b : ByteArray) (bit : Nat) (hb : 0 < b.size) (hz : b.size ≤ 100000) (hbit : bit ≤ 65535) (w : World) :
    Calls Tryd.prog 20 #[.string b, .int .u16 bit] w fun e w' => e = .returned (.string (flipF b bit)) ∧ Below w.heap.size w w' := by
  have hF : flipF b bit = flipK b (bit % (8 * b.size)) := by unfold flipF; rw [if_neg (by omega)]
  rw [hF]
  obtain ⟨k, hk⟩ : ∃ k, k = bit % (8 * b.size) := ⟨_, rfl⟩
  rw [← hk]
  have hq : k / 8 < b.size := by
    have := Nat.mod_lt bit (y := 8 * b.size) (by omega)
    rw [← hk] at this
    omega
  have e0 : ((b.size : Int) == 0) = false := beq_eq_false_iff_ne.2 (by omega)
  have e1 : Int.tmod (bit : Int) (8 * (b.size : Int)) = k := by rw [hk]; exact_mod_cast (Int.ofNat_tmod bit (8 * b.size)).symm
  have i1 : (k : Int) / 8 ≤ b.size := by omega
  have i2 : (k : Int) / 8 < b.size := by omega
  have i3 : (k : Int) / 8 + 1 ≤ b.size := by omega
  have i4 : (0 : Int) ≤ (k : Int) / 8 := by omega
  have hg : b[k / 8].toNat = (b.data.getD (k / 8) 0).toNat := by
    have hd : k / 8 < b.data.size := hq
    rw [Array.getD_eq_getD_getElem?, Array.getElem?_eq_getElem hd]
    rfl
  obtain ⟨u, hu⟩ : ∃ u, u = UInt8.ofNat (flipY (b.data.getD (k / 8) 0).toNat k).toNat := ⟨_, rfl⟩
  have hcv : (convert 81 9 (.slice (some ⟨w.heap.size, 0, none⟩) 1 1)).run Tryd.prog (w.alloc (.cells #[.int .u8 (bits BinOp.xor IntKind.u8 (b[k / 8].toNat : Int) (2 ^ (k % 8) % 256))] 5)).drew = .ok (.string ⟨#[u]⟩) (w.alloc (.cells #[.int .u8 (bits BinOp.xor IntKind.u8 (b[k / 8].toNat : Int) (2 ^ (k % 8) % 256))] 5)).drew := by
    rw [hg, hu]
    exact flip_conv _ _ _ _ ((Blk.new w 5 #[.int .u8 (bits BinOp.xor IntKind.u8 ((b.data.getD (k / 8) 0).toNat : Int) (2 ^ (k % 8) % 256))]).drew.cell 0)
  have HR : Hid (flipK b k = b.extract 0 (k / 8) ++ ⟨#[u]⟩ ++ b.extract (k / 8 + 1) b.size) := Lib.hid (by rw [hu]; rfl)
  clear hk hF hg hu
  go_enter Tryd.func20, Tryd.ntmps20
  go_wp2
  go_region
  all_goals
    go_wp2
    go_ret
    exact ⟨by rw [HR.out]; rfl, ((Below.refl _ _).alloc (Nat.le_refl _) _).drew⟩
set_option maxRecDepth 100000 in
theorem flipped_any (b : ByteArray) (bit : Nat) (hz : b.size ≤ 100000) (hbit : bit ≤ 65535) (w : World) :
    Calls Tryd.prog 20 #[.string b, .int .u16 bit] w fun e w' => e = .returned (.string (flipF b bit)) ∧ Below w.heap.size w w' := by
  by_cases hb : b.size = 0
  · have hF : flipF b bit = b := by unfold flipF; rw [if_pos hb]
    rw [hF]
    have e0 : ((b.size : Int) == 0) = true := beq_iff_eq.2 (by omega)
    clear hb hF
    go_enter Tryd.func20, Tryd.ntmps20
    go_wp2
    go_ret
    exact ⟨rfl, Below.refl _ _⟩
  · exact flipped_yes b bit (by omega) hz hbit w
end Go.Proofs.YtnkkbkceapcahaaDoor
