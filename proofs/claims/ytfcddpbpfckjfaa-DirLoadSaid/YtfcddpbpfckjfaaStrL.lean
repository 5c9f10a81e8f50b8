/- A text's bytes as numbers. -/
import Derived.Test.YtfcddpbpfckjfaaChecked
import Derived.WalkKit
import Derived.Outline
import Derived.WalkSpells
import Derived.WalkLawsBesides
import Derived.Deep.QuietTactic
import Derived.Deep.RegionWith
import Derived.Deep.DeepMust
import Derived.BigQuiet
import Derived.Lib.ConvBytes
import Derived.Lib.AppendStr
import Derived.Test.YtfcddpbpfckjfaaCln
namespace Go.Proofs.Ytfcddpbpfckjfaa
open Go.RowKit
set_option linter.unusedVariables false
set_option linter.unusedSimpArgs false
/-- A text's bytes as numbers. -/
def strL (s : ByteArray) : List Int := s.data.toList.map fun b => (b.toNat : Int)
theorem strL_len (s : ByteArray) : (strL s).length = s.size := by unfold strL; rw [List.length_map, Array.length_toList]; rfl
theorem strL_byt (s : ByteArray) : ∀ q ∈ strL s, 0 ≤ q ∧ q < 256 := by
  intro q hq
  obtain ⟨b, _, rfl⟩ := List.mem_map.1 hq
  have := b.toNat_lt
  omega
theorem below_bytes (w : World) (e : TypeId) (s : ByteArray) : Below w.heap.size w (Lib.bytesWorld w e s) :=
  ⟨rfl, rfl, rfl, by rw [Lib.bytesWorld_size]; omega, fun k hk => Lib.bytesWorld_at_old w e s k hk⟩
theorem rdv_bytes (w : World) (e : TypeId) (s : ByteArray) (c : Nat) (hc : s.size ≤ c) (hm : c ≤ maxLen) : Rdv u8v (Lib.bytesWorld w e s) (.slice (some ⟨w.heap.size, 0, none⟩) s.size c) (strL s) :=
  ⟨_, c, by rw [strL_len], by rw [strL_len]; exact hc, hm, .inr ⟨w.heap.size, 0, rfl, fun i hi => by
    rw [Nat.zero_add, Lib.bytesWorld_cell w e s i (by rwa [strL_len] at hi)]
    have h2 : i < s.data.toList.length := by unfold strL at hi; rwa [List.length_map] at hi
    simp [strL, List.getD_eq_getElem?_getD, List.getElem?_eq_getElem h2]⟩⟩
theorem strOf_strL (s : ByteArray) : strOfNums (strL s) = s := by
  unfold strOfNums strL
  rw [List.map_map]
  have : (fun n : Int => UInt8.ofNat n.toNat) ∘ (fun b : UInt8 => (b.toNat : Int)) = id := by
    funext b
    simp
  rw [this, List.map_id]
theorem strCells_L (s : ByteArray) : Lib.strCells s = (strL s).map u8v := by
  unfold Lib.strCells strL
  simp
theorem strL_of {l : List Int} (h : Byt l) : strL (strOfNums l) = l := by
  unfold strL strOfNums
  simp only [List.map_map]
  conv => rhs; rw [← List.map_id l]
  refine List.map_congr_left fun q hq => ?_
  have := h q hq
  simp [Function.comp]
  omega
end Go.Proofs.Ytfcddpbpfckjfaa
