/- bytes.Equal; strings of bytes compared. -/
import Derived.Test.YtfcddpbpfckjfaaChecked
import Derived.WalkKit
import Derived.Outline
import Derived.WalkSpells
import Derived.WalkLawsBesides
import Derived.Deep.QuietTactic
import Derived.Deep.RegionWith
import Derived.Deep.DeepMust
import Derived.BigQuiet
import Derived.Test.YtfcddpbpfckjfaaMem
import Derived.RegionTactic
import Derived.ChangeAlike
import Derived.StillTailTactics
import Derived.Lib.Bytes
import Derived.Test.YtfcddpbpfckjfaaApp
namespace Go.Proofs.Ytfcddpbpfckjfaa
open Go.RowKit
set_option linter.unusedVariables false
set_option linter.unusedSimpArgs false
theorem ofNums_inj : ∀ (xs ys : List Int), (∀ q ∈ xs, 0 ≤ q ∧ q < 256) → (∀ q ∈ ys, 0 ≤ q ∧ q < 256) → xs.map (fun n => UInt8.ofNat n.toNat) = ys.map (fun n => UInt8.ofNat n.toNat) → xs = ys
  | [], [], _, _, _ => rfl
  | [], y :: ys, _, _, h => by simp at h
  | x :: xs, [], _, _, h => by simp at h
  | x :: xs, y :: ys, hx, hy, h => by
    simp only [List.map_cons, List.cons.injEq] at h
    have h1 := hx x (by simp)
    have h2 := hy y (by simp)
    have e := congrArg UInt8.toNat h.1
    rw [UInt8.toNat_ofNat', UInt8.toNat_ofNat'] at e
    rw [ofNums_inj xs ys (fun q hq => hx q (by simp [hq])) (fun q hq => hy q (by simp [hq])) h.2, show x = y by omega]
theorem str_eq (xs ys : List Int) (hx : ∀ q ∈ xs, 0 ≤ q ∧ q < 256) (hy : ∀ q ∈ ys, 0 ≤ q ∧ q < 256) : ((strOfNums xs).toList == (strOfNums ys).toList) = decide (xs = ys) := by
  rw [Lib.strOfNums_toList, Lib.strOfNums_toList]
  by_cases e : xs = ys
  · subst e; simp
  · rw [decide_eq_false e, beq_eq_false_iff_ne]
    intro h
    exact e (ofNums_inj xs ys hx hy h)
theorem bytesEqual (u v : Value) (xs ys : List Int) (w : World) (hu : Rdv (.int .u8) w u xs) (hv : Rdv (.int .u8) w v ys) (hx : ∀ q ∈ xs, 0 ≤ q ∧ q < 256) (hy : ∀ q ∈ ys, 0 ≤ q ∧ q < 256) :
    Calls Try.prog 55 #[u, v] w fun e w' => e = .returned (.bool (decide (xs = ys))) ∧ w = w' := by
  have KU := conv_rdv (P := Try.prog) 48 5 Try.underlying48 Try.underlying5 hu 9 Try.underlying9
  have KV := conv_rdv (P := Try.prog) 48 5 Try.underlying48 Try.underlying5 hv 9 Try.underlying9
  go_enter Try.func55, Try.ntmps55
  go_wp2
  go_ret
  exact ⟨ret_b (str_eq xs ys hx hy), rfl⟩
end Go.Proofs.Ytfcddpbpfckjfaa
