/- A volume of zeros; a block of it is read. -/
import Derived.Test.YtfcddpbpfckjfaaChecked
import Derived.WalkKit
import Derived.Outline
import Derived.WalkSpells
import Derived.WalkLawsBesides
import Derived.Deep.QuietTactic
import Derived.Deep.RegionWith
import Derived.Deep.DeepMust
import Derived.BigQuiet
import Derived.Test.YtfcddpbpfckjfaaMem
import Derived.RegionTactic
import Derived.ChangeAlike
import Derived.StillTailTactics
import Derived.BigRegion
import Derived.Test.YtfcddpbpfckjfaaWi
namespace Go.Proofs.Ytfcddpbpfckjfaa
open Go.RowKit
set_option linter.unusedVariables false
set_option linter.unusedSimpArgs false
theorem side_zero (n : Nat) : sideL ((List.replicate (4 * n + 8) zB).set 0 (headL 0 0)) 0 n = List.replicate n zB := by
  unfold sideL
  rw [show 8 + 0 % 2 * n = 8 by omega, show 4 * n + 8 = (4 * n + 7) + 1 by omega, List.replicate_succ, List.set_cons_zero, show (8 : Nat) = 7 + 1 by rfl, List.drop_succ_cons, List.drop_replicate, List.take_replicate]
  congr 1
  omega
def VolPost (n : Nat) (w : World) (e : Ending) (w' : World) : Prop :=
  ∃ vb b g : Nat, e = .returned (.pointer (some ⟨vb, 0, none⟩)) ∧ w.heap.size ≤ vb ∧ w.heap.size ≤ g ∧ VolAt w' vb b g (List.replicate n zB) 0 0 false ∧ Below w.heap.size w w'
set_option maxRecDepth 100000 in
theorem volNew (n : Nat) (w : World) (h0 : 2 ≤ n) (h1 : n ≤ 1000) : Calls Try.prog 62 #[.int .i64 n] w (VolPost n w) := by
  have KN := dcNew (4 * n + 8) w (by omega) (by omega)
  have KN2 := Lib.hid (show Calls Try.prog 81 #[.int .i64 (4 * (n : Int) + 8)] w _ from by rw [show (4 * (n : Int) + 8) = ((4 * n + 8 : Nat) : Int) by omega]; exact KN)
  clear KN
  have hr : roomN (4 * n + 8) = n := by unfold roomN; rw [if_neg (by omega)]; omega
  have HR := Lib.hid hr
  clear hr
  have k0 : (2 : Int) ≤ n := by omega
  have k1 : (n : Int) ≤ 1000 := by omega
  go_enter Try.func62, Try.ntmps62
  go_wp2_with (go_at_call 81; refine KN2.out.mono ?_; rintro e w1 ⟨b, u, rfl, hb, hu, hD, hB⟩)
  have KF := Lib.hid (walFormat hD HR.out (by omega) ⟨by omega, by omega⟩)
  have B1 := Lib.hid hB
  clear hD hB
  go_wp2_with (go_at_call 82; refine KF.out.mono ?_; rintro e w2 ⟨rfl, hD2, hC2⟩)
  have hl : ((List.replicate (4 * n + 8) zB).set 0 (headL 0 0)).length = 4 * n + 8 := by rw [List.length_set, List.length_replicate]
  have KM := walMount (kept := 0) (c := 0) (h0 := some (0, 0)) (h1 := none) (m := n) hD2 (by rw [List.getElem?_set_self (by rw [List.length_replicate]; omega)]; rfl) (by rw [List.getElem?_set_ne (by omega), List.getElem?_replicate, if_pos (by omega)]; rfl) ⟨by omega, by omega⟩ trivial (by decide) (by rw [hl]; exact HR.out) (by omega)
  rw [side_zero] at KM
  have KM2 := Lib.hid KM
  have B2 := Lib.hid (hC2.below_trans B1.out B1.out.size (fun i h1 h2 => by rcases h2 with rfl | rfl <;> omega))
  clear KM hD2 hC2 hl KF
  go_wp2_with (go_at_call 83; refine KM2.out.mono ?_; rintro e w3 ⟨vb, g, rfl, hvb, hg, hV, hB3⟩)
  have V3 := Lib.hid hV
  have B3 := Lib.hid (B2.out.trans (hB3.mono B2.out.size))
  have hs2 := B2.out.size
  clear hV hB3
  go_wp2
  go_ret
  exact ⟨vb, b, g, rfl, by omega, by omega, V3.out, B3.out⟩
theorem walBlocksN {w : World} {vb b g : Nat} {ls : List (List Int)} {kept c : Nat} {ch : Bool} (h : VolAt w vb b g ls kept c ch) (hl : ls.length ≤ 65536) :
    Calls Try.prog 93 #[.pointer (some ⟨vb, 0, none⟩)] w fun e w' => e = .returned (.int .i64 ls.length) ∧ w = w' := by
  have c1 : w.cell? ⟨vb, 1, none⟩ = some (.slice (some ⟨g, 0, none⟩) ls.length ls.length) := Blk.cell h.1 (o := 1) rfl
  go_enter Try.func93, Try.ntmps93
  go_wp2
  go_ret
  exact ⟨rfl, rfl⟩
def VReadPost (l : List Int) (w : World) (e : Ending) (w' : World) : Prop := ∃ v, e = .returned (.tuple #[v, .int .i64 0]) ∧ w'.ownsRow w.heap.size 5 1 v l.length (l.map u8v) ∧ Below w.heap.size w w'
theorem walRead {w : World} {vb b g : Nat} {ls : List (List Int)} {kept c : Nat} {ch : Bool} (h : VolAt w vb b g ls kept c ch) (hl : ls.length ≤ 65536) (i : Nat) (hi : i < ls.length) (h5 : ls[i].length ≤ 1000000000000) :
    Calls Try.prog 133 #[.pointer (some ⟨vb, 0, none⟩), .int .i64 i] w (VReadPost ls[i] w) := by
  have KB := Lib.hid (walBlocksN h hl)
  have c1 : w.cell? ⟨vb, 1, none⟩ = some (.slice (some ⟨g, 0, none⟩) ls.length ls.length) := Blk.cell h.1 (o := 1) rfl
  obtain ⟨v, cv, hr⟩ := h.2.get hi
  obtain ⟨va, vn, vc, rfl⟩ := hr.shape
  have KC := Lib.hid (cloneC _ _ w hr h5)
  have k1 : (0 : Int) ≤ i := by omega
  have k2 : (i : Int) < ls.length := by omega
  clear hr h
  go_enter Try.func133, Try.ntmps133
  go_wp2_with (go_at_call 93; refine KB.out.mono ?_; rintro e w1 ⟨rfl, rfl⟩)
  go_wp2_with (go_at_call 68; refine KC.out.mono ?_; rintro e w1 ⟨v, rfl, ho, hb⟩)
  obtain ⟨oa, oc, rfl, _, _, _⟩ := own_shape ho
  have HO := Lib.hid ho
  have HB := Lib.hid hb
  clear ho hb
  go_wp2
  go_ret2
  exact ⟨_, rfl, HO.out, HB.out⟩
end Go.Proofs.Ytfcddpbpfckjfaa
