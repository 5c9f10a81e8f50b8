/- A net: container/heap over at most two frames. -/
import Derived.Test.YthbalmoafpggdaaChecked
import Derived.WalkKit
import Derived.Outline
import Derived.WalkSpells
import Derived.WalkLawsBesides
import Derived.Deep.QuietTactic
import Derived.Deep.RegionWith
import Derived.Deep.DeepMust
import Derived.BigQuiet
import Derived.Test.YthbalmoafpggdaaMem
import Derived.RegionTactic
import Derived.ChangeAlike
import Derived.StillTailTactics
import Derived.BigRegion
import Derived.Deep.LoopGhost
import Derived.Deep.RegionHeld3
import Derived.Deep.RegionLaw
import Derived.Deep.AppendLies
import Derived.Test.YthbalmoafpggdaaNt2
namespace Go.Proofs.Ythbalmoafpggdaa
open Go.RowKit
set_option linter.unusedVariables false
set_option linter.unusedSimpArgs false
set_option maxRecDepth 100000 in
theorem nUp0 (rv : Value) (w : World) : Calls Try.prog 109 #[.iface 126 rv, .int .i64 0] w fun e w' => e = .returned (.tuple #[]) ∧ w = w' := by
  go_enter Try.func109, Try.ntmps109
  go_wp2
  go_loopw [1] (fun jv wr => jv = .int .i64 0 ∧ wr = w) (fun jv _ => 0)
  case atStart => exact ⟨rfl, rfl⟩
  case round =>
    obtain ⟨rfl, rfl⟩ := hrel
    go_wp2
    go_end0
    exact ⟨rfl, rfl⟩
set_option maxRecDepth 100000 in
theorem nDown1 (rv : Value) (w : World) : Calls Try.prog 110 #[.iface 126 rv, .int .i64 0, .int .i64 1] w fun e w' => e = .returned (.bool false) ∧ w = w' := by
  go_enter Try.func110, Try.ntmps110
  go_wp2
  go_loopw [7] (fun jv wr => jv = .int .i64 0 ∧ wr = w) (fun jv _ => 0)
  case atStart => exact ⟨rfl, rfl⟩
  case round =>
    obtain ⟨rfl, rfl⟩ := hrel
    go_wp2
    go_ret
    exact ⟨rfl, rfl⟩
/-- The two exchanged. -/
theorem NetG.swap2 {w w' : World} {nb g c : Nat} {room came : Int} {a b : Wy} {cur : Array Value} (h : NetG w nb room came (.slice (some ⟨g, 0, none⟩) 2 c) [a, b]) (hc : Blk w g cur 120) (k : Blk w' g ((cur.setIfInBounds 0 (wyP b)).setIfInBounds 1 (wyP a)) 120) (hg : Chg (· = g) w w') :
    NetG w' nb room came (.slice (some ⟨g, 0, none⟩) 2 c) [b, a] := by
  obtain ⟨h1, h2, h3, h4, cur', h5, h6, h7⟩ := own_cells h.own
  have e : cur' = cur := by
    unfold Blk at hc h5
    rw [hc] at h5
    injection h5 with h5
    injection h5 with h5
    exact h5.symm
  subst e
  have hne : g ≠ nb := fun e => h.ne (by rw [e]; rfl)
  refine ⟨hg.blk h.blk (fun e => hne e.symm), ⟨rfl, .inr ⟨g, c, _, rfl, h1, k, h3, by unfold maxLen; omega, by simp [h6], ?_⟩⟩, fun y hy => ?_⟩
  · have h8 : 2 ≤ cur'.size := by rw [h6]; exact h3
    simp only [Array.toList_setIfInBounds]
    have : cur'.toList.length = cur'.size := rfl
    rcases hcl : cur'.toList with _ | ⟨x, _ | ⟨y, t⟩⟩
    · rw [hcl] at this; simp at this; omega
    · rw [hcl] at this; simp at this; omega
    · simp
  · have hy' : Blk w y.p (wyC y) 124 := h.way y (by simp at hy ⊢; exact hy.symm)
    exact hg.blk hy' (fun e => by rw [e] at hy'; exact blk_ne hy' (by decide) hc)
def NUp (nb g c : Nat) (room came : Int) (a b : Wy) (w : World) (e : Ending) (w' : World) : Prop := e = .returned (.tuple #[]) ∧ NetG w' nb room came (.slice (some ⟨g, 0, none⟩) 2 c) [b, a] ∧ Chg (· = g) w w'
set_option maxRecDepth 100000 in
theorem nUp1 (nb g c : Nat) (room came : Int) (a b : Wy) (w : World) (h : NetG w nb room came (.slice (some ⟨g, 0, none⟩) 2 c) [a, b]) (hd : b.due < a.due) :
    Calls Try.prog 109 #[.iface 126 (.pointer (some ⟨nb, 1, none⟩)), .int .i64 1] w (NUp nb g c room came a b w) := by
  obtain ⟨h1, h2, h3, h4, cur, h5, h6, h7⟩ := own_cells h.own
  have c0 : cur[0]? = some (wyP a) := cur_at h7 rfl
  have c1 : cur[1]? = some (wyP b) := cur_at h7 rfl
  have hc : w.cell? ⟨nb, 1, none⟩ = some (.slice (some ⟨g, 0, none⟩) 2 c) := h.blk.cell (o := 1) rfl
  have hm1 := mth_less _ _ _ hc
  have KL := Lib.hid (nLess g 2 c 1 0 b a w (by omega) (by omega) h3 h4 (h5.cell c1) (h5.cell c0) (h.way b (by simp)) (h.way a (by simp)) (by omega))
  have hd' : decide (b.due < a.due) = true := decide_eq_true hd
  have HN := Lib.hid h
  have H5 := Lib.hid h5
  have C0 := Lib.hid c0
  have C1 := Lib.hid c1
  rw [hd'] at KL
  clear h h5 h7 hd hd' c0 c1
  go_enter Try.func109, Try.ntmps109
  go_wp2
  go_loopw [1] (fun jv wr => (jv = .int .i64 1 ∧ wr = w) ∨ (jv = .int .i64 0 ∧ NetG wr nb room came (.slice (some ⟨g, 0, none⟩) 2 c) [b, a] ∧ Chg (· = g) w wr)) (fun jv _ => (intOf jv).toNat)
  case atStart => exact .inl ⟨rfl, rfl⟩
  case round =>
    rcases hrel with ⟨rfl, rfl⟩ | ⟨rfl, hn, hg⟩
    · go_wp2_with fail
      refine KL.out.mono ?_
      rintro e w1 ⟨rfl, nd, rfl⟩
      have hc2 : (wr.drewN nd).cell? ⟨nb, 1, none⟩ = some (.slice (some ⟨g, 0, none⟩) 2 c) := hc
      have hm2 := mth_swap _ _ _ hc2
      have KS := Lib.hid (nSwap g 2 c 0 1 cur (wyP a) (wyP b) (wr.drewN nd) (by omega) (by omega) h3 h4 H5.out C0.out C1.out ⟨_, rfl⟩ ⟨_, rfl⟩)
      have HN2 : Hid (NetG (wr.drewN nd) nb room came (.slice (some ⟨g, 0, none⟩) 2 c) [a, b]) := Lib.hid ⟨HN.out.blk, HN.out.own, HN.out.way⟩
      clear hm1 KL
      go_wp2_with fail
      refine KS.out.mono ?_
      rintro e w2 ⟨rfl, hb2, hg2⟩
      have N2 := Lib.hid (HN2.out.swap2 H5.out hb2 hg2)
      have G2 : Hid (Chg (· = g) wr w2) := Lib.hid (Chg.trans (Chg.drewN (Chg.refl _ _) nd) hg2)
      clear hb2 hg2
      go_wp2
      go_roundw
      case rel => exact .inr ⟨rfl, N2.out, G2.out⟩
      case measure => simp [intOf]
    · have N2 := Lib.hid hn
      have G2 := Lib.hid hg
      clear hn hg hm1
      go_wp2
      go_end0
      exact ⟨rfl, N2.out, G2.out⟩
end Go.Proofs.Ythbalmoafpggdaa
