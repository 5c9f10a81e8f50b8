/- A directory of names: the names' heap as container/heap keeps it. -/
import Derived.Test.YtfcddpbpfckjfaaChecked
import Derived.WalkKit
import Derived.Outline
import Derived.WalkSpells
import Derived.WalkLawsBesides
import Derived.Deep.QuietTactic
import Derived.Deep.RegionWith
import Derived.Deep.DeepMust
import Derived.BigQuiet
import Derived.Test.YtfcddpbpfckjfaaMem
import Derived.RegionTactic
import Derived.ChangeAlike
import Derived.StillTailTactics
import Derived.BigRegion
import Derived.Deep.RegionHeld3
import Derived.Deep.RegionLaw
import Derived.Deep.AppendLies
import Derived.Test.YtfcddpbpfckjfaaDn2
namespace Go.Proofs.Ytfcddpbpfckjfaa
open Go.RowKit
set_option linter.unusedVariables false
set_option linter.unusedSimpArgs false
open Hq
def NmR (B b g c : Nat) (w : World) (xs : Array ByteArray) : Prop := NmG B w b (.slice (some ⟨g, 0, none⟩) xs.size c) xs
def StrV (w : World) (v : Value) (a : ByteArray) : Prop := v = .iface 9 (.string a)
theorem NmG.swap {B : Nat} {w w' : World} {b g c : Nat} {xs : Array ByteArray} {cur : Array Value} (h : NmG B w b (.slice (some ⟨g, 0, none⟩) xs.size c) xs) (hb : Blk w g cur 9) {i j : Nat}
    (k : Blk w' g ((cur.setIfInBounds i (.string xs[j]!)).setIfInBounds j (.string xs[i]!)) 9) (hc : Chg (· = g) w w') : NmG B w' b (.slice (some ⟨g, 0, none⟩) (Hq.sw xs i j).size c) (Hq.sw xs i j) := by
  obtain ⟨h1, h2, hne, h3, h4, cur', h5, h6, h7, h8⟩ := h.at_
  have e : cur' = cur := by
    unfold Blk at hb h5
    rw [hb] at h5
    injection h5 with h5
    injection h5 with h5
    exact h5.symm
  subst e
  rw [Hq.sw_size]
  refine ⟨hc.blk h.blk (fun e => hne e.symm), by simp [Hq.sw_size], .inr ⟨g, c, _, by rw [Hq.sw_size], h1, k, by rw [Hq.sw_size]; exact h3, by unfold maxLen; omega, by simp [h6], ?_⟩⟩
  rw [Nat.mul_one, Hq.sw_size]
  exact row_swap h7
theorem nsIs (B b g c : Nat) : nsHp slt (.pointer (some ⟨b, 0, none⟩)) (NmR B b g c) (· = g) where
  drw := fun w w' xs hd h => NmG.below h hd.below
  mless := fun w xs h => by
    have hc : w.cell? ⟨b, 0, none⟩ = some (.slice (some ⟨g, 0, none⟩) xs.size c) := (NmG.blk h).cell (o := 0) rfl
    refine ⟨_, nmth_less _ _ _ hc, fun i j hi hj => ?_⟩
    obtain ⟨_, _, _, h3, h4, cur, h5, _, _, h8⟩ := NmG.at_ h
    exact nmLess g xs.size c i j xs[i]! xs[j]! w hi hj h3 h4 (h5.cell (h8 i hi)) (h5.cell (h8 j hj))
  mlen := fun w xs h => by
    have hc : w.cell? ⟨b, 0, none⟩ = some (.slice (some ⟨g, 0, none⟩) xs.size c) := (NmG.blk h).cell (o := 0) rfl
    obtain ⟨_, _, _, h3, h4, _⟩ := NmG.at_ h
    exact ⟨_, nmth_len _ _ _ hc, nmLen _ _ _ _ (by omega)⟩
  mswap := fun w xs h => by
    have hc : w.cell? ⟨b, 0, none⟩ = some (.slice (some ⟨g, 0, none⟩) xs.size c) := (NmG.blk h).cell (o := 0) rfl
    refine ⟨_, nmth_swap _ _ _ hc, fun i j hi hj => ?_⟩
    obtain ⟨_, _, _, h3, h4, cur, h5, _, _, h8⟩ := NmG.at_ h
    exact (nmSwap g xs.size c i j cur xs[i]! xs[j]! w hi hj h3 h4 h5 (h8 i hi) (h8 j hj)).mono fun e w' ⟨he, hb, hc⟩ => ⟨he, NmG.swap h h5 hb hc, hc⟩
set_option maxRecDepth 100000 in
theorem nmPop (B b g c : Nat) (xs : Array ByteArray) (n : Nat) (w : World) (h : NmG B w b (.slice (some ⟨g, 0, none⟩) xs.size c) xs) (hn : n + 1 = xs.size) :
    Calls Try.prog 162 #[.pointer (some ⟨b, 0, none⟩)] w (PopMid StrV (NmR B b g c) (NmS b (.slice (some ⟨g, 0, none⟩) xs.size c)) xs n w) := by
  have c1 : w.cell? ⟨b, 0, none⟩ = some (.slice (some ⟨g, 0, none⟩) xs.size c) := h.blk.cell (o := 0) rfl
  have f1 := h.blk.free 0
  have hl := h.blk.lt
  obtain ⟨h1, h2, hne, h3, h4, cur, h5, h6, h7, h8⟩ := h.at_
  have cn : w.cell? ⟨g, n, none⟩ = some (.string xs[n]!) := h5.cell (h8 n (by omega))
  have H := Lib.hid (h.pop hn)
  have hk : (xs.size : Int) - 1 = (n : Int) := by omega
  have hn1 : n < xs.size := by omega
  have hn2 : (0 : Int) ≤ n := by omega
  have hn3 : (n : Int) < xs.size := by omega
  clear h h5 h6 h7 h8 hn
  generalize hy : xs[n]! = y at *
  have HY := Lib.hid hy
  clear hy
  go_enter Try.func162, Try.ntmps162
  go_wp2
  go_ret
  exact ⟨_, rfl, by rw [HY.out]; rfl, H.out, Chg.set (S := NmS b (.slice (some ⟨g, 0, none⟩) xs.size c)) (Chg.refl _ w) (p := ⟨b, 0, none⟩) (fun _ => .inl rfl) _⟩
end Go.Proofs.Ytfcddpbpfckjfaa
