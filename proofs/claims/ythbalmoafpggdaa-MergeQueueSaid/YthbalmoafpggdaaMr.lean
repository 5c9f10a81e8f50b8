/- the reference's Sorted. -/
import Derived.Test.YthbalmoafpggdaaChecked
import Derived.WalkKit
import Derived.Outline
import Derived.WalkSpells
import Derived.WalkLawsBesides
import Derived.Deep.QuietTactic
import Derived.Deep.RegionWith
import Derived.Deep.DeepMust
import Derived.BigQuiet
import Derived.Test.YthbalmoafpggdaaMem
import Derived.RegionTactic
import Derived.ChangeAlike
import Derived.StillTailTactics
import Derived.BigRegion
import Derived.Deep.RegionHeld3
import Derived.Deep.RegionLaw
import Derived.Deep.AppendLies
import Derived.Deep.DeepCutAuto
import Derived.Deep.CutBlock
import Derived.Test.YthbalmoafpggdaaMq6
namespace Go.Proofs.Ythbalmoafpggdaa
open Go.RowKit
set_option linter.unusedVariables false
set_option linter.unusedSimpArgs false
/-- An operation goes into the cells from o on. -/
def T11 (w : World) (g o : Nat) (x : Mit) : World := ((((((((((w.setCell ⟨g, o, none⟩ (.int .i64 x.time)).setCell ⟨g, o + 1, none⟩ (.int .i64 x.node)).setCell ⟨g, o + 2, none⟩ (.int .i64 0)).setCell ⟨g, o + 3, none⟩ (.int .i64 x.mark)).setCell ⟨g, o + 4, none⟩ (.int .i64 0)).setCell ⟨g, o + 5, none⟩ (.int .i64 0)).setCell ⟨g, o + 6, none⟩ (.int .i64 0)).setCell ⟨g, o + 7, none⟩ (.int .i64 0)).setCell ⟨g, o + 8, none⟩ (.string ByteArray.empty)).setCell ⟨g, o + 9, none⟩ (.slice none 0 0)).setCell ⟨g, o + 10, none⟩ (.slice none 0 0)
def TA11 (c : Array Value) (o : Nat) (x : Mit) : Array Value := ((((((((((c.setIfInBounds (o) (.int .i64 x.time)).setIfInBounds (o + 1) (.int .i64 x.node)).setIfInBounds (o + 2) (.int .i64 0)).setIfInBounds (o + 3) (.int .i64 x.mark)).setIfInBounds (o + 4) (.int .i64 0)).setIfInBounds (o + 5) (.int .i64 0)).setIfInBounds (o + 6) (.int .i64 0)).setIfInBounds (o + 7) (.int .i64 0)).setIfInBounds (o + 8) (.string ByteArray.empty)).setIfInBounds (o + 9) (.slice none 0 0)).setIfInBounds (o + 10) (.slice none 0 0)
def TL11 (l : List Value) (o : Nat) (x : Mit) : List Value := ((((((((((l.set (o) (.int .i64 x.time)).set (o + 1) (.int .i64 x.node)).set (o + 2) (.int .i64 0)).set (o + 3) (.int .i64 x.mark)).set (o + 4) (.int .i64 0)).set (o + 5) (.int .i64 0)).set (o + 6) (.int .i64 0)).set (o + 7) (.int .i64 0)).set (o + 8) (.string ByteArray.empty)).set (o + 9) (.slice none 0 0)).set (o + 10) (.slice none 0 0)
theorem T11_blk {w : World} {g o : Nat} {x : Mit} {c : Array Value} {T : TypeId} (hb : Blk w g c T) : Blk (T11 w g o x) g (TA11 c o x) T := (((((((((((hb.set (o) (.int .i64 x.time)).set (o + 1) (.int .i64 x.node)).set (o + 2) (.int .i64 0)).set (o + 3) (.int .i64 x.mark)).set (o + 4) (.int .i64 0)).set (o + 5) (.int .i64 0)).set (o + 6) (.int .i64 0)).set (o + 7) (.int .i64 0)).set (o + 8) (.string ByteArray.empty)).set (o + 9) (.slice none 0 0)).set (o + 10) (.slice none 0 0))
theorem T11_chg {S : Nat → Prop} {w : World} {g o : Nat} {x : Mit} (hg : S g) : Chg S w (T11 w g o x) := Chg.set (Chg.set (Chg.set (Chg.set (Chg.set (Chg.set (Chg.set (Chg.set (Chg.set (Chg.set (Chg.set (Chg.refl _ _) (p := ⟨g, o, none⟩) (fun _ => hg) (.int .i64 x.time)) (p := ⟨g, o + 1, none⟩) (fun _ => hg) (.int .i64 x.node)) (p := ⟨g, o + 2, none⟩) (fun _ => hg) (.int .i64 0)) (p := ⟨g, o + 3, none⟩) (fun _ => hg) (.int .i64 x.mark)) (p := ⟨g, o + 4, none⟩) (fun _ => hg) (.int .i64 0)) (p := ⟨g, o + 5, none⟩) (fun _ => hg) (.int .i64 0)) (p := ⟨g, o + 6, none⟩) (fun _ => hg) (.int .i64 0)) (p := ⟨g, o + 7, none⟩) (fun _ => hg) (.int .i64 0)) (p := ⟨g, o + 8, none⟩) (fun _ => hg) (.string ByteArray.empty)) (p := ⟨g, o + 9, none⟩) (fun _ => hg) (.slice none 0 0)) (p := ⟨g, o + 10, none⟩) (fun _ => hg) (.slice none 0 0)
theorem TA11_size (c : Array Value) (o : Nat) (x : Mit) : (TA11 c o x).size = c.size := by simp [TA11]
theorem TA11_take (c : Array Value) (o n : Nat) (x : Mit) : (TA11 c o x).toList.take n = TL11 (c.toList.take n) o x := by
  simp only [TA11, TL11, Array.toList_setIfInBounds, List.take_set]
theorem oset11 (x : Mit) (l : List Value) (j : Nat) (a : Value) : (p3C (toP x) ++ l).set (j + 11) a = p3C (toP x) ++ l.set j a := by simp [p3C]
theorem orow_put : ∀ (fs : List Mit) (k : Nat) (x : Mit), k < fs.length → orow (fs.set k x) = TL11 (orow fs) (k * 11) x
  | y :: fs, 0, x, _ => by simp [orow, p3C, toP, TL11]
  | y :: fs, k + 1, x, h => by
    have ih := orow_put fs k x (by simpa using h)
    unfold orow TL11 at ih
    unfold TL11
    rw [List.set_cons_succ, orow, List.flatMap_cons, orow, List.flatMap_cons, ih, show (k + 1) * 11 = k * 11 + 11 by omega]
    rw [show k * 11 + 11 + 1 = k * 11 + 1 + 11 by omega, show k * 11 + 11 + 2 = k * 11 + 2 + 11 by omega, show k * 11 + 11 + 3 = k * 11 + 3 + 11 by omega, show k * 11 + 11 + 4 = k * 11 + 4 + 11 by omega, show k * 11 + 11 + 5 = k * 11 + 5 + 11 by omega, show k * 11 + 11 + 6 = k * 11 + 6 + 11 by omega, show k * 11 + 11 + 7 = k * 11 + 7 + 11 by omega, show k * 11 + 11 + 8 = k * 11 + 8 + 11 by omega, show k * 11 + 11 + 9 = k * 11 + 9 + 11 by omega, show k * 11 + 11 + 10 = k * 11 + 10 + 11 by omega]
    simp only [oset11]
theorem own_cells {w : World} {B g c : Nat} {ys : List Mit} (h : w.ownsRow B 58 11 (.slice (some ⟨g, 0, none⟩) ys.length c) ys.length (orow ys)) : B ≤ g ∧ g < w.heap.size ∧ ys.length ≤ c ∧ c ≤ 9223372036854775807 ∧ ∃ cur, Blk w g cur 58 ∧ cur.size = c * 11 ∧ cur.toList.take (ys.length * 11) = orow ys := by
  rcases h.2 with ⟨e, _⟩ | ⟨g', c', cur, e, h1, h2, h3, h4, h5, h6⟩
  · cases e
  · injection e with e1 e2 e3
    injection e1 with e1
    injection e1 with e1
    subst e1
    subst e3
    exact ⟨h1, lt_of_block h2, h3, by unfold maxLen at h4; omega, cur, h2, h5, h6⟩
theorem op_at {w : World} {g k : Nat} {c : Array Value} {T : TypeId} {ys : List Mit} (hb : Blk w g c T) (ht : c.toList.take (ys.length * 11) = orow ys) (hk : k < ys.length) : PcAt w g (k * 11) (toP ys[k]) := by
  have K : ∀ j u, j < 11 → (p3C (toP ys[k]))[j]? = .some u → c[k * 11 + j]? = .some u := by
    intro j u hj hu
    rw [← orow_at ys k j hk hj, ← ht, List.getElem?_take_of_lt (by omega)] at hu
    simpa using hu
  exact ⟨hb.cell (K 0 _ (by omega) rfl), hb.cell (K 1 _ (by omega) rfl), hb.cell (K 2 _ (by omega) rfl), hb.cell (K 3 _ (by omega) rfl), hb.cell (K 4 _ (by omega) rfl), hb.cell (K 5 _ (by omega) rfl), hb.cell (K 6 _ (by omega) rfl), hb.cell (K 7 _ (by omega) rfl), hb.cell (K 8 _ (by omega) rfl), hb.cell (K 9 _ (by omega) rfl), hb.cell (K 10 _ (by omega) rfl)⟩
theorem own_put {w w' : World} {B g c k : Nat} {ys : List Mit} (h : w.ownsRow B 58 11 (.slice (some ⟨g, 0, none⟩) ys.length c) ys.length (orow ys)) (hk : k < ys.length) (x : Mit) (hw : w' = T11 w g (k * 11) x) : w'.ownsRow B 58 11 (.slice (some ⟨g, 0, none⟩) ys.length c) (ys.set k x).length (orow (ys.set k x)) := by
  obtain ⟨h1, h2, h3, h4, cur, h5, h6, h7⟩ := own_cells h
  subst hw
  refine ⟨orow_len _, .inr ⟨g, c, _, by simp, h1, T11_blk h5, by simpa using h3, by unfold maxLen; omega, by rw [TA11_size]; exact h6, ?_⟩⟩
  rw [List.length_set, TA11_take, h7, orow_put _ _ _ hk]
end Go.Proofs.Ythbalmoafpggdaa
