/- merge's queue: the words, Swap. -/
import Derived.Test.YthbalmoafpggdaaChecked
import Derived.WalkKit
import Derived.Outline
import Derived.WalkSpells
import Derived.WalkLawsBesides
import Derived.Deep.QuietTactic
import Derived.Deep.RegionWith
import Derived.Deep.DeepMust
import Derived.BigQuiet
import Derived.Test.YthbalmoafpggdaaMem
import Derived.RegionTactic
import Derived.ChangeAlike
import Derived.StillTailTactics
import Derived.BigRegion
import Derived.Deep.RegionHeld3
import Derived.Deep.RegionLaw
import Derived.Deep.AppendLies
import Derived.Test.YthbalmoafpggdaaHp2m
namespace Go.Proofs.Ythbalmoafpggdaa
open Go.RowKit
set_option linter.unusedVariables false
set_option linter.unusedSimpArgs false
structure Mit where
  time : Int
  node : Int
  mark : Int
  came : Int
instance : Inhabited Mit := ⟨⟨0, 0, 0, 0⟩⟩
def mopC (t n m : Int) : List Value := [.int .i64 t, .int .i64 n, .int .i64 0, .int .i64 m, .int .i64 0, .int .i64 0, .int .i64 0, .int .i64 0, .string ByteArray.empty, .slice none 0 0, .slice none 0 0]
def mitC (x : Mit) : List Value := [.int .i64 x.time, .int .i64 x.node, .int .i64 0, .int .i64 x.mark, .int .i64 0, .int .i64 0, .int .i64 0, .int .i64 0, .string ByteArray.empty, .slice none 0 0, .slice none 0 0, .int .i64 x.came]
def mrow (xs : List Mit) : List Value := xs.flatMap mitC
theorem mrow_len : ∀ xs : List Mit, (mrow xs).length = xs.length * 12
  | [] => rfl
  | f :: fs => by have := mrow_len fs; unfold mrow at *; simp [mitC, this]; omega
theorem mrow_at : ∀ (fs : List Mit) (k j : Nat) (hk : k < fs.length), j < 12 → (mrow fs)[k * 12 + j]? = (mitC fs[k])[j]?
  | f :: fs, 0, j, _, hj => by
    rw [mrow, List.flatMap_cons, List.getElem?_append_left (by simp [mitC]; omega)]
    simp
  | f :: fs, k + 1, j, hk, hj => by
    have := mrow_at fs k j (by simpa using hk) hj
    rw [mrow, List.flatMap_cons, List.getElem?_append_right (by simp [mitC]; omega)]
    rw [show (k + 1) * 12 + j - (mitC f).length = k * 12 + j by simp [mitC]; omega]
    exact this
theorem mset12 (x : Mit) (l : List Value) (j : Nat) (a : Value) : (mitC x ++ l).set (j + 12) a = mitC x ++ l.set j a := by simp [mitC]
structure McAt (w : World) (g o : Nat) (x : Mit) : Prop where
  c0 : w.cell? ⟨g, o, none⟩ = some (.int .i64 x.time)
  c1 : w.cell? ⟨g, o + 1, none⟩ = some (.int .i64 x.node)
  c2 : w.cell? ⟨g, o + 2, none⟩ = some (.int .i64 0)
  c3 : w.cell? ⟨g, o + 3, none⟩ = some (.int .i64 x.mark)
  c4 : w.cell? ⟨g, o + 4, none⟩ = some (.int .i64 0)
  c5 : w.cell? ⟨g, o + 5, none⟩ = some (.int .i64 0)
  c6 : w.cell? ⟨g, o + 6, none⟩ = some (.int .i64 0)
  c7 : w.cell? ⟨g, o + 7, none⟩ = some (.int .i64 0)
  c8 : w.cell? ⟨g, o + 8, none⟩ = some (.string ByteArray.empty)
  c9 : w.cell? ⟨g, o + 9, none⟩ = some (.slice none 0 0)
  c10 : w.cell? ⟨g, o + 10, none⟩ = some (.slice none 0 0)
  c11 : w.cell? ⟨g, o + 11, none⟩ = some (.int .i64 x.came)
structure FrAt (w : World) (g o : Nat) : Prop where
  f0 : w.frozen? ⟨g, o, none⟩ = false
  f1 : w.frozen? ⟨g, o + 1, none⟩ = false
  f2 : w.frozen? ⟨g, o + 2, none⟩ = false
  f3 : w.frozen? ⟨g, o + 3, none⟩ = false
  f4 : w.frozen? ⟨g, o + 4, none⟩ = false
  f5 : w.frozen? ⟨g, o + 5, none⟩ = false
  f6 : w.frozen? ⟨g, o + 6, none⟩ = false
  f7 : w.frozen? ⟨g, o + 7, none⟩ = false
  f8 : w.frozen? ⟨g, o + 8, none⟩ = false
  f9 : w.frozen? ⟨g, o + 9, none⟩ = false
  f10 : w.frozen? ⟨g, o + 10, none⟩ = false
  f11 : w.frozen? ⟨g, o + 11, none⟩ = false
/-- An item goes into the cells from o on. -/
def S12 (w : World) (g o : Nat) (x : Mit) : World := (((((((((((w.setCell ⟨g, o, none⟩ (.int .i64 x.time)).setCell ⟨g, o + 1, none⟩ (.int .i64 x.node)).setCell ⟨g, o + 2, none⟩ (.int .i64 0)).setCell ⟨g, o + 3, none⟩ (.int .i64 x.mark)).setCell ⟨g, o + 4, none⟩ (.int .i64 0)).setCell ⟨g, o + 5, none⟩ (.int .i64 0)).setCell ⟨g, o + 6, none⟩ (.int .i64 0)).setCell ⟨g, o + 7, none⟩ (.int .i64 0)).setCell ⟨g, o + 8, none⟩ (.string ByteArray.empty)).setCell ⟨g, o + 9, none⟩ (.slice none 0 0)).setCell ⟨g, o + 10, none⟩ (.slice none 0 0)).setCell ⟨g, o + 11, none⟩ (.int .i64 x.came)
def A12 (c : Array Value) (o : Nat) (x : Mit) : Array Value := (((((((((((c.setIfInBounds (o) (.int .i64 x.time)).setIfInBounds (o + 1) (.int .i64 x.node)).setIfInBounds (o + 2) (.int .i64 0)).setIfInBounds (o + 3) (.int .i64 x.mark)).setIfInBounds (o + 4) (.int .i64 0)).setIfInBounds (o + 5) (.int .i64 0)).setIfInBounds (o + 6) (.int .i64 0)).setIfInBounds (o + 7) (.int .i64 0)).setIfInBounds (o + 8) (.string ByteArray.empty)).setIfInBounds (o + 9) (.slice none 0 0)).setIfInBounds (o + 10) (.slice none 0 0)).setIfInBounds (o + 11) (.int .i64 x.came)
def L12 (l : List Value) (o : Nat) (x : Mit) : List Value := (((((((((((l.set (o) (.int .i64 x.time)).set (o + 1) (.int .i64 x.node)).set (o + 2) (.int .i64 0)).set (o + 3) (.int .i64 x.mark)).set (o + 4) (.int .i64 0)).set (o + 5) (.int .i64 0)).set (o + 6) (.int .i64 0)).set (o + 7) (.int .i64 0)).set (o + 8) (.string ByteArray.empty)).set (o + 9) (.slice none 0 0)).set (o + 10) (.slice none 0 0)).set (o + 11) (.int .i64 x.came)
theorem S12_blk {w : World} {g o : Nat} {x : Mit} {c : Array Value} {T : TypeId} (hb : Blk w g c T) : Blk (S12 w g o x) g (A12 c o x) T := ((((((((((((hb.set (o) (.int .i64 x.time)).set (o + 1) (.int .i64 x.node)).set (o + 2) (.int .i64 0)).set (o + 3) (.int .i64 x.mark)).set (o + 4) (.int .i64 0)).set (o + 5) (.int .i64 0)).set (o + 6) (.int .i64 0)).set (o + 7) (.int .i64 0)).set (o + 8) (.string ByteArray.empty)).set (o + 9) (.slice none 0 0)).set (o + 10) (.slice none 0 0)).set (o + 11) (.int .i64 x.came))
theorem S12_chg {S : Nat → Prop} {w : World} {g o : Nat} {x : Mit} (hg : S g) : Chg S w (S12 w g o x) := Chg.set (Chg.set (Chg.set (Chg.set (Chg.set (Chg.set (Chg.set (Chg.set (Chg.set (Chg.set (Chg.set (Chg.set (Chg.refl _ _) (p := ⟨g, o, none⟩) (fun _ => hg) (.int .i64 x.time)) (p := ⟨g, o + 1, none⟩) (fun _ => hg) (.int .i64 x.node)) (p := ⟨g, o + 2, none⟩) (fun _ => hg) (.int .i64 0)) (p := ⟨g, o + 3, none⟩) (fun _ => hg) (.int .i64 x.mark)) (p := ⟨g, o + 4, none⟩) (fun _ => hg) (.int .i64 0)) (p := ⟨g, o + 5, none⟩) (fun _ => hg) (.int .i64 0)) (p := ⟨g, o + 6, none⟩) (fun _ => hg) (.int .i64 0)) (p := ⟨g, o + 7, none⟩) (fun _ => hg) (.int .i64 0)) (p := ⟨g, o + 8, none⟩) (fun _ => hg) (.string ByteArray.empty)) (p := ⟨g, o + 9, none⟩) (fun _ => hg) (.slice none 0 0)) (p := ⟨g, o + 10, none⟩) (fun _ => hg) (.slice none 0 0)) (p := ⟨g, o + 11, none⟩) (fun _ => hg) (.int .i64 x.came)
theorem A12_size (c : Array Value) (o : Nat) (x : Mit) : (A12 c o x).size = c.size := by simp [A12]
theorem A12_take (c : Array Value) (o n : Nat) (x : Mit) : (A12 c o x).toList.take n = L12 (c.toList.take n) o x := by
  simp only [A12, L12, Array.toList_setIfInBounds, List.take_set]
theorem mrow_put : ∀ (fs : List Mit) (k : Nat) (x : Mit), k < fs.length → mrow (fs.set k x) = L12 (mrow fs) (k * 12) x
  | y :: fs, 0, x, _ => by simp [mrow, mitC, L12]
  | y :: fs, k + 1, x, h => by
    have ih := mrow_put fs k x (by simpa using h)
    unfold mrow L12 at ih
    unfold L12
    rw [List.set_cons_succ, mrow, List.flatMap_cons, mrow, List.flatMap_cons, ih, show (k + 1) * 12 = k * 12 + 12 by omega]
    rw [show k * 12 + 12 + 1 = k * 12 + 1 + 12 by omega, show k * 12 + 12 + 2 = k * 12 + 2 + 12 by omega, show k * 12 + 12 + 3 = k * 12 + 3 + 12 by omega, show k * 12 + 12 + 4 = k * 12 + 4 + 12 by omega, show k * 12 + 12 + 5 = k * 12 + 5 + 12 by omega, show k * 12 + 12 + 6 = k * 12 + 6 + 12 by omega, show k * 12 + 12 + 7 = k * 12 + 7 + 12 by omega, show k * 12 + 12 + 8 = k * 12 + 8 + 12 by omega, show k * 12 + 12 + 9 = k * 12 + 9 + 12 by omega, show k * 12 + 12 + 10 = k * 12 + 10 + 12 by omega, show k * 12 + 12 + 11 = k * 12 + 11 + 12 by omega]
    simp only [mset12]
theorem Blk.some {w : World} {g o : Nat} {c : Array Value} {T : TypeId} (h : Blk w g c T) (ho : o < c.size) : ∃ u, w.cell? ⟨g, o, none⟩ = .some u := ⟨c[o], h.cell (Array.getElem?_eq_getElem ho)⟩
theorem McAt.of {w : World} {g k : Nat} {c : Array Value} {T : TypeId} {xs : Array Mit} (hb : Blk w g c T) (ht : c.toList.take (xs.size * 12) = mrow xs.toList) (hk : k < xs.size) : McAt w g (k * 12) xs[k]! := by
  have K : ∀ j u, j < 12 → (mitC xs[k]!)[j]? = .some u → c[k * 12 + j]? = .some u := by
    intro j u hj hu
    have h1 := mrow_at xs.toList k j (by simpa using hk) hj
    rw [← ht, List.getElem?_take_of_lt (by omega), Array.getElem?_toList] at h1
    rw [h1]
    rw [getElem!_pos xs k hk] at hu
    simpa using hu
  exact ⟨hb.cell (K 0 _ (by omega) rfl), hb.cell (K 1 _ (by omega) rfl), hb.cell (K 2 _ (by omega) rfl), hb.cell (K 3 _ (by omega) rfl), hb.cell (K 4 _ (by omega) rfl), hb.cell (K 5 _ (by omega) rfl), hb.cell (K 6 _ (by omega) rfl), hb.cell (K 7 _ (by omega) rfl), hb.cell (K 8 _ (by omega) rfl), hb.cell (K 9 _ (by omega) rfl), hb.cell (K 10 _ (by omega) rfl), hb.cell (K 11 _ (by omega) rfl)⟩
theorem FrAt.of {w : World} {g o : Nat} {c : Array Value} {T : TypeId} (hb : Blk w g c T) : FrAt w g o := ⟨hb.free _, hb.free _, hb.free _, hb.free _, hb.free _, hb.free _, hb.free _, hb.free _, hb.free _, hb.free _, hb.free _, hb.free _⟩
set_option maxHeartbeats 4000000 in
set_option maxRecDepth 100000 in
theorem mSwap0 (b g n c i j : Nat) (cur : Array Value) (x y : Mit) (w : World) (c0 : w.cell? ⟨b, 0, none⟩ = some (.slice (some ⟨g, 0, none⟩) n c)) (hb : Blk w g cur 118) (hs : n * 12 ≤ cur.size) (hi : i < n) (hj : j < n) (hn : n ≤ c) (hc : c ≤ 9223372036854775807) (hx : McAt w g (i * 12) x) (hy : McAt w g (j * 12) y) :
    Calls Try.prog 164 #[.pointer (some ⟨b, 0, none⟩), .int .i64 i, .int .i64 j] w fun e w' => e = .returned (.tuple #[]) ∧ w' = (S12 (S12 w g (i * 12) y) g (j * 12) x).drew := by
  have i0 : (0 : Int) ≤ i := by omega
  have j0 : (0 : Int) ≤ j := by omega
  have i1 : (i : Int) < n := by omega
  have j1 : (j : Int) < n := by omega
  have hg := hb.lt
  have fx : FrAt w g (i * 12) := FrAt.of hb
  have hb2 : Blk (S12 w g (i * 12) y) g (A12 cur (i * 12) y) 118 := S12_blk hb
  have hs2 : n * 12 ≤ (A12 cur (i * 12) y).size := by rw [A12_size]; exact hs
  obtain ⟨u0, hu0⟩ : ∃ u, (S12 w g (i * 12) y).cell? ⟨g, j * 12, none⟩ = some u := hb2.some (by omega)
  have zu0 : (S12 w g (i * 12) y).frozen? ⟨g, j * 12, none⟩ = false := hb2.free _
  obtain ⟨u1, hu1⟩ : ∃ u, (S12 w g (i * 12) y).cell? ⟨g, j * 12 + 1, none⟩ = some u := hb2.some (by omega)
  have zu1 : (S12 w g (i * 12) y).frozen? ⟨g, j * 12 + 1, none⟩ = false := hb2.free _
  obtain ⟨u2, hu2⟩ : ∃ u, (S12 w g (i * 12) y).cell? ⟨g, j * 12 + 2, none⟩ = some u := hb2.some (by omega)
  have zu2 : (S12 w g (i * 12) y).frozen? ⟨g, j * 12 + 2, none⟩ = false := hb2.free _
  obtain ⟨u3, hu3⟩ : ∃ u, (S12 w g (i * 12) y).cell? ⟨g, j * 12 + 3, none⟩ = some u := hb2.some (by omega)
  have zu3 : (S12 w g (i * 12) y).frozen? ⟨g, j * 12 + 3, none⟩ = false := hb2.free _
  obtain ⟨u4, hu4⟩ : ∃ u, (S12 w g (i * 12) y).cell? ⟨g, j * 12 + 4, none⟩ = some u := hb2.some (by omega)
  have zu4 : (S12 w g (i * 12) y).frozen? ⟨g, j * 12 + 4, none⟩ = false := hb2.free _
  obtain ⟨u5, hu5⟩ : ∃ u, (S12 w g (i * 12) y).cell? ⟨g, j * 12 + 5, none⟩ = some u := hb2.some (by omega)
  have zu5 : (S12 w g (i * 12) y).frozen? ⟨g, j * 12 + 5, none⟩ = false := hb2.free _
  obtain ⟨u6, hu6⟩ : ∃ u, (S12 w g (i * 12) y).cell? ⟨g, j * 12 + 6, none⟩ = some u := hb2.some (by omega)
  have zu6 : (S12 w g (i * 12) y).frozen? ⟨g, j * 12 + 6, none⟩ = false := hb2.free _
  obtain ⟨u7, hu7⟩ : ∃ u, (S12 w g (i * 12) y).cell? ⟨g, j * 12 + 7, none⟩ = some u := hb2.some (by omega)
  have zu7 : (S12 w g (i * 12) y).frozen? ⟨g, j * 12 + 7, none⟩ = false := hb2.free _
  obtain ⟨u8, hu8⟩ : ∃ u, (S12 w g (i * 12) y).cell? ⟨g, j * 12 + 8, none⟩ = some u := hb2.some (by omega)
  have zu8 : (S12 w g (i * 12) y).frozen? ⟨g, j * 12 + 8, none⟩ = false := hb2.free _
  obtain ⟨u9, hu9⟩ : ∃ u, (S12 w g (i * 12) y).cell? ⟨g, j * 12 + 9, none⟩ = some u := hb2.some (by omega)
  have zu9 : (S12 w g (i * 12) y).frozen? ⟨g, j * 12 + 9, none⟩ = false := hb2.free _
  obtain ⟨u10, hu10⟩ : ∃ u, (S12 w g (i * 12) y).cell? ⟨g, j * 12 + 10, none⟩ = some u := hb2.some (by omega)
  have zu10 : (S12 w g (i * 12) y).frozen? ⟨g, j * 12 + 10, none⟩ = false := hb2.free _
  obtain ⟨u11, hu11⟩ : ∃ u, (S12 w g (i * 12) y).cell? ⟨g, j * 12 + 11, none⟩ = some u := hb2.some (by omega)
  have zu11 : (S12 w g (i * 12) y).frozen? ⟨g, j * 12 + 11, none⟩ = false := hb2.free _
  clear hb hb2 hs hs2
  simp only [S12] at *
  obtain ⟨x0, x1, x2, x3, x4, x5, x6, x7, x8, x9, x10, x11⟩ := hx
  obtain ⟨y0, y1, y2, y3, y4, y5, y6, y7, y8, y9, y10, y11⟩ := hy
  obtain ⟨fx0, fx1, fx2, fx3, fx4, fx5, fx6, fx7, fx8, fx9, fx10, fx11⟩ := fx
  go_enter Try.func164, Try.ntmps164
  go_wp2
  go_region
  all_goals go_wp2
  all_goals go_end0
  all_goals exact ⟨rfl, rfl⟩
end Go.Proofs.Ythbalmoafpggdaa
