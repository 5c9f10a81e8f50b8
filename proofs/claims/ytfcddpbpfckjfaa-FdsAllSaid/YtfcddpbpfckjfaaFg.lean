/- A table of descriptors with numbers that were given back; fds.free as a heap. -/
import Derived.Test.YtfcddpbpfckjfaaChecked
import Derived.WalkKit
import Derived.Outline
import Derived.WalkSpells
import Derived.WalkLawsBesides
import Derived.Deep.QuietTactic
import Derived.Deep.RegionWith
import Derived.Deep.DeepMust
import Derived.BigQuiet
import Derived.Test.YtfcddpbpfckjfaaMem
import Derived.RegionTactic
import Derived.ChangeAlike
import Derived.StillTailTactics
import Derived.BigRegion
import Derived.Deep.RegionHeld3
import Derived.Deep.RegionLaw
import Derived.Deep.AppendLies
import Derived.Test.YtfcddpbpfckjfaaFdsW
import Derived.Test.YtfcddpbpfckjfaaHp
import Derived.Test.YtfcddpbpfckjfaaHp2
namespace Go.Proofs.Ytfcddpbpfckjfaa
open Go.RowKit
set_option linter.unusedVariables false
set_option linter.unusedSimpArgs false
abbrev n64 : Int → Value := .int .i64
theorem In.info : (Try.prog.info? 3).map (fun i => (i.zero, i.size, i.bytes)) = some (some (.int .i64 0), 1, 8) := by kernel_rfl
structure FdG (w : World) (b : Nat) (v cv : Value) (fs : List Fil) (xs : Array Int) : Prop where
  blk : Blk w b #[v, cv] 89
  own : w.ownsRow b 85 5 v fs.length (frow fs)
  cown : w.ownsRow b 3 1 cv xs.size (xs.toList.map n64)
def FdS (b : Nat) (v cv : Value) (k : Nat) : Prop := k = b ∨ v.ownBlock = some k ∨ cv.ownBlock = some k
theorem own_type {w : World} {B e s : Nat} {v : Value} {n : Nat} {xs : List Value} (h : w.ownsRow B e s v n xs) {g : Nat} (hg : v.ownBlock = some g) : B ≤ g ∧ ∃ cur, w.heap[g]? = some (.cells cur e (0, 0)) := by
  rcases h.2 with ⟨rfl, _⟩ | ⟨g', c, cur, rfl, h0, h1, _⟩
  · cases hg
  · injection hg with hg
    have hg : g' = g := hg
    subst hg
    exact ⟨h0, cur, h1⟩
theorem type_ne {w : World} {g : Nat} {c1 c2 : Array Value} {T1 T2 : Nat} (h1 : w.heap[g]? = some (.cells c1 T1 (0, 0))) (h2 : w.heap[g]? = some (.cells c2 T2 (0, 0))) : T1 = T2 := by
  rw [h1] at h2
  injection h2 with h2
  injection h2
theorem FdG.ne {w : World} {b : Nat} {v cv : Value} {fs : List Fil} {xs : Array Int} (h : FdG w b v cv fs xs) : v.ownBlock ≠ some b := by
  intro e
  obtain ⟨_, cur, h1⟩ := own_type h.own e
  exact absurd (type_ne h1 h.blk) (by decide)
theorem FdG.cne {w : World} {b : Nat} {v cv : Value} {fs : List Fil} {xs : Array Int} (h : FdG w b v cv fs xs) : cv.ownBlock ≠ some b := by
  intro e
  obtain ⟨_, cur, h1⟩ := own_type h.cown e
  exact absurd (type_ne h1 h.blk) (by decide)
theorem FdG.apart {w : World} {b g : Nat} {v cv : Value} {fs : List Fil} {xs : Array Int} (h : FdG w b v cv fs xs) (e : v.ownBlock = some g) : cv.ownBlock ≠ some g := by
  intro e'
  obtain ⟨_, cur, h1⟩ := own_type h.own e
  obtain ⟨_, cur', h2⟩ := own_type h.cown e'
  exact absurd (type_ne h1 h2) (by decide)
theorem FdG.chg {S : Nat → Prop} {w w' : World} {b : Nat} {v cv : Value} {fs : List Fil} {xs : Array Int} (h : FdG w b v cv fs xs) (g : Chg S w w') (h0 : ¬ S b) (h1 : ∀ k, v.ownBlock = some k → ¬ S k) (h2 : ∀ k, cv.ownBlock = some k → ¬ S k) : FdG w' b v cv fs xs :=
  ⟨g.blk h.blk h0, ownsRow_chg h.own g h1, ownsRow_chg h.cown g h2⟩
theorem FdG.below {w w' : World} {b : Nat} {v cv : Value} {fs : List Fil} {xs : Array Int} (h : FdG w b v cv fs xs) (g : Below w.heap.size w w') : FdG w' b v cv fs xs :=
  ⟨blkBelow g h.blk h.blk.lt, ownsRow_below h.own g, ownsRow_below h.cown g⟩
theorem FdG.cell {w : World} {b g c : Nat} {v : Value} {fs : List Fil} {xs : Array Int} (h : FdG w b v (.slice (some ⟨g, 0, none⟩) xs.size c) fs xs) : b < g ∧ g < w.heap.size ∧ xs.size ≤ c ∧ c ≤ 9223372036854775807 ∧ ∃ cur, Blk w g cur 3 ∧ cur.size = c ∧ cur.toList.take xs.size = xs.toList.map n64 ∧ ∀ i, i < xs.size → cur[i]? = some (.int .i64 xs[i]!) := by
  have hne : g ≠ b := fun e => h.cne (by rw [e]; rfl)
  rcases h.cown.2 with ⟨e, _⟩ | ⟨g', c', cur, e, h1, h2, h3, h4, h5, h6⟩
  · cases e
  · injection e with e1 e2 e3
    injection e1 with e1
    injection e1 with e1
    subst e1
    subst e3
    rw [Nat.mul_one] at h5 h6
    refine ⟨by omega, lt_of_block h2, h3, by unfold maxLen at h4; omega, cur, h2, h5, h6, fun i hi => ?_⟩
    have hk : (cur.toList.take xs.size)[i]? = (xs.toList.map n64)[i]? := by rw [h6]
    rw [List.getElem?_take_of_lt hi] at hk
    rw [← Array.getElem?_toList, hk]
    simp [hi, n64]
theorem row_swap {cur : Array Value} {xs : Array Int} {i j : Nat} (h : cur.toList.take xs.size = xs.toList.map n64) (hi : i < xs.size) (hj : j < xs.size) :
    ((cur.setIfInBounds i (.int .i64 xs[j]!)).setIfInBounds j (.int .i64 xs[i]!)).toList.take xs.size = (Hq.sw xs i j).toList.map n64 := by
  unfold Hq.sw
  simp only [Array.toList_setIfInBounds, List.take_set, h, List.map_set]
theorem FdG.swap {w w' : World} {b g c : Nat} {v : Value} {fs : List Fil} {xs : Array Int} {cur : Array Value} (h : FdG w b v (.slice (some ⟨g, 0, none⟩) xs.size c) fs xs) (hb : Blk w g cur 3) {i j : Nat} (hi : i < xs.size) (hj : j < xs.size)
    (k : Blk w' g ((cur.setIfInBounds i (.int .i64 xs[j]!)).setIfInBounds j (.int .i64 xs[i]!)) 3) (hc : Chg (· = g) w w') : FdG w' b v (.slice (some ⟨g, 0, none⟩) (Hq.sw xs i j).size c) fs (Hq.sw xs i j) := by
  obtain ⟨h1, h2, h3, h4, cur', h5, h6, h7, h8⟩ := h.cell
  have e : cur' = cur := by
    unfold Blk at hb h5
    rw [hb] at h5
    injection h5 with h5
    injection h5 with h5
    exact h5.symm
  subst e
  rw [Hq.sw_size]
  refine ⟨hc.blk h.blk (by omega), ownsRow_chg h.own hc (fun k e => fun e' => h.apart (by rw [e]) (by rw [e']; rfl)), ⟨by simp [Hq.sw_size], .inr ⟨g, c, _, by rw [Hq.sw_size], by omega, k, by rw [Hq.sw_size]; exact h3, by unfold maxLen; omega, by simp [h6], ?_⟩⟩⟩
  rw [Nat.mul_one, Hq.sw_size]
  exact row_swap h7 hi hj
def FrR (b g c : Nat) (v : Value) (fs : List Fil) (w : World) (xs : Array Int) : Prop := FdG w b v (.slice (some ⟨g, 0, none⟩) xs.size c) fs xs
def ilt (a b : Int) : Bool := decide (a < b)
theorem ilt_ord : Hq.Ord ilt := ⟨fun a b c h1 h2 => by simp [ilt] at *; omega, fun a b h => by simp [ilt] at *; omega⟩
theorem agg_free (w : World) : (isAgg 87).run Try.prog w = .ok false w := by kernel_rfl
theorem ld_free (a : Addr) (w : World) (v : Value) (h : w.cell? a = some v) : (loadVar 87 a).run Try.prog w = .ok v w := by
  unfold loadVar
  simp only [Sem.run_bind, agg_free, Result.andThen_ok]
  go_simp
theorem mth_less (a : Addr) (w : World) (v : Value) (h : w.cell? a = some v) : (method 327 91 (.pointer (some a)) "Less").run Try.prog w = .ok (157, v) w := by
  have e : (method 327 91 (.pointer (some a)) "Less").run Try.prog w = (do let v ← loadVar 87 a; pure (157, v) : Sem _).run Try.prog w := by kernel_rfl
  rw [e, Sem.run_bind, ld_free a w v h]
  rfl
theorem mth_swap (a : Addr) (w : World) (v : Value) (h : w.cell? a = some v) : (method 327 91 (.pointer (some a)) "Swap").run Try.prog w = .ok (158, v) w := by
  have e : (method 327 91 (.pointer (some a)) "Swap").run Try.prog w = (do let v ← loadVar 87 a; pure (158, v) : Sem _).run Try.prog w := by kernel_rfl
  rw [e, Sem.run_bind, ld_free a w v h]
  rfl
theorem mth_len (a : Addr) (w : World) (v : Value) (h : w.cell? a = some v) : (method 327 91 (.pointer (some a)) "Len").run Try.prog w = .ok (156, v) w := by
  have e : (method 327 91 (.pointer (some a)) "Len").run Try.prog w = (do let v ← loadVar 87 a; pure (156, v) : Sem _).run Try.prog w := by kernel_rfl
  rw [e, Sem.run_bind, ld_free a w v h]
  rfl
theorem mth_push (a : Addr) (w : World) : (method 327 91 (.pointer (some a)) "Push").run Try.prog w = .ok (160, .pointer (some a)) w := by kernel_rfl
theorem mth_pop (a : Addr) (w : World) : (method 327 91 (.pointer (some a)) "Pop").run Try.prog w = .ok (159, .pointer (some a)) w := by kernel_rfl
theorem fLen (a : Option Addr) (n c : Nat) (w : World) (h : n ≤ 9223372036854775807) : Calls Try.prog 156 #[.slice a n c] w fun e w' => e = .returned (.int .i64 n) ∧ Drw w w' := by
  go_enter Try.func156, Try.ntmps156
  go_wp2
  go_ret
  exact ⟨rfl, 0, rfl⟩
theorem frIs (b g c : Nat) (v : Value) (fs : List Fil) : frHp ilt (.pointer (some ⟨b, 1, none⟩)) (FrR b g c v fs) (· = g) where
  drw := fun w w' xs hd h => FdG.below h hd.below
  mless := fun w xs h => by
    have hc : w.cell? ⟨b, 1, none⟩ = some (.slice (some ⟨g, 0, none⟩) xs.size c) := (FdG.blk h).cell (o := 1) rfl
    refine ⟨_, mth_less _ _ _ hc, fun i j hi hj => ?_⟩
    obtain ⟨_, _, h3, h4, cur, h5, _, _, h8⟩ := FdG.cell h
    exact fLess g xs.size c i j xs[i]! xs[j]! w hi hj h3 h4 (h5.cell (h8 i hi)) (h5.cell (h8 j hj))
  mlen := fun w xs h => by
    have hc : w.cell? ⟨b, 1, none⟩ = some (.slice (some ⟨g, 0, none⟩) xs.size c) := (FdG.blk h).cell (o := 1) rfl
    obtain ⟨_, _, h3, h4, _⟩ := FdG.cell h
    exact ⟨_, mth_len _ _ _ hc, fLen _ _ _ _ (by omega)⟩
  mswap := fun w xs h => by
    have hc : w.cell? ⟨b, 1, none⟩ = some (.slice (some ⟨g, 0, none⟩) xs.size c) := (FdG.blk h).cell (o := 1) rfl
    refine ⟨_, mth_swap _ _ _ hc, fun i j hi hj => ?_⟩
    obtain ⟨_, _, h3, h4, cur, h5, _, _, h8⟩ := FdG.cell h
    exact (fSwap g xs.size c i j cur xs[i]! xs[j]! w hi hj h3 h4 h5 (h8 i hi) (h8 j hj)).mono fun e w' ⟨he, hb, hc⟩ => ⟨he, FdG.swap h h5 hi hj hb hc, hc⟩
end Go.Proofs.Ytfcddpbpfckjfaa
