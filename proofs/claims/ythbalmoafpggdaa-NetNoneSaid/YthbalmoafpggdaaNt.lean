/- A net: its heap of frames on their way. -/
import Derived.Test.YthbalmoafpggdaaChecked
import Derived.WalkKit
import Derived.Outline
import Derived.WalkSpells
import Derived.WalkLawsBesides
import Derived.Deep.QuietTactic
import Derived.Deep.RegionWith
import Derived.Deep.DeepMust
import Derived.BigQuiet
import Derived.Test.YthbalmoafpggdaaMem
import Derived.RegionTactic
import Derived.ChangeAlike
import Derived.StillTailTactics
import Derived.BigRegion
import Derived.Deep.LoopGhost
import Derived.Deep.RegionHeld3
import Derived.Deep.RegionLaw
import Derived.Deep.AppendLies
import Derived.Test.YthbalmoafpggdaaApp
import Derived.Test.YthbalmoafpggdaaCln
namespace Go.Proofs.Ythbalmoafpggdaa
open Go.RowKit
set_option linter.unusedVariables false
set_option linter.unusedSimpArgs false
structure Wy where
  p : Nat
  src : Int
  dst : Int
  due : Int
  bv : Value
  came : Int
def wyC (x : Wy) : Array Value := #[.int .i64 x.src, .int .i64 x.dst, .int .i64 x.due, x.bv, .int .i64 x.came]
def wyP (x : Wy) : Value := .pointer (some ⟨x.p, 0, none⟩)
theorem Wy.info : (Try.prog.info? 120).map (fun i => (i.zero, i.size, i.bytes)) = some (some (.pointer none), 1, 8) := by kernel_rfl
structure NetG (w : World) (nb : Nat) (room came : Int) (lv : Value) (xs : List Wy) : Prop where
  blk : Blk w nb #[.int .i64 room, lv, .int .i64 came] 130
  own : w.ownsRow nb 120 1 lv xs.length (xs.map wyP)
  way : ∀ x ∈ xs, Blk w x.p (wyC x) 124
def NS (nb : Nat) (lv : Value) (k : Nat) : Prop := k = nb ∨ lv.ownBlock = some k
theorem blk_ne {w : World} {k : Nat} {c1 c2 : Array Value} {T1 T2 : Nat} (h1 : Blk w k c1 T1) (hn : T1 ≠ T2) : ¬ Blk w k c2 T2 := fun h2 => by
  have h1 : w.heap[k]? = _ := h1
  have h2 : w.heap[k]? = _ := h2
  rw [h1] at h2
  injection h2 with h2
  injection h2 with _ h2
  exact hn h2
theorem own_typ {w : World} {B e s : Nat} {v : Value} {n : Nat} {xs : List Value} (h : w.ownsRow B e s v n xs) {g : Nat} (hg : v.ownBlock = some g) : B ≤ g ∧ ∃ cur, Blk w g cur e := by
  rcases h.2 with ⟨rfl, _⟩ | ⟨g', c, cur, rfl, h0, h1, _⟩
  · cases hg
  · injection hg with hg
    have hg : g' = g := hg
    subst hg
    exact ⟨h0, cur, h1⟩
theorem NetG.ne {w : World} {nb : Nat} {room came : Int} {lv : Value} {xs : List Wy} (h : NetG w nb room came lv xs) : lv.ownBlock ≠ some nb := by
  intro e
  obtain ⟨_, cur, h1⟩ := own_typ h.own e
  exact blk_ne h1 (by decide) h.blk
theorem NetG.below {w w' : World} {nb : Nat} {room came : Int} {lv : Value} {xs : List Wy} (h : NetG w nb room came lv xs) (g : Below w.heap.size w w') : NetG w' nb room came lv xs :=
  ⟨blkBelow g h.blk h.blk.lt, ownsRow_below h.own g, fun x hx => blkBelow g (h.way x hx) (h.way x hx).lt⟩
/-- A block that is neither the net's nor its row's. -/
theorem NetG.far {w : World} {nb p : Nat} {room came : Int} {lv : Value} {xs : List Wy} {cs : Array Value} {T : Nat} (h : NetG w nb room came lv xs) (hp : Blk w p cs T) (h1 : T ≠ 130) (h2 : T ≠ 120) : ¬ NS nb lv p := by
  rintro (rfl | e)
  · exact blk_ne hp h1 h.blk
  · obtain ⟨_, cur, h3⟩ := own_typ h.own e
    exact blk_ne hp h2 h3
theorem fLen (a : Option Addr) (n c : Nat) (w : World) (h : n ≤ 9223372036854775807) : Calls Try.prog 165 #[.slice a n c] w fun e w' => e = .returned (.int .i64 n) ∧ Drw w w' := by
  go_enter Try.func165, Try.ntmps165
  go_wp2
  go_ret
  exact ⟨rfl, 0, rfl⟩
theorem drw2 (w : World) (a b : Nat) : Drw w ((w.drewN a).drewN b) := ⟨a + b, by simp [World.drewN, Nat.add_assoc]⟩
theorem nLess (g n c i j : Nat) (a b : Wy) (w : World) (hi : i < n) (hj : j < n) (hn : n ≤ c) (hc : c ≤ 9223372036854775807) (ci : w.cell? ⟨g, i, none⟩ = some (.pointer (some ⟨a.p, 0, none⟩))) (cj : w.cell? ⟨g, j, none⟩ = some (.pointer (some ⟨b.p, 0, none⟩))) (ba : Blk w a.p (wyC a) 124) (bb : Blk w b.p (wyC b) 124) (hd : a.due ≠ b.due) :
    Calls Try.prog 166 #[.slice (some ⟨g, 0, none⟩) n c, .int .i64 i, .int .i64 j] w fun e w' => e = .returned (.bool (decide (a.due < b.due))) ∧ Drw w w' := by
  have i0 : (0 : Int) ≤ i := by omega
  have j0 : (0 : Int) ≤ j := by omega
  have i1 : (i : Int) < n := by omega
  have j1 : (j : Int) < n := by omega
  have a2 : w.cell? ⟨a.p, 2, none⟩ = some (.int .i64 a.due) := ba.cell (o := 2) rfl
  have b2 : w.cell? ⟨b.p, 2, none⟩ = some (.int .i64 b.due) := bb.cell (o := 2) rfl
  clear ba bb
  go_enter Try.func166, Try.ntmps166
  go_wp2
  go_quiet (fail)
  go_wp2
  go_quiet (fail)
  go_wp2
  go_ret
  exact ⟨rfl, drw2 _ _ _⟩
theorem nSwap (g n c i j : Nat) (cur : Array Value) (x y : Value) (w : World) (hi : i < n) (hj : j < n) (hn : n ≤ c) (hc : c ≤ 9223372036854775807) (hb : Blk w g cur 120) (ci : cur[i]? = some x) (cj : cur[j]? = some y) (hx : ∃ p, x = .pointer (some ⟨p, 0, none⟩)) (hy : ∃ p, y = .pointer (some ⟨p, 0, none⟩)) :
    Calls Try.prog 169 #[.slice (some ⟨g, 0, none⟩) n c, .int .i64 i, .int .i64 j] w fun e w' => e = .returned (.tuple #[]) ∧ Blk w' g ((cur.setIfInBounds i y).setIfInBounds j x) 120 ∧ Chg (· = g) w w' := by
  obtain ⟨px, rfl⟩ := hx
  obtain ⟨py, rfl⟩ := hy
  have i0 : (0 : Int) ≤ i := by omega
  have j0 : (0 : Int) ≤ j := by omega
  have i1 : (i : Int) < n := by omega
  have j1 : (j : Int) < n := by omega
  have k1 := hb.cell ci
  have k2 := hb.cell cj
  have f1 := hb.free i
  have f2 := hb.free j
  have hz := hb.lt
  have key : ∀ (i j : Nat) (y z : Value), i < cur.size → cur[j]? = some y → z = y → (cur.setIfInBounds i z)[j]? = some y ∨ i ≠ j ∧ (cur.setIfInBounds i z)[j]? = some y := by
    intro i j y z hi h e
    subst e
    left
    rw [Array.getElem?_setIfInBounds]
    split
    · simp [hi]
    · exact h
  have hic : i < cur.size := by
    rcases Nat.lt_or_ge i cur.size with h | h
    · exact h
    · rw [Array.getElem?_eq_none h] at ci; cases ci
  have hjc : j < cur.size := by
    rcases Nat.lt_or_ge j cur.size with h | h
    · exact h
    · rw [Array.getElem?_eq_none h] at cj; cases cj
  have m1 : (w.setCell ⟨g, i, none⟩ (.pointer (some ⟨py, 0, none⟩))).cell? ⟨g, j, none⟩ = some (.pointer (some ⟨py, 0, none⟩)) := (hb.set i _).cell (by rw [Array.getElem?_setIfInBounds]; split <;> simp_all)
  have m2 := (hb.set i (.pointer (some ⟨py, 0, none⟩))).free j
  have m3 : (w.setCell ⟨g, j, none⟩ (.pointer (some ⟨px, 0, none⟩))).cell? ⟨g, i, none⟩ = some (.pointer (some ⟨px, 0, none⟩)) := (hb.set j _).cell (by rw [Array.getElem?_setIfInBounds]; split <;> simp_all)
  have m4 := (hb.set j (.pointer (some ⟨px, 0, none⟩))).free i
  have HB := Lib.hid hb
  clear hb ci cj key
  go_enter Try.func169, Try.ntmps169
  go_wp2
  go_region
  all_goals go_wp2
  go_end0
  exact ⟨rfl, (HB.out.set i _).set j _, (Chg.set (S := (· = g)) (Chg.set (S := (· = g)) (Chg.refl (· = g) w) (p := ⟨g, i, none⟩) (fun _ => rfl) _) (p := ⟨g, j, none⟩) (fun _ => rfl) _).drew⟩
theorem agg_ways (w : World) : (isAgg 128).run Try.prog w = .ok false w := by kernel_rfl
theorem ld_ways (a : Addr) (w : World) (v : Value) (h : w.cell? a = some v) : (loadVar 128 a).run Try.prog w = .ok v w := by
  unfold loadVar
  simp only [Sem.run_bind, agg_ways, Result.andThen_ok]
  go_simp
theorem mth_less (a : Addr) (w : World) (v : Value) (h : w.cell? a = some v) : (method 288 126 (.pointer (some a)) "Less").run Try.prog w = .ok (166, v) w := by
  have e : (method 288 126 (.pointer (some a)) "Less").run Try.prog w = (do let v ← loadVar 128 a; pure (166, v) : Sem _).run Try.prog w := by kernel_rfl
  rw [e, Sem.run_bind, ld_ways a w v h]
  rfl
theorem mth_swap (a : Addr) (w : World) (v : Value) (h : w.cell? a = some v) : (method 288 126 (.pointer (some a)) "Swap").run Try.prog w = .ok (169, v) w := by
  have e : (method 288 126 (.pointer (some a)) "Swap").run Try.prog w = (do let v ← loadVar 128 a; pure (169, v) : Sem _).run Try.prog w := by kernel_rfl
  rw [e, Sem.run_bind, ld_ways a w v h]
  rfl
theorem mth_len (a : Addr) (w : World) (v : Value) (h : w.cell? a = some v) : (method 288 126 (.pointer (some a)) "Len").run Try.prog w = .ok (165, v) w := by
  have e : (method 288 126 (.pointer (some a)) "Len").run Try.prog w = (do let v ← loadVar 128 a; pure (165, v) : Sem _).run Try.prog w := by kernel_rfl
  rw [e, Sem.run_bind, ld_ways a w v h]
  rfl
theorem mth_push (a : Addr) (w : World) : (method 288 126 (.pointer (some a)) "Push").run Try.prog w = .ok (168, .pointer (some a)) w := by kernel_rfl
theorem mth_pop (a : Addr) (w : World) : (method 288 126 (.pointer (some a)) "Pop").run Try.prog w = .ok (167, .pointer (some a)) w := by kernel_rfl
end Go.Proofs.Ythbalmoafpggdaa
