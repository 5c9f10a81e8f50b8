/- A volume: its blocks are read. -/
import Derived.Test.YtfcddpbpfckjfaaChecked
import Derived.WalkKit
import Derived.Outline
import Derived.WalkSpells
import Derived.WalkLawsBesides
import Derived.Deep.QuietTactic
import Derived.Deep.RegionWith
import Derived.Deep.DeepMust
import Derived.BigQuiet
import Derived.Test.YtfcddpbpfckjfaaMem
import Derived.RegionTactic
import Derived.ChangeAlike
import Derived.StillTailTactics
import Derived.BigRegion
import Derived.Deep.LoopGhost
import Derived.Deep.RegionHeld3
import Derived.Deep.OwnRows
import Derived.Test.YtfcddpbpfckjfaaWd
namespace Go.Proofs.Ytfcddpbpfckjfaa
open Go.RowKit
set_option linter.unusedVariables false
set_option linter.unusedSimpArgs false
/-- A row of slices of bytes. -/
def RowsAt (w : World) (vl : Nat) (ls : List (List Int)) : Prop := ∃ vs : List Value, Blk w vl vs.toArray 48 ∧ vs.length = ls.length ∧ ∀ (i : Nat) (v : Value) (l : List Int), vs[i]? = some v → ls[i]? = some l → Rdv u8v w v l
theorem RowsAt.plain {w : World} {vl : Nat} {ls : List (List Int)} (h : RowsAt w vl ls) : Plain w vl := by
  obtain ⟨vs, h1, h2, h3⟩ := h
  refine ⟨_, _, h1, fun i n e => ?_⟩
  have e : vs[i]? = some (Value.int .u8 n) := by simpa using e
  have hi : i < vs.length := by
    rcases Nat.lt_or_ge i vs.length with h | h
    · exact h
    · rw [List.getElem?_eq_none h] at e; cases e
  obtain ⟨a, m, c, hs⟩ := (h3 i _ _ e (List.getElem?_eq_getElem (by rw [← h2]; exact hi))).shape
  cases hs
theorem RowsAt.stay {S : Nat → Prop} {w w' : World} {vl : Nat} {ls : List (List Int)} (h : RowsAt w vl ls) (hc : Chg S w w') (hs : ∀ k, S k → Plain w k ∧ k ≠ vl) : RowsAt w' vl ls := by
  obtain ⟨vs, h1, h2, h3⟩ := h
  exact ⟨vs, hc.blk h1 (fun e => (hs _ e).2 rfl), h2, fun i v l a b => (h3 i v l a b).stay hc (fun k hk => (hs k hk).1)⟩
theorem RowsAt.get {w : World} {vl i : Nat} {ls : List (List Int)} (h : RowsAt w vl ls) (hi : i < ls.length) : ∃ v, w.cell? ⟨vl, i, none⟩ = some v ∧ Rdv u8v w v ls[i] := by
  obtain ⟨vs, h1, h2, h3⟩ := h
  have hv : i < vs.length := by rw [h2]; exact hi
  exact ⟨vs[i], h1.cell (by simp [hv]), h3 i _ _ (List.getElem?_eq_getElem hv) (List.getElem?_eq_getElem hi)⟩
/-- One slice is turned: it reads as l does. -/
theorem RowsAt.set {w : World} {vl i : Nat} {ls : List (List Int)} {v : Value} {l : List Int} (h : RowsAt w vl ls) (hr : Rdv u8v w v l) : RowsAt (w.setCell ⟨vl, i, none⟩ v) vl (ls.set i l) := by
  have hp := h.plain
  obtain ⟨vs, h1, h2, h3⟩ := h
  have hc : Chg (· = vl) w (w.setCell ⟨vl, i, none⟩ v) := Chg.set (S := (· = vl)) (Chg.refl (· = vl) w) (p := ⟨vl, i, none⟩) (fun _ => rfl) v
  have hpk : ∀ k, k = vl → Plain w k := fun k hk => hk ▸ hp
  refine ⟨vs.set i v, by have := h1.set i v; simpa using this, by simp [h2], fun j u m hj hm => ?_⟩
  rw [List.getElem?_set] at hj hm
  by_cases e : i = j
  · rw [if_pos e] at hj hm
    split at hj
    · next hlt =>
      rw [if_pos (by omega)] at hm
      injection hj with hj
      injection hm with hm
      subst hj hm
      exact hr.stay hc hpk
    · cases hj
  · rw [if_neg e] at hj hm
    exact (h3 j u m hj hm).stay hc hpk
theorem RowsAt.nils {w : World} {vl n : Nat} (h : Blk w vl (Array.replicate n (.slice none 0 0)) 48) : RowsAt w vl (List.replicate n []) := by
  refine ⟨List.replicate n (.slice none 0 0), by simpa using h, by simp, fun i v l hv hl => ?_⟩
  rw [List.getElem?_replicate] at hv hl
  split at hv
  · next hi =>
    rw [if_pos hi] at hl
    injection hv with hv
    injection hl with hl
    subst hv hl
    exact Rdv.nil _ _
  · cases hv
theorem walAt (vb b m : Nat) (la : Option Addr) (kept block : Nat) (c : Int) (ch br : Bool) (w : World) (hV : VolB w vb b (.slice la m m) kept c ch br) (hm : m ≤ 65536) (hk : kept ≤ 4294967295) (hb : block ≤ 65536) :
    Calls Try.prog 129 #[.pointer (some ⟨vb, 0, none⟩), .int .i64 kept, .int .i64 block] w fun e w' => e = .returned (.int .i64 ((8 + kept % 2 * m + block : Nat) : Int)) ∧ w = w' := by
  have c1 : w.cell? ⟨vb, 1, none⟩ = some (.slice la m m) := Blk.cell hV (o := 1) rfl
  have hl := Blk.lt hV
  have k1 : (0 : Int) ≤ kept := by omega
  have k2 : (kept : Int) ≤ 4294967295 := by omega
  have k3 : (0 : Int) ≤ block := by omega
  have k4 : (block : Int) ≤ 65536 := by omega
  have k5 : (m : Int) ≤ 65536 := by omega
  obtain ⟨q, hq⟩ : ∃ q : Nat, kept % 2 = q := ⟨_, rfl⟩
  have hq2 : (kept : Int) % 2 = q := by omega
  have hq3 : q = 0 ∨ q = 1 := by omega
  rw [hq]
  clear hV hq
  rcases hq3 with rfl | rfl
  · go_enter Try.func129, Try.ntmps129
    go_wp2
    go_ret
    refine ⟨ret_i ?_, rfl⟩
    simp
  · go_enter Try.func129, Try.ntmps129
    go_wp2
    go_ret
    refine ⟨ret_i ?_, rfl⟩
    simp
end Go.Proofs.Ytfcddpbpfckjfaa
