/- The table of descriptors in general: Open, a number that was given back. -/
import Derived.Test.YtfcddpbpfckjfaaChecked
import Derived.WalkKit
import Derived.Outline
import Derived.WalkSpells
import Derived.WalkLawsBesides
import Derived.Deep.QuietTactic
import Derived.Deep.RegionWith
import Derived.Deep.DeepMust
import Derived.BigQuiet
import Derived.Test.YtfcddpbpfckjfaaMem
import Derived.RegionTactic
import Derived.ChangeAlike
import Derived.StillTailTactics
import Derived.BigRegion
import Derived.BigGuardPart
import Derived.Deep.RegionHeld3
import Derived.Deep.RegionLaw
import Derived.Test.YtfcddpbpfckjfaaFg5
namespace Go.Proofs.Ytfcddpbpfckjfaa
open Go.RowKit
set_option linter.unusedVariables false
set_option linter.unusedSimpArgs false
theorem chg_put5' {S : Nat → Prop} {g : Nat} (hg : S g) {w : World} {a0 a1 a2 a3 a4 : Nat} {u0 u1 u2 u3 u4 : Value} : Chg S w (((((w.setCell ⟨g, a0, none⟩ u0).setCell ⟨g, a1, none⟩ u1).setCell ⟨g, a2, none⟩ u2).setCell ⟨g, a3, none⟩ u3).setCell ⟨g, a4, none⟩ u4) :=
  Chg.set (Chg.set (Chg.set (Chg.set (Chg.set (Chg.refl S w) (p := ⟨g, a0, none⟩) (fun _ => hg) u0) (p := ⟨g, a1, none⟩) (fun _ => hg) u1) (p := ⟨g, a2, none⟩) (fun _ => hg) u2) (p := ⟨g, a3, none⟩) (fun _ => hg) u3) (p := ⟨g, a4, none⟩) (fun _ => hg) u4
theorem FdG.drew {w : World} {b : Nat} {v cv : Value} {fs : List Fil} {xs : Array Int} (h : FdG w b v cv fs xs) : FdG w.drew b v cv fs xs := ⟨h.blk, h.own, h.cown⟩
def OPost (b : Nat) (v cv : Value) (fs' : List Fil) (xs : Array Int) (k : Nat) (w : World) (e : Ending) (w' : World) : Prop := e = .returned (.tuple #[.int .i64 k, .int .i64 0]) ∧ ∃ cv' ys, FdG w' b v cv' fs' ys ∧ ys.size + 1 = xs.size ∧ ((k : Int) :: ys.toList).Perm xs.toList ∧ Hq.IsHeap ilt ys ys.size ∧ Chg (FdS b v cv) w w'
set_option maxRecDepth 100000 in
set_option maxHeartbeats 1000000 in
theorem gOpenOld (b : Nat) (v cv : Value) (fs : List Fil) (xs : Array Int) (t n fl : Int) (w : World) (h : FdG w b v cv fs xs) (m : Nat) (hm : m + xs.size = fs.length) (hl : fs.length ≤ 1000) (hx : 0 < xs.size) (hlt : m < 32) (hh : Hq.IsHeap ilt xs xs.size) (k : Nat) (hk : k < fs.length) (hk0 : xs[0]! = (k : Int)) :
    Calls Try.prog 11 #[.pointer (some ⟨b, 0, none⟩), .agg #[.int .i64 t, .int .i64 n], .int .i64 fl] w (OPost b v cv (fs.set k ⟨t, n, fl, 0, true⟩) xs k w) := by
  have K := fun w' hw => Lib.hid (gRoom b v cv fs xs w' (h.below hw) m hm hl)
  have c1 : w.cell? ⟨b, 1, none⟩ = some cv := h.blk.cell (o := 1) rfl
  have hz := h.blk.lt
  have hd : decide (m < 32) = true := by simpa using hlt
  have H := Lib.hid h
  have HH := Lib.hid hh
  have HK0 := Lib.hid hk0
  obtain ⟨g, cc, rfl, hc1⟩ : ∃ g c, cv = .slice (some ⟨g, 0, none⟩) xs.size c ∧ xs.size ≤ 1000 := by
    rcases h.cown.2 with ⟨_, h1⟩ | ⟨g, c, cur, rfl, _⟩
    · omega
    · exact ⟨g, c, rfl, by omega⟩
  clear h hh hk0
  go_enter Try.func11, Try.ntmps11
  go_wp2_with fail
  refine (K _ ?hB).out.mono ?_
  case hB => exact (Below.refl _ _).alloc (Nat.le_refl _) _
  rintro e w1 ⟨rfl, j, rfl⟩
  rw [hd]
  go_wp2_with fail
  have B8 : Blk (((w.alloc (.cells #[.int .i64 t, .int .i64 n] 27)).drewN j).alloc (.cells #[.int .i64 t, .int .i64 n, .int .i64 fl, .int .i64 0, .bool true] 85)) (w.heap.size + 1) #[.int .i64 t, .int .i64 n, .int .i64 fl, .int .i64 0, .bool true] 85 := by
    have := Blk.new ((w.alloc (.cells #[.int .i64 t, .int .i64 n] 27)).drewN j) #[.int .i64 t, .int .i64 n, .int .i64 fl, .int .i64 0, .bool true] 85
    simpa using this
  have BW : Below w.heap.size w (((w.alloc (.cells #[.int .i64 t, .int .i64 n] 27)).drewN j).alloc (.cells #[.int .i64 t, .int .i64 n, .int .i64 fl, .int .i64 0, .bool true] 85)) := by (repeat first | exact Below.refl _ _ | refine Below.drew ?_ | refine below_drewN ?_ _ | refine Below.alloc ?_ (by simp <;> omega) _ | refine Below.setCell ?_ (by simp) _)
  have h1 := H.out.below BW
  have hS : ¬ FdS b v (.slice (some ⟨g, 0, none⟩) xs.size cc) (w.heap.size + 1) := by
    rintro (e | e | e)
    · omega
    · obtain ⟨_, cur, h2⟩ := own_type H.out.own e
      have := lt_of_block h2
      omega
    · obtain ⟨_, cur, h2⟩ := own_type H.out.cown e
      have := lt_of_block h2
      omega
  have HB8 := Lib.hid B8
  have HBW := Lib.hid BW
  have HS := Lib.hid hS
  have K2 := Lib.hid (fgPop b g cc v fs xs _ h1 HH.out hx hc1)
  clear B8 BW hS h1
  refine K2.out.mono ?_
  rintro e w2 ⟨pv, ys, rfl, hV, hR, hs, hp, hh, hc⟩
  unfold IntV at hV
  subst hV
  rw [HK0.out] at hp
  rw [HK0.out]
  have B9 := hc.blk HB8.out HS.out
  have hR : FdG w2 b v (.slice (some ⟨g, 0, none⟩) ys.size cc) fs ys := hR
  have e0 := B9.cell (o := 0) rfl
  have e1 := B9.cell (o := 1) rfl
  have e2 := B9.cell (o := 2) rfl
  have e3 := B9.cell (o := 3) rfl
  have e4 := B9.cell (o := 4) rfl
  have c0 := hR.blk.cell (o := 0) rfl
  have hz2 := hR.blk.lt
  have hz8 := B9.lt
  obtain ⟨g', c, rfl, hbg, hgl, h2, h3, cur, hbk, _, ht⟩ := hR.vshape (by omega)
  obtain ⟨k0, k1, k2, k3, k4⟩ := fd_cellsG (n := 0) hbk ht k hk
  have kf0 := hbk.free (k * 5)
  have kf1 := hbk.free (k * 5 + 1)
  have kf2 := hbk.free (k * 5 + 2)
  have kf3 := hbk.free (k * 5 + 3)
  have kf4 := hbk.free (k * 5 + 4)
  have n0 : (0 : Int) ≤ k := by omega
  have n1 : (k : Int) < fs.length := by omega
  have HF := Lib.hid (hR.put k hk ⟨t, n, fl, 0, true⟩)
  have HHH := Lib.hid hh
  have HC := Lib.hid (Chg.trans (Chg.of_below (S := FdS b (.slice (some ⟨g', 0, none⟩) fs.length c) (.slice (some ⟨g, 0, none⟩) xs.size cc)) HBW.out (fun i hi hn => by omega)) hc)
  have HP := Lib.hid hp
  have HSS := Lib.hid hs
  have ta := ta_int k
  clear hh hc hp hs hR B9 hbk ht K2 HB8 HBW HS H HH HK0 K
  go_wp2_with fail
  go_region
  all_goals go_wp2
  all_goals go_ret2
  all_goals exact ⟨rfl, _, ys, HF.out.drew, HSS.out, HP.out, HHH.out, (HC.out.trans (chg_put5' (.inr (.inl rfl)))).drew⟩
end Go.Proofs.Ytfcddpbpfckjfaa
