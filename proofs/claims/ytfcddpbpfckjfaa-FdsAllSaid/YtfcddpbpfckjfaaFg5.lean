/- The table of descriptors in general: Open. -/
import Derived.Test.YtfcddpbpfckjfaaChecked
import Derived.WalkKit
import Derived.Outline
import Derived.WalkSpells
import Derived.WalkLawsBesides
import Derived.Deep.QuietTactic
import Derived.Deep.RegionWith
import Derived.Deep.DeepMust
import Derived.BigQuiet
import Derived.Test.YtfcddpbpfckjfaaMem
import Derived.RegionTactic
import Derived.ChangeAlike
import Derived.StillTailTactics
import Derived.BigRegion
import Derived.BigGuardPart
import Derived.Deep.RegionHeld3
import Derived.Deep.RegionLaw
import Derived.Test.YtfcddpbpfckjfaaFg4
namespace Go.Proofs.Ytfcddpbpfckjfaa
open Go.RowKit
set_option linter.unusedVariables false
set_option linter.unusedSimpArgs false
theorem gOpenFull (b : Nat) (v cv : Value) (fs : List Fil) (xs : Array Int) (t n fl : Int) (w : World) (h : FdG w b v cv fs xs) (m : Nat) (hm : m + xs.size = fs.length) (hl : fs.length ≤ 1000) (hf : 32 ≤ m) : Calls Try.prog 11 #[.pointer (some ⟨b, 0, none⟩), .agg #[.int .i64 t, .int .i64 n], .int .i64 fl] w fun e w' => e = .returned (.tuple #[.int .i64 0, .int .i64 23]) ∧ Below w.heap.size w w' := by
  have K := fun w' hw => Lib.hid (gRoom b v cv fs xs w' (h.below hw) m hm hl)
  have hd : decide (m < 32) = false := by simp; omega
  clear h hl hm hf
  go_enter Try.func11, Try.ntmps11
  go_wp2_with fail
  refine (K _ ?hB).out.mono ?_
  case hB => exact (Below.refl _ _).alloc (Nat.le_refl _) _
  rintro e w1 ⟨rfl, k, rfl⟩
  rw [hd]
  go_wp2
  go_ret2
  exact ⟨rfl, by (repeat first | exact Below.refl _ _ | refine Below.drew ?_ | refine below_drewN ?_ _ | refine Below.alloc ?_ (by simp <;> omega) _ | refine Below.setCell ?_ (by simp) _)⟩
theorem fg_app5 {w W w2 : World} {b : Nat} {v v2 cv : Value} {fs : List Fil} {f : Fil} {xs : Array Int} (h : FdG w b v cv fs xs) (hb : Below w.heap.size w W) (ho : w2.ownsRow b 85 5 v2 (fs.length + 1) (frow fs ++ filC f)) (hg : W.grownBy w2 v.ownBlock) :
    w2.cell? ⟨b, 0, none⟩ = some v ∧ w2.cell? ⟨b, 1, none⟩ = some cv ∧ w2.frozen? ⟨b, 0, none⟩ = false ∧ b < w2.heap.size ∧ FdG (w2.setCell ⟨b, 0, none⟩ v2) b v2 cv (fs ++ [f]) xs ∧ Chg (FdS b v cv) w w2 := by
  have hl := h.blk.lt
  have B1 : Blk W b #[v, cv] 89 := blkBelow hb h.blk hl
  have B2 : Blk w2 b #[v, cv] 89 := B1.of_eq (hg.block b B1.lt (fun e => h.ne e.symm))
  have hne : v2.ownBlock ≠ some b := by
    intro e
    obtain ⟨_, cur, h1⟩ := own_type ho e
    exact absurd (type_ne h1 B2) (by decide)
  have C1 : Chg (FdS b v cv) w w2 := (Chg.of_below hb (fun i hi hn => by omega)).grown hg (fun k hk _ => .inr (.inl hk))
  have O2 : w2.ownsRow b 3 1 cv xs.size (xs.toList.map n64) :=
    ownsRow_chg (ownsRow_below h.cown hb) (S := fun k => v.ownBlock = some k) ((Chg.refl _ _).grown hg (fun k e _ => e)) (fun k e e' => h.apart e' e)
  refine ⟨B2.cell (o := 0) rfl, B2.cell (o := 1) rfl, B2.free 0, B2.lt, ⟨?_, ?_, ?_⟩, C1⟩
  · have := B2.set 0 v2
    simpa using this
  · have := ownsRow_setCell_other ho (a := ⟨b, 0, none⟩) hne v2
    rw [frow_snoc]
    simpa using this
  · exact ownsRow_setCell_other O2 (a := ⟨b, 0, none⟩) h.cne _
set_option maxRecDepth 100000 in
theorem gOpenNew (b : Nat) (v cv : Value) (fs : List Fil) (xs : Array Int) (t n fl : Int) (w : World) (h : FdG w b v cv fs xs) (hx : xs.size = 0) (hl : fs.length < 32) : Calls Try.prog 11 #[.pointer (some ⟨b, 0, none⟩), .agg #[.int .i64 t, .int .i64 n], .int .i64 fl] w fun e w' => e = .returned (.tuple #[.int .i64 fs.length, .int .i64 0]) ∧ ∃ v', FdG w' b v' cv (fs ++ [⟨t, n, fl, 0, true⟩]) xs ∧ Chg (FdS b v cv) w w' := by
  have K := fun w' hw => Lib.hid (gRoom b v cv fs xs w' (h.below hw) fs.length (by omega) (by omega))
  have c0 : w.cell? ⟨b, 0, none⟩ = some v := h.blk.cell (o := 0) rfl
  have c1 : w.cell? ⟨b, 1, none⟩ = some cv := h.blk.cell (o := 1) rfl
  have hz := h.blk.lt
  have hd : decide (fs.length < 32) = true := by simpa using hl
  have H := Lib.hid h
  obtain ⟨va, vc, rfl, hv1, hv2, _⟩ := own_shp h.own
  obtain ⟨ca, cc, hcv, hc1, hc2, _⟩ := own_shp h.cown
  rw [hx] at hcv
  subst hcv
  have x0 : ∀ k o o' o'', ((((w.alloc o).drewN k).alloc o').alloc o'').cell? ⟨b, 0, none⟩ = some (.slice va fs.length vc) := fun k o o' o'' => (((h.blk.alloc o).drewN k).alloc o' |>.alloc o'').cell (o := 0) rfl
  have HX := Lib.hid hx
  clear h hx hc1
  obtain ⟨i0, hi, hi2⟩ := Option.map_eq_some_iff.1 Fd.info
  simp only [Prod.mk.injEq] at hi2
  obtain ⟨hz0, hz1, hz2⟩ := hi2
  go_enter Try.func11, Try.ntmps11
  go_wp2_with fail
  refine (K _ ?hB).out.mono ?_
  case hB => exact (Below.refl _ _).alloc (Nat.le_refl _) _
  rintro e w1 ⟨rfl, k, rfl⟩
  rw [hd]
  go_wp2_with fail
  go_region_law ((refine wanted_go rfl ?_); (refine wp_append_own _ (.tmp 40) (.tmp 42) 86 rfl b 85 i0 _ 5 40 Try.underlying86 hi hz0 hz1 hz2 rfl (Nat.zero_lt_succ 4) (.slice va fs.length vc) fs.length (frow fs) rfl (ownsRow_below H.out.own ?_) ⟨w.heap.size + 1 + 1, 0, none⟩ 1 1 [.int .i64 t, .int .i64 n, .int .i64 fl, .int .i64 0, .bool true] rfl rfl ?_ ?_ ?_ ?_ ?_ ?_); (case _ => (repeat first | exact Below.refl _ _ | refine Below.drew ?_ | refine below_drewN ?_ _ | refine Below.alloc ?_ (by simp <;> omega) _ | refine Below.setCell ?_ (by simp) _)); (case _ => (intro j u hu; rcases j with _ | _ | _ | _ | _ | j <;> simp at hu <;> subst hu <;> simp [Addr.add, go_sem, *])); (case _ => simp [Value.oneCell']); (case _ => (unfold maxLen; omega)); (case _ => omega); (case _ => (simp <;> omega)); (intro v2 w2 ho2 hg2 _); (obtain ⟨d0, d1, d2, d5, d3, d4⟩ := fg_app5 H.out (by (repeat first | exact Below.refl _ _ | refine Below.drew ?_ | refine below_drewN ?_ _ | refine Below.alloc ?_ (by simp <;> omega) _ | refine Below.setCell ?_ (by simp) _)) (f := ⟨t, n, fl, 0, true⟩) ho2 hg2); (obtain ⟨a2, c2, rfl, e1, e2, _⟩ := own_shp ho2); (have D3 := Lib.hid d3); (have D4 := Lib.hid d4); clear d3 d4 ho2 hg2)
  all_goals go_wp2
  all_goals go_ret2
  all_goals exact ⟨rfl, _, D3.out, Chg.set (S := FdS b (.slice va fs.length vc) (.slice ca 0 cc)) D4.out (p := ⟨b, 0, none⟩) (fun _ => .inl rfl) _⟩
end Go.Proofs.Ytfcddpbpfckjfaa
