/- Contracts of package codec: the writer's IDs, vectors, texts. -/
import Derived.Test.YthbalmoafpggdaaChecked
import Derived.WalkKit
import Derived.Outline
import Derived.WalkSpells
import Derived.WalkLawsBesides
import Derived.Deep.QuietTactic
import Derived.Deep.RegionWith
import Derived.Deep.DeepMust
import Derived.BigQuiet
import Derived.Test.YthbalmoafpggdaaMem
import Derived.RegionTactic
import Derived.ChangeAlike
import Derived.StillTailTactics
import Derived.Deep.LoopGhost
import Derived.Lib.ConvBytes
import Derived.Test.YthbalmoafpggdaaCd2
namespace Go.Proofs.Ythbalmoafpggdaa
open Go.RowKit
set_option linter.unusedVariables false
set_option linter.unusedSimpArgs false
theorem WStep.pre {p : Nat} {v : Value} {w w0 w' : World} {l' : List Int} {bad' : Bool} (g : Below w.heap.size w w0) (h : WStep p v w0 l' bad' w') : WStep p v w l' bad' w' := by
  obtain ⟨v', h1, h2, h3⟩ := h
  refine ⟨v', h1, ?_, (Chg.of_below (S := WS p v) g (fun i h1 h2 => by omega)).trans' h3 (fun i hi hs => hs)⟩
  rcases h2 with h2 | h2
  · exact .inl h2
  · exact .inr fun k hk => Nat.le_trans g.size (h2 k hk)
theorem WStep.trans {p : Nat} {v v1 : Value} {w w1 w2 : World} {l l' : List Int} {bad bad' : Bool} (h1 : Wr w1 p v1 l bad) (hn : Nxt w v v1) (hc : Chg (WS p v) w w1) (h : WStep p v1 w1 l' bad' w2) : WStep p v w l' bad' w2 := by
  obtain ⟨v', k1, k2, k3⟩ := h
  exact ⟨v', k1, hn.trans k2 hc.size, WS.trans hc hn k3⟩
set_option maxHeartbeats 2000000 in
set_option maxRecDepth 100000 in
theorem wID (p : Nat) (v : Value) (l : List Int) (bad : Bool) (t n : Int) (w : World) (h : Wr w p v l bad) (hl : l.length ≤ 800000000000) : Calls Try.prog 76 #[.pointer (some ⟨p, 0, none⟩), .agg #[.int .i64 t, .int .i64 n]] w (WPost p v (wadd l bad (idW t n)) (wbad bad (idW t n)) w) := by
  have h0 := h.below ((Below.refl w.heap.size w).alloc (Nat.le_refl _) (.cells #[.int .i64 t, .int .i64 n] 45))
  have BX := Blk.new w #[.int .i64 t, .int .i64 n] 45
  have H0 := Lib.hid h0
  have HBX := Lib.hid BX
  have hlt := h.lt
  have hvb : ∀ k, v.ownBlock = some k → k < w.heap.size := fun k hk => (h.own.lt k hk).2
  have HVB := Lib.hid hvb
  clear h h0 BX hvb
  cases hok : idOk t n
  all_goals
    have HOK := Lib.hid hok
    have hw : idW t n = if idOk t n = true then some (numL t.toNat ++ numL n.toNat) else none := rfl
    rw [hok] at hw
    have HW := Lib.hid hw
    clear hok hw
  · cases bad
    all_goals
      go_enter Try.func76, Try.ntmps76
      go_wp2_with fail
      refine (wStamp t n _).mono ?_
      rintro e w1 ⟨rfl, hb1⟩
      rw [HOK.out]
      have KM := Lib.hid (wMay p v l _ false w1 (H0.out.below hb1))
      have B1 := Lib.hid (((Below.refl w.heap.size w).alloc (Nat.le_refl _) (.cells #[.int .i64 t, .int .i64 n] 45)).trans (hb1.mono (by simp)))
      clear hb1
      go_wp2_with fail
      refine KM.out.mono ?_
      rintro e w2 ⟨rfl, hw2, g2⟩
      have H2 := Lib.hid (may_step hw2 g2)
      clear hw2 g2
      go_wp2
      (first | go_end0 | refine bodyPost_ret (results_none rfl _ _ _) rfl ?_)
      exact ⟨rfl, by rw [HW.out]; simpa [wadd, wbad] using H2.out.pre B1.out⟩
  · have hid : Hid (0 ≤ t ∧ t ≤ 1152921504606846976 ∧ 0 ≤ n ∧ n < 64) := Lib.hid (by have := HOK.out; simp [idOk] at this; omega)
    cases bad
    · go_enter Try.func76, Try.ntmps76
      go_wp2_with fail
      refine (wStamp t n _).mono ?_
      rintro e w1 ⟨rfl, hb1⟩
      rw [HOK.out]
      have KM := Lib.hid (wMay p v l false true w1 (H0.out.below hb1))
      have B1 := Lib.hid (((Below.refl w.heap.size w).alloc (Nat.le_refl _) (.cells #[.int .i64 t, .int .i64 n] 45)).trans (hb1.mono (by simp)))
      have X1 := Lib.hid (blkBelow hb1 HBX.out HBX.out.lt)
      have hs1 := hb1.size
      clear hb1
      go_wp2_with fail
      refine KM.out.mono ?_
      rintro e w2 ⟨rfl, hw2, g2⟩
      have X2 := g2.blk X1.out (by omega)
      have x20 := X2.cell (o := 0) rfl
      have x21 := X2.cell (o := 1) rfl
      have W2 : Hid (Wr w2 p v l false) := Lib.hid (by simpa using hw2)
      have G2 : Hid (Chg (WS p v) w1 w2) := Lib.hid (g2.mono fun _ _ e => .inl e)
      have hs2 := g2.size
      simp at hs1
      have hpl : p < w2.heap.size := W2.out.lt
      clear hw2 g2 X2
      go_wp2_with fail
      have R3 : Rdv i64c (w2.alloc (.cells #[.int .i64 t, .int .i64 n] 2)) (.slice (some ⟨w2.heap.size, 0, none⟩) 2 2) [t, n] := Rdv.of_blk (xs := [t, n]) (Blk.new w2 #[.int .i64 t, .int .i64 n] 2) (by unfold maxLen; simp)
      have a3 : Below w2.heap.size w2 (w2.alloc (.cells #[.int .i64 t, .int .i64 n] 2)) := (Below.refl _ _).alloc (Nat.le_refl _) _
      have hbl : ∀ b o n c, Value.slice (some ⟨w2.heap.size, 0, none⟩) 2 2 = Value.slice (some ⟨b, o, none⟩) n c → b = w2.heap.size := fun b o n c e => by
        rw [Value.slice.injEq] at e; obtain ⟨e, _⟩ := e; injection e with e; injection e with e _; exact e.symm
      have KN := wNums p v l _ [t, n] _ (W2.out.below a3) R3 (fun b o n c e _ => by
        have := hbl b o n c e; subst this
        exact ⟨by omega, fun e2 => by have := HVB.out _ e2; omega⟩) (fun b o n c e _ => by have := hbl b o n c e; subst this; simp) (by omega) (by simp) (fun q hq => by have := hid.out; simp at hq; rcases hq with rfl | rfl <;> omega)
      have A3 := Lib.hid a3
      clear R3 a3 hbl x20 x21
      refine KN.mono ?_
      rintro e w4 ⟨rfl, h4⟩
      have H4 := Lib.hid h4
      clear h4 KN
      go_wp2
      (first | go_end0 | refine bodyPost_ret (results_none rfl _ _ _) rfl ?_)
      refine ⟨rfl, ?_⟩
      rw [HW.out]
      have := (WStep.trans W2.out (Nxt.refl _ _) G2.out (H4.out.pre A3.out)).pre B1.out
      simpa [wadd, wbad, numsL] using this
    · go_enter Try.func76, Try.ntmps76
      go_wp2_with fail
      refine (wStamp t n _).mono ?_
      rintro e w1 ⟨rfl, hb1⟩
      rw [HOK.out]
      have KM := Lib.hid (wMay p v l true true w1 (H0.out.below hb1))
      have B1 := Lib.hid (((Below.refl w.heap.size w).alloc (Nat.le_refl _) (.cells #[.int .i64 t, .int .i64 n] 45)).trans (hb1.mono (by simp)))
      clear hb1
      go_wp2_with fail
      refine KM.out.mono ?_
      rintro e w2 ⟨rfl, hw2, g2⟩
      have H2 := Lib.hid (may_step hw2 g2)
      clear hw2 g2
      go_wp2
      (first | go_end0 | refine bodyPost_ret (results_none rfl _ _ _) rfl ?_)
      exact ⟨rfl, by rw [HW.out]; simpa [wadd, wbad] using H2.out.pre B1.out⟩
end Go.Proofs.Ythbalmoafpggdaa
