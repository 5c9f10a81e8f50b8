/- The law VectorPairs: its walk. -/
import Derived.Test.YtgpfkdlnmifiiaaChecked
import Derived.WalkKit
import Derived.Outline
import Derived.WalkSpells
import Derived.WalkLawsBesides
import Derived.Deep.QuietTactic
import Derived.Deep.RegionWith
import Derived.Deep.DeepMust
import Derived.BigQuiet
import Derived.Test.YtgpfkdlnmifiiaaMem
import Derived.RegionTactic
import Derived.ChangeAlike
import Derived.StillTailTactics
import Derived.Deep.LoopGhost
import Derived.Test.YtgpfkdlnmifiiaaVecL
namespace Go.Proofs.Ytgpfkdlnmifiiaa
open Go.RowKit
set_option linter.unusedVariables false
set_option linter.unusedSimpArgs false
theorem nrm_nrm (g : Nat → Int) (hg : ∀ k, k < 64 → 0 ≤ g k ∧ g k ≤ 1152921504606846976) : nrm g = nrm fun k => atZ (nrm g) k := (nrm_congr fun k hk => atZ_nrm g hg k hk).symm
theorem withg (xs : List Int) (node n : Int) (k : Nat) (_ : k < 64) : 0 ≤ (if 0 ≤ n ∧ n ≤ 1152921504606846976 ∧ (k : Int) = node then n else atZ xs k) ∧ (if 0 ≤ n ∧ n ≤ 1152921504606846976 ∧ (k : Int) = node then n else atZ xs k) ≤ 1152921504606846976 := by
  have := atZ_bd xs k
  split <;> omega
theorem maxg (xs ys : List Int) (k : Nat) (_ : k < 64) : 0 ≤ max (atZ xs k) (atZ ys k) ∧ max (atZ xs k) (atZ ys k) ≤ 1152921504606846976 := by
  have := atZ_bd xs k; have := atZ_bd ys k
  omega
theorem ming (xs ys : List Int) (k : Nat) (_ : k < 64) : 0 ≤ min (atZ xs k) (atZ ys k) ∧ min (atZ xs k) (atZ ys k) ≤ 1152921504606846976 := by
  have := atZ_bd xs k; have := atZ_bd ys k
  omega
theorem maxg2 (xs ys : List Int) : J2 xs ys = nrm fun k => max (atZ xs k) (atZ ys k) := nrm_congr fun k _ => max2_eq xs ys k
set_option maxHeartbeats 8000000 in
set_option maxRecDepth 100000 in
theorem vectorPairs_walk (u v : Value) (node n : Int) (xs0 ys0 : List Int) (w : World) (hu : Rdv i64v w u xs0) (hv : Rdv i64v w v ys0) : Calls Try.prog 6 #[u, v, .int .i64 node, .int .i64 n] w (BegunPost w) := by
  have KC := Lib.hid lawCut
  go_enter Try.func6, Try.ntmps6
  go_wp2_with fail
  refine (vecBegun _).mono ?_
  rintro e w1 ⟨rfl, hb1⟩
  have hu1 := hu.below hb1
  have hv1 := hv.below hb1
  clear hu hv
  go_wp2_with fail
  refine (KC.out _ _ _ hu1).mono ?_
  rintro e w1 ⟨⟨a, rfl, ha⟩, rfl⟩
  go_wp2_with fail
  refine (KC.out _ _ _ hv1).mono ?_
  rintro e w1 ⟨⟨b, rfl, hb⟩, rfl⟩
  clear hu1 hv1
  generalize xs0.take 80 = xs at *
  generalize ys0.take 80 = ys at *
  obtain ⟨aa, an, ac, rfl⟩ := ha.shape
  obtain ⟨ba, bn, bc, rfl⟩ := hb.shape
  have hS : St (.slice aa an ac) (.slice ba bn bc) (.slice aa an ac) xs ys xs w w1 := ⟨ha, hb, ha, hb1⟩
  clear ha hb hb1
  have KA := Lib.hid (fun k => refAt (.slice aa an ac) xs k w1 hS.a)
  go_wp2
  go_loop [10, 11] (fun s i => ∃ k : Nat, k ≤ 64 ∧ i = .int .i64 k ∧ s = .int .i64 (sumTo xs k)) (fun _ i => 64 - (intOf i).toNat)
  case atStart => exact ⟨0, by omega, rfl, rfl⟩
  case round =>
    obtain ⟨k, hk, rfl, rfl⟩ := hrel
    by_cases hlt : k < 64
    · obtain ⟨s1, s2⟩ := sumTo_bd xs k
      obtain ⟨a1, a2⟩ := atZ_bd xs k
      have hs : Hid (sumTo xs (k + 1) = min (sumTo xs k + atZ xs k) 4611686018427387904) := rfl
      by_cases hc : 4611686018427387904 - atZ xs k < sumTo xs k
      · go_wp2_with (go_at_call 28; refine (KA.out _).mono ?_; rintro e w' ⟨rfl, rfl⟩)
        go_round
        case rel => exact ⟨k + 1, by omega, by go_num, by rw [hs.out, Int.min_eq_right (by omega)]⟩
        case measure => simp [intOf]; omega
      · go_wp2_with (go_at_call 28; refine (KA.out _).mono ?_; rintro e w' ⟨rfl, rfl⟩)
        go_round
        case rel => exact ⟨k + 1, by omega, by go_num, by rw [hs.out, Int.min_eq_left (by omega)]⟩
        case measure => simp [intOf]; omega
    · obtain rfl : k = 64 := by omega
      clear hlt hk KA
      go_wp2_with fail
      refine (vecAhead _ _ _ _ _ hS.a hS.b).mono ?_
      rintro e w' ⟨m1, rfl, g1, hb'⟩
      replace hS := hS.step hb'
      obtain ⟨x1, y1, z1, rfl⟩ := g1.shape
      go_wp2_with fail
      refine (refAhead _ _ _ _ _ hS.a hS.b).mono ?_
      rintro e w' ⟨m2, rfl, g2, hb'⟩
      replace hS := hS.step hb'
      obtain ⟨x2, y2, z2, rfl⟩ := g2.shape
      replace g1 := g1.below hb'
      have hlen := aheadTo_len xs ys 64
      generalize aheadTo xs ys 64 = l at *
      obtain ⟨p1, q1, e1, _, _, c1⟩ := g1
      obtain ⟨p2, q2, e2, _, _, c2⟩ := g2
      rw [Value.slice.injEq] at e1 e2
      obtain ⟨rfl, rfl, rfl⟩ := e1
      obtain ⟨rfl, rfl, rfl⟩ := e2
      have C1 := Lib.hid c1
      have C2 := Lib.hid c2
      clear c1 c2
      have hl : ((l.length : Int) != (l.length : Int)) = false := by simp
      obtain ⟨w2, hw2⟩ : ∃ w2, w2 = w' := ⟨w', rfl⟩
      subst hw2
      go_wp2
      go_loopw [14] (fun i wr => ∃ k : Nat, k ≤ l.length ∧ i = .int .i64 k ∧ Drw w2 wr) (fun i _ => l.length - (intOf i).toNat)
      case atStart => exact ⟨0, by omega, rfl, 0, rfl⟩
      case round =>
        obtain ⟨k, hk, rfl, nd, rfl⟩ := hrel
        by_cases hlt : k < l.length
        · rcases C1.out with rfl | ⟨b1, o1, rfl, hc1⟩
          · exact absurd hlt (by simp)
          rcases C2.out with h0 | ⟨b2, o2, rfl, hc2⟩
          · rw [h0] at hlt; exact absurd hlt (by simp)
          have g1 := hc1 k hlt
          have g2 := hc2 k hlt
          generalize l.getD k 0 = x at *
          clear hc1 hc2 C1 C2
          go_wp2
          go_quiet (fail)
          go_wp2
          go_roundw
          case rel => exact ⟨k + 1, by omega, by go_num, by first | exact ⟨_, rfl⟩ | exact ⟨_, World.drewN_drewN _ _ _⟩⟩
          case measure => simp [intOf]; omega
        · obtain rfl : k = l.length := by omega
          clear C1 C2 hlt
          replace hS := hS.step (Drw.below ⟨nd, rfl⟩)
          go_wp2_with fail
          refine (vecNorm _ _ _ hS.a).mono ?_
          rintro e w' ⟨m3, rfl, g3, hb'⟩
          replace hS := hS.step hb'
          obtain ⟨x3, y3, z3, rfl⟩ := g3.shape
          go_wp2_with fail
          refine (refIs _ _ _ _ g3 hS.a).mono ?_
          rintro e w' ⟨rfl, hb'⟩
          replace hS := hS.step hb'
          go_wp2_with fail
          refine (vecAt _ _ _ _ hS.a).mono ?_
          rintro e w' ⟨rfl, rfl⟩
          go_wp2_with fail
          refine (refAt _ _ _ _ hS.a).mono ?_
          rintro e w' ⟨rfl, rfl⟩
          go_wp2_with fail
          refine (vecWith _ _ _ _ _ hS.a).mono ?_
          rintro e w' ⟨m4, rfl, g4, hb'⟩
          replace hS := hS.step hb'
          obtain ⟨x4, y4, z4, rfl⟩ := g4.shape
          go_wp2_with fail
          refine (refWith _ _ _ _ _ hS.a).mono ?_
          rintro e w' ⟨m5, rfl, g5, hb'⟩
          replace hS := hS.step hb'
          obtain ⟨x5, y5, z5, rfl⟩ := g5.shape
          replace g4 := g4.below hb'
          rw [nrm_nrm _ (withg xs node n)] at g4
          go_wp2_with fail
          refine (refIs _ _ _ _ g4 g5).mono ?_
          rintro e w' ⟨rfl, hb'⟩
          replace hS := hS.step hb'
          clear g3 g4 g5
          go_wp2_with fail
          refine (max2S hS.a hS.b).mono ?_
          rintro e w' ⟨m6, rfl, g6, hb'⟩
          replace hS := hS.step hb'
          obtain ⟨x6, y6, z6, rfl⟩ := g6.shape
          go_wp2_with fail
          refine (refMax _ _ _ _ _ hS.a hS.b).mono ?_
          rintro e w' ⟨m7, rfl, g7, hb'⟩
          replace hS := hS.step hb'
          obtain ⟨x7, y7, z7, rfl⟩ := g7.shape
          replace g6 := g6.below hb'
          rw [maxg2, nrm_nrm _ (maxg xs ys)] at g6
          go_wp2_with fail
          refine (refIs _ _ _ _ g6 g7).mono ?_
          rintro e w' ⟨rfl, hb'⟩
          replace hS := hS.step hb'
          clear g6 g7
          go_wp2_with fail
          refine (vecMin _ _ _ _ _ hS.a hS.b).mono ?_
          rintro e w' ⟨m8, rfl, g8, hb'⟩
          replace hS := hS.step hb'
          obtain ⟨x8, y8, z8, rfl⟩ := g8.shape
          go_wp2_with fail
          refine (refMin _ _ _ _ _ hS.a hS.b).mono ?_
          rintro e w' ⟨m9, rfl, g9, hb'⟩
          replace hS := hS.step hb'
          obtain ⟨x9, y9, z9, rfl⟩ := g9.shape
          replace g8 := g8.below hb'
          rw [nrm_nrm _ (ming xs ys)] at g8
          go_wp2_with fail
          refine (refIs _ _ _ _ g8 g9).mono ?_
          rintro e w' ⟨rfl, hb'⟩
          replace hS := hS.step hb'
          clear g8 g9
          go_wp2_with fail
          refine (vecLeq _ _ _ _ _ hS.a hS.b).mono ?_
          rintro e w' ⟨rfl, hb'⟩
          replace hS := hS.step hb'
          go_wp2_with fail
          refine (refLeq _ _ _ _ _ hS.a hS.b).mono ?_
          rintro e w' ⟨rfl, rfl⟩
          go_wp2_with fail
          refine (vecEq _ _ _ _ _ hS.a hS.b).mono ?_
          rintro e w' ⟨rfl, hb'⟩
          replace hS := hS.step hb'
          go_wp2_with fail
          refine (refEq _ _ _ _ _ hS.a hS.b).mono ?_
          rintro e w' ⟨rfl, rfl⟩
          go_wp2_with fail
          refine (vecApart _ _ _ _ _ hS.a hS.b).mono ?_
          rintro e w' ⟨rfl, hb'⟩
          replace hS := hS.step hb'
          go_wp2_with fail
          refine (refLeq _ _ _ _ _ hS.a hS.b).mono ?_
          rintro e w' ⟨rfl, rfl⟩
          cases hxy : leqB xs ys
          · go_wp2_with fail
            refine (refLeq _ _ _ _ _ hS.b hS.a).mono ?_
            rintro e w' ⟨rfl, rfl⟩
            cases hyx : leqB ys xs
            all_goals
              go_wp2_with fail
              refine (vecSum _ _ _ hS.a).mono ?_
              rintro e w' ⟨rfl, rfl⟩
              go_wp2
              go_ret
              exact ⟨rfl, hS.bel⟩
          · go_wp2_with fail
            refine (vecSum _ _ _ hS.a).mono ?_
            rintro e w' ⟨rfl, rfl⟩
            go_wp2
            go_ret
            exact ⟨rfl, hS.bel⟩
end Go.Proofs.Ytgpfkdlnmifiiaa
