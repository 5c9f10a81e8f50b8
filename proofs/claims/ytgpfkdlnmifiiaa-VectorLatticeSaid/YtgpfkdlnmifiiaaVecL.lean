/- The laws of layer 4: their walks. -/
import Derived.Test.YtgpfkdlnmifiiaaChecked
import Derived.WalkKit
import Derived.Outline
import Derived.WalkSpells
import Derived.WalkLawsBesides
import Derived.Deep.QuietTactic
import Derived.Deep.RegionWith
import Derived.Deep.DeepMust
import Derived.BigQuiet
import Derived.Test.YtgpfkdlnmifiiaaMem
import Derived.RegionTactic
import Derived.ChangeAlike
import Derived.StillTailTactics
import Derived.Deep.LoopGhost
import Derived.Test.YtgpfkdlnmifiiaaVecR
namespace Go.Proofs.Ytgpfkdlnmifiiaa
open Go.RowKit
set_option linter.unusedVariables false
set_option linter.unusedSimpArgs false
theorem lawCut (v : Value) (xs : List Int) (w : World) (h : Rdv i64v w v xs) : Calls Try.prog 23 #[v] w fun e w' => (∃ v', e = .returned v' ∧ Rdv i64v w v' (xs.take 80)) ∧ w = w' := by
  obtain ⟨a, n, c, rfl⟩ := h.shape
  have hT := h.take
  have h0 := h
  obtain ⟨a', c', e, h1, h2, h3⟩ := h
  rw [Value.slice.injEq] at e
  obtain ⟨rfl, rfl, rfl⟩ := e
  unfold maxLen at h2
  clear h3
  have HT := Lib.hid hT
  have H0 := Lib.hid h0
  clear hT h0
  by_cases hc : 80 < xs.length
  · go_enter Try.func23, Try.ntmps23
    go_wp2
    have hT := HT.out 80 c (by omega) (by omega) (by omega)
    go_ret
    exact ⟨⟨_, rfl, hT⟩, rfl⟩
  · have e : Hid (xs.take 80 = xs) := List.take_of_length_le (by omega)
    go_enter Try.func23, Try.ntmps23
    go_wp2
    go_ret
    exact ⟨⟨_, rfl, by rw [e.out]; exact H0.out⟩, rfl⟩
theorem bg1 : (nrm fun k => if 0 ≤ (5 : Int) ∧ (5 : Int) ≤ 1152921504606846976 ∧ (k : Int) = 2 then 5 else atZ [] k) = [0, 0, 5] := by decide +kernel
theorem bg2 : (nrm fun k => maxZ [[0, 0, 5], [1]] k) = [1, 0, 5] := by decide +kernel
theorem bg3 : leqB [0, 0, 5] [1, 0, 5] = true := by decide +kernel
theorem bg4 : leqB [1, 0, 5] [0, 0, 5] = false := by decide +kernel
theorem bg5 : atZ [1, 0, 5] 2 = 5 := by decide +kernel
theorem bg6 : sumTo [1, 0, 5] 64 = 6 := by decide +kernel
def BegunPost (w : World) (e : Ending) (w' : World) : Prop := e = .returned (.bool true) ∧ Below w.heap.size w w'
set_option maxHeartbeats 1000000 in
theorem vecBegun (w : World) : Calls Try.prog 22 #[] w (BegunPost w) := by
  have K1 := vecWith (.slice none 0 0) [] 2 5 w (Rdv.nil _ _)
  rw [bg1] at K1
  have H1 := Lib.hid K1; clear K1
  go_enter Try.func22, Try.ntmps22
  go_wp2_with fail
  refine H1.out.mono ?_
  rintro e w1 ⟨v, rfl, hv, hb1⟩
  have hv0 := hv
  obtain ⟨va, vc, rfl, v1, v2, v3⟩ := hv
  rcases v3 with h | ⟨b1, o1, rfl, v3⟩
  · cases h
  go_wp2_with fail
  have hx : Blk (w1.alloc (.cells #[.int .i64 1] 2)) w1.heap.size ([(1 : Int)].map i64v).toArray 2 := Blk.new _ _ _
  have hy := (Rdv.of_blk (hx.alloc (.cells #[.slice (some ⟨b1, o1, none⟩) 3 vc, .slice (some ⟨w1.heap.size, 0, none⟩) 1 1] 32)) (by unfold maxLen; simp))
  have hz := Blk.new (w1.alloc (.cells #[.int .i64 1] 2)) #[.slice (some ⟨b1, o1, none⟩) 3 vc, .slice (some ⟨w1.heap.size, 0, none⟩) 1 1] 32
  have hs := rdvs2 hz ((hv0.alloc _).alloc _) hy
  have K2 := vecMax _ _ _ hs
  rw [bg2] at K2
  simp only [World.size_alloc] at K2
  refine K2.mono ?_
  clear hx hy hz hs K2
  rintro e w2 ⟨m, rfl, hm, hb2⟩
  have hv2 := ((hv0.alloc _).alloc _).below hb2
  have hc2 := below_cell hb2 _ _ (below_cell ((Below.refl _ _).alloc (Nat.le_refl _) _) _ _ (below_cell ((Below.refl _ w1).alloc (Nat.le_refl _) (.cells #[.int .i64 1] 2)) _ _ (v3 2 (by simp))))
  have hm0 := hm
  obtain ⟨ma, mc, rfl, m1, m2, m3⟩ := hm
  rcases m3 with h | ⟨b2, o2, rfl, m3⟩
  · cases h
  have hc3 := m3 0 (by simp)
  simp at hc2 hc3
  clear m3 v3
  go_wp2_with fail
  refine (vecLeq _ _ _ _ _ hv2 hm0).mono ?_
  rintro e w3 ⟨rfl, hb3⟩
  rw [bg3]
  have hv3 := hv2.below hb3
  have hm3 := hm0.below hb3
  go_wp2_with fail
  refine (vecLeq _ _ _ _ _ hm3 hv3).mono ?_
  rintro e w4 ⟨rfl, hb4⟩
  rw [bg4]
  have hm4 := hm3.below hb4
  go_wp2_with fail
  refine (vecAt _ _ _ _ hm4).mono ?_
  rintro e w5 ⟨rfl, rfl⟩
  rw [bg5]
  go_wp2_with fail
  refine (vecSum _ _ _ hm4).mono ?_
  rintro e w5 ⟨rfl, rfl⟩
  rw [bg6]
  have z1 := hb1.size
  have z2 := hb2.size
  have z3 := hb3.size
  have z4 := hb4.size
  simp at z2
  clear hv2 hm0 hv3 hm3 hm4 hc2 hc3
  go_wp2
  go_ret
  exact ⟨rfl, by (repeat (first | exact Below.refl _ _ | (with_reducible assumption) | apply Below.drew | (refine Below.alloc ?_ (by first | exact Nat.le_refl _ | omega | (simp; done) | (simp; omega)) _) | (refine Below.setCell ?_ (by first | exact Nat.le_refl _ | omega | (simp; done) | (simp; omega)) _) | (refine Below.trans ?_ (Below.mono (by with_reducible assumption) (by first | omega | (simp; done) | (simp; omega))))))⟩

theorem nzc_zero (g : Nat → Int) : ∀ n k, nzc g n ≤ k → k < n → g k = 0
  | 0, _, _, h => by omega
  | n + 1, k, h, hk => by
    have e : nzc g (n + 1) = if g n = 0 then nzc g n else n + 1 := rfl
    rw [e] at h
    by_cases h0 : g n = 0
    · rw [if_pos h0] at h
      by_cases hkn : k = n
      · rw [hkn]; exact h0
      · exact nzc_zero g n k h (by omega)
    · rw [if_neg h0] at h
      omega
theorem atZ_nrm (g : Nat → Int) (hg : ∀ k, k < 64 → 0 ≤ g k ∧ g k ≤ 1152921504606846976) (k : Nat) (hk : k < 64) : atZ (nrm g) k = g k := by
  have hl : (nrm g).length = nzc g 64 := by have := nzc_le g 64; simp [nrm, row_len]; omega
  obtain ⟨g1, g2⟩ := hg k hk
  unfold atZ
  by_cases h : k < nzc g 64
  · have e : (nrm g).getD k 0 = g k := by
      rw [nrm, List.getD_eq_getElem?_getD, List.getElem?_take_of_lt h, ← List.getD_eq_getElem?_getD, row_getD g 64 k hk]
    rw [if_neg (by omega), Int.toNat_natCast, e, if_neg (by omega)]
  · rw [if_pos (by omega), nzc_zero g 64 k (by omega) hk]
theorem max2_eq (xs ys : List Int) (k : Int) : maxZ [xs, ys] k = max (atZ xs k) (atZ ys k) := by
  have := atZ_bd xs k; have := atZ_bd ys k
  simp [maxZ]; omega
theorem max3_eq (xs ys zs : List Int) (k : Int) : maxZ [xs, ys, zs] k = max (max (atZ xs k) (atZ ys k)) (atZ zs k) := by
  have := atZ_bd xs k; have := atZ_bd ys k; have := atZ_bd zs k
  simp [maxZ]; omega
def J2 (xs ys : List Int) : List Int := nrm fun k => maxZ [xs, ys] k
def J3 (xs ys zs : List Int) : List Int := nrm fun k => maxZ [xs, ys, zs] k
def M2 (xs ys : List Int) : List Int := nrm fun k => min (atZ xs k) (atZ ys k)
theorem atJ2 (xs ys : List Int) (k : Nat) (hk : k < 64) : atZ (J2 xs ys) k = max (atZ xs k) (atZ ys k) := by
  unfold J2
  rw [atZ_nrm _ (fun i _ => ?_) k hk, max2_eq]
  have := atZ_bd xs i; have := atZ_bd ys i
  rw [max2_eq]; omega
theorem atJ3 (xs ys zs : List Int) (k : Nat) (hk : k < 64) : atZ (J3 xs ys zs) k = max (max (atZ xs k) (atZ ys k)) (atZ zs k) := by
  unfold J3
  rw [atZ_nrm _ (fun i _ => ?_) k hk, max3_eq]
  have := atZ_bd xs i; have := atZ_bd ys i; have := atZ_bd zs i
  rw [max3_eq]; omega
theorem atM2 (xs ys : List Int) (k : Nat) (hk : k < 64) : atZ (M2 xs ys) k = min (atZ xs k) (atZ ys k) := by
  unfold M2
  rw [atZ_nrm _ (fun i _ => ?_) k hk]
  have := atZ_bd xs i; have := atZ_bd ys i
  omega
theorem lat1 (xs ys : List Int) : leqB (J2 xs ys) (J2 ys xs) = true := (leqB_iff _ _).2 fun k hk => by rw [atJ2 _ _ k hk, atJ2 _ _ k hk]; omega
theorem lat2 (xs ys zs : List Int) : leqB (J2 (J2 xs ys) zs) (J3 xs ys zs) = true := (leqB_iff _ _).2 fun k hk => by rw [atJ2 _ _ k hk, atJ2 _ _ k hk, atJ3 _ _ _ k hk]; omega
theorem lat3 (xs ys zs : List Int) : leqB (J3 xs ys zs) (J2 (J2 xs ys) zs) = true := (leqB_iff _ _).2 fun k hk => by rw [atJ2 _ _ k hk, atJ2 _ _ k hk, atJ3 _ _ _ k hk]; omega
theorem lat4 (xs : List Int) : leqB (J2 xs xs) xs = true := (leqB_iff _ _).2 fun k hk => by rw [atJ2 _ _ k hk]; omega
theorem lat5 (xs ys : List Int) : leqB xs (J2 xs ys) = true := (leqB_iff _ _).2 fun k hk => by rw [atJ2 _ _ k hk]; omega
theorem lat6 (xs ys : List Int) : leqB (M2 xs ys) xs = true := (leqB_iff _ _).2 fun k hk => by rw [atM2 _ _ k hk]; omega
theorem lat7 (xs ys zs : List Int) (h1 : leqB xs zs = true) (h2 : leqB ys zs = true) : leqB (J2 xs ys) zs = true := (leqB_iff _ _).2 fun k hk => by
  have := (leqB_iff _ _).1 h1 k hk; have := (leqB_iff _ _).1 h2 k hk
  rw [atJ2 _ _ k hk]; omega
theorem lat8 (xs ys zs : List Int) (h1 : leqB zs xs = true) (h2 : leqB zs ys = true) : leqB zs (M2 xs ys) = true := (leqB_iff _ _).2 fun k hk => by
  have := (leqB_iff _ _).1 h1 k hk; have := (leqB_iff _ _).1 h2 k hk
  rw [atM2 _ _ k hk]; omega
theorem lat9 : nrm (fun k => maxZ [] k) = [] := by decide +kernel

/-- Max of a literal of two, of three; of nothing. -/
theorem max2S {w1 : World} {A B : Value} {xs ys : List Int} (ha : Rdv i64v w1 A xs) (hb : Rdv i64v w1 B ys) :
    Calls Try.prog 25 #[.slice (some ⟨w1.heap.size, 0, none⟩) 2 2] (w1.alloc (.cells #[A, B] 32)) fun e w2 => ∃ m, e = .returned m ∧ Rdv i64v w2 m (J2 xs ys) ∧ Below w1.heap.size w1 w2 :=
  (vecMax _ _ _ (rdvs2 (Blk.new w1 #[A, B] 32) (ha.alloc _) (hb.alloc _))).mono fun e w2 ⟨m, he, hm, hb2⟩ => ⟨m, he, hm, ((Below.refl _ _).alloc (Nat.le_refl _) _).trans (hb2.mono (by simp))⟩
theorem max3S {w1 : World} {A B C : Value} {xs ys zs : List Int} (ha : Rdv i64v w1 A xs) (hb : Rdv i64v w1 B ys) (hc : Rdv i64v w1 C zs) :
    Calls Try.prog 25 #[.slice (some ⟨w1.heap.size, 0, none⟩) 3 3] (w1.alloc (.cells #[A, B, C] 32)) fun e w2 => ∃ m, e = .returned m ∧ Rdv i64v w2 m (J3 xs ys zs) ∧ Below w1.heap.size w1 w2 :=
  (vecMax _ _ _ (rdvs3 (Blk.new w1 #[A, B, C] 32) (ha.alloc _) (hb.alloc _) (hc.alloc _))).mono fun e w2 ⟨m, he, hm, hb2⟩ => ⟨m, he, hm, ((Below.refl _ _).alloc (Nat.le_refl _) _).trans (hb2.mono (by simp))⟩
/-- The three arguments, as they stand. -/
structure St (A B C : Value) (xs ys zs : List Int) (w0 w : World) : Prop where
  a : Rdv i64v w A xs
  b : Rdv i64v w B ys
  c : Rdv i64v w C zs
  bel : Below w0.heap.size w0 w
theorem St.step {A B C : Value} {xs ys zs : List Int} {w0 w w' : World} (h : St A B C xs ys zs w0 w) (hb : Below w.heap.size w w') : St A B C xs ys zs w0 w' :=
  ⟨h.a.below hb, h.b.below hb, h.c.below hb, h.bel.trans (hb.mono h.bel.size)⟩
set_option maxHeartbeats 8000000 in
theorem vectorLattice_walk (u v z : Value) (xs0 ys0 zs0 : List Int) (w : World) (hu : Rdv i64v w u xs0) (hv : Rdv i64v w v ys0) (hz : Rdv i64v w z zs0) : Calls Try.prog 5 #[u, v, z] w (BegunPost w) := by
  have KC := Lib.hid lawCut
  go_enter Try.func5, Try.ntmps5
  go_wp2_with fail
  refine (vecBegun _).mono ?_
  rintro e w1 ⟨rfl, hb1⟩
  have hu1 := hu.below hb1
  have hv1 := hv.below hb1
  have hz1 := hz.below hb1
  clear hu hv hz
  go_wp2_with fail
  refine (KC.out _ _ _ hu1).mono ?_
  rintro e w1 ⟨⟨a, rfl, ha⟩, rfl⟩
  go_wp2_with fail
  refine (KC.out _ _ _ hv1).mono ?_
  rintro e w1 ⟨⟨b, rfl, hb⟩, rfl⟩
  go_wp2_with fail
  refine (KC.out _ _ _ hz1).mono ?_
  rintro e w1 ⟨⟨c, rfl, hc⟩, rfl⟩
  clear hu1 hv1 hz1
  generalize xs0.take 80 = xs at *
  generalize ys0.take 80 = ys at *
  generalize zs0.take 80 = zs at *
  obtain ⟨aa, an, ac, rfl⟩ := ha.shape
  obtain ⟨ba, bn, bc, rfl⟩ := hb.shape
  obtain ⟨ca, cn, cc, rfl⟩ := hc.shape
  have hS : St (.slice aa an ac) (.slice ba bn bc) (.slice ca cn cc) xs ys zs w w1 := ⟨ha, hb, hc, hb1⟩
  clear ha hb hc hb1
  go_wp2_with fail
  refine (max2S hS.a hS.b).mono ?_
  rintro e w' ⟨m1, rfl, g1, hb'⟩
  replace hS := hS.step hb'
  obtain ⟨x1, y1, z1, rfl⟩ := g1.shape
  go_wp2_with fail
  refine (max2S hS.b hS.a).mono ?_
  rintro e w' ⟨m2, rfl, g2, hb'⟩
  replace hS := hS.step hb'
  obtain ⟨x2, y2, z2, rfl⟩ := g2.shape
  replace g1 := g1.below hb'
  go_wp2_with fail
  refine (vecEq _ _ _ _ _ g1 g2).mono ?_
  rintro e w' ⟨rfl, hb'⟩
  replace hS := hS.step hb'
  clear g1 g2
  rw [lat1, lat1]
  go_wp2_with fail
  refine (max2S hS.a hS.b).mono ?_
  rintro e w' ⟨m3, rfl, g3, hb'⟩
  replace hS := hS.step hb'
  obtain ⟨x3, y3, z3, rfl⟩ := g3.shape
  go_wp2_with fail
  refine (max2S g3 hS.c).mono ?_
  rintro e w' ⟨m4, rfl, g4, hb'⟩
  replace hS := hS.step hb'
  obtain ⟨x4, y4, z4, rfl⟩ := g4.shape
  go_wp2_with fail
  refine (max3S hS.a hS.b hS.c).mono ?_
  rintro e w' ⟨m5, rfl, g5, hb'⟩
  replace hS := hS.step hb'
  obtain ⟨x5, y5, z5, rfl⟩ := g5.shape
  replace g4 := g4.below hb'
  go_wp2_with fail
  refine (vecEq _ _ _ _ _ g4 g5).mono ?_
  rintro e w' ⟨rfl, hb'⟩
  replace hS := hS.step hb'
  clear g3 g4 g5
  rw [lat2, lat3]
  go_wp2_with fail
  refine (max2S hS.a hS.a).mono ?_
  rintro e w' ⟨m6, rfl, g6, hb'⟩
  replace hS := hS.step hb'
  obtain ⟨x6, y6, z6, rfl⟩ := g6.shape
  go_wp2_with fail
  refine (vecEq _ _ _ _ _ g6 hS.a).mono ?_
  rintro e w' ⟨rfl, hb'⟩
  replace hS := hS.step hb'
  rw [lat4, lat5]
  go_wp2_with fail
  refine (max2S hS.a hS.b).mono ?_
  rintro e w' ⟨m7, rfl, g7, hb'⟩
  replace hS := hS.step hb'
  obtain ⟨x7, y7, z7, rfl⟩ := g7.shape
  go_wp2_with fail
  refine (vecLeq _ _ _ _ _ hS.a g7).mono ?_
  rintro e w' ⟨rfl, hb'⟩
  replace hS := hS.step hb'
  rw [lat5]
  go_wp2_with fail
  refine (vecMin _ _ _ _ _ hS.a hS.b).mono ?_
  rintro e w' ⟨m8, rfl, g8, hb'⟩
  replace hS := hS.step hb'
  obtain ⟨x8, y8, z8, rfl⟩ := g8.shape
  go_wp2_with fail
  refine (vecLeq _ _ _ _ _ g8 hS.a).mono ?_
  rintro e w' ⟨rfl, hb'⟩
  replace hS := hS.step hb'
  rw [show leqB (nrm fun k => min (atZ xs k) (atZ ys k)) xs = true from lat6 xs ys]
  clear g6 g7 g8
  go_wp2_with fail
  refine (vecLeq _ _ _ _ _ hS.a hS.c).mono ?_
  rintro e w' ⟨rfl, hb'⟩
  replace hS := hS.step hb'
  cases l1 : leqB xs zs
  · go_wp2_with fail
    refine (vecLeq _ _ _ _ _ hS.c hS.a).mono ?_
    rintro e w' ⟨rfl, hb'⟩
    replace hS := hS.step hb'
    cases l3 : leqB zs xs
    · go_wp2_with fail
      refine (vecMax _ _ _ (rdvs0 _)).mono ?_
      rintro e w' ⟨m0, rfl, g0, hb'⟩
      rw [lat9] at g0
      obtain ⟨q0, q1, rfl, _⟩ := g0
      replace hS := hS.step hb'
      go_wp2
      go_ret
      exact ⟨rfl, hS.bel⟩
    · go_wp2_with fail
      refine (vecLeq _ _ _ _ _ hS.c hS.b).mono ?_
      rintro e w' ⟨rfl, hb'⟩
      replace hS := hS.step hb'
      cases l4 : leqB zs ys
      · go_wp2_with fail
        refine (vecMax _ _ _ (rdvs0 _)).mono ?_
        rintro e w' ⟨m0, rfl, g0, hb'⟩
        rw [lat9] at g0
        obtain ⟨q0, q1, rfl, _⟩ := g0
        replace hS := hS.step hb'
        go_wp2
        go_ret
        exact ⟨rfl, hS.bel⟩
      · go_wp2_with fail
        refine (vecMin _ _ _ _ _ hS.a hS.b).mono ?_
        rintro e w' ⟨m9, rfl, g9, hb'⟩
        replace hS := hS.step hb'
        obtain ⟨x9, y9, z9, rfl⟩ := g9.shape
        go_wp2_with fail
        refine (vecLeq _ _ _ _ _ hS.c g9).mono ?_
        rintro e w' ⟨rfl, hb'⟩
        replace hS := hS.step hb'
        rw [show leqB zs (nrm fun k => min (atZ xs k) (atZ ys k)) = true from lat8 xs ys zs l3 l4]
        go_wp2_with fail
        refine (vecMax _ _ _ (rdvs0 _)).mono ?_
        rintro e w' ⟨m0, rfl, g0, hb'⟩
        rw [lat9] at g0
        obtain ⟨q0, q1, rfl, _⟩ := g0
        replace hS := hS.step hb'
        go_wp2
        go_ret
        exact ⟨rfl, hS.bel⟩
  · go_wp2_with fail
    refine (vecLeq _ _ _ _ _ hS.b hS.c).mono ?_
    rintro e w' ⟨rfl, hb'⟩
    replace hS := hS.step hb'
    cases l2 : leqB ys zs
    · go_wp2_with fail
      refine (vecLeq _ _ _ _ _ hS.c hS.a).mono ?_
      rintro e w' ⟨rfl, hb'⟩
      replace hS := hS.step hb'
      cases l3 : leqB zs xs
      · go_wp2_with fail
        refine (vecMax _ _ _ (rdvs0 _)).mono ?_
        rintro e w' ⟨m0, rfl, g0, hb'⟩
        rw [lat9] at g0
        obtain ⟨q0, q1, rfl, _⟩ := g0
        replace hS := hS.step hb'
        go_wp2
        go_ret
        exact ⟨rfl, hS.bel⟩
      · go_wp2_with fail
        refine (vecLeq _ _ _ _ _ hS.c hS.b).mono ?_
        rintro e w' ⟨rfl, hb'⟩
        replace hS := hS.step hb'
        cases l4 : leqB zs ys
        · go_wp2_with fail
          refine (vecMax _ _ _ (rdvs0 _)).mono ?_
          rintro e w' ⟨m0, rfl, g0, hb'⟩
          rw [lat9] at g0
          obtain ⟨q0, q1, rfl, _⟩ := g0
          replace hS := hS.step hb'
          go_wp2
          go_ret
          exact ⟨rfl, hS.bel⟩
        · go_wp2_with fail
          refine (vecMin _ _ _ _ _ hS.a hS.b).mono ?_
          rintro e w' ⟨m9, rfl, g9, hb'⟩
          replace hS := hS.step hb'
          obtain ⟨x9, y9, z9, rfl⟩ := g9.shape
          go_wp2_with fail
          refine (vecLeq _ _ _ _ _ hS.c g9).mono ?_
          rintro e w' ⟨rfl, hb'⟩
          replace hS := hS.step hb'
          rw [show leqB zs (nrm fun k => min (atZ xs k) (atZ ys k)) = true from lat8 xs ys zs l3 l4]
          go_wp2_with fail
          refine (vecMax _ _ _ (rdvs0 _)).mono ?_
          rintro e w' ⟨m0, rfl, g0, hb'⟩
          rw [lat9] at g0
          obtain ⟨q0, q1, rfl, _⟩ := g0
          replace hS := hS.step hb'
          go_wp2
          go_ret
          exact ⟨rfl, hS.bel⟩
    · go_wp2_with fail
      refine (max2S hS.a hS.b).mono ?_
      rintro e w' ⟨m7, rfl, g7, hb'⟩
      replace hS := hS.step hb'
      obtain ⟨x7, y7, z7, rfl⟩ := g7.shape
      go_wp2_with fail
      refine (vecLeq _ _ _ _ _ g7 hS.c).mono ?_
      rintro e w' ⟨rfl, hb'⟩
      replace hS := hS.step hb'
      rw [lat7 xs ys zs l1 l2]
      go_wp2_with fail
      refine (vecLeq _ _ _ _ _ hS.c hS.a).mono ?_
      rintro e w' ⟨rfl, hb'⟩
      replace hS := hS.step hb'
      cases l3 : leqB zs xs
      · go_wp2_with fail
        refine (vecMax _ _ _ (rdvs0 _)).mono ?_
        rintro e w' ⟨m0, rfl, g0, hb'⟩
        rw [lat9] at g0
        obtain ⟨q0, q1, rfl, _⟩ := g0
        replace hS := hS.step hb'
        go_wp2
        go_ret
        exact ⟨rfl, hS.bel⟩
      · go_wp2_with fail
        refine (vecLeq _ _ _ _ _ hS.c hS.b).mono ?_
        rintro e w' ⟨rfl, hb'⟩
        replace hS := hS.step hb'
        cases l4 : leqB zs ys
        · go_wp2_with fail
          refine (vecMax _ _ _ (rdvs0 _)).mono ?_
          rintro e w' ⟨m0, rfl, g0, hb'⟩
          rw [lat9] at g0
          obtain ⟨q0, q1, rfl, _⟩ := g0
          replace hS := hS.step hb'
          go_wp2
          go_ret
          exact ⟨rfl, hS.bel⟩
        · go_wp2_with fail
          refine (vecMin _ _ _ _ _ hS.a hS.b).mono ?_
          rintro e w' ⟨m9, rfl, g9, hb'⟩
          replace hS := hS.step hb'
          obtain ⟨x9, y9, z9, rfl⟩ := g9.shape
          go_wp2_with fail
          refine (vecLeq _ _ _ _ _ hS.c g9).mono ?_
          rintro e w' ⟨rfl, hb'⟩
          replace hS := hS.step hb'
          rw [show leqB zs (nrm fun k => min (atZ xs k) (atZ ys k)) = true from lat8 xs ys zs l3 l4]
          go_wp2_with fail
          refine (vecMax _ _ _ (rdvs0 _)).mono ?_
          rintro e w' ⟨m0, rfl, g0, hb'⟩
          rw [lat9] at g0
          obtain ⟨q0, q1, rfl, _⟩ := g0
          replace hS := hS.step hb'
          go_wp2
          go_ret
          exact ⟨rfl, hS.bel⟩
end Go.Proofs.Ytgpfkdlnmifiiaa
