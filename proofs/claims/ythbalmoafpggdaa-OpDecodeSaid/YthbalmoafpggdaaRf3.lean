/- The reference's reader: IDs. -/
import Derived.Test.YthbalmoafpggdaaChecked
import Derived.WalkKit
import Derived.Outline
import Derived.WalkSpells
import Derived.WalkLawsBesides
import Derived.Deep.QuietTactic
import Derived.Deep.RegionWith
import Derived.Deep.DeepMust
import Derived.BigQuiet
import Derived.Test.YthbalmoafpggdaaMem
import Derived.RegionTactic
import Derived.ChangeAlike
import Derived.StillTailTactics
import Derived.Deep.LoopGhost
import Derived.Test.YthbalmoafpggdaaRf2
namespace Go.Proofs.Ythbalmoafpggdaa
open Go.RowKit
set_option linter.unusedVariables false
set_option linter.unusedSimpArgs false
def FIDPost (r B : Nat) (s : RS) (w : World) (e : Ending) (w' : World) : Prop := e = .returned (.agg #[.int .i64 ((idS s).1.1 : Nat), .int .i64 ((idS s).1.2 : Nat)]) ∧ FStep r B w (idS s).2 w'
set_option maxHeartbeats 4000000 in
set_option maxRecDepth 100000 in
theorem fID (r B : Nat) (v : Value) (s : RS) (w : World) (h : Rf w r B v s) (hBl : B < w.heap.size) : Calls Try.prog 69 #[.pointer (some ⟨r, 0, none⟩)] w (FIDPost r B s w) := by
  have b0 : Below w.heap.size w (w.alloc (.cells #[.int .i64 0, .int .i64 0] 45)) := (Below.refl _ _).alloc (Nat.le_refl _) _
  have hz := numS_zero (numS s).2
  have hI := idS_eq s
  have hbd := numS_bd s
  have hbd2 := numS_bd (numS s).2
  have hz0 := numS_zero s
  rcases hq : numS s with ⟨t, s1⟩
  rw [hq] at hz hI hbd hbd2 hz0
  simp only at hz hI hbd hbd2 hz0
  rcases hq2 : numS s1 with ⟨n, s2⟩
  rw [hq2] at hz hI hbd2
  simp only at hz hI hbd2
  have KN := Lib.hid (fNum' r B v s _ (h.below b0) hq)
  have HQ2 := Lib.hid hq2
  have hrl := h.lt
  have HB0 := Lib.hid b0
  have BX := Blk.new w #[.int .i64 0, .int .i64 0] 45
  have HBX := Lib.hid BX
  have ht0 : (0 : Int) ≤ t := by omega
  have hn0 : (0 : Int) ≤ n := by omega
  clear h hq hq2 b0 BX
  go_enter Try.func69, Try.ntmps69
  go_wp2_with fail
  refine KN.out.mono ?_
  rintro e w1 ⟨rfl, v1, h1, g1⟩
  have hs1 := g1.size
  simp only [World.size_alloc] at hs1
  have a1 : Below w1.heap.size w1 (w1.alloc (.cells #[.int .i64 t, .int .i64 0] 45)) := (Below.refl _ _).alloc (Nat.le_refl _) _
  have KN2 := Lib.hid (fNum' r B v1 s1 _ (h1.below a1) HQ2.out)
  have G1 : Hid (Chg (· = r) (w.alloc (.cells #[.int .i64 0, .int .i64 0] 45)) (w1.alloc (.cells #[.int .i64 t, .int .i64 0] 45))) := Lib.hid (g1.trans (Chg.of_below a1 (fun i h1 h2 => by omega)))
  have X1 := Lib.hid ((g1.blk HBX.out (by omega)).alloc (.cells #[.int .i64 t, .int .i64 0] 45))
  have Y1 := Lib.hid (Blk.new w1 #[.int .i64 t, .int .i64 0] 45)
  clear h1 g1 KN a1
  go_wp2_with fail
  refine KN2.out.mono ?_
  rintro e w2 ⟨rfl, v2, h2, g2⟩
  have X2 := Lib.hid (g2.blk X1.out (by omega))
  have Y2 := Lib.hid (g2.blk Y1.out (by omega))
  have G2 := Lib.hid (G1.out.trans g2)
  have x20 := X2.out.cell (o := 0) rfl
  have x21 := X2.out.cell (o := 1) rfl
  have xf0 := X2.out.free 0
  have xf1 := X2.out.free 1
  have xz := X2.out.lt
  have y20 := Y2.out.cell (o := 0) rfl
  have y21 := Y2.out.cell (o := 1) rfl
  have yf0 := Y2.out.free 0
  have yf1 := Y2.out.free 1
  have yz := Y2.out.lt
  have q1 := h2.blk.cell (o := 1) rfl
  have H2 := Lib.hid h2
  have KF : Hid (Calls Try.prog 104 #[.pointer (some ⟨r, 0, none⟩)] w2 fun e w3 => e = .returned (.tuple #[]) ∧ FStep r B w none w3 ∧ Blk w3 w.heap.size #[.int .i64 0, .int .i64 0] 45) := Lib.hid ((refFail r B v2 s2 w2 h2).mono fun e w3 h => by
    obtain ⟨rfl, v3, h3, g3⟩ := h
    exact ⟨rfl, RStepT.pre HB0.out ⟨v3, h3, G2.out.trans g3⟩, g3.blk X2.out (by omega)⟩)
  have H2S : Hid (FStep r B w s2 w2) := Lib.hid (RStepT.pre HB0.out ⟨v2, h2, G2.out⟩)
  clear h2 g2 KN2 G1 X1 Y1
  have cases4 : (∃ l, s2 = some l ∧ t ≤ 1152921504606846976 ∧ n < 64) ∨ (s2 = none) ∨ ((∃ l, s2 = some l) ∧ 1152921504606846976 < t) ∨ ((∃ l, s2 = some l) ∧ t ≤ 1152921504606846976 ∧ 64 ≤ n) := by
    rcases s2 with _ | l
    · exact .inr (.inl rfl)
    · by_cases h1 : t ≤ 1152921504606846976
      · by_cases h2 : n < 64
        · exact .inl ⟨l, rfl, h1, h2⟩
        · exact .inr (.inr (.inr ⟨⟨l, rfl⟩, h1, by omega⟩))
      · exact .inr (.inr (.inl ⟨⟨l, rfl⟩, by omega⟩))
  rcases cases4 with ⟨l, rfl, c1, c2⟩ | rfl | ⟨⟨l, rfl⟩, c1⟩ | ⟨⟨l, rfl⟩, c1, c2⟩
  · have HI : Hid (idS s = ((t, n), some l)) := Lib.hid (by rw [hI]; exact if_neg (by omega))
    have q1' : w2.cell? ⟨r, 1, none⟩ = some (.bool false) := q1
    have hd1 : decide ((1152921504606846976 : Int) < (t : Int)) = false := decide_eq_false (by omega)
    have hd2 : decide ((64 : Int) ≤ (n : Int)) = false := decide_eq_false (by omega)
    clear hI hz q1
    go_wp2
    refine bodyPost_ret (v := .agg #[.int .i64 t, .int .i64 n]) (by simp [results, Try.results69, go_sem, y20, y21, x20, x21]) rfl ⟨?_, ?_⟩
    · rw [HI.out]
    · rw [HI.out]
      exact ((H2S.out.setNew w1.heap.size 1 _ (by omega) (by omega) (by omega)).setNew w.heap.size 0 _ (Nat.le_refl _) (by omega) (by omega)).setNew w.heap.size 1 _ (Nat.le_refl _) (by omega) (by omega)
  · have HI : Hid (idS s = ((0, 0), none)) := Lib.hid (hI.trans (by first | rfl | exact if_pos (by omega)))
    have q1' : w2.cell? ⟨r, 1, none⟩ = some (.bool true) := q1
    skip
    clear hI hz q1
    go_wp2_with fail
    (with_reducible refine KF.out.mono ?_)
    rintro e w3 ⟨rfl, h3, X3⟩
    have z0 := X3.cell (o := 0) rfl
    have z1 := X3.cell (o := 1) rfl
    have zf0 := X3.free 0
    have zf1 := X3.free 1
    have zz := X3.lt
    have H3 := Lib.hid h3
    clear h3 x20 x21 xf0 xf1 xz y20 y21 yf0 yf1 yz
    go_wp2
    refine bodyPost_ret (v := .agg #[.int .i64 0, .int .i64 0]) (by simp [results, Try.results69, go_sem, z0, z1]) rfl ⟨?_, ?_⟩
    · rw [HI.out]; rfl
    · rw [HI.out]
      exact (H3.out.setNew w.heap.size 0 _ (Nat.le_refl _) (by omega) (by omega)).setNew w.heap.size 1 _ (Nat.le_refl _) (by omega) (by omega)
  · have HI : Hid (idS s = ((0, 0), none)) := Lib.hid (hI.trans (by first | rfl | exact if_pos (by omega)))
    have q1' : w2.cell? ⟨r, 1, none⟩ = some (.bool false) := q1
    have hd1 : decide ((1152921504606846976 : Int) < (t : Int)) = true := decide_eq_true (by omega)
    clear hI hz q1
    go_wp2_with fail
    (with_reducible refine KF.out.mono ?_)
    rintro e w3 ⟨rfl, h3, X3⟩
    have z0 := X3.cell (o := 0) rfl
    have z1 := X3.cell (o := 1) rfl
    have zf0 := X3.free 0
    have zf1 := X3.free 1
    have zz := X3.lt
    have H3 := Lib.hid h3
    clear h3 x20 x21 xf0 xf1 xz y20 y21 yf0 yf1 yz
    go_wp2
    refine bodyPost_ret (v := .agg #[.int .i64 0, .int .i64 0]) (by simp [results, Try.results69, go_sem, z0, z1]) rfl ⟨?_, ?_⟩
    · rw [HI.out]; rfl
    · rw [HI.out]
      exact (H3.out.setNew w.heap.size 0 _ (Nat.le_refl _) (by omega) (by omega)).setNew w.heap.size 1 _ (Nat.le_refl _) (by omega) (by omega)
  · have HI : Hid (idS s = ((0, 0), none)) := Lib.hid (hI.trans (by first | rfl | exact if_pos (by omega)))
    have q1' : w2.cell? ⟨r, 1, none⟩ = some (.bool false) := q1
    have hd1 : decide ((1152921504606846976 : Int) < (t : Int)) = false := decide_eq_false (by omega)
    have hd2 : decide ((64 : Int) ≤ (n : Int)) = true := decide_eq_true (by omega)
    clear hI hz q1
    go_wp2_with fail
    (with_reducible refine KF.out.mono ?_)
    rintro e w3 ⟨rfl, h3, X3⟩
    have z0 := X3.cell (o := 0) rfl
    have z1 := X3.cell (o := 1) rfl
    have zf0 := X3.free 0
    have zf1 := X3.free 1
    have zz := X3.lt
    have H3 := Lib.hid h3
    clear h3 x20 x21 xf0 xf1 xz y20 y21 yf0 yf1 yz
    go_wp2
    refine bodyPost_ret (v := .agg #[.int .i64 0, .int .i64 0]) (by simp [results, Try.results69, go_sem, z0, z1]) rfl ⟨?_, ?_⟩
    · rw [HI.out]; rfl
    · rw [HI.out]
      exact (H3.out.setNew w.heap.size 0 _ (Nat.le_refl _) (by omega) (by omega)).setNew w.heap.size 1 _ (Nat.le_refl _) (by omega) (by omega)
end Go.Proofs.Ythbalmoafpggdaa
