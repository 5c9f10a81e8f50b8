/- Contracts of package codec: the reader's texts, truths, IDs. -/
import Derived.Test.YthbalmoafpggdaaChecked
import Derived.WalkKit
import Derived.Outline
import Derived.WalkSpells
import Derived.WalkLawsBesides
import Derived.Deep.QuietTactic
import Derived.Deep.RegionWith
import Derived.Deep.DeepMust
import Derived.BigQuiet
import Derived.Test.YthbalmoafpggdaaMem
import Derived.RegionTactic
import Derived.ChangeAlike
import Derived.StillTailTactics
import Derived.Deep.LoopGhost
import Derived.Test.YthbalmoafpggdaaRd3
namespace Go.Proofs.Ythbalmoafpggdaa
open Go.RowKit
set_option linter.unusedVariables false
set_option linter.unusedSimpArgs false
def NewRPost (l : List Int) (w : World) (e : Ending) (w' : World) : Prop := ∃ r B v, e = .returned (.pointer (some ⟨r, 0, none⟩)) ∧ w.heap.size ≤ r ∧ w.heap.size ≤ B ∧ B < w'.heap.size ∧ Rd w' r B v (some l) ∧ Below w.heap.size w w'
theorem rNew (x : Value) (l : List Int) (w : World) (hx : Rdv u8v w x l) (hb : Byt l) (hl : l.length ≤ 100000000000) : Calls Try.prog 20 #[x] w (NewRPost l w) := by
  have KC := Lib.hid (cloneC x l w hx (by omega))
  have HB := Lib.hid hb
  clear hx hb
  go_enter Try.func20, Try.ntmps20
  go_wp2_with fail
  refine KC.out.mono ?_
  rintro e w1 ⟨v, rfl, ho, hb1⟩
  have hr := Lib.hid (Rdv.of_owns (enc := u8v) (xs := l) ho)
  have hs1 := hb1.size
  have HB1 := Lib.hid hb1
  have hin : v = .slice none 0 0 ∨ ∃ g c, w.heap.size ≤ g ∧ g < w1.heap.size ∧ v = .slice (some ⟨g, 0, none⟩) l.length c := by
    rcases ho.2 with ⟨h, _⟩ | ⟨g, c, cur, h, hg, hh, _⟩
    · exact .inl h
    · exact .inr ⟨g, c, hg, lt_of_block hh, h⟩
  have HIN := Lib.hid hin
  have hsh := own_shape ho
  obtain ⟨va, vc, rfl, _⟩ := hsh
  clear ho hb1 hin
  go_wp2
  go_ret
  have BK : Blk (w1.alloc (.cells #[.slice va l.length vc, .bool false] 97)) w1.heap.size #[.slice va l.length vc, .bool false] 97 := Blk.new w1 _ _
  have RR := hr.out.alloc (.cells #[.slice va l.length vc, .bool false] 97)
  rcases HIN.out with h | ⟨g, c, hg, hgl, h⟩
  · exact ⟨w1.heap.size, w1.heap.size, .slice va l.length vc, rfl, hs1, hs1, by simp, ⟨BK, RR, .inl h, (fun ⟨_, _, _, e⟩ => by rw [h, Value.slice.injEq] at e; cases e.1), HB.out, hl⟩, HB1.out.alloc hs1 _⟩
  · exact ⟨w1.heap.size, g, .slice va l.length vc, rfl, hs1, hg, by simp; omega, ⟨BK, RR, .inr ⟨_, _, _, h⟩, (fun _ => by omega), HB.out, hl⟩, HB1.out.alloc hs1 _⟩
def RTextPost (r B : Nat) (s : RS) (w : World) (e : Ending) (w' : World) : Prop := e = .returned (.string (strOfNums (bytesS s).1)) ∧ RStep r B w (bytesS s).2 w'
theorem rText (r B : Nat) (v : Value) (s : RS) (w : World) (h : Rd w r B v s) : Calls Try.prog 61 #[.pointer (some ⟨r, 0, none⟩)] w (RTextPost r B s w) := by
  have K := Lib.hid (rBytes r B v s w h)
  clear h
  go_enter Try.func61, Try.ntmps61
  go_wp2_with fail
  refine K.out.mono ?_
  rintro e w1 ⟨v1, rfl, ho, h1⟩
  have hr := Rdv.of_owns (enc := u8v) (xs := (bytesS s).1) ho
  have hcv := conv_rdv (P := Try.prog) 24 5 Try.underlying24 Try.underlying5 hr 9 Try.underlying9
  have H1 := Lib.hid h1
  clear h1 ho hr
  go_wp2
  go_ret
  exact ⟨rfl, H1.out⟩
def RTruthPost (r B : Nat) (s : RS) (w : World) (e : Ending) (w' : World) : Prop := e = .returned (.bool (truthS s).1) ∧ RStep r B w (truthS s).2 w'
theorem truthS_eq (s : RS) : truthS s = (match (numS s).2 with | none => (false, none) | some l => if 1 < (numS s).1 then (false, none) else (decide ((numS s).1 = 1), some l)) := by
  unfold truthS
  rcases numS s with ⟨n, t⟩
  rcases t with _ | l <;> rfl
theorem rTruth (r B : Nat) (v : Value) (s : RS) (w : World) (h : Rd w r B v s) : Calls Try.prog 66 #[.pointer (some ⟨r, 0, none⟩)] w (RTruthPost r B s w) := by
  have hz := numS_zero s
  have hT := truthS_eq s
  rcases hq : numS s with ⟨n, s1⟩
  have KN := Lib.hid (rNum' r B v s w h hq)
  rw [hq] at hz hT
  simp only at hz hT
  clear h hq
  by_cases h1 : 1 < n
  · have hd : decide ((1 : Int) < (n : Int)) = true := decide_eq_true (by omega)
    have HT : Hid (truthS s = (false, none)) := Lib.hid (by rw [hT]; rcases s1 with _ | l; rfl; exact if_pos h1)
    clear hz hT
    go_enter Try.func66, Try.ntmps66
    go_wp2_with fail
    refine KN.out.mono ?_
    rintro e w1 ⟨rfl, v1, h1, g1⟩
    have KF := Lib.hid (rFail1 r B v1 s1 true w1 h1 (by simp))
    have G1 := Lib.hid g1
    clear h1 g1 KN
    go_wp2_with fail
    (with_reducible refine KF.out.mono ?_)
    rintro e w3 ⟨rfl, h3⟩
    have H3 := Lib.hid (h3.trans G1.out)
    clear h3
    go_wp2
    go_ret
    exact ⟨by rw [HT.out]; rfl, by rw [HT.out]; exact H3.out⟩
  · have hd : decide ((1 : Int) < (n : Int)) = false := decide_eq_false (by omega)
    rcases s1 with _ | l
    · have h0 : n ≤ 0 := by have := hz rfl; omega
      have HT : Hid (truthS s = (false, none)) := Lib.hid hT
      clear hz hT
      go_enter Try.func66, Try.ntmps66
      go_wp2_with fail
      refine KN.out.mono ?_
      rintro e w1 ⟨rfl, v1, h1, g1⟩
      have KF := Lib.hid (rFail1 r B v1 none false w1 h1 (by simp))
      have G1 := Lib.hid g1
      clear h1 g1 KN
      go_wp2_with fail
      (with_reducible refine KF.out.mono ?_)
      rintro e w3 ⟨rfl, h3⟩
      have H3 := Lib.hid (h3.trans G1.out)
      clear h3
      go_wp2
      go_ret
      exact ⟨by rw [HT.out]; rfl, by rw [HT.out]; exact H3.out⟩
    · have HT : Hid (truthS s = (decide (n = 1), some l)) := Lib.hid (hT.trans (if_neg h1))
      have hn1 : n = 0 ∨ n = 1 := by omega
      have hb : ((n : Int) == 1) = decide (n = 1) := by rcases hn1 with rfl | rfl <;> rfl
      generalize decide (n = 1) = q at *
      clear hz hT hn1
      go_enter Try.func66, Try.ntmps66
      go_wp2_with fail
      refine KN.out.mono ?_
      rintro e w1 ⟨rfl, v1, h1, g1⟩
      have KF := Lib.hid (rFails r B v1 (some l) false w1 h1)
      have G1 := Lib.hid g1
      clear h1 g1 KN
      go_wp2_with fail
      (with_reducible refine KF.out.mono ?_)
      rintro e w3 ⟨rfl, h3⟩
      have H3 := Lib.hid (h3.trans G1.out)
      clear h3
      go_wp2
      go_ret
      exact ⟨by rw [HT.out]; rfl, by rw [HT.out]; exact H3.out⟩
def RIDPost (r B : Nat) (s : RS) (w : World) (e : Ending) (w' : World) : Prop := e = .returned (.agg #[.int .i64 ((idS s).1.1 : Nat), .int .i64 ((idS s).1.2 : Nat)]) ∧ RStep r B w (idS s).2 w'
theorem idS_eq (s : RS) : idS s = (match (numS (numS s).2).2 with | none => ((0, 0), none) | some l => if 1152921504606846976 < (numS s).1 ∨ 64 ≤ (numS (numS s).2).1 then ((0, 0), none) else (((numS s).1, (numS (numS s).2).1), some l)) := by
  unfold idS
  rcases numS (numS s).2 with ⟨n, t⟩
  rcases t with _ | l <;> rfl
theorem RStepT.pre {T : TypeId} {r B : Nat} {w w0 w' : World} {s' : RS} (g : Below w.heap.size w w0) (h : RStepT T r B w0 s' w') : RStepT T r B w s' w' := by
  obtain ⟨v', h1, h2⟩ := h
  exact ⟨v', h1, (Chg.of_below (S := (· = r)) g (fun i h1 h2 => by omega)).trans' h2 (fun _ _ h => h)⟩
theorem RStepT.setNew {T : TypeId} {r B : Nat} {w w' : World} {s' : RS} (h : RStepT T r B w s' w') (b o : Nat) (x : Value) (hb : w.heap.size ≤ b) (hr : b ≠ r) (hB : b ≠ B) : RStepT T r B w s' (w'.setCell ⟨b, o, none⟩ x) := by
  obtain ⟨v', h1, h2⟩ := h
  refine ⟨v', h1.chg (S := (· = b)) (Chg.set (S := (· = b)) (Chg.refl _ _) (p := ⟨b, o, none⟩) (fun _ => rfl) _) (Ne.symm hr) (Ne.symm hB), h2.set (fun hlt => by simp at hlt; omega) _⟩
set_option maxHeartbeats 4000000 in
set_option maxRecDepth 100000 in
theorem rID (r B : Nat) (v : Value) (s : RS) (w : World) (h : Rd w r B v s) (hBl : B < w.heap.size) : Calls Try.prog 68 #[.pointer (some ⟨r, 0, none⟩)] w (RIDPost r B s w) := by
  have b0 : Below w.heap.size w (w.alloc (.cells #[.int .i64 0, .int .i64 0] 45)) := (Below.refl _ _).alloc (Nat.le_refl _) _
  have hz := numS_zero (numS s).2
  have hI := idS_eq s
  have hbd := numS_bd s
  have hbd2 := numS_bd (numS s).2
  rcases hq : numS s with ⟨t, s1⟩
  rw [hq] at hz hI hbd hbd2
  simp only at hz hI hbd hbd2
  rcases hq2 : numS s1 with ⟨n, s2⟩
  rw [hq2] at hz hI hbd2
  simp only at hz hI hbd2
  have KN := Lib.hid (rNum' r B v s _ (h.below b0) hq)
  have HQ2 := Lib.hid hq2
  have hrl := h.lt
  have HB0 := Lib.hid b0
  have BX := Blk.new w #[.int .i64 0, .int .i64 0] 45
  have HBX := Lib.hid BX
  have ht0 : (0 : Int) ≤ t := by omega
  have hn0 : (0 : Int) ≤ n := by omega
  clear h hq hq2 b0 BX
  go_enter Try.func68, Try.ntmps68
  go_wp2_with fail
  refine KN.out.mono ?_
  rintro e w1 ⟨rfl, v1, h1, g1⟩
  have KN2 := Lib.hid (rNum' r B v1 s1 w1 h1 HQ2.out)
  have G1 := Lib.hid g1
  have X1 := Lib.hid (g1.blk HBX.out (by omega))
  clear h1 g1 KN
  go_wp2_with fail
  refine KN2.out.mono ?_
  rintro e w2 ⟨rfl, v2, h2, g2⟩
  have X2 := Lib.hid (g2.blk X1.out (by omega))
  have G2 := Lib.hid (G1.out.trans g2)
  have x20 := X2.out.cell (o := 0) rfl
  have x21 := X2.out.cell (o := 1) rfl
  have xf0 := X2.out.free 0
  have xf1 := X2.out.free 1
  have xz := X2.out.lt
  have H2 := Lib.hid h2
  clear h2 g2 KN2 G1 X1
  have fin : ∀ (bad : Bool), (s2.isNone || bad) = true → Calls Try.prog 58 #[.pointer (some ⟨r, 0, none⟩), .bool bad] w2 fun e w3 => e = .returned (.bool true) ∧ RStep r B w none w3 ∧ Blk w3 w.heap.size #[.int .i64 0, .int .i64 0] 45 := fun bad hb => (rFail1 r B v2 s2 bad w2 H2.out hb).mono fun e w3 h => by
    obtain ⟨rfl, v3, h3, g3⟩ := h
    exact ⟨rfl, RStepT.pre HB0.out ⟨v3, h3, G2.out.trans g3⟩, g3.blk X2.out (by omega)⟩
  have FIN := Lib.hid fin
  clear fin
  have cases4 : (∃ l, s2 = some l ∧ t ≤ 1152921504606846976 ∧ n < 64) ∨ (1152921504606846976 < t) ∨ (t ≤ 1152921504606846976 ∧ 64 ≤ n) ∨ (t ≤ 1152921504606846976 ∧ n < 64 ∧ s2 = none) := by
    by_cases h1 : t ≤ 1152921504606846976
    · by_cases h2 : n < 64
      · rcases s2 with _ | l
        · exact .inr (.inr (.inr ⟨h1, h2, rfl⟩))
        · exact .inl ⟨l, rfl, h1, h2⟩
      · exact .inr (.inr (.inl ⟨h1, by omega⟩))
    · exact .inr (.inl (by omega))
  rcases cases4 with ⟨l, hs2, c1, c2⟩ | c1 | ⟨c1, c2⟩ | ⟨c1, c2, hs2⟩
  · subst hs2
    have HI : Hid (idS s = ((t, n), some l)) := Lib.hid (by rw [hI]; exact if_neg (by omega))
    have hd1 : decide ((1152921504606846976 : Int) < (t : Int)) = false := decide_eq_false (by omega)
    have hd2 : decide ((64 : Int) ≤ (n : Int)) = false := decide_eq_false (by omega)
    have KF := Lib.hid (rFails r B v2 (some l) false w2 H2.out)
    clear hI hz
    go_wp2_with fail
    (with_reducible refine KF.out.mono ?_)
    rintro e w3 ⟨rfl, v3, h3, g3⟩
    have X3 := g3.blk X2.out (by omega)
    have y0 := X3.cell (o := 0) rfl
    have y1 := X3.cell (o := 1) rfl
    have yf0 := X3.free 0
    have yf1 := X3.free 1
    have yz := X3.lt
    have H3 := Lib.hid (RStepT.pre HB0.out ⟨v3, h3, G2.out.trans g3⟩)
    clear h3 g3 x20 x21 xf0 xf1 xz
    go_wp2
    refine bodyPost_ret (v := .agg #[.int .i64 t, .int .i64 n]) (by simp [results, Try.results68, go_sem, y0, y1]) rfl ⟨?_, ?_⟩
    · rw [HI.out]
    · rw [HI.out]
      exact (H3.out.setNew w.heap.size 0 _ (Nat.le_refl _) (by omega) (by omega)).setNew w.heap.size 1 _ (Nat.le_refl _) (by omega) (by omega)
  · have HI : Hid (idS s = ((0, 0), none)) := Lib.hid (by rw [hI]; rcases s2 with _ | l; rfl; first | exact if_pos (by omega) | cases hs2)
    have hd1 : decide ((1152921504606846976 : Int) < (t : Int)) = true := decide_eq_true (by omega)
    skip
    have KF := Lib.hid (FIN.out true (by simp))
    clear hI hz
    go_wp2_with fail
    (with_reducible refine KF.out.mono ?_)
    rintro e w3 ⟨rfl, h3, X3⟩
    have y0 := X3.cell (o := 0) rfl
    have y1 := X3.cell (o := 1) rfl
    have yf0 := X3.free 0
    have yf1 := X3.free 1
    have yz := X3.lt
    have H3 := Lib.hid h3
    clear h3 x20 x21 xf0 xf1 xz
    go_wp2
    refine bodyPost_ret (v := .agg #[.int .i64 0, .int .i64 0]) (by simp [results, Try.results68, go_sem, y0, y1]) rfl ⟨?_, ?_⟩
    · rw [HI.out]; rfl
    · rw [HI.out]
      exact (H3.out.setNew w.heap.size 0 _ (Nat.le_refl _) (by omega) (by omega)).setNew w.heap.size 1 _ (Nat.le_refl _) (by omega) (by omega)
  · have HI : Hid (idS s = ((0, 0), none)) := Lib.hid (by rw [hI]; rcases s2 with _ | l; rfl; first | exact if_pos (by omega) | cases hs2)
    have hd1 : decide ((1152921504606846976 : Int) < (t : Int)) = false := decide_eq_false (by omega)
    have hd2 : decide ((64 : Int) ≤ (n : Int)) = true := decide_eq_true (by omega)
    have KF := Lib.hid (FIN.out true (by simp))
    clear hI hz
    go_wp2_with fail
    (with_reducible refine KF.out.mono ?_)
    rintro e w3 ⟨rfl, h3, X3⟩
    have y0 := X3.cell (o := 0) rfl
    have y1 := X3.cell (o := 1) rfl
    have yf0 := X3.free 0
    have yf1 := X3.free 1
    have yz := X3.lt
    have H3 := Lib.hid h3
    clear h3 x20 x21 xf0 xf1 xz
    go_wp2
    refine bodyPost_ret (v := .agg #[.int .i64 0, .int .i64 0]) (by simp [results, Try.results68, go_sem, y0, y1]) rfl ⟨?_, ?_⟩
    · rw [HI.out]; rfl
    · rw [HI.out]
      exact (H3.out.setNew w.heap.size 0 _ (Nat.le_refl _) (by omega) (by omega)).setNew w.heap.size 1 _ (Nat.le_refl _) (by omega) (by omega)
  · have HI : Hid (idS s = ((0, 0), none)) := Lib.hid (by rw [hI]; rcases s2 with _ | l; rfl; first | exact if_pos (by omega) | cases hs2)
    have hd1 : decide ((1152921504606846976 : Int) < (t : Int)) = false := decide_eq_false (by omega)
    have hd2 : decide ((64 : Int) ≤ (n : Int)) = false := decide_eq_false (by omega)
    have KF := Lib.hid (FIN.out false (by rw [hs2]; rfl))
    clear hI hz hs2
    go_wp2_with fail
    (with_reducible refine KF.out.mono ?_)
    rintro e w3 ⟨rfl, h3, X3⟩
    have y0 := X3.cell (o := 0) rfl
    have y1 := X3.cell (o := 1) rfl
    have yf0 := X3.free 0
    have yf1 := X3.free 1
    have yz := X3.lt
    have H3 := Lib.hid h3
    clear h3 x20 x21 xf0 xf1 xz
    go_wp2
    refine bodyPost_ret (v := .agg #[.int .i64 0, .int .i64 0]) (by simp [results, Try.results68, go_sem, y0, y1]) rfl ⟨?_, ?_⟩
    · rw [HI.out]; rfl
    · rw [HI.out]
      exact (H3.out.setNew w.heap.size 0 _ (Nat.le_refl _) (by omega) (by omega)).setNew w.heap.size 1 _ (Nat.le_refl _) (by omega) (by omega)
end Go.Proofs.Ythbalmoafpggdaa
