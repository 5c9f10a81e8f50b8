/- Contracts of package codec: the reader's other words. -/
import Derived.Test.YthbalmoafpggdaaChecked
import Derived.WalkKit
import Derived.Outline
import Derived.WalkSpells
import Derived.WalkLawsBesides
import Derived.Deep.QuietTactic
import Derived.Deep.RegionWith
import Derived.Deep.DeepMust
import Derived.BigQuiet
import Derived.Test.YthbalmoafpggdaaMem
import Derived.RegionTactic
import Derived.ChangeAlike
import Derived.StillTailTactics
import Derived.Deep.LoopGhost
import Derived.Test.YthbalmoafpggdaaRd2
namespace Go.Proofs.Ythbalmoafpggdaa
open Go.RowKit
set_option linter.unusedVariables false
set_option linter.unusedSimpArgs false
/-- A fresh row of bytes. -/
def FreshB (w : World) (v : Value) (l : List Int) (w' : World) : Prop := w'.ownsRow w.heap.size 5 1 v l.length (l.map u8v)
theorem ownsRow_base {w : World} {B B' e s : Nat} {v : Value} {n : Nat} {xs : List Value} (h : w.ownsRow B e s v n xs) (hb : B' ≤ B) : w.ownsRow B' e s v n xs := by
  refine ⟨h.1, ?_⟩
  rcases h.2 with h2 | ⟨g, c, cur, h1, h2, h3⟩
  · exact .inl h2
  · exact .inr ⟨g, c, cur, h1, Nat.le_trans hb h2, h3⟩
def RBytesPost (r B : Nat) (s : RS) (w : World) (e : Ending) (w' : World) : Prop := ∃ v, e = .returned v ∧ FreshB w v (bytesS s).1 w' ∧ RStep r B w (bytesS s).2 w'
theorem numS_zero (s : RS) : (numS s).2 = none → (numS s).1 = 0 := by
  intro h
  unfold numS at h ⊢
  split
  · rfl
  · next l =>
    split
    · rfl
    · next h2 => simp only [h2] at h; cases h
theorem bytesS_none {s : RS} (h : (numS s).2 = none) : bytesS s = ([], none) := by
  unfold bytesS
  cases hq : numS s with
  | mk n t => rw [hq] at h; simp only at h; subst h; rfl
theorem bytesS_bad {s : RS} {l : List Int} (h : (numS s).2 = some l) (hb : 65536 < (numS s).1 ∨ l.length < (numS s).1) : bytesS s = ([], none) := by
  unfold bytesS
  cases hq : numS s with
  | mk n t => rw [hq] at h hb; simp only at h hb; subst h; simp only; rw [if_pos hb]
theorem bytesS_ok {s : RS} {l : List Int} (h : (numS s).2 = some l) (h1 : (numS s).1 ≤ 65536) (h2 : (numS s).1 ≤ l.length) : bytesS s = (l.take (numS s).1, some (l.drop (numS s).1)) := by
  unfold bytesS
  cases hq : numS s with
  | mk n t => rw [hq] at h h1 h2; simp only at h h1 h2; subst h; simp only; rw [if_neg (by omega)]
theorem freshB_nil (w w' : World) : FreshB w (.slice none 0 0) [] w' := World.ownsRow_nil _ _ _ _
theorem rNum' (r B : Nat) (v : Value) (s : RS) (w : World) (h : Rd w r B v s) {n : Nat} {s1 : RS} (hq : numS s = (n, s1)) : Calls Try.prog 13 #[.pointer (some ⟨r, 0, none⟩)] w fun e w' => e = .returned (.int .i64 (n : Nat)) ∧ RStep r B w s1 w' := by
  have := rNum r B v s w h
  unfold NumPost at this
  rw [hq] at this
  exact this
theorem rFail1 (r B : Nat) (v : Value) (s : RS) (bad : Bool) (w : World) (h : Rd w r B v s) (hb : (s.isNone || bad) = true) : Calls Try.prog 58 #[.pointer (some ⟨r, 0, none⟩), .bool bad] w fun e w' => e = .returned (.bool true) ∧ RStep r B w none w' :=
  (rFails r B v s bad w h).mono fun e w2 h => by
    obtain ⟨rfl, h⟩ := h
    rw [hb]
    have hf : failS s bad = none := by
      unfold failS
      cases bad
      · simp at hb; subst hb; rfl
      · rfl
    rw [hf] at h
    exact ⟨rfl, h⟩
set_option maxHeartbeats 4000000 in
set_option maxRecDepth 100000 in
theorem rBytes (r B : Nat) (v : Value) (s : RS) (w : World) (h : Rd w r B v s) : Calls Try.prog 64 #[.pointer (some ⟨r, 0, none⟩)] w (RBytesPost r B s w) := by
  have hbd := numS_bd s
  have S0 := bytesS_none (s := s)
  have S1 := fun l => bytesS_bad (s := s) (l := l)
  have S2 := fun l => bytesS_ok (s := s) (l := l)
  have hz := numS_zero s
  rcases hq : numS s with ⟨n, s1⟩
  have KN := Lib.hid (rNum' r B v s w h hq)
  rw [hq] at hbd S0 S1 S2 hz
  simp only at hbd S0 S1 S2 hz
  have hrl := h.lt
  have hn0 : (0 : Int) ≤ n := by omega
  have hnm : (n : Int) ≤ 4611686018427387904 := by omega
  clear h hq
  by_cases hgood : ∃ l1, s1 = some l1 ∧ n ≤ 65536 ∧ n ≤ l1.length
  · obtain ⟨l1, rfl, hn1, hn2⟩ := hgood
    have HOKS := Lib.hid (S2 l1 rfl hn1 hn2)
    clear S0 S1 S2
    have hd1 : decide ((65536 : Int) < (n : Int)) = false := decide_eq_false (by omega)
    have hd2 : decide (l1.length < n) = false := decide_eq_false (by omega)
    have hl1n : (n : Int) ≤ 65536 := by omega
    have hl2n : (n : Int) ≤ (l1.length : Int) := by omega
    go_enter Try.func64, Try.ntmps64
    go_wp2_with fail
    refine KN.out.mono ?_
    rintro e w1 ⟨rfl, v1, h1, g1⟩
    have KL := Lib.hid (rLeft r B v1 (some l1) w1 h1)
    have KF := Lib.hid (rFails r B v1 (some l1) false w1 h1)
    have G1 := Lib.hid g1
    have hs1 := g1.size
    clear h1 g1 KN
    go_wp2_with fail
    refine KL.out.mono ?_
    rintro e w2 ⟨rfl, rfl⟩
    unfold leftS
    simp only [Option.getD_some]
    go_wp2_with fail
    refine KF.out.mono ?_
    rintro e w3 ⟨rfl, v3, h3, g3⟩
    have pc0 : w3.cell? ⟨r, 0, none⟩ = some v3 := h3.blk.cell (o := 0) rfl
    have hrd : Rdv u8v w3 v3 l1 := h3.rdv
    have hll : l1.length ≤ 100000000000 := h3.len
    have hbt : Byt (l1.drop n) := fun q hq => h3.byt q (List.mem_of_mem_drop hq)
    have HBT := Lib.hid hbt
    have hlt3 := h3.lt
    have H3 := Lib.hid h3
    have G3 := Lib.hid (G1.out.trans g3)
    have hsz : w.heap.size ≤ w3.heap.size := G3.out.size
    rcases h3.inB with rfl | ⟨o3, n3, vc, rfl⟩
    · have hl0 : l1 = [] := by
        obtain ⟨_, _, _, h4⟩ := hrd.cap
        by_cases hl0 : l1 = []
        · exact hl0
        · obtain ⟨_, _, h⟩ := h4 hl0; cases h
      subst hl0
      obtain rfl : n = 0 := by simp at hn2; exact hn2
      have KC := Lib.hid (cloneC _ [] w3 hrd (by simp))
      clear h3 g3 hrd hbt
      go_wp2_with fail
      refine KC.out.mono ?_
      rintro e w4 ⟨v4, rfl, ho4, hb4⟩
      have H4 := Lib.hid (H3.out.below hb4)
      have pc4 : w4.cell? ⟨r, 0, none⟩ = some (.slice none 0 0) := H4.out.blk.cell (o := 0) rfl
      have pf4 := H4.out.blk.free 0
      have pz4 := H4.out.lt
      have G4 : Hid (Chg (· = r) w w4) := Lib.hid (G3.out.trans (Chg.of_below hb4 (fun i h1 h2 => by omega)))
      have O4 : Hid (w4.ownsRow w.heap.size 5 1 v4 0 [] ∧ ∀ b, v4.ownBlock = some b → ¬ b = r) := Lib.hid ⟨ownsRow_base ho4 hsz, fun b hb => by have := (ho4.lt b hb).1; omega⟩
      clear ho4 hb4 pc0
      go_wp2
      go_ret
      refine ⟨v4, rfl, ?_, ?_⟩
      · rw [HOKS.out]
        exact ownsRow_chg O4.out.1 (Chg.set (S := (· = r)) (Chg.refl _ _) (p := ⟨r, 0, none⟩) (fun _ => rfl) _) O4.out.2
      · rw [HOKS.out]
        exact ⟨_, H4.out.put0 _ [] rfl (Rdv.nil _ _) (.inl rfl) (fun q hq => by simp at hq) (by simp) (fun ⟨_, _, _, e⟩ => by rw [Value.slice.injEq] at e; cases e.1), G4.out.set (fun _ => rfl) _⟩
    · obtain ⟨rfl, hv1, hv2, _⟩ := hrd.cap
      unfold maxLen at hv2
      have KC := Lib.hid (cloneC _ (l1.take n) w3 (hrd.take n vc hn2 (by omega) (Nat.le_refl _)) (by simp; omega))
      have HR := Lib.hid hrd
      clear h3 g3 hrd hbt
      go_wp2_with fail
      refine KC.out.mono ?_
      rintro e w4 ⟨v4, rfl, ho4, hb4⟩
      have H4 := Lib.hid (H3.out.below hb4)
      have HR4 := Lib.hid (HR.out.below hb4)
      have pc4 : w4.cell? ⟨r, 0, none⟩ = some (.slice (some ⟨B, o3, none⟩) l1.length vc) := H4.out.blk.cell (o := 0) rfl
      have pf4 := H4.out.blk.free 0
      have pz4 := H4.out.lt
      have G4 : Hid (Chg (· = r) w w4) := Lib.hid (G3.out.trans (Chg.of_below hb4 (fun i h1 h2 => by omega)))
      have O4 : Hid (w4.ownsRow w.heap.size 5 1 v4 (l1.take n).length ((l1.take n).map u8v) ∧ ∀ b, v4.ownBlock = some b → ¬ b = r) := Lib.hid ⟨ownsRow_base ho4 hsz, fun b hb => by have := (ho4.lt b hb).1; omega⟩
      clear ho4 hb4 pc0
      go_wp2
      all_goals
        go_ret
        refine ⟨v4, rfl, ?_, ?_⟩
        · rw [HOKS.out]
          exact ownsRow_chg O4.out.1 (Chg.set (S := (· = r)) (Chg.refl _ _) (p := ⟨r, 0, none⟩) (fun _ => rfl) _) O4.out.2
        · rw [HOKS.out]
          first
          | exact ⟨_, H4.out.put0 _ (l1.drop n) rfl (HR4.out.drop n (by omega)) (.inr ⟨_, _, _, rfl⟩) HBT.out (by simp; omega) (fun _ => H4.out.ne ⟨_, _, _, rfl⟩), G4.out.set (fun _ => rfl) _⟩
          | exact ⟨_, H4.out.put0 _ (l1.drop n) rfl (rdv_dropF HR4.out n (by omega) _ _ (by unfold maxLen; omega)) (.inr ⟨_, _, _, rfl⟩) HBT.out (by simp; omega) (fun _ => H4.out.ne ⟨_, _, _, rfl⟩), G4.out.set (fun _ => rfl) _⟩
  · have HB : Hid (bytesS s = ([], none)) := Lib.hid (by
      rcases s1 with _ | l1
      · exact S0 rfl
      · refine S1 l1 rfl ?_
        by_cases h1 : 65536 < n
        · exact .inl h1
        · exact .inr (Nat.lt_of_not_le fun h2 => hgood ⟨l1, rfl, by omega, h2⟩))
    have hll : (leftS s1).length < n ∨ 65536 < n ∨ n = 0 := by
      rcases s1 with _ | l1
      · exact .inr (.inr (hz rfl))
      · by_cases h1 : 65536 < n
        · exact .inr (.inl h1)
        · exact .inl (Nat.lt_of_not_le fun h2 => hgood ⟨l1, rfl, by omega, h2⟩)
    have hbad : Hid (s1.isNone = true ∨ 0 < n) := Lib.hid (by
      rcases s1 with _ | l1
      · exact .inl rfl
      · refine .inr (Nat.pos_of_ne_zero fun h0 => hgood ⟨l1, rfl, by omega, by omega⟩))
    clear S0 S1 S2 hgood hz
    rcases hll with h1 | h1 | h1
    · by_cases h65 : 65536 < n
      all_goals
        have hd1 : decide ((65536 : Int) < (n : Int)) = decide (65536 < n) := by simp only [decide_eq_decide]; omega
        first | (rw [decide_eq_true h65] at hd1) | (rw [decide_eq_false h65] at hd1)
        have hd2 : decide ((leftS s1).length < n) = true := decide_eq_true h1
        clear h1 h65
        go_enter Try.func64, Try.ntmps64
        go_wp2_with fail
        refine KN.out.mono ?_
        rintro e w1 ⟨rfl, v1, h1, g1⟩
        have KL := Lib.hid (rLeft r B v1 s1 w1 h1)
        have KF := Lib.hid (rFail1 r B v1 s1 true w1 h1 (by simp))
        have G1 := Lib.hid g1
        clear h1 g1 KN
        go_wp2_with (first | (go_at_call 18; refine KL.out.mono ?_; rintro e w2 ⟨rfl, rfl⟩) | (go_at_call 58; (with_reducible refine KF.out.mono ?_); rintro e w3 ⟨rfl, h3⟩; have H3 := Lib.hid (h3.trans G1.out); clear h3))
        go_ret
        exact ⟨_, rfl, by rw [HB.out]; exact freshB_nil _ _, by rw [HB.out]; exact H3.out⟩
    · have hd1 : decide ((65536 : Int) < (n : Int)) = true := decide_eq_true (by omega)
      have hgt : (65536 : Int) < n := by omega
      go_enter Try.func64, Try.ntmps64
      go_wp2_with fail
      refine KN.out.mono ?_
      rintro e w1 ⟨rfl, v1, h1, g1⟩
      have KF := Lib.hid (rFail1 r B v1 s1 true w1 h1 (by simp))
      have G1 := Lib.hid g1
      clear h1 g1 KN
      go_wp2_with (first | (go_at_call 58; (with_reducible refine KF.out.mono ?_); rintro e w3 ⟨rfl, h3⟩; have H3 := Lib.hid (h3.trans G1.out); clear h3))
      go_ret
      exact ⟨_, rfl, by rw [HB.out]; exact freshB_nil _ _, by rw [HB.out]; exact H3.out⟩
    · have hn : s1.isNone = true := by rcases hbad.out with h | h; (exact h); omega
      have HN := Lib.hid hn
      have hd1 : decide ((65536 : Int) < (n : Int)) = false := decide_eq_false (by omega)
      have hd2 : decide ((leftS s1).length < n) = false := decide_eq_false (by omega)
      clear hn h1
      go_enter Try.func64, Try.ntmps64
      go_wp2_with fail
      refine KN.out.mono ?_
      rintro e w1 ⟨rfl, v1, h1, g1⟩
      have KL := Lib.hid (rLeft r B v1 s1 w1 h1)
      have KF := Lib.hid (rFail1 r B v1 s1 false w1 h1 (by rw [HN.out]; rfl))
      have G1 := Lib.hid g1
      clear h1 g1 KN
      go_wp2_with (first | (go_at_call 18; refine KL.out.mono ?_; rintro e w2 ⟨rfl, rfl⟩) | (go_at_call 58; (with_reducible refine KF.out.mono ?_); rintro e w3 ⟨rfl, h3⟩; have H3 := Lib.hid (h3.trans G1.out); clear h3))
      go_ret
      exact ⟨_, rfl, by rw [HB.out]; exact freshB_nil _ _, by rw [HB.out]; exact H3.out⟩
end Go.Proofs.Ythbalmoafpggdaa
