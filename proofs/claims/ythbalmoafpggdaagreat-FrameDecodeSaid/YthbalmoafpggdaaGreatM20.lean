/- The reference's Unframe: what it gives lies in blocks of its own. Frames: the reference's Decode. -/
import Derived.Test.YthbalmoafpggdaaGreatChecked
import Derived.WalkKit
import Derived.Outline
import Derived.WalkSpells
import Derived.WalkLawsBesides
import Derived.Deep.QuietTactic
import Derived.Deep.RegionWith
import Derived.Deep.DeepMust
import Derived.BigQuiet
import Derived.RegionTactic
import Derived.ChangeAlike
import Derived.StillTailTactics
import Derived.Deep.LoopGhost
import Derived.Deep.DeepCutAuto
import Derived.Deep.CutBlock
import Derived.Deep.AppendLies
import Derived.Test.YthbalmoafpggdaaGreatM1
import Derived.Test.YthbalmoafpggdaaGreatM16
import Derived.Test.YthbalmoafpggdaaGreatM18
import Derived.Test.YthbalmoafpggdaaGreatM13
namespace Go.Proofs.YthbalmoafpggdaaGreat
open Go.RowKit
set_option linter.unusedVariables false
set_option linter.unusedSimpArgs false
def RUnfPost (r : List Int) (k err : Nat) (w : World) (e : Ending) (w' : World) : Prop :=
  ∃ v, e = .returned (.tuple #[v, .int .i64 k, .int .i64 err]) ∧ w'.ownsRow w.heap.size 5 1 v r.length (r.map u8v) ∧ Below w.heap.size w w'
theorem refV_short (v : Value) (l : List Int) (w : World) (h : Rdv u8v w v l) (hl : l.length < 8) :
    Calls Tryz.prog 44 #[v] w (RUnfPost [] 0 22 w) := by
  obtain ⟨a, m, c, rfl⟩ := h.shape
  obtain ⟨rfl, h1, h2, h3⟩ := h.cap
  unfold maxLen at h2
  clear h3 h
  go_enter Tryz.func44, Tryz.ntmps44
  go_wp2
  go_ret3
  exact ⟨_, rfl, World.ownsRow_nil _ _ _ _, Below.refl _ _⟩
theorem refV_long1 (b o m c n : Nat) (w : World) (K : Hid (Calls Tryz.prog 85 #[.slice (some ⟨b, o, none⟩) 4 c] w fun e w' => e = .returned (.int .i64 (n : Int)) ∧ Drw w w')) (h8 : 8 ≤ m) (hc : m ≤ c) (h2 : c ≤ 9223372036854775807) (hlt : n < 4294967296) (hg : 1048576 < n) :
    Calls Tryz.prog 44 #[.slice (some ⟨b, o, none⟩) m c] w (RUnfPost [] 0 22 w) := by
  have n0 : ¬ c = 0 := by omega
  go_enter Tryz.func44, Tryz.ntmps44
  go_wp2_with (go_at_call 85; refine K.out.mono ?_; rintro e w' ⟨rfl, nd, rfl⟩)
  go_ret3
  exact ⟨_, rfl, World.ownsRow_nil _ _ _ _, (Drw.below ⟨nd, rfl⟩)⟩
theorem refV_long2 (b o m c n : Nat) (w : World) (K : Hid (Calls Tryz.prog 85 #[.slice (some ⟨b, o, none⟩) 4 c] w fun e w' => e = .returned (.int .i64 (n : Int)) ∧ Drw w w')) (h8 : 8 ≤ m) (hc : m ≤ c) (h2 : c ≤ 9223372036854775807) (hlt : n ≤ 1048576) (hg : m < n + 8) :
    Calls Tryz.prog 44 #[.slice (some ⟨b, o, none⟩) m c] w (RUnfPost [] 0 22 w) := by
  have n0 : ¬ c = 0 := by omega
  go_enter Tryz.func44, Tryz.ntmps44
  go_wp2_with (go_at_call 85; refine K.out.mono ?_; rintro e w' ⟨rfl, nd, rfl⟩)
  go_ret3
  exact ⟨_, rfl, World.ownsRow_nil _ _ _ _, (Drw.below ⟨nd, rfl⟩)⟩
set_option maxHeartbeats 2000000 in
set_option maxRecDepth 100000 in
theorem refV_bad (b o m c n s g : Nat) (r : List Int) (w : World) (K : Hid (Calls Tryz.prog 85 #[.slice (some ⟨b, o, none⟩) 4 c] w fun e w' => e = .returned (.int .i64 (n : Int)) ∧ Drw w w'))
    (KN : Hid (∀ w', Below w.heap.size w w' → Calls Tryz.prog 85 #[.slice (some ⟨b, o + 4, none⟩) 4 (c - 4)] w' fun e w2 => e = .returned (.int .i64 (g : Int)) ∧ Drw w' w2))
    (KO : Hid (∀ w', Below w.heap.size w w' → Calls Tryz.prog 61 #[.slice (some ⟨b, o + 8, none⟩) n (c - 8)] w' fun e w2 => e = .returned (.int .u32 (s : Int)) ∧ w' = w2))
    (hh : ∀ w', Below w.heap.size w w' → Rdv u8v w' (.slice (some ⟨b, o + 8, none⟩) n (c - 8)) r) (hrl : r.length = n)
    (h8 : 8 ≤ m) (hc : m ≤ c) (hc8 : ¬ c = 8) (h2 : c ≤ 9223372036854775807) (hlt : n ≤ 1048576) (hs : s < 4294967296) (hg : n + 8 ≤ m) (he : ((g : Int) != (s : Int)) = true) :
    Calls Tryz.prog 44 #[.slice (some ⟨b, o, none⟩) m c] w (RUnfPost [] 0 74 w) := by
  obtain ⟨i0, hi, hz0, hz1, hz2⟩ := info_parts Tryz.info5
  have n0 : ¬ c = 0 := by omega
  have n4 : ¬ c = 4 := by omega
  have HH := Lib.hid hh
  clear hh
  go_enter Tryz.func44, Tryz.ntmps44
  go_wp2_with fail
  refine K.out.mono ?_
  rintro e w1 ⟨rfl, nd, rfl⟩
  have b1 : Below w.heap.size w (w.drewN nd) := Drw.below ⟨nd, rfl⟩
  go_wp2_with fail
  refine (KN.out _ b1).mono ?_
  rintro e w1 ⟨rfl, nd2, rfl⟩
  have b2 : Below w.heap.size w (w.drewN (nd + nd2)) := Drw.below ⟨_, rfl⟩
  go_wp2_with fail
  refine (KO.out _ b2).mono ?_
  rintro e w1 ⟨rfl, rfl⟩
  go_wp2
  go_ret3
  exact ⟨_, rfl, World.ownsRow_nil _ _ _ _, b2⟩
set_option maxHeartbeats 2000000 in
set_option maxRecDepth 100000 in
theorem refV_bad8 (b o s g : Nat) (w : World) (K : Hid (Calls Tryz.prog 85 #[.slice (some ⟨b, o, none⟩) 4 8] w fun e w' => e = .returned (.int .i64 0) ∧ Drw w w'))
    (KN : Hid (∀ w', Below w.heap.size w w' → Calls Tryz.prog 85 #[.slice (some ⟨b, o + 4, none⟩) 4 4] w' fun e w2 => e = .returned (.int .i64 (g : Int)) ∧ Drw w' w2))
    (KO : Hid (∀ w', Below w.heap.size w w' → Calls Tryz.prog 61 #[.slice (some ⟨b, o, none⟩) 0 0] w' fun e w2 => e = .returned (.int .u32 (s : Int)) ∧ w' = w2))
    (hh : ∀ w', Below w.heap.size w w' → Rdv u8v w' (.slice (some ⟨b, o, none⟩) 0 0) [])
    (hs : s < 4294967296) (he : ((g : Int) != (s : Int)) = true) :
    Calls Tryz.prog 44 #[.slice (some ⟨b, o, none⟩) 8 8] w (RUnfPost [] 0 74 w) := by
  obtain ⟨i0, hi, hz0, hz1, hz2⟩ := info_parts Tryz.info5
  have HH := Lib.hid hh
  clear hh
  go_enter Tryz.func44, Tryz.ntmps44
  go_wp2_with fail
  refine K.out.mono ?_
  rintro e w1 ⟨rfl, nd, rfl⟩
  have b1 : Below w.heap.size w (w.drewN nd) := Drw.below ⟨nd, rfl⟩
  go_wp2_with fail
  refine (KN.out _ b1).mono ?_
  rintro e w1 ⟨rfl, nd2, rfl⟩
  have b2 : Below w.heap.size w (w.drewN (nd + nd2)) := Drw.below ⟨_, rfl⟩
  go_wp2_with fail
  refine (KO.out _ b2).mono ?_
  rintro e w1 ⟨rfl, rfl⟩
  go_wp2
  go_ret3
  exact ⟨_, rfl, World.ownsRow_nil _ _ _ _, b2⟩
set_option maxHeartbeats 2000000 in
set_option maxRecDepth 100000 in
theorem refV_good (b o m c n s g : Nat) (r : List Int) (w : World) (K : Hid (Calls Tryz.prog 85 #[.slice (some ⟨b, o, none⟩) 4 c] w fun e w' => e = .returned (.int .i64 (n : Int)) ∧ Drw w w'))
    (KN : Hid (∀ w', Below w.heap.size w w' → Calls Tryz.prog 85 #[.slice (some ⟨b, o + 4, none⟩) 4 (c - 4)] w' fun e w2 => e = .returned (.int .i64 (g : Int)) ∧ Drw w' w2))
    (KO : Hid (∀ w', Below w.heap.size w w' → Calls Tryz.prog 61 #[.slice (some ⟨b, o + 8, none⟩) n (c - 8)] w' fun e w2 => e = .returned (.int .u32 (s : Int)) ∧ w' = w2))
    (hh : ∀ w', Below w.heap.size w w' → Rdv u8v w' (.slice (some ⟨b, o + 8, none⟩) n (c - 8)) r) (hrl : r.length = n)
    (h8 : 8 ≤ m) (hc : m ≤ c) (hc8 : ¬ c = 8) (h2 : c ≤ 9223372036854775807) (hlt : n ≤ 1048576) (hs : s < 4294967296) (hg : n + 8 ≤ m) (he : ((g : Int) != (s : Int)) = false) :
    Calls Tryz.prog 44 #[.slice (some ⟨b, o, none⟩) m c] w (RUnfPost r (8 + n) 0 w) := by
  obtain ⟨i0, hi, hz0, hz1, hz2⟩ := info_parts Tryz.info5
  have n0 : ¬ c = 0 := by omega
  have n4 : ¬ c = 4 := by omega
  have HH := Lib.hid hh
  clear hh
  go_enter Tryz.func44, Tryz.ntmps44
  go_wp2_with fail
  refine K.out.mono ?_
  rintro e w1 ⟨rfl, nd, rfl⟩
  have b1 : Below w.heap.size w (w.drewN nd) := Drw.below ⟨nd, rfl⟩
  go_wp2_with fail
  refine (KN.out _ b1).mono ?_
  rintro e w1 ⟨rfl, nd2, rfl⟩
  have b2 : Below w.heap.size w (w.drewN (nd + nd2)) := Drw.below ⟨_, rfl⟩
  go_wp2_with fail
  refine (KO.out _ b2).mono ?_
  rintro e w1 ⟨rfl, rfl⟩
  have h0 := Lib.hid (HH.out _ b2)
  go_wp2_with (at_builtin; refine wpList_append_rd rfl _ _ 30 rfl w.heap.size 5 i0 (.int .u8 0) 1 Tryz.underlying30 hi hz0 hz1 hz2 rfl (.slice none 0 0) 0 [] rfl (World.ownsRow_nil _ _ _ _) _ u8v r rfl h0.out (fun _ => rfl) ?c1 ?c2 ?c3 ?_)
  case c1 => unfold maxLen; omega
  case c2 => omega
  case c3 => exact b2.size
  intro v4 w4 o4 g4 _
  have b4 := b2.grown g4 b2.size (fun q hq => by simp [Value.ownBlock] at hq)
  have O4 : Hid (w4.ownsRow w.heap.size 5 1 v4 r.length (r.map u8v)) := Lib.hid (by rw [hrl]; simpa using o4)
  clear o4 g4
  go_wp2
  go_ret3
  exact ⟨_, rfl, O4.out, b4⟩
set_option maxHeartbeats 2000000 in
set_option maxRecDepth 100000 in
theorem refV_good8 (b o s g : Nat) (w : World) (K : Hid (Calls Tryz.prog 85 #[.slice (some ⟨b, o, none⟩) 4 8] w fun e w' => e = .returned (.int .i64 0) ∧ Drw w w'))
    (KN : Hid (∀ w', Below w.heap.size w w' → Calls Tryz.prog 85 #[.slice (some ⟨b, o + 4, none⟩) 4 4] w' fun e w2 => e = .returned (.int .i64 (g : Int)) ∧ Drw w' w2))
    (KO : Hid (∀ w', Below w.heap.size w w' → Calls Tryz.prog 61 #[.slice (some ⟨b, o, none⟩) 0 0] w' fun e w2 => e = .returned (.int .u32 (s : Int)) ∧ w' = w2))
    (hh : ∀ w', Below w.heap.size w w' → Rdv u8v w' (.slice (some ⟨b, o, none⟩) 0 0) [])
    (hs : s < 4294967296) (he : ((g : Int) != (s : Int)) = false) :
    Calls Tryz.prog 44 #[.slice (some ⟨b, o, none⟩) 8 8] w (RUnfPost [] 8 0 w) := by
  obtain ⟨i0, hi, hz0, hz1, hz2⟩ := info_parts Tryz.info5
  have HH := Lib.hid hh
  clear hh
  go_enter Tryz.func44, Tryz.ntmps44
  go_wp2_with fail
  refine K.out.mono ?_
  rintro e w1 ⟨rfl, nd, rfl⟩
  have b1 : Below w.heap.size w (w.drewN nd) := Drw.below ⟨nd, rfl⟩
  go_wp2_with fail
  refine (KN.out _ b1).mono ?_
  rintro e w1 ⟨rfl, nd2, rfl⟩
  have b2 : Below w.heap.size w (w.drewN (nd + nd2)) := Drw.below ⟨_, rfl⟩
  go_wp2_with fail
  refine (KO.out _ b2).mono ?_
  rintro e w1 ⟨rfl, rfl⟩
  have h0 := Lib.hid (HH.out _ b2)
  go_wp2_with (at_builtin; refine wpList_append_rd rfl _ _ 30 rfl w.heap.size 5 i0 (.int .u8 0) 1 Tryz.underlying30 hi hz0 hz1 hz2 rfl (.slice none 0 0) 0 [] rfl (World.ownsRow_nil _ _ _ _) _ u8v [] rfl h0.out (fun _ => rfl) ?c1 ?c2 ?c3 ?_)
  case c1 => simp
  case c2 => simp
  case c3 => exact b2.size
  intro v4 w4 o4 g4 _
  have b4 := b2.grown g4 b2.size (fun q hq => by simp [Value.ownBlock] at hq)
  have O4 : Hid (w4.ownsRow w.heap.size 5 1 v4 ([] : List Int).length (([] : List Int).map u8v)) := Lib.hid (by simpa using o4)
  clear o4 g4
  go_wp2
  go_ret3
  exact ⟨_, rfl, O4.out, b4⟩
theorem refUnframe2 (v : Value) (l : List Int) (w : World) (h : Rdv u8v w v l) (hb : Byt l) :
    Calls Tryz.prog 44 #[v] w (RUnfPost (unfL l).1 (unfL l).2.1 (unfL l).2.2 w) := by
  rw [unfL_if]
  by_cases h8 : l.length < 8
  · have e : ∀ n s g r, unfIf l.length n s g r = ([], 0, 22) := fun n s g r => by unfold unfIf; rw [if_pos h8]
    rw [e]
    exact refV_short v l w h h8
  obtain ⟨a, m, c, rfl⟩ := h.shape
  obtain ⟨rfl, h1, h2, h3⟩ := h.cap
  unfold maxLen at h2
  obtain ⟨b, o, rfl⟩ := h3 (fun e => by rw [e] at h8; simp at h8)
  have hd8 := h.drop 8 (by omega)
  have hd4 := h.drop 4 (by omega)
  have ht4 := h.take 4 c (by omega) (by omega) (Nat.le_refl _)
  have hd44 := hd4.take 4 (c - 4) (by omega) (by omega) (Nat.le_refl _)
  have K := crcRefNum _ _ w ht4 (hb.take 4) (by simp; omega)
  rw [get4_take l (by omega)] at K
  have KN : ∀ w', Below w.heap.size w w' → Calls Tryz.prog 85 #[.slice (some ⟨b, o + 4, none⟩) 4 (c - 4)] w' fun e w2 => e = .returned (.int .i64 (get4 (l.drop 4) : Nat)) ∧ Drw w' w2 := by
    intro w' hbw
    have := crcRefNum _ _ w' (hd44.below hbw) ((hb.drop 4).take 4) (by simp; omega)
    rwa [get4_take _ (by simp; omega)] at this
  have hlt := get4_lt hb
  by_cases hg : 1048576 < get4 l ∨ l.length < get4 l + 8
  · have e : ∀ s g r, unfIf l.length (get4 l) s g r = ([], 0, 22) := fun s g r => by unfold unfIf; rw [if_neg h8, if_pos hg]
    rw [e]
    clear e KN
    generalize get4 l = n at *
    by_cases hg1 : 1048576 < n
    · exact refV_long1 b o _ c n w (Lib.hid K) (by omega) h1 h2 hlt hg1
    · exact refV_long2 b o _ c n w (Lib.hid K) (by omega) h1 h2 (by omega) (by omega)
  have E : ∀ s g r, unfIf l.length (get4 l) s g r = if s = g then (r, 8 + get4 l, 0) else ([], 0, 74) := fun s g r => by unfold unfIf; rw [if_neg h8, if_neg hg]
  rw [E]
  clear E
  generalize get4 l = n at *
  have hcl := crcOf_lt ((hb.drop 8).take n)
  by_cases hc8 : c = 8
  · have hl8 : l.length = 8 := by omega
    have hn0 : n = 0 := by omega
    subst hc8
    subst hn0
    rw [hl8] at h ⊢
    have e0 : (l.drop 8).take 0 = [] := by simp
    rw [e0] at hcl ⊢
    have KO : ∀ w', Below w.heap.size w w' → Calls Tryz.prog 61 #[.slice (some ⟨b, o, none⟩) 0 0] w' fun e w2 => e = .returned (.int .u32 (crcOf [] : Nat)) ∧ w' = w2 :=
      fun w' _ => refOf _ _ w' (Rdv.empty u8v _ _ 0 (Nat.zero_le _)) (fun q hq => by cases hq)
    have hh : ∀ w', Below w.heap.size w w' → Rdv u8v w' (.slice (some ⟨b, o, none⟩) 0 0) [] := fun w' _ => Rdv.empty u8v _ _ 0 (Nat.zero_le _)
    generalize crcOf [] = s at *
    generalize get4 (l.drop 4) = g at *
    by_cases he : s = g
    · rw [if_pos he]
      exact refV_good8 b o s g w (Lib.hid K) (Lib.hid KN) (Lib.hid KO) hh hcl (by simp [he])
    · rw [if_neg he]
      exact refV_bad8 b o s g w (Lib.hid K) (Lib.hid KN) (Lib.hid KO) hh hcl (by simp; omega)
  have hh := hd8.take n (c - 8) (by omega) (by omega) (Nat.le_refl _)
  have KO : ∀ w', Below w.heap.size w w' → Calls Tryz.prog 61 #[.slice (some ⟨b, o + 8, none⟩) n (c - 8)] w' fun e w2 => e = .returned (.int .u32 (crcOf ((l.drop 8).take n) : Nat)) ∧ w' = w2 :=
    fun w' hbw => refOf _ _ w' (hh.below hbw) ((hb.drop 8).take n)
  have hln : ((l.drop 8).take n).length = n := by simp; omega
  have hh' : ∀ w', Below w.heap.size w w' → Rdv u8v w' (.slice (some ⟨b, o + 8, none⟩) n (c - 8)) ((l.drop 8).take n) := fun w' hbw => hh.below hbw
  generalize (l.drop 8).take n = r at *
  generalize crcOf r = s at *
  generalize get4 (l.drop 4) = g at *
  by_cases he : s = g
  · rw [if_pos he]
    exact refV_good b o _ c n s g r w (Lib.hid K) (Lib.hid KN) (Lib.hid KO) hh' hln (by omega) h1 hc8 h2 (by omega) hcl (by omega) (by simp [he])
  · rw [if_neg he]
    exact refV_bad b o _ c n s g r w (Lib.hid K) (Lib.hid KN) (Lib.hid KO) hh' hln (by omega) h1 hc8 h2 (by omega) hcl (by omega) (by simp; omega)
end Go.Proofs.YthbalmoafpggdaaGreat
namespace Go.Proofs.YthbalmoafpggdaaGreat
open Go.RowKit
set_option linter.unusedVariables false
set_option linter.unusedSimpArgs false
/-- While the reference reads a frame's head. -/
structure FrM (w1 : World) (fb r B : Nat) (cs : Array Value) (v : Value) (s : RS) (w' : World) : Prop where
  rf : Rf w' r B v s
  inB : B < w'.heap.size
  bel : Below w1.heap.size w1 w'
  fr : Blk w' fb cs 26
  ord : w1.heap.size ≤ r ∧ w1.heap.size ≤ fb ∧ r ≠ fb ∧ B ≠ fb
theorem FrM.step {w1 w2 w3 : World} {fb r B : Nat} {cs : Array Value} {v : Value} {s s' : RS} (h : FrM w1 fb r B cs v s w2) (hs : FStep r B w2 s' w3) : ∃ v', FrM w1 fb r B cs v' s' w3 := by
  obtain ⟨v', h1, h2⟩ := hs
  have ho := h.ord
  exact ⟨v', h1, Nat.lt_of_lt_of_le h.inB h2.size, h2.below_trans h.bel h.bel.size (fun i hi e => by omega), h2.blk h.fr (fun e => ho.2.2.1 e.symm), ho⟩
theorem FrM.below {w1 w2 w3 : World} {fb r B : Nat} {cs : Array Value} {v : Value} {s : RS} (h : FrM w1 fb r B cs v s w2) (hb : Below w2.heap.size w2 w3) : FrM w1 fb r B cs v s w3 :=
  ⟨h.rf.below hb, Nat.lt_of_lt_of_le h.inB hb.size, h.bel.trans (hb.mono h.bel.size), blkBelow hb h.fr h.fr.lt, h.ord⟩
theorem FrM.put {w1 w2 : World} {fb r B : Nat} {cs : Array Value} {v : Value} {s : RS} (h : FrM w1 fb r B cs v s w2) (i : Nat) (u : Value) : FrM w1 fb r B (cs.setIfInBounds i u) v s (w2.setCell ⟨fb, i, none⟩ u) := by
  have g : Chg (· = fb) w2 (w2.setCell ⟨fb, i, none⟩ u) := Chg.set (S := (· = fb)) (Chg.refl _ _) (p := ⟨fb, i, none⟩) (fun _ => rfl) u
  exact ⟨h.rf.chg g (fun e => h.ord.2.2.1 e) (fun e => h.ord.2.2.2 e), by simpa [World.setCell] using h.inB, h.bel.setCell (by simp only; exact h.ord.2.1) _, h.fr.set i u, h.ord⟩
theorem frNum {w1 w2 : World} {fb r B : Nat} {cs : Array Value} {v : Value} {s : RS} (h : FrM w1 fb r B cs v s w2) {n : Nat} {s' : RS} (hq : numS s = (n, s')) : Calls Tryz.prog 45 #[.pointer (some ⟨r, 0, none⟩)] w2 fun e w' => e = .returned (.int .i64 (n : Nat)) ∧ (∃ v', FrM w1 fb r B cs v' s' w') ∧ Chg (· = r) w2 w' := by
  refine (fNum r B v s w2 h.rf).mono ?_
  rintro e w3 ⟨he, hs⟩
  rw [hq] at he hs
  refine ⟨he, h.step hs, ?_⟩
  obtain ⟨_, _, g⟩ := hs
  exact g
theorem frTruth {w1 w2 : World} {fb r B : Nat} {cs : Array Value} {v : Value} {s : RS} (h : FrM w1 fb r B cs v s w2) {n : Bool} {s' : RS} (hq : truthS s = (n, s')) : Calls Tryz.prog 46 #[.pointer (some ⟨r, 0, none⟩)] w2 fun e w' => e = .returned (.bool n) ∧ ∃ v', FrM w1 fb r B cs v' s' w' := by
  refine (fTruth r B v s w2 h.rf).mono ?_
  rintro e w3 ⟨he, hs⟩
  rw [hq] at he hs
  exact ⟨he, h.step hs⟩
theorem frVector {w1 w2 : World} {fb r B : Nat} {cs : Array Value} {v : Value} {s : RS} (h : FrM w1 fb r B cs v s w2) {n : List Int} {s' : RS} (hq : vecS s = (n, s')) : Calls Tryz.prog 47 #[.pointer (some ⟨r, 0, none⟩)] w2 fun e w' => (∃ va vc, e = .returned (.slice va n.length vc) ∧ RdK 0 2 i64v w' (.slice va n.length vc) n) ∧ ∃ v', FrM w1 fb r B cs v' s' w' := by
  refine (fVector r B v s w2 h.rf h.inB).mono ?_
  rintro e w3 ⟨u, he, hf, hs⟩
  rw [hq] at hs hf
  obtain ⟨ua, uc, rfl, _, _, _⟩ := own_shape hf
  exact ⟨⟨ua, uc, he, RdK.of_own (enc := i64v) hf⟩, h.step hs⟩
/-- While the reference reads the operations. -/
structure FrL (w1 : World) (fb r B : Nat) (h : HdS) (va : Option Addr) (vc : Nat) (ov : Value) (ps : List ODS) (v : Value) (s : RS) (wr : World) : Prop where
  l : FdL w1 fb h va vc ov ps wr
  rf : Rf wr r B v s
  inB : B < wr.heap.size
  ord : w1.heap.size ≤ r ∧ r ≠ fb ∧ B ≠ fb ∧ (B < w1.heap.size ∨ B = r)
theorem FdL.chg {w1 wr wr' : World} {fb r : Nat} {h : HdS} {va : Option Addr} {vc : Nat} {ov : Value} {ps : List ODS} {cr : Array Value} (H : FdL w1 fb h va vc ov ps wr) (hr : Blk wr r cr 79) (hw : w1.heap.size ≤ r) (g : Chg (· = r) wr wr') : FdL w1 fb h va vc ov ps wr' := by
  have e1 : 79 ≠ 26 := by decide
  have e2 : 79 ≠ 2 := by decide
  have e3 : 79 ≠ 5 := by decide
  have e4 : 79 ≠ 46 := by decide
  have hK : ∀ k, k = r → 0 ≤ k ∧ (∀ cs, ¬ Blk wr k cs 5) ∧ (∀ cs, ¬ Blk wr k cs 2) ∧ ∀ cs, ¬ Blk wr k cs 46 := by
    rintro k rfl
    exact ⟨Nat.zero_le _, fun _ => blk_ne hr e3, fun _ => blk_ne hr e2, fun _ => blk_ne hr e4⟩
  exact ⟨H.own.chg g hK, g.blk H.fr (fun e => blk_ne (e ▸ hr) e1 H.fr), H.vk.chg g (fun k hk => ⟨(hK k hk).1, (hK k hk).2.2.1⟩), g.below_trans H.bel H.bel.size (fun i hi e => by omega), H.fbn⟩
theorem FrL.below {w1 wr wr' : World} {fb r B : Nat} {h : HdS} {va : Option Addr} {vc : Nat} {ov : Value} {ps : List ODS} {v : Value} {s : RS} (H : FrL w1 fb r B h va vc ov ps v s wr) (hb : Below wr.heap.size wr wr') : FrL w1 fb r B h va vc ov ps v s wr' :=
  ⟨H.l.below hb, H.rf.below hb, Nat.lt_of_lt_of_le H.inB hb.size, H.ord⟩
theorem FrL.step {w1 wr wr' : World} {fb r B : Nat} {h : HdS} {va : Option Addr} {vc : Nat} {ov : Value} {ps : List ODS} {v : Value} {s s' : RS} (H : FrL w1 fb r B h va vc ov ps v s wr) (hs : FStep r B wr s' wr') : ∃ v', FrL w1 fb r B h va vc ov ps v' s' wr' := by
  obtain ⟨v', h1, h2⟩ := hs
  exact ⟨v', H.l.chg H.rf.blk H.ord.1 h2, h1, Nat.lt_of_lt_of_le H.inB h2.size, H.ord⟩
/-- An operation more, and the reader behind it. -/
theorem FrL.push {w1 wr w4 : World} {fb r B n : Nat} {h : HdS} {va : Option Addr} {vc : Nat} {ov ov' : Value} {ps : List ODS} {q : Opr} {d s v : Value} {rs : RS} (H : FrL w1 fb r B h va vc ov ps v rs wr) (g : wr.grownBy w4 ov.ownBlock) (ho : w4.ownsRow w1.heap.size 46 11 ov' n (odrow ps ++ opC q d s)) (hn : n = ps.length + 1)
    (hd : RdK 0 5 u8v wr d q.data) (hs : RdK 0 2 i64v wr s q.seen) : FrL w1 fb r B h va vc ov' (ps ++ [(q, d, s)]) v rs (w4.setCell ⟨fb, 7, none⟩ ov') := by
  have e1 : 46 ≠ 79 := by decide
  have gc : Chg (fun k => ov.ownBlock = some k) wr w4 := (Chg.refl (fun k => ov.ownBlock = some k) wr).grown g (fun _ e _ => e)
  have g4 : Chg (· = fb) w4 (w4.setCell ⟨fb, 7, none⟩ ov') := Chg.set (S := (· = fb)) (Chg.refl _ _) (p := ⟨fb, 7, none⟩) (fun _ => rfl) ov'
  have hr : ov.ownBlock ≠ some r := fun e => by
    obtain ⟨_, cs, hb⟩ := own_typ H.l.own.own e
    exact blk_ne hb e1 H.rf.blk
  have hB : ov.ownBlock ≠ some B := fun e => by
    obtain ⟨h1, cs, hb⟩ := own_typ H.l.own.own e
    rcases H.ord.2.2.2 with h2 | h2
    · omega
    · rw [h2] at e; exact hr e
  exact ⟨H.l.push g ho hn hd hs, (H.rf.chg gc hr hB).chg g4 H.ord.2.1 H.ord.2.2.1, by have := gc.size; have := H.inB; simp [World.setCell]; omega, H.ord⟩
theorem FrL.rest {w1 wr : World} {fb r B : Nat} {h : HdS} {va : Option Addr} {vc : Nat} {ov : Value} {ps : List ODS} {v : Value} {q : List Int} (H : FrL w1 fb r B h va vc ov ps v (some q) wr) (v' : Value) (l' : List Int) (hr : Rdv u8v wr v' l') (hin : v' = .slice none 0 0 ∨ ∃ o n c, v' = .slice (some ⟨B, o, none⟩) n c) (hb : Byt l') (hl : l'.length ≤ 100000000000) (hne : (∃ o n c, v' = .slice (some ⟨B, o, none⟩) n c) → B ≠ r) :
    FrL w1 fb r B h va vc ov ps v' (some l') (wr.setCell ⟨r, 0, none⟩ v') := by
  have g : Chg (· = r) wr (wr.setCell ⟨r, 0, none⟩ v') := Chg.set (S := (· = r)) (Chg.refl _ _) (p := ⟨r, 0, none⟩) (fun _ => rfl) _
  exact ⟨H.l.chg H.rf.blk H.ord.1 g, H.rf.put0 v' l' rfl hr hin hb hl hne, by simpa [World.setCell] using H.inB, H.ord⟩
end Go.Proofs.YthbalmoafpggdaaGreat
