/- The reference's Unframe. -/
import Derived.Test.YtgpfkdlnmifiiaaChecked
import Derived.WalkKit
import Derived.Outline
import Derived.WalkSpells
import Derived.WalkLawsBesides
import Derived.Deep.QuietTactic
import Derived.Deep.RegionWith
import Derived.Deep.DeepMust
import Derived.BigQuiet
import Derived.Test.YtgpfkdlnmifiiaaMem
import Derived.RegionTactic
import Derived.ChangeAlike
import Derived.StillTailTactics
import Derived.Deep.LoopGhost
import Derived.Test.YtgpfkdlnmifiiaaCrcR
namespace Go.Proofs.Ytgpfkdlnmifiiaa
open Go.RowKit
set_option linter.unusedVariables false
set_option linter.unusedSimpArgs false
theorem refU_short (v : Value) (l : List Int) (w : World) (h : Rdv u8v w v l) (hl : l.length < 8) :
    Calls Try.prog 52 #[v] w (UnfPost [] 0 22 w) := by
  obtain ⟨a, m, c, rfl⟩ := h.shape
  obtain ⟨rfl, h1, h2, h3⟩ := h.cap
  unfold maxLen at h2
  clear h3 h
  go_enter Try.func52, Try.ntmps52
  go_wp2
  go_ret3
  exact ⟨_, rfl, Rdv.nil _ _, Below.refl _ _⟩
theorem refU_long1 (b o m c n : Nat) (w : World) (K : Hid (Calls Try.prog 95 #[.slice (some ⟨b, o, none⟩) 4 c] w fun e w' => e = .returned (.int .i64 (n : Int)) ∧ Drw w w')) (h8 : 8 ≤ m) (hc : m ≤ c) (h2 : c ≤ 9223372036854775807) (hlt : n < 4294967296) (hg : 1048576 < n) :
    Calls Try.prog 52 #[.slice (some ⟨b, o, none⟩) m c] w (UnfPost [] 0 22 w) := by
  have n0 : ¬ c = 0 := by omega
  go_enter Try.func52, Try.ntmps52
  go_wp2_with (go_at_call 95; refine K.out.mono ?_; rintro e w' ⟨rfl, nd, rfl⟩)
  go_ret3
  exact ⟨_, rfl, Rdv.nil _ _, (Drw.below ⟨nd, rfl⟩)⟩
theorem refU_long2 (b o m c n : Nat) (w : World) (K : Hid (Calls Try.prog 95 #[.slice (some ⟨b, o, none⟩) 4 c] w fun e w' => e = .returned (.int .i64 (n : Int)) ∧ Drw w w')) (h8 : 8 ≤ m) (hc : m ≤ c) (h2 : c ≤ 9223372036854775807) (hlt : n ≤ 1048576) (hg : m < n + 8) :
    Calls Try.prog 52 #[.slice (some ⟨b, o, none⟩) m c] w (UnfPost [] 0 22 w) := by
  have n0 : ¬ c = 0 := by omega
  go_enter Try.func52, Try.ntmps52
  go_wp2_with (go_at_call 95; refine K.out.mono ?_; rintro e w' ⟨rfl, nd, rfl⟩)
  go_ret3
  exact ⟨_, rfl, Rdv.nil _ _, (Drw.below ⟨nd, rfl⟩)⟩
set_option maxHeartbeats 2000000 in
set_option maxRecDepth 100000 in
theorem refU_bad (b o m c n s g : Nat) (r : List Int) (w : World) (K : Hid (Calls Try.prog 95 #[.slice (some ⟨b, o, none⟩) 4 c] w fun e w' => e = .returned (.int .i64 (n : Int)) ∧ Drw w w'))
    (KN : Hid (∀ w', Below w.heap.size w w' → Calls Try.prog 95 #[.slice (some ⟨b, o + 4, none⟩) 4 (c - 4)] w' fun e w2 => e = .returned (.int .i64 (g : Int)) ∧ Drw w' w2))
    (KO : Hid (∀ w', Below w.heap.size w w' → Calls Try.prog 47 #[.slice (some ⟨b, o + 8, none⟩) n (c - 8)] w' fun e w2 => e = .returned (.int .u32 (s : Int)) ∧ w' = w2))
    (hh : ∀ w', Below w.heap.size w w' → Rdv u8v w' (.slice (some ⟨b, o + 8, none⟩) n (c - 8)) r) (hrl : r.length = n)
    (h8 : 8 ≤ m) (hc : m ≤ c) (hc8 : ¬ c = 8) (h2 : c ≤ 9223372036854775807) (hlt : n ≤ 1048576) (hs : s < 4294967296) (hg : n + 8 ≤ m) (he : ((g : Int) != (s : Int)) = true) :
    Calls Try.prog 52 #[.slice (some ⟨b, o, none⟩) m c] w (UnfPost [] 0 74 w) := by
  obtain ⟨i0, hi, hz0, hz1, hz2⟩ := info_parts Try.info5
  have n0 : ¬ c = 0 := by omega
  have n4 : ¬ c = 4 := by omega
  have HH := Lib.hid hh
  clear hh
  go_enter Try.func52, Try.ntmps52
  go_wp2_with fail
  refine K.out.mono ?_
  rintro e w1 ⟨rfl, nd, rfl⟩
  have b1 : Below w.heap.size w (w.drewN nd) := Drw.below ⟨nd, rfl⟩
  go_wp2_with fail
  refine (KN.out _ b1).mono ?_
  rintro e w1 ⟨rfl, nd2, rfl⟩
  have b2 : Below w.heap.size w (w.drewN (nd + nd2)) := Drw.below ⟨_, rfl⟩
  go_wp2_with fail
  refine (KO.out _ b2).mono ?_
  rintro e w1 ⟨rfl, rfl⟩
  go_wp2
  go_ret3
  exact ⟨_, rfl, Rdv.nil _ _, b2⟩
set_option maxHeartbeats 2000000 in
set_option maxRecDepth 100000 in
theorem refU_bad8 (b o s g : Nat) (w : World) (K : Hid (Calls Try.prog 95 #[.slice (some ⟨b, o, none⟩) 4 8] w fun e w' => e = .returned (.int .i64 0) ∧ Drw w w'))
    (KN : Hid (∀ w', Below w.heap.size w w' → Calls Try.prog 95 #[.slice (some ⟨b, o + 4, none⟩) 4 4] w' fun e w2 => e = .returned (.int .i64 (g : Int)) ∧ Drw w' w2))
    (KO : Hid (∀ w', Below w.heap.size w w' → Calls Try.prog 47 #[.slice (some ⟨b, o, none⟩) 0 0] w' fun e w2 => e = .returned (.int .u32 (s : Int)) ∧ w' = w2))
    (hh : ∀ w', Below w.heap.size w w' → Rdv u8v w' (.slice (some ⟨b, o, none⟩) 0 0) [])
    (hs : s < 4294967296) (he : ((g : Int) != (s : Int)) = true) :
    Calls Try.prog 52 #[.slice (some ⟨b, o, none⟩) 8 8] w (UnfPost [] 0 74 w) := by
  obtain ⟨i0, hi, hz0, hz1, hz2⟩ := info_parts Try.info5
  have HH := Lib.hid hh
  clear hh
  go_enter Try.func52, Try.ntmps52
  go_wp2_with fail
  refine K.out.mono ?_
  rintro e w1 ⟨rfl, nd, rfl⟩
  have b1 : Below w.heap.size w (w.drewN nd) := Drw.below ⟨nd, rfl⟩
  go_wp2_with fail
  refine (KN.out _ b1).mono ?_
  rintro e w1 ⟨rfl, nd2, rfl⟩
  have b2 : Below w.heap.size w (w.drewN (nd + nd2)) := Drw.below ⟨_, rfl⟩
  go_wp2_with fail
  refine (KO.out _ b2).mono ?_
  rintro e w1 ⟨rfl, rfl⟩
  go_wp2
  go_ret3
  exact ⟨_, rfl, Rdv.nil _ _, b2⟩
set_option maxHeartbeats 2000000 in
set_option maxRecDepth 100000 in
theorem refU_good (b o m c n s g : Nat) (r : List Int) (w : World) (K : Hid (Calls Try.prog 95 #[.slice (some ⟨b, o, none⟩) 4 c] w fun e w' => e = .returned (.int .i64 (n : Int)) ∧ Drw w w'))
    (KN : Hid (∀ w', Below w.heap.size w w' → Calls Try.prog 95 #[.slice (some ⟨b, o + 4, none⟩) 4 (c - 4)] w' fun e w2 => e = .returned (.int .i64 (g : Int)) ∧ Drw w' w2))
    (KO : Hid (∀ w', Below w.heap.size w w' → Calls Try.prog 47 #[.slice (some ⟨b, o + 8, none⟩) n (c - 8)] w' fun e w2 => e = .returned (.int .u32 (s : Int)) ∧ w' = w2))
    (hh : ∀ w', Below w.heap.size w w' → Rdv u8v w' (.slice (some ⟨b, o + 8, none⟩) n (c - 8)) r) (hrl : r.length = n)
    (h8 : 8 ≤ m) (hc : m ≤ c) (hc8 : ¬ c = 8) (h2 : c ≤ 9223372036854775807) (hlt : n ≤ 1048576) (hs : s < 4294967296) (hg : n + 8 ≤ m) (he : ((g : Int) != (s : Int)) = false) :
    Calls Try.prog 52 #[.slice (some ⟨b, o, none⟩) m c] w (UnfPost r (8 + n) 0 w) := by
  obtain ⟨i0, hi, hz0, hz1, hz2⟩ := info_parts Try.info5
  have n0 : ¬ c = 0 := by omega
  have n4 : ¬ c = 4 := by omega
  have HH := Lib.hid hh
  clear hh
  go_enter Try.func52, Try.ntmps52
  go_wp2_with fail
  refine K.out.mono ?_
  rintro e w1 ⟨rfl, nd, rfl⟩
  have b1 : Below w.heap.size w (w.drewN nd) := Drw.below ⟨nd, rfl⟩
  go_wp2_with fail
  refine (KN.out _ b1).mono ?_
  rintro e w1 ⟨rfl, nd2, rfl⟩
  have b2 : Below w.heap.size w (w.drewN (nd + nd2)) := Drw.below ⟨_, rfl⟩
  go_wp2_with fail
  refine (KO.out _ b2).mono ?_
  rintro e w1 ⟨rfl, rfl⟩
  have h0 := Lib.hid (HH.out _ b2)
  go_wp2_with (at_builtin; refine wpList_append_rd rfl _ _ 46 rfl w.heap.size 5 i0 (.int .u8 0) 1 Try.underlying46 hi hz0 hz1 hz2 rfl (.slice none 0 0) 0 [] rfl (World.ownsRow_nil _ _ _ _) _ u8v r rfl h0.out (fun _ => rfl) ?c1 ?c2 ?c3 ?_)
  case c1 => unfold maxLen; omega
  case c2 => omega
  case c3 => exact b2.size
  intro v4 w4 o4 g4 _
  have b4 := b2.grown g4 b2.size (fun q hq => by simp [Value.ownBlock] at hq)
  have r4 : Rdv u8v w4 v4 r := Rdv.of_owns (enc := u8v) (xs := r) o4
  clear o4 g4
  go_wp2
  go_ret3
  exact ⟨_, rfl, r4, b4⟩
set_option maxHeartbeats 2000000 in
set_option maxRecDepth 100000 in
theorem refU_good8 (b o s g : Nat) (w : World) (K : Hid (Calls Try.prog 95 #[.slice (some ⟨b, o, none⟩) 4 8] w fun e w' => e = .returned (.int .i64 0) ∧ Drw w w'))
    (KN : Hid (∀ w', Below w.heap.size w w' → Calls Try.prog 95 #[.slice (some ⟨b, o + 4, none⟩) 4 4] w' fun e w2 => e = .returned (.int .i64 (g : Int)) ∧ Drw w' w2))
    (KO : Hid (∀ w', Below w.heap.size w w' → Calls Try.prog 47 #[.slice (some ⟨b, o, none⟩) 0 0] w' fun e w2 => e = .returned (.int .u32 (s : Int)) ∧ w' = w2))
    (hh : ∀ w', Below w.heap.size w w' → Rdv u8v w' (.slice (some ⟨b, o, none⟩) 0 0) [])
    (hs : s < 4294967296) (he : ((g : Int) != (s : Int)) = false) :
    Calls Try.prog 52 #[.slice (some ⟨b, o, none⟩) 8 8] w (UnfPost [] 8 0 w) := by
  obtain ⟨i0, hi, hz0, hz1, hz2⟩ := info_parts Try.info5
  have HH := Lib.hid hh
  clear hh
  go_enter Try.func52, Try.ntmps52
  go_wp2_with fail
  refine K.out.mono ?_
  rintro e w1 ⟨rfl, nd, rfl⟩
  have b1 : Below w.heap.size w (w.drewN nd) := Drw.below ⟨nd, rfl⟩
  go_wp2_with fail
  refine (KN.out _ b1).mono ?_
  rintro e w1 ⟨rfl, nd2, rfl⟩
  have b2 : Below w.heap.size w (w.drewN (nd + nd2)) := Drw.below ⟨_, rfl⟩
  go_wp2_with fail
  refine (KO.out _ b2).mono ?_
  rintro e w1 ⟨rfl, rfl⟩
  have h0 := Lib.hid (HH.out _ b2)
  go_wp2_with (at_builtin; refine wpList_append_rd rfl _ _ 46 rfl w.heap.size 5 i0 (.int .u8 0) 1 Try.underlying46 hi hz0 hz1 hz2 rfl (.slice none 0 0) 0 [] rfl (World.ownsRow_nil _ _ _ _) _ u8v [] rfl h0.out (fun _ => rfl) ?c1 ?c2 ?c3 ?_)
  case c1 => simp
  case c2 => simp
  case c3 => exact b2.size
  intro v4 w4 o4 g4 _
  have b4 := b2.grown g4 b2.size (fun q hq => by simp [Value.ownBlock] at hq)
  have r4 : Rdv u8v w4 v4 [] := Rdv.of_owns (enc := u8v) (xs := []) o4
  clear o4 g4
  go_wp2
  go_ret3
  exact ⟨_, rfl, r4, b4⟩
theorem get4_take (l : List Int) (h : 4 ≤ l.length) : get4 (l.take 4) = get4 l := by
  unfold get4
  simp [List.getD_eq_getElem?_getD, List.getElem?_take_of_lt]
theorem refUnframe (v : Value) (l : List Int) (w : World) (h : Rdv u8v w v l) (hb : Byt l) :
    Calls Try.prog 52 #[v] w (UnfPost (unfL l).1 (unfL l).2.1 (unfL l).2.2 w) := by
  rw [unfL_if]
  by_cases h8 : l.length < 8
  · have e : ∀ n s g r, unfIf l.length n s g r = ([], 0, 22) := fun n s g r => by unfold unfIf; rw [if_pos h8]
    rw [e]
    exact refU_short v l w h h8
  obtain ⟨a, m, c, rfl⟩ := h.shape
  obtain ⟨rfl, h1, h2, h3⟩ := h.cap
  unfold maxLen at h2
  obtain ⟨b, o, rfl⟩ := h3 (fun e => by rw [e] at h8; simp at h8)
  have hd8 := h.drop 8 (by omega)
  have hd4 := h.drop 4 (by omega)
  have ht4 := h.take 4 c (by omega) (by omega) (Nat.le_refl _)
  have hd44 := hd4.take 4 (c - 4) (by omega) (by omega) (Nat.le_refl _)
  have K := refNum _ _ w ht4 (hb.take 4) (by simp; omega)
  rw [get4_take l (by omega)] at K
  have KN : ∀ w', Below w.heap.size w w' → Calls Try.prog 95 #[.slice (some ⟨b, o + 4, none⟩) 4 (c - 4)] w' fun e w2 => e = .returned (.int .i64 (get4 (l.drop 4) : Nat)) ∧ Drw w' w2 := by
    intro w' hbw
    have := refNum _ _ w' (hd44.below hbw) ((hb.drop 4).take 4) (by simp; omega)
    rwa [get4_take _ (by simp; omega)] at this
  have hlt := get4_lt hb
  by_cases hg : 1048576 < get4 l ∨ l.length < get4 l + 8
  · have e : ∀ s g r, unfIf l.length (get4 l) s g r = ([], 0, 22) := fun s g r => by unfold unfIf; rw [if_neg h8, if_pos hg]
    rw [e]
    clear e KN
    generalize get4 l = n at *
    by_cases hg1 : 1048576 < n
    · exact refU_long1 b o _ c n w (Lib.hid K) (by omega) h1 h2 hlt hg1
    · exact refU_long2 b o _ c n w (Lib.hid K) (by omega) h1 h2 (by omega) (by omega)
  have E : ∀ s g r, unfIf l.length (get4 l) s g r = if s = g then (r, 8 + get4 l, 0) else ([], 0, 74) := fun s g r => by unfold unfIf; rw [if_neg h8, if_neg hg]
  rw [E]
  clear E
  generalize get4 l = n at *
  have hcl := crcOf_lt ((hb.drop 8).take n)
  by_cases hc8 : c = 8
  · have hl8 : l.length = 8 := by omega
    have hn0 : n = 0 := by omega
    subst hc8
    subst hn0
    rw [hl8] at h ⊢
    have e0 : (l.drop 8).take 0 = [] := by simp
    rw [e0] at hcl ⊢
    have KO : ∀ w', Below w.heap.size w w' → Calls Try.prog 47 #[.slice (some ⟨b, o, none⟩) 0 0] w' fun e w2 => e = .returned (.int .u32 (crcOf [] : Nat)) ∧ w' = w2 :=
      fun w' _ => refOf _ _ w' (Rdv.empty u8v _ _ 0 (Nat.zero_le _)) (fun q hq => by cases hq)
    have hh : ∀ w', Below w.heap.size w w' → Rdv u8v w' (.slice (some ⟨b, o, none⟩) 0 0) [] := fun w' _ => Rdv.empty u8v _ _ 0 (Nat.zero_le _)
    generalize crcOf [] = s at *
    generalize get4 (l.drop 4) = g at *
    by_cases he : s = g
    · rw [if_pos he]
      exact refU_good8 b o s g w (Lib.hid K) (Lib.hid KN) (Lib.hid KO) hh hcl (by simp [he])
    · rw [if_neg he]
      exact refU_bad8 b o s g w (Lib.hid K) (Lib.hid KN) (Lib.hid KO) hh hcl (by simp; omega)
  have hh := hd8.take n (c - 8) (by omega) (by omega) (Nat.le_refl _)
  have KO : ∀ w', Below w.heap.size w w' → Calls Try.prog 47 #[.slice (some ⟨b, o + 8, none⟩) n (c - 8)] w' fun e w2 => e = .returned (.int .u32 (crcOf ((l.drop 8).take n) : Nat)) ∧ w' = w2 :=
    fun w' hbw => refOf _ _ w' (hh.below hbw) ((hb.drop 8).take n)
  have hln : ((l.drop 8).take n).length = n := by simp; omega
  have hh' : ∀ w', Below w.heap.size w w' → Rdv u8v w' (.slice (some ⟨b, o + 8, none⟩) n (c - 8)) ((l.drop 8).take n) := fun w' hbw => hh.below hbw
  generalize (l.drop 8).take n = r at *
  generalize crcOf r = s at *
  generalize get4 (l.drop 4) = g at *
  by_cases he : s = g
  · rw [if_pos he]
    exact refU_good b o _ c n s g r w (Lib.hid K) (Lib.hid KN) (Lib.hid KO) hh' hln (by omega) h1 hc8 h2 (by omega) hcl (by omega) (by simp [he])
  · rw [if_neg he]
    exact refU_bad b o _ c n s g r w (Lib.hid K) (Lib.hid KN) (Lib.hid KO) hh' hln (by omega) h1 hc8 h2 (by omega) hcl (by omega) (by simp; omega)
end Go.Proofs.Ytgpfkdlnmifiiaa
