/- Contracts of package crc's frames, continued; bytes.Clone; the references. -/
import Derived.Test.YtgpfkdlnmifiiaaChecked
import Derived.WalkKit
import Derived.Outline
import Derived.WalkSpells
import Derived.WalkLawsBesides
import Derived.Deep.QuietTactic
import Derived.Deep.RegionWith
import Derived.Deep.DeepMust
import Derived.BigQuiet
import Derived.Test.YtgpfkdlnmifiiaaMem
import Derived.RegionTactic
import Derived.ChangeAlike
import Derived.StillTailTactics
import Derived.Deep.LoopGhost
import Derived.Deep.RegionHeld3
import Derived.Test.YtgpfkdlnmifiiaaCrc2
namespace Go.Proofs.Ytgpfkdlnmifiiaa
open Go.RowKit
set_option linter.unusedVariables false
set_option linter.unusedSimpArgs false
def ClonePost (l : List Int) (w : World) (e : Ending) (w' : World) : Prop :=
  ∃ v, e = .returned v ∧ w'.ownsRow w.heap.size 5 1 v l.length (l.map u8v) ∧ Below w.heap.size w w'
set_option maxHeartbeats 1000000 in
set_option maxRecDepth 100000 in
theorem cloneC (v : Value) (l : List Int) (w : World) (h : Rdv u8v w v l) (hl : l.length ≤ 1000000000000) :
    Calls Try.prog 94 #[v] w (ClonePost l w) := by
  obtain ⟨i0, hi, hz0, hz1, hz2⟩ := info_parts Try.info5
  have h0 := h
  obtain ⟨a, n, c, rfl⟩ := h.shape
  obtain ⟨rfl, h1, h2, h3⟩ := h.cap
  unfold maxLen at h2
  have hq := fun w' n => Lib.run_eql_slice_nil (P := Try.prog) w' 46 5 a n c 0 0 Try.underlying46
  rcases a with _ | ad
  · obtain rfl : l = [] := by
      by_cases hn : l = []
      · exact hn
      · obtain ⟨_, _, h⟩ := h3 hn
        cases h
    clear h h0 h3
    go_enter Try.func94, Try.ntmps94
    go_wp2
    go_ret
    exact ⟨_, rfl, World.ownsRow_nil _ _ _ _, Below.refl _ _⟩
  · have ho := World.ownsRow_made (base := w.heap.size) (e := 5) (size := 1) w #[] 0 (Nat.le_refl _) (by unfold maxLen; omega) rfl
    clear h h3
    go_enter Try.func94, Try.ntmps94
    go_wp2_with (at_builtin; refine wpList_append_rd rfl _ _ 46 rfl w.heap.size 5 i0 (.int .u8 0) 1 Try.underlying46 hi hz0 hz1 hz2 rfl _ 0 _ rfl ho (.slice (some ad) l.length c) u8v l rfl (h0.alloc _) (fun _ => rfl) ?c1 ?c2 ?c3 ?_)
    case c1 => unfold maxLen; omega
    case c2 => omega
    case c3 => simp
    intro v4 w4 ho4 hg4 _
    have b4 := ((Below.refl w.heap.size w).alloc (Nat.le_refl _) (.cells #[] 5)).grown hg4 (by simp) (fun q hq => by simp [Value.ownBlock] at hq; omega)
    have HO := Lib.hid ho4
    clear ho4 ho hg4 hq
    go_wp2
    go_ret
    exact ⟨v4, rfl, by simpa using HO.out, b4⟩
theorem shortC (v : Value) (l : List Int) (n : Nat) (w : World) (h : Rdv u8v w v l) (hn : n ≤ 1000000) :
    Calls Try.prog 44 #[v, .int .i64 n] w fun e w' => (∃ v', e = .returned v' ∧ Rdv u8v w v' (l.take n)) ∧ w = w' := by
  obtain ⟨a, m, c, rfl⟩ := h.shape
  have hT := h.take
  have h0 := h
  obtain ⟨rfl, h1, h2, h3⟩ := h.cap
  unfold maxLen at h2
  have HT := Lib.hid hT
  have H0 := Lib.hid h0
  clear hT h0 h3 h
  by_cases hc : n < l.length
  · go_enter Try.func44, Try.ntmps44
    go_wp2
    have hT := HT.out n c (by omega) (by omega) (by omega)
    go_ret
    exact ⟨⟨_, rfl, hT⟩, rfl⟩
  · have e : Hid (l.take n = l) := List.take_of_length_le (by omega)
    go_enter Try.func44, Try.ntmps44
    go_wp2
    go_ret
    exact ⟨⟨_, rfl, by rw [e.out]; exact H0.out⟩, rfl⟩
def UnfPost (r : List Int) (k err : Nat) (w : World) (e : Ending) (w' : World) : Prop :=
  ∃ v, e = .returned (.tuple #[v, .int .i64 k, .int .i64 err]) ∧ Rdv u8v w' v r ∧ Below w.heap.size w w'
theorem unf_short (v : Value) (l : List Int) (w : World) (h : Rdv u8v w v l) (hl : l.length < 8) :
    Calls Try.prog 51 #[v] w (UnfPost [] 0 22 w) := by
  obtain ⟨a, m, c, rfl⟩ := h.shape
  obtain ⟨rfl, h1, h2, h3⟩ := h.cap
  unfold maxLen at h2
  clear h3 h
  go_enter Try.func51, Try.ntmps51
  go_wp2
  go_ret3
  exact ⟨_, rfl, Rdv.nil _ _, Below.refl _ _⟩
theorem unf_long1 (a : Option Addr) (m c n : Nat) (w : World) (K : Hid (Calls Try.prog 93 #[.slice a m c] w fun e w' => e = .returned (.int .u32 (n : Int)) ∧ Drw w w')) (h8 : 8 ≤ m) (hc : m ≤ c) (h2 : c ≤ 9223372036854775807) (hlt : n < 4294967296) (hg : 1048576 < n) :
    Calls Try.prog 51 #[.slice a m c] w (UnfPost [] 0 22 w) := by
  go_enter Try.func51, Try.ntmps51
  go_wp2_with (go_at_call 93; refine K.out.mono ?_; rintro e w' ⟨rfl, nd, rfl⟩)
  go_ret3
  exact ⟨_, rfl, Rdv.nil _ _, (Drw.below ⟨nd, rfl⟩)⟩
theorem unf_long2 (a : Option Addr) (m c n : Nat) (w : World) (K : Hid (Calls Try.prog 93 #[.slice a m c] w fun e w' => e = .returned (.int .u32 (n : Int)) ∧ Drw w w')) (h8 : 8 ≤ m) (hc : m ≤ c) (h2 : c ≤ 9223372036854775807) (hlt : n ≤ 1048576) (hg : m < n + 8) :
    Calls Try.prog 51 #[.slice a m c] w (UnfPost [] 0 22 w) := by
  go_enter Try.func51, Try.ntmps51
  go_wp2_with (go_at_call 93; refine K.out.mono ?_; rintro e w' ⟨rfl, nd, rfl⟩)
  go_ret3
  exact ⟨_, rfl, Rdv.nil _ _, (Drw.below ⟨nd, rfl⟩)⟩
theorem unf_long (v : Value) (l : List Int) (w : World) (h : Rdv u8v w v l) (hb : Byt l) (hl : 8 ≤ l.length) (hg : 1048576 < get4 l ∨ l.length < get4 l + 8) :
    Calls Try.prog 51 #[v] w (UnfPost [] 0 22 w) := by
  have K := Lib.hid (get32 v l w h hb (by omega))
  obtain ⟨a, m, c, rfl⟩ := h.shape
  obtain ⟨rfl, h1, h2, h3⟩ := h.cap
  unfold maxLen at h2
  by_cases hg1 : 1048576 < get4 l
  · exact unf_long1 a _ c (get4 l) w K hl h1 h2 (get4_lt hb) hg1
  · exact unf_long2 a _ c (get4 l) w K hl h1 h2 (by omega) (by omega)
set_option maxHeartbeats 2000000 in
set_option maxRecDepth 100000 in
/-- Behind the checks of its length: a frame whose sum is right or wrong. -/
theorem unf_good (b o m c n s g : Nat) (r : List Int) (w : World) (K : Hid (Calls Try.prog 93 #[.slice (some ⟨b, o, none⟩) m c] w fun e w' => e = .returned (.int .u32 (n : Int)) ∧ Drw w w'))
    (KO : Hid (∀ w' B, B = w'.heap.size → Below w.heap.size w w' → Calls Try.prog 48 #[.slice (some ⟨B, 0, none⟩) 1 1] (w'.alloc (.cells #[.slice (some ⟨b, o + 8, none⟩) n (c - 8)] 46)) fun e w2 => e = .returned (.int .u32 (s : Int)) ∧ Below w'.heap.size w' w2))
    (KG : Hid (∀ w', Below w.heap.size w w' → Calls Try.prog 93 #[.slice (some ⟨b, o + 4, none⟩) (m - 4) (c - 4)] w' fun e w2 => e = .returned (.int .u32 (g : Int)) ∧ Drw w' w2))
    (KC : Hid (∀ w', Below w.heap.size w w' → Calls Try.prog 94 #[.slice (some ⟨b, o + 8, none⟩) n (c - 8)] w' (ClonePost r w')))
    (h8 : 8 ≤ m) (hc : m ≤ c) (hc8 : 8 < c) (h2 : c ≤ 9223372036854775807) (hlt : n ≤ 1048576) (hg : n + 8 ≤ m) (he : ((s : Int) != (g : Int)) = false) :
    Calls Try.prog 51 #[.slice (some ⟨b, o, none⟩) m c] w (UnfPost r (8 + n) 0 w) := by
  have n8 : ¬ c = 8 := by omega
  have n4 : ¬ c = 4 := by omega
  have i4 : (4 : Int) ≤ (m : Int) := by omega
  have i4c : (4 : Int) ≤ (c : Int) := by omega
  have imc : (m : Int) ≤ (c : Int) := by omega
  go_enter Try.func51, Try.ntmps51
  go_wp2_with (go_at_call 93; refine K.out.mono ?_; rintro e w' ⟨rfl, nd, rfl⟩)
  have b0 : Below w.heap.size w (w.drewN nd) := Drw.below ⟨nd, rfl⟩
  go_region_held3 (fun w' => Below w.heap.size w w') ((first | (with_reducible assumption) | exact Below.drew (by assumption) | exact Below.alloc (by assumption) (Below.size (by assumption)) _)) (first | (go_at_call 48; (with_reducible refine (KO.out _ _ ?hB ?ho).mono ?_); (case hB => rfl); (case ho => exact Drw.below ⟨_, rfl⟩); rintro e w2 ⟨rfl, hb2⟩; have hb3 : Below w.heap.size w w2 := Below.trans (Drw.below ⟨_, rfl⟩) (hb2.mono (Nat.le_refl _))) | (go_at_call 93; (with_reducible refine (KG.out _ ?ho).mono ?_); (case ho => first | assumption | exact Below.drew (by assumption)); rintro e w2 ⟨rfl, kd2, rfl⟩; have hb3 := Below.trans (by assumption) ((Drw.below ⟨kd2, rfl⟩).mono (Below.size (by assumption)))))
  go_wp2_with (go_at_call 94; (with_reducible refine (KC.out _ ?ho).mono ?_); (case ho => assumption); rintro e w4 ⟨v4, rfl, ho4, hb4⟩; have hr4 := Rdv.of_owns ho4; have hb5 := Below.trans (by assumption) (hb4.mono (Below.size (by assumption))))
  go_ret3
  exact ⟨_, rfl, hr4, hb5⟩
set_option maxHeartbeats 2000000 in
set_option maxRecDepth 100000 in
theorem unf_bad (b o m c n s g : Nat) (r : List Int) (w : World) (K : Hid (Calls Try.prog 93 #[.slice (some ⟨b, o, none⟩) m c] w fun e w' => e = .returned (.int .u32 (n : Int)) ∧ Drw w w'))
    (KO : Hid (∀ w' B, B = w'.heap.size → Below w.heap.size w w' → Calls Try.prog 48 #[.slice (some ⟨B, 0, none⟩) 1 1] (w'.alloc (.cells #[.slice (some ⟨b, o + 8, none⟩) n (c - 8)] 46)) fun e w2 => e = .returned (.int .u32 (s : Int)) ∧ Below w'.heap.size w' w2))
    (KG : Hid (∀ w', Below w.heap.size w w' → Calls Try.prog 93 #[.slice (some ⟨b, o + 4, none⟩) (m - 4) (c - 4)] w' fun e w2 => e = .returned (.int .u32 (g : Int)) ∧ Drw w' w2))
    (KC : Hid (∀ w', Below w.heap.size w w' → Calls Try.prog 94 #[.slice (some ⟨b, o + 8, none⟩) n (c - 8)] w' (ClonePost r w')))
    (h8 : 8 ≤ m) (hc : m ≤ c) (hc8 : 8 < c) (h2 : c ≤ 9223372036854775807) (hlt : n ≤ 1048576) (hg : n + 8 ≤ m) (he : ((s : Int) != (g : Int)) = true) :
    Calls Try.prog 51 #[.slice (some ⟨b, o, none⟩) m c] w (UnfPost [] 0 74 w) := by
  have n8 : ¬ c = 8 := by omega
  have n4 : ¬ c = 4 := by omega
  have i4 : (4 : Int) ≤ (m : Int) := by omega
  have i4c : (4 : Int) ≤ (c : Int) := by omega
  have imc : (m : Int) ≤ (c : Int) := by omega
  go_enter Try.func51, Try.ntmps51
  go_wp2_with (go_at_call 93; refine K.out.mono ?_; rintro e w' ⟨rfl, nd, rfl⟩)
  have b0 : Below w.heap.size w (w.drewN nd) := Drw.below ⟨nd, rfl⟩
  go_region_held3 (fun w' => Below w.heap.size w w') ((first | (with_reducible assumption) | exact Below.drew (by assumption) | exact Below.alloc (by assumption) (Below.size (by assumption)) _)) (first | (go_at_call 48; (with_reducible refine (KO.out _ _ ?hB ?ho).mono ?_); (case hB => rfl); (case ho => exact Drw.below ⟨_, rfl⟩); rintro e w2 ⟨rfl, hb2⟩; have hb3 : Below w.heap.size w w2 := Below.trans (Drw.below ⟨_, rfl⟩) (hb2.mono (Nat.le_refl _))) | (go_at_call 93; (with_reducible refine (KG.out _ ?ho).mono ?_); (case ho => first | assumption | exact Below.drew (by assumption)); rintro e w2 ⟨rfl, kd2, rfl⟩; have hb3 := Below.trans (by assumption) ((Drw.below ⟨kd2, rfl⟩).mono (Below.size (by assumption)))))
  go_wp2_with (go_at_call 94; (with_reducible refine (KC.out _ ?ho).mono ?_); (case ho => assumption); rintro e w4 ⟨v4, rfl, ho4, hb4⟩; have hr4 := Rdv.of_owns ho4; have hb5 := Below.trans (by assumption) (hb4.mono (Below.size (by assumption))))
  go_ret3
  exact ⟨_, rfl, Rdv.nil _ _, by assumption⟩
set_option maxHeartbeats 2000000 in
set_option maxRecDepth 100000 in
theorem unf_good8 (b o s g : Nat) (r : List Int) (w : World) (K : Hid (Calls Try.prog 93 #[.slice (some ⟨b, o, none⟩) 8 8] w fun e w' => e = .returned (.int .u32 0) ∧ Drw w w'))
    (KO : Hid (∀ w' B, B = w'.heap.size → Below w.heap.size w w' → Calls Try.prog 48 #[.slice (some ⟨B, 0, none⟩) 1 1] (w'.alloc (.cells #[.slice (some ⟨b, o, none⟩) 0 0] 46)) fun e w2 => e = .returned (.int .u32 (s : Int)) ∧ Below w'.heap.size w' w2))
    (KG : Hid (∀ w', Below w.heap.size w w' → Calls Try.prog 93 #[.slice (some ⟨b, o + 4, none⟩) 4 4] w' fun e w2 => e = .returned (.int .u32 (g : Int)) ∧ Drw w' w2))
    (KC : Hid (∀ w', Below w.heap.size w w' → Calls Try.prog 94 #[.slice (some ⟨b, o, none⟩) 0 0] w' (ClonePost r w')))
    (he : ((s : Int) != (g : Int)) = false) :
    Calls Try.prog 51 #[.slice (some ⟨b, o, none⟩) 8 8] w (UnfPost r 8 0 w) := by
  go_enter Try.func51, Try.ntmps51
  go_wp2_with (go_at_call 93; refine K.out.mono ?_; rintro e w' ⟨rfl, nd, rfl⟩)
  have b0 : Below w.heap.size w (w.drewN nd) := Drw.below ⟨nd, rfl⟩
  go_region_held3 (fun w' => Below w.heap.size w w') ((first | (with_reducible assumption) | exact Below.drew (by assumption) | exact Below.alloc (by assumption) (Below.size (by assumption)) _)) (first | (go_at_call 48; (with_reducible refine (KO.out _ _ ?hB ?ho).mono ?_); (case hB => rfl); (case ho => exact Drw.below ⟨_, rfl⟩); rintro e w2 ⟨rfl, hb2⟩; have hb3 : Below w.heap.size w w2 := Below.trans (Drw.below ⟨_, rfl⟩) (hb2.mono (Nat.le_refl _))) | (go_at_call 93; (with_reducible refine (KG.out _ ?ho).mono ?_); (case ho => first | assumption | exact Below.drew (by assumption)); rintro e w2 ⟨rfl, kd2, rfl⟩; have hb3 := Below.trans (by assumption) ((Drw.below ⟨kd2, rfl⟩).mono (Below.size (by assumption)))))
  go_wp2_with (go_at_call 94; (with_reducible refine (KC.out _ ?ho).mono ?_); (case ho => assumption); rintro e w4 ⟨v4, rfl, ho4, hb4⟩; have hr4 := Rdv.of_owns ho4; have hb5 := Below.trans (by assumption) (hb4.mono (Below.size (by assumption))))
  go_ret3
  exact ⟨_, rfl, hr4, hb5⟩
set_option maxHeartbeats 2000000 in
set_option maxRecDepth 100000 in
theorem unf_bad8 (b o s g : Nat) (r : List Int) (w : World) (K : Hid (Calls Try.prog 93 #[.slice (some ⟨b, o, none⟩) 8 8] w fun e w' => e = .returned (.int .u32 0) ∧ Drw w w'))
    (KO : Hid (∀ w' B, B = w'.heap.size → Below w.heap.size w w' → Calls Try.prog 48 #[.slice (some ⟨B, 0, none⟩) 1 1] (w'.alloc (.cells #[.slice (some ⟨b, o, none⟩) 0 0] 46)) fun e w2 => e = .returned (.int .u32 (s : Int)) ∧ Below w'.heap.size w' w2))
    (KG : Hid (∀ w', Below w.heap.size w w' → Calls Try.prog 93 #[.slice (some ⟨b, o + 4, none⟩) 4 4] w' fun e w2 => e = .returned (.int .u32 (g : Int)) ∧ Drw w' w2))
    (KC : Hid (∀ w', Below w.heap.size w w' → Calls Try.prog 94 #[.slice (some ⟨b, o, none⟩) 0 0] w' (ClonePost r w')))
    (he : ((s : Int) != (g : Int)) = true) :
    Calls Try.prog 51 #[.slice (some ⟨b, o, none⟩) 8 8] w (UnfPost [] 0 74 w) := by
  go_enter Try.func51, Try.ntmps51
  go_wp2_with (go_at_call 93; refine K.out.mono ?_; rintro e w' ⟨rfl, nd, rfl⟩)
  have b0 : Below w.heap.size w (w.drewN nd) := Drw.below ⟨nd, rfl⟩
  go_region_held3 (fun w' => Below w.heap.size w w') ((first | (with_reducible assumption) | exact Below.drew (by assumption) | exact Below.alloc (by assumption) (Below.size (by assumption)) _)) (first | (go_at_call 48; (with_reducible refine (KO.out _ _ ?hB ?ho).mono ?_); (case hB => rfl); (case ho => exact Drw.below ⟨_, rfl⟩); rintro e w2 ⟨rfl, hb2⟩; have hb3 : Below w.heap.size w w2 := Below.trans (Drw.below ⟨_, rfl⟩) (hb2.mono (Nat.le_refl _))) | (go_at_call 93; (with_reducible refine (KG.out _ ?ho).mono ?_); (case ho => first | assumption | exact Below.drew (by assumption)); rintro e w2 ⟨rfl, kd2, rfl⟩; have hb3 := Below.trans (by assumption) ((Drw.below ⟨kd2, rfl⟩).mono (Below.size (by assumption)))))
  go_wp2_with (go_at_call 94; (with_reducible refine (KC.out _ ?ho).mono ?_); (case ho => assumption); rintro e w4 ⟨v4, rfl, ho4, hb4⟩; have hr4 := Rdv.of_owns ho4; have hb5 := Below.trans (by assumption) (hb4.mono (Below.size (by assumption))))
  go_ret3
  exact ⟨_, rfl, Rdv.nil _ _, by assumption⟩
/-- What a frame gives: what it holds, how long it is, the error. -/
def unfL (l : List Int) : List Int × Nat × Nat :=
  if l.length < 8 then ([], 0, 22) else
  if 1048576 < get4 l ∨ l.length < get4 l + 8 then ([], 0, 22) else
  if crcOf ((l.drop 8).take (get4 l)) = get4 (l.drop 4) then ((l.drop 8).take (get4 l), 8 + get4 l, 0) else ([], 0, 74)
theorem Byt.drop {l : List Int} (h : Byt l) (k : Nat) : Byt (l.drop k) := fun q hq => h q (List.mem_of_mem_drop hq)
theorem Byt.take {l : List Int} (h : Byt l) (k : Nat) : Byt (l.take k) := fun q hq => h q (List.mem_of_mem_take hq)
/-- What a frame gives, its numbers told apart. -/
def unfIf (m n s g : Nat) (r : List Int) : List Int × Nat × Nat :=
  if m < 8 then ([], 0, 22) else if 1048576 < n ∨ m < n + 8 then ([], 0, 22) else if s = g then (r, 8 + n, 0) else ([], 0, 74)
theorem unfL_if (l : List Int) : unfL l = unfIf l.length (get4 l) (crcOf ((l.drop 8).take (get4 l))) (get4 (l.drop 4)) ((l.drop 8).take (get4 l)) := rfl
theorem unf_c8 (b o c n : Nat) (l : List Int) (w : World) (hc : c = 8) (hl : l.length = 8) (hn : n = 0) (hb : Byt l) (h : Rdv u8v w (.slice (some ⟨b, o, none⟩) l.length c) l)
    (K : Calls Try.prog 93 #[.slice (some ⟨b, o, none⟩) l.length c] w fun e w' => e = .returned (.int .u32 (n : Int)) ∧ Drw w w') :
    Calls Try.prog 51 #[.slice (some ⟨b, o, none⟩) l.length c] w (UnfPost (if crcOf ((l.drop 8).take n) = get4 (l.drop 4) then ((l.drop 8).take n, 8 + n, 0) else ([], 0, 74)).1 (if crcOf ((l.drop 8).take n) = get4 (l.drop 4) then ((l.drop 8).take n, 8 + n, 0) else ([], 0, 74)).2.1 (if crcOf ((l.drop 8).take n) = get4 (l.drop 4) then ((l.drop 8).take n, 8 + n, 0) else ([], 0, 74)).2.2 w) := by
  subst hc
  subst hn
  have hd4 := h.drop 4 (by omega)
  rw [hl] at h K hd4 ⊢
  have e0 : (l.drop 8).take 0 = [] := by simp
  rw [e0]
  have KO : ∀ w' B, B = w'.heap.size → Below w.heap.size w w' → Calls Try.prog 48 #[.slice (some ⟨B, 0, none⟩) 1 1] (w'.alloc (.cells #[.slice (some ⟨b, o, none⟩) 0 0] 46)) fun e w2 => e = .returned (.int .u32 (crcOf [] : Nat)) ∧ Below w'.heap.size w' w2 := by
    intro w' B hB hbw
    subst hB
    have hx := RdBs.one (Blk.new w' #[.slice (some ⟨b, o, none⟩) 0 0] 46) (Rdv.empty u8v _ _ 0 (Nat.zero_le _))
    refine (crcOfC _ _ _ hx (AllB.one (fun q hq => by cases hq))).mono ?_
    rintro e w2 ⟨rfl, b2⟩
    exact ⟨rfl, ((Below.refl _ w').alloc (Nat.le_refl _) _).trans (b2.mono (by simp))⟩
  have KG : ∀ w', Below w.heap.size w w' → Calls Try.prog 93 #[.slice (some ⟨b, o + 4, none⟩) 4 4] w' fun e w2 => e = .returned (.int .u32 (get4 (l.drop 4) : Nat)) ∧ Drw w' w2 :=
    fun w' hbw => get32 _ _ w' (hd4.below hbw) (hb.drop 4) (by simp; omega)
  have KC : ∀ w', Below w.heap.size w w' → Calls Try.prog 94 #[.slice (some ⟨b, o, none⟩) 0 0] w' (ClonePost [] w') :=
    fun w' _ => cloneC _ _ w' (Rdv.empty u8v _ _ 0 (Nat.zero_le _)) (by simp)
  generalize crcOf [] = s at *
  generalize get4 (l.drop 4) = g at *
  by_cases he : s = g
  · rw [if_pos he]
    exact unf_good8 b o s g _ w (Lib.hid K) (Lib.hid KO) (Lib.hid KG) (Lib.hid KC) (by simp [he])
  · rw [if_neg he]
    exact unf_bad8 b o s g [] w (Lib.hid K) (Lib.hid KO) (Lib.hid KG) (Lib.hid KC) (by simp; omega)
theorem crcUnframe (v : Value) (l : List Int) (w : World) (h : Rdv u8v w v l) (hb : Byt l) :
    Calls Try.prog 51 #[v] w (UnfPost (unfL l).1 (unfL l).2.1 (unfL l).2.2 w) := by
  rw [unfL_if]
  by_cases h8 : l.length < 8
  · have e : ∀ n s g r, unfIf l.length n s g r = ([], 0, 22) := fun n s g r => by unfold unfIf; rw [if_pos h8]
    rw [e]
    exact unf_short v l w h h8
  by_cases hg : 1048576 < get4 l ∨ l.length < get4 l + 8
  · have e : ∀ s g r, unfIf l.length (get4 l) s g r = ([], 0, 22) := fun s g r => by unfold unfIf; rw [if_neg h8, if_pos hg]
    rw [e]
    exact unf_long v l w h hb (by omega) hg
  have K := get32 v l w h hb (by omega)
  have E : ∀ s g r, unfIf l.length (get4 l) s g r = if s = g then (r, 8 + get4 l, 0) else ([], 0, 74) := fun s g r => by unfold unfIf; rw [if_neg h8, if_neg hg]
  rw [E]
  clear E
  generalize get4 l = n at *
  obtain ⟨a, m, c, rfl⟩ := h.shape
  obtain ⟨rfl, h1, h2, h3⟩ := h.cap
  unfold maxLen at h2
  obtain ⟨b, o, rfl⟩ := h3 (fun e => by rw [e] at h8; simp at h8)
  have hd8 := h.drop 8 (by omega)
  have hd4 := h.drop 4 (by omega)
  by_cases hc8 : c = 8
  · exact unf_c8 b o c n l w hc8 (by omega) (by omega) hb h K
  have hc8 : 8 < c := by omega
  have hh := hd8.take n (c - 8) (by omega) (by omega) (Nat.le_refl _)
  have KO : ∀ w' B, B = w'.heap.size → Below w.heap.size w w' → Calls Try.prog 48 #[.slice (some ⟨B, 0, none⟩) 1 1] (w'.alloc (.cells #[.slice (some ⟨b, o + 8, none⟩) n (c - 8)] 46)) fun e w2 => e = .returned (.int .u32 (crcOf ((l.drop 8).take n) : Nat)) ∧ Below w'.heap.size w' w2 := by
    intro w' B hB hbw
    subst hB
    have hx := RdBs.one (Blk.new w' #[.slice (some ⟨b, o + 8, none⟩) n (c - 8)] 46) ((hh.below hbw).alloc _)
    refine (crcOfC _ _ _ hx (AllB.one ((hb.drop 8).take _))).mono ?_
    rintro e w2 ⟨rfl, b2⟩
    rw [show [(l.drop 8).take n].flatten = (l.drop 8).take n from by simp]
    exact ⟨rfl, ((Below.refl _ w').alloc (Nat.le_refl _) _).trans (b2.mono (by simp))⟩
  have KG : ∀ w', Below w.heap.size w w' → Calls Try.prog 93 #[.slice (some ⟨b, o + 4, none⟩) (l.length - 4) (c - 4)] w' fun e w2 => e = .returned (.int .u32 (get4 (l.drop 4) : Nat)) ∧ Drw w' w2 :=
    fun w' hbw => get32 _ _ w' (hd4.below hbw) (hb.drop 4) (by simp; omega)
  have hln : ((l.drop 8).take n).length = n := by simp; omega
  have KC : ∀ w', Below w.heap.size w w' → Calls Try.prog 94 #[.slice (some ⟨b, o + 8, none⟩) n (c - 8)] w' (ClonePost ((l.drop 8).take n) w') :=
    fun w' hbw => cloneC _ _ w' (hh.below hbw) (by omega)
  generalize crcOf ((l.drop 8).take n) = s at *
  generalize get4 (l.drop 4) = g at *
  by_cases he : s = g
  · rw [if_pos he]
    exact unf_good b o _ c n s g _ w (Lib.hid K) (Lib.hid KO) (Lib.hid KG) (Lib.hid KC) (by omega) h1 hc8 h2 (by omega) (by omega) (by simp [he])
  · rw [if_neg he]
    exact unf_bad b o _ c n s g _ w (Lib.hid K) (Lib.hid KO) (Lib.hid KG) (Lib.hid KC) (by omega) h1 hc8 h2 (by omega) (by omega) (by simp; omega)
end Go.Proofs.Ytgpfkdlnmifiiaa
