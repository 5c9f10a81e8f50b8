/- An inode is loaded. -/
import Derived.Test.YtfcddpbpfckjfaaChecked
import Derived.WalkKit
import Derived.Outline
import Derived.WalkSpells
import Derived.WalkLawsBesides
import Derived.Deep.QuietTactic
import Derived.Deep.RegionWith
import Derived.Deep.DeepMust
import Derived.BigQuiet
import Derived.Test.YtfcddpbpfckjfaaMem
import Derived.RegionTactic
import Derived.ChangeAlike
import Derived.StillTailTactics
import Derived.BigRegion
import Derived.Deep.LoopGhost
import Derived.Deep.RegionHeld3
import Derived.Test.YtfcddpbpfckjfaaIb
namespace Go.Proofs.Ytfcddpbpfckjfaa
open Go.RowKit
set_option linter.unusedVariables false
set_option linter.unusedSimpArgs false
def inoCL (s : Nat) (L : List Nat) : Array Value := (Value.int .i64 (s : Int) :: L.map u32v).toArray
def inoL (l : List Int) (i : Nat) : List Nat := (List.range 10).map fun j => if j < i then get4 (l.drop (4 * j + 4)) else 0
theorem inoL_len (l : List Int) (i : Nat) : (inoL l i).length = 10 := by simp [inoL]
theorem inoL_step (l : List Int) (i : Nat) (hi : i < 10) : (inoL l i).set i (get4 (l.drop (4 * i + 4))) = inoL l (i + 1) := by
  apply List.ext_getElem
  · rw [List.length_set, inoL_len, inoL_len]
  · intro j h1 h2
    rw [List.length_set, inoL_len] at h1
    rw [List.getElem_set]
    simp only [inoL, List.getElem_map, List.getElem_range]
    by_cases e : i = j
    · subst e
      rw [if_pos rfl, if_pos (by omega)]
    · rw [if_neg e]
      by_cases e2 : j < i
      · rw [if_pos e2, if_pos (by omega)]
      · rw [if_neg e2, if_neg (by omega)]
theorem inoCL_set (s : Nat) (L : List Nat) (i x : Nat) : (inoCL s L).setIfInBounds (i + 1) (u32v x) = inoCL s (L.set i x) := by
  unfold inoCL
  rw [List.setIfInBounds_toArray, List.set_cons_succ, ← List.map_set]
theorem inoCL_get (s : Nat) (L : List Nat) (i : Nat) (h : i < L.length) : (inoCL s L)[1 + i]? = some (u32v L[i]) := by
  unfold inoCL
  rw [Nat.add_comm]
  simp [h]
def ILoadBad (w : World) (e : Ending) (w' : World) : Prop := e = .returned (.tuple #[.pointer none, .int .i64 74]) ∧ Below w.heap.size w w'
def ILoadOk (l : List Int) (w : World) (e : Ending) (w' : World) : Prop := ∃ nb : Nat, e = .returned (.tuple #[.pointer (some ⟨nb, 0, none⟩), .int .i64 0]) ∧ w.heap.size ≤ nb ∧ Blk w' nb (inoCL (get4 l) (inoL l 10)) 110 ∧ Below w.heap.size w w'
theorem inoLoad_len (v : Value) (l : List Int) (w : World) (h : Rdv u8v w v l) (hl : l.length ≠ 44) : Calls Try.prog 42 #[v] w (ILoadBad w) := by
  obtain ⟨a, n, c, rfl⟩ := h.shape
  obtain ⟨rfl, h1, h2, _⟩ := h.cap
  have hn : ¬ ((l.length : Nat) : Int) = 44 := by omega
  clear h hl
  go_enter Try.func42, Try.ntmps42
  go_wp2
  go_ret2
  exact ⟨rfl, Below.refl _ _⟩
theorem inoLoad_big (v : Value) (l : List Int) (w : World) (h : Rdv u8v w v l) (hb : Byt l) (hl : l.length = 44) (hg : 65536 < get4 l) : Calls Try.prog 42 #[v] w (ILoadBad w) := by
  have KG := Lib.hid (get32 v l w h hb (by omega))
  obtain ⟨a, n, c, rfl⟩ := h.shape
  obtain ⟨hn, h1, h2, _⟩ := h.cap
  obtain rfl : n = 44 := by omega
  have hg0 : (65536 : Int) < (get4 l : Nat) := by omega
  generalize get4 l = x at *
  clear h hb hn hl
  go_enter Try.func42, Try.ntmps42
  go_wp2_with fail
  refine KG.out.mono ?_
  rintro e w1 ⟨rfl, n1, rfl⟩
  go_wp2
  go_ret2
  exact ⟨rfl, Drw.below ⟨_, rfl⟩⟩
set_option maxHeartbeats 2000000 in
set_option maxRecDepth 100000 in
theorem inoLoad_ok (v : Value) (l : List Int) (w : World) (h : Rdv u8v w v l) (hb : Byt l) (hl : l.length = 44) (hg : get4 l ≤ 65536) : Calls Try.prog 42 #[v] w (ILoadOk l w) := by
  have KG := Lib.hid (fun w' (hw : Below w.heap.size w w') => get32 v l w' (h.below hw) hb (by omega))
  have H := Lib.hid h
  have HB := Lib.hid hb
  have HLE := Lib.hid hl
  obtain ⟨a, n, c, rfl⟩ := h.shape
  obtain ⟨hn, h1, h2, h3⟩ := h.cap
  obtain rfl : n = 44 := by omega
  obtain ⟨gb, go, rfl⟩ := h3 (by rintro rfl; simp at hl)
  have h1' : 44 ≤ c := by omega
  unfold maxLen at h2
  have hg0 : ((get4 l : Nat) : Int) ≤ 65536 := by omega
  have hg1 : (0 : Int) ≤ (get4 l : Nat) := by omega
  generalize hx : get4 l = x at *
  have HX := Lib.hid hx
  clear h hb hn hl h1 h3 hx
  go_enter Try.func42, Try.ntmps42
  go_wp2_with fail
  refine (KG.out w (Below.refl _ _)).mono ?_
  rintro e w1 ⟨rfl, n1, rfl⟩
  go_wp2_with fail
  refine (KG.out _ (Drw.below ⟨n1, rfl⟩)).mono ?_
  rintro e w2 ⟨rfl, n2, rfl⟩
  go_wp2
  have hd : decide ((65536 : Int) < (x : Int)) = false := decide_eq_false (by omega)
  (try rw [hd])
  have F0 : Hid (Blk ((w.drewN (n1 + n2)).alloc (.cells #[.int .i64 (x : Int), .int .u32 0, .int .u32 0, .int .u32 0, .int .u32 0, .int .u32 0, .int .u32 0, .int .u32 0, .int .u32 0, .int .u32 0, .int .u32 0] 110)) w.heap.size (inoCL x (inoL l 0)) 110) := Lib.hid (Blk.new (w.drewN (n1 + n2)) _ _)
  have B0 : Hid (Below w.heap.size w ((w.drewN (n1 + n2)).alloc (.cells #[.int .i64 (x : Int), .int .u32 0, .int .u32 0, .int .u32 0, .int .u32 0, .int .u32 0, .int .u32 0, .int .u32 0, .int .u32 0, .int .u32 0, .int .u32 0] 110))) := Lib.hid ((Drw.below ⟨n1 + n2, rfl⟩ : Below w.heap.size w (w.drewN (n1 + n2))).alloc (Nat.le_refl _) _)
  obtain ⟨nb, hnb⟩ : ∃ nb : Nat, w.heap.size = nb := ⟨_, rfl⟩
  generalize (w.drewN (n1 + n2)).alloc (.cells #[.int .i64 (x : Int), .int .u32 0, .int .u32 0, .int .u32 0, .int .u32 0, .int .u32 0, .int .u32 0, .int .u32 0, .int .u32 0, .int .u32 0, .int .u32 0] 110) = W at *
  rw [hnb] at F0
  (try rw [hnb])
  have HNB := Lib.hid hnb
  clear hnb hd
  go_loopw [5, 19] (fun _ iv wr => ∃ i : Nat, i ≤ 10 ∧ iv = .int .i64 i ∧ Blk wr nb (inoCL x (inoL l i)) 110 ∧ Below w.heap.size w wr) (fun _ iv _ => 10 - (intOf iv).toNat)
  case atStart => exact ⟨0, by omega, rfl, F0.out, B0.out⟩
  case round =>
    obtain ⟨i, hi, rfl, hF, hB⟩ := hrel
    by_cases hlt : i < 10
    · have KR0 : Hid (∀ n, Calls Try.prog 54 #[.slice (some ⟨gb, go + (4 * i + 4), none⟩) (44 - (4 * i + 4)) (c - (4 * i + 4))] (wr.drewN n) fun e w' => e = .returned (.int .u32 (get4 (l.drop (4 * i + 4)) : Nat)) ∧ Drw (wr.drewN n) w') := Lib.hid (fun n => get32 _ _ _ ((((H.out.below hB).drop (4 * i + 4) (by omega))).drewN n) (HB.out.drop _) (by rw [List.length_drop, HLE.out]; omega))
      have hst := inoL_step l i hlt
      have f1 := Blk.free hF (1 + i)
      have hii : i < (inoL l i).length := by rw [inoL_len]; exact hlt
      have cc := Blk.cell hF (o := 1 + i) (inoCL_get x (inoL l i) i hii)
      generalize (inoL l i)[i] = yo at cc
      have hfl := Blk.lt hF
      have k1 : (0 : Int) ≤ i := by omega
      have k2 : (i : Int) < 10 := by omega
      have HF := Lib.hid hF
      have HBr := Lib.hid hB
      have HST := Lib.hid hst
      obtain ⟨a, ha⟩ : ∃ a : Nat, 4 * i + 4 = a := ⟨_, rfl⟩
      rw [ha] at KR0
      have KR := Lib.hid (show Calls Try.prog 54 #[.slice (some ⟨gb, go + a, none⟩) (44 - a) (c - a)] wr.drew fun e w' => e = .returned (.int .u32 (get4 (l.drop a) : Nat)) ∧ Drw wr.drew w' from KR0.out 1)
      have w1 : IntKind.i64.wrap (4 * (i : Int)) = 4 * i := by rw [IntKind.wrap_i64]; omega
      have w2 : IntKind.i64.wrap (4 * (i : Int) + 4) = a := by rw [IntKind.wrap_i64]; omega
      have n1 : ¬ a = c := by omega
      have n2 : (a : Int) ≤ 44 := by omega
      have n3 : (44 : Int) ≤ c := by omega
      have n4 : (0 : Int) ≤ a := by omega
      have n5 : a ≤ 44 := by omega
      rw [ha] at HST
      generalize get4 (l.drop a) = y at *
      have HSY : Hid (∀ n, Blk ((wr.drewN n).setCell ⟨nb, 1 + i, none⟩ (u32v y)) nb (inoCL x (inoL l (i + 1))) 110) := Lib.hid (fun n => by
        have := Blk.set (Blk.drewN HF.out n) (i + 1) (u32v y)
        rw [inoCL_set, HST.out] at this
        rw [Nat.add_comm 1 i]
        exact this)
      have HBY : Hid (∀ n, Below w.heap.size w ((wr.drewN n).setCell ⟨nb, 1 + i, none⟩ (u32v y))) := Lib.hid (fun n => (below_drewN HBr.out n).setCell (by rw [HNB.out]; exact Nat.le_refl _) _)
      clear hF hB hst KR0 ha hii
      go_wp2
      refine wp_region_held_drew (S := fun w' => True) (by kernel_rfl) trivial (fun hHeld => ?_)
      refine wpAnyH_take (i := 0) (v := ?_) rfl (by kernel_rfl) (by kernel_rfl) (by kernel_rfl) (fun _ _ _ h => h) (Or.inl ⟨by kernel_rfl, ?_⟩) (by assumption) ?_
      rotate_left 1
      · (intro w hSw; (try dsimp only at hSw); go_simp; (try (with_reducible rfl)))
      (try simp only [List.getElem_toArray, List.getElem_cons_succ, List.getElem_cons_zero, Act.put, List.setIfInBounds_toArray, List.set_cons_zero, List.set_cons_succ])
      refine wpAnyH_take (i := 1) (v := ?_) rfl (by kernel_rfl) (by kernel_rfl) (by kernel_rfl) (fun _ _ _ h => h) (Or.inl ⟨by kernel_rfl, ?_⟩) (by assumption) ?_
      rotate_left 1
      · (intro w hSw; (try dsimp only at hSw); go_simp; (try (with_reducible rfl)))
      (try simp only [List.getElem_toArray, List.getElem_cons_succ, List.getElem_cons_zero, Act.put, List.setIfInBounds_toArray, List.set_cons_zero, List.set_cons_succ])
      refine wpAnyH_take (i := 2) (v := ?_) rfl (by kernel_rfl) (by kernel_rfl) (by kernel_rfl) (fun _ _ _ h => h) (Or.inl ⟨by kernel_rfl, ?_⟩) (by assumption) ?_
      rotate_left 1
      · (intro w hSw; (try dsimp only at hSw); go_simp; (try (with_reducible rfl)))
      (try simp only [List.getElem_toArray, List.getElem_cons_succ, List.getElem_cons_zero, Act.put, List.setIfInBounds_toArray, List.set_cons_zero, List.set_cons_succ])
      refine wpAnyH_take (i := 3) (v := ?_) rfl (by kernel_rfl) (by kernel_rfl) (by kernel_rfl) (fun _ _ _ h => h) (Or.inl ⟨by kernel_rfl, ?_⟩) (by assumption) ?_
      rotate_left 1
      · (intro w hSw; (try dsimp only at hSw); go_simp; (try (with_reducible rfl)))
      (try simp only [List.getElem_toArray, List.getElem_cons_succ, List.getElem_cons_zero, Act.put, List.setIfInBounds_toArray, List.set_cons_zero, List.set_cons_succ])
      refine wpAnyH_take (i := 4) (v := ?_) rfl (by kernel_rfl) (by kernel_rfl) (by kernel_rfl) (fun _ _ _ h => h) (Or.inl ⟨by kernel_rfl, ?_⟩) (by assumption) ?_
      rotate_left 1
      · (intro w hSw; (try dsimp only at hSw); go_simp; (try (with_reducible rfl)))
      (try simp only [List.getElem_toArray, List.getElem_cons_succ, List.getElem_cons_zero, Act.put, List.setIfInBounds_toArray, List.set_cons_zero, List.set_cons_succ])
      refine wpAnyH_take (i := 5) (v := ?_) rfl (by kernel_rfl) (by kernel_rfl) (by kernel_rfl) (fun _ _ _ h => h) (Or.inl ⟨by kernel_rfl, ?_⟩) (by assumption) ?_
      rotate_left 1
      · (intro w hSw; (try dsimp only at hSw); go_simp; (try (with_reducible rfl)))
      (try simp only [List.getElem_toArray, List.getElem_cons_succ, List.getElem_cons_zero, Act.put, List.setIfInBounds_toArray, List.set_cons_zero, List.set_cons_succ])
      refine wpAnyH_take (i := 6) (v := ?_) rfl (by kernel_rfl) (by kernel_rfl) (by kernel_rfl) (fun _ _ _ h => h) (Or.inl ⟨by kernel_rfl, ?_⟩) (by assumption) ?_
      rotate_left 1
      · (intro w hSw; (try dsimp only at hSw); go_simp; (try (with_reducible rfl)))
      (try simp only [List.getElem_toArray, List.getElem_cons_succ, List.getElem_cons_zero, Act.put, List.setIfInBounds_toArray, List.set_cons_zero, List.set_cons_succ])
      refine wpAnyH_take (i := 8) (v := ?_) rfl (by kernel_rfl) (by kernel_rfl) (by kernel_rfl) (fun _ _ _ h => h) (Or.inl ⟨by kernel_rfl, ?_⟩) (by assumption) ?_
      rotate_left 1
      · (intro w hSw; (try dsimp only at hSw); go_simp; (try (with_reducible rfl)))
      (try simp only [List.getElem_toArray, List.getElem_cons_succ, List.getElem_cons_zero, Act.put, List.setIfInBounds_toArray, List.set_cons_zero, List.set_cons_succ])
      refine wpAnyH_take (i := 9) (v := ?_) rfl (by kernel_rfl) (by kernel_rfl) (by kernel_rfl) (fun _ _ _ h => h) (Or.inl ⟨by kernel_rfl, ?_⟩) (by assumption) ?_
      rotate_left 1
      · (intro w hSw; (try dsimp only at hSw); go_simp; (try (with_reducible rfl)))
      (try simp only [List.getElem_toArray, List.getElem_cons_succ, List.getElem_cons_zero, Act.put, List.setIfInBounds_toArray, List.set_cons_zero, List.set_cons_succ])
      refine wpAnyH_ready (rs := [7]) (by kernel_rfl) (by simp) ?_
      refine AllReadyH.cons rfl (fun K hK => ?_) AllReadyH.nil
      go_simp
      go_wp2_with (go_at_call 54; (with_reducible refine KR.out.mono ?_); rintro e w3 ⟨rfl, n3, rfl⟩)
      refine hK.out _ _ ?_ (fun hHeld => ?_)
      · (try dsimp only)
        all_goals trivial
      clear hK K
      (try simp only [List.getElem_toArray, List.getElem_cons_succ, List.getElem_cons_zero, Act.put, List.setIfInBounds_toArray, List.set_cons_zero, List.set_cons_succ])
      refine wpAnyH_take (i := 10) (v := ?_) rfl (by kernel_rfl) (by kernel_rfl) (by kernel_rfl) (fun _ _ _ h => h) (Or.inl ⟨by kernel_rfl, ?_⟩) (by assumption) ?_
      rotate_left 1
      · (intro w hSw; (try dsimp only at hSw); go_simp; (try (with_reducible rfl)))
      (try simp only [List.getElem_toArray, List.getElem_cons_succ, List.getElem_cons_zero, Act.put, List.setIfInBounds_toArray, List.set_cons_zero, List.set_cons_succ])
      refine wpAnyH_ready (rs := [11]) (by kernel_rfl) (by simp) ?_
      refine AllReadyH.cons rfl (fun K hK => ?_) AllReadyH.nil
      go_simp
      go_wp2_with fail
      refine hK.out _ _ ?_ (fun hHeld => ?_)
      · (try dsimp only); all_goals trivial
      clear hK K
      (try simp only [List.getElem_toArray, List.getElem_cons_succ, List.getElem_cons_zero, Act.put, List.setIfInBounds_toArray, List.set_cons_zero, List.set_cons_succ])
      refine wpAnyH_done (by kernel_rfl) ?_ _
      clear hHeld
      go_wp2
      go_roundw
      case rel => exact ⟨i + 1, by omega, by go_num, HSY.out _, HBY.out _⟩
      case measure => simp [intOf]; omega
    · obtain rfl : i = 10 := by omega
      have HF := Lib.hid hF
      have HBr := Lib.hid hB
      clear hF hB
      go_wp2
      go_ret2
      exact ⟨nb, rfl, by rw [HNB.out]; exact Nat.le_refl _, HX.out ▸ HF.out, HBr.out⟩
end Go.Proofs.Ytfcddpbpfckjfaa
