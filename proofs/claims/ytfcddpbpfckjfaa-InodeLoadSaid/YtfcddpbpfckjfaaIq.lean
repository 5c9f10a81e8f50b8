/- Laws of inode: InodeLoad. -/
import Derived.Test.YtfcddpbpfckjfaaChecked
import Derived.WalkKit
import Derived.Outline
import Derived.WalkSpells
import Derived.WalkLawsBesides
import Derived.Deep.QuietTactic
import Derived.Deep.RegionWith
import Derived.Deep.DeepMust
import Derived.BigQuiet
import Derived.Test.YtfcddpbpfckjfaaMem
import Derived.RegionTactic
import Derived.ChangeAlike
import Derived.StillTailTactics
import Derived.BigRegion
import Derived.Deep.LoopGhost
import Derived.Deep.RegionHeld3
import Derived.Deep.OwnRows
import Derived.Test.YtfcddpbpfckjfaaIo
import Derived.Test.YtfcddpbpfckjfaaFrW
namespace Go.Proofs.Ytfcddpbpfckjfaa
open Go.RowKit
set_option linter.unusedVariables false
set_option linter.unusedSimpArgs false
theorem le4_v4 {a b c d : Nat} (ha : a < 256) (hb : b < 256) (hc : c < 256) (hd : d < 256) : le4 (v4 a b c d) = [(a : Int), (b : Int), (c : Int), (d : Int)] := by
  unfold le4 v4
  congr 1
  · omega
  · congr 1
    · omega
    · congr 1
      · omega
      · congr 1
        omega
theorem le4_get4 {l : List Int} (h : Byt l) (h4 : 4 ≤ l.length) : le4 (get4 l) = l.take 4 := by
  obtain ⟨x0, y0, b0⟩ := h.at_ 0 (by omega)
  obtain ⟨x1, y1, b1⟩ := h.at_ 1 (by omega)
  obtain ⟨x2, y2, b2⟩ := h.at_ 2 (by omega)
  obtain ⟨x3, y3, b3⟩ := h.at_ 3 (by omega)
  rw [get4_of y0 y1 y2 y3, le4_v4 b0 b1 b2 b3]
  rcases l with _ | ⟨q0, _ | ⟨q1, _ | ⟨q2, _ | ⟨q3, r⟩⟩⟩⟩
  · simp at h4
  · simp at h4
  · simp at h4
  · simp at h4
  · simp only [List.getD_eq_getElem?_getD, List.getElem?_cons_zero, List.getElem?_cons_succ, Option.getD_some] at y0 y1 y2 y3
    rw [y0, y1, y2, y3]
    rfl
theorem flat_get4 {l : List Int} (h : Byt l) : ∀ k, 4 * k + 4 ≤ l.length → ((List.range k).map fun j => get4 (l.drop (4 * j + 4))).flatMap le4 = (l.drop 4).take (4 * k) := by
  intro k
  induction k with
  | zero => intro _; simp
  | succ k ih =>
    intro hk
    rw [List.range_succ, List.map_append, List.flatMap_append, ih (by omega)]
    simp only [List.map_cons, List.map_nil, List.flatMap_cons, List.flatMap_nil, List.append_nil]
    rw [le4_get4 (h.drop _) (by rw [List.length_drop]; omega), show 4 * (k + 1) = 4 * k + 4 by omega, List.take_add, List.drop_drop, show 4 * k + 4 = 4 + 4 * k by omega]
theorem ino_back {l : List Int} (h : Byt l) (hl : l.length = 44) : inoB (get4 l) (inoL l 10) = l := by
  unfold inoB
  have e : inoL l 10 = (List.range 10).map fun j => get4 (l.drop (4 * j + 4)) := by
    unfold inoL
    apply List.map_congr_left
    intro j hj
    rw [if_pos (by simpa using hj)]
  rw [e, flat_get4 h 10 (by omega), le4_get4 h (by omega), show (l.drop 4).take (4 * 10) = l.drop 4 from List.take_of_length_le (by rw [List.length_drop]; omega)]
  exact List.take_append_drop 4 l
theorem inoBytesL {w : World} {nb s : Nat} {L : List Nat} (h : Blk w nb (inoCL s L) 110) (hs : s ≤ 65536) (hl : L.length = 10) (hL : ∀ x ∈ L, x ≤ 4294967295) : Calls Try.prog 43 #[.pointer (some ⟨nb, 0, none⟩)] w (ClonePost (inoB s L) w) := by
  obtain ⟨x0, L, rfl⟩ := List.exists_cons_of_length_eq_add_one hl
  obtain ⟨x1, L, rfl⟩ := List.exists_cons_of_length_eq_add_one (Nat.succ.inj hl)
  obtain ⟨x2, L, rfl⟩ := List.exists_cons_of_length_eq_add_one (Nat.succ.inj (Nat.succ.inj hl))
  obtain ⟨x3, L, rfl⟩ := List.exists_cons_of_length_eq_add_one (Nat.succ.inj (Nat.succ.inj (Nat.succ.inj hl)))
  simp only [List.length_cons] at hl
  rcases L with _ | ⟨x4, L⟩
  · simp at hl
  rcases L with _ | ⟨x5, L⟩
  · simp at hl
  rcases L with _ | ⟨x6, L⟩
  · simp at hl
  rcases L with _ | ⟨x7, L⟩
  · simp at hl
  rcases L with _ | ⟨x8, L⟩
  · simp at hl
  rcases L with _ | ⟨x9, L⟩
  · simp at hl
  rcases L with _ | ⟨x10, L⟩
  · exact inoBytes h hs hL
  · simp at hl
theorem inoL_le {l : List Int} (h : Byt l) : ∀ x ∈ inoL l 10, x ≤ 4294967295 := by
  intro x hx
  unfold inoL at hx
  obtain ⟨j, _, rfl⟩ := List.mem_map.1 hx
  split
  · have := get4_lt (h.drop (4 * j + 4))
    omega
  · omega
set_option maxHeartbeats 1000000 in
set_option maxRecDepth 100000 in
theorem inodeLoad_long (a : Option Addr) (n c : Nat) (l : List Int) (w : World) (h : Rdv u8v w (.slice a n c) l) (hl : 60 < n) : Calls Try.prog 9 #[.slice a n c] w (BegunPost w) := by
  have KB := Lib.hid (inoBegun w)
  obtain ⟨hn, h1, h2, h3⟩ := h.cap
  have ht := fun w1 (hb : Below w.heap.size w w1) => inoLoad_len (.slice a 60 c) (l.take 60) w1 ((h.below hb).take 60 c (by omega) (by omega) (Nat.le_refl _)) (by rw [List.length_take]; omega)
  have HT := Lib.hid ht
  unfold maxLen at h2
  have k1 : (60 : Int) < n := by omega
  have k2 : (n : Int) ≤ c := by omega
  have k3 : 60 ≤ c := by omega
  have k4 : (60 : Int) ≤ c := by omega
  clear h ht h1 h3 hn
  go_enter Try.func9, Try.ntmps9
  go_wp2_with fail
  refine KB.out.mono ?_
  rintro e w1 ⟨rfl, hb1⟩
  have B1 := Lib.hid hb1
  have KL := Lib.hid (HT.out w1 hb1)
  clear hb1 KB
  go_wp2_with fail
  refine KL.out.mono ?_
  rintro e w2 ⟨rfl, hb2⟩
  have B2 := Lib.hid (B1.out.trans (hb2.mono B1.out.size))
  clear hb2 KL
  go_wp2
  go_ret
  exact ⟨rfl, B2.out⟩
set_option maxHeartbeats 1000000 in
set_option maxRecDepth 100000 in
theorem inodeLoad_odd (a : Option Addr) (n c : Nat) (l : List Int) (w : World) (h : Rdv u8v w (.slice a n c) l) (hl : n ≤ 60) (h44 : n ≠ 44) : Calls Try.prog 9 #[.slice a n c] w (BegunPost w) := by
  have KB := Lib.hid (inoBegun w)
  obtain ⟨hn, h1, h2, h3⟩ := h.cap
  have HT := Lib.hid (fun w1 (hb : Below w.heap.size w w1) => inoLoad_len (.slice a n c) l w1 (h.below hb) (by omega))
  unfold maxLen at h2
  have k1 : (n : Int) ≤ 60 := by omega
  have k2 : (n : Int) ≤ c := by omega
  have k3 : ¬ (n : Int) = 44 := by omega
  clear h h1 h3 hn
  go_enter Try.func9, Try.ntmps9
  go_wp2_with fail
  refine KB.out.mono ?_
  rintro e w1 ⟨rfl, hb1⟩
  have B1 := Lib.hid hb1
  have KL := Lib.hid (HT.out w1 hb1)
  clear hb1 KB
  go_wp2_with fail
  refine KL.out.mono ?_
  rintro e w2 ⟨rfl, hb2⟩
  have B2 := Lib.hid (B1.out.trans (hb2.mono B1.out.size))
  clear hb2 KL
  go_wp2
  go_ret
  exact ⟨rfl, B2.out⟩
theorem Rdv.cell_ {w : World} {b o n c : Nat} {xs : List Int} (h : Rdv u8v w (.slice (some ⟨b, o, none⟩) n c) xs) (i : Nat) (hi : i < xs.length) : w.cell? ⟨b, o + i, none⟩ = some (u8v (xs.getD i 0)) := by
  obtain ⟨a, c', e, h1, h2, h3⟩ := h
  rcases h3 with rfl | ⟨b', o', e2, h3⟩
  · simp at hi
  · rw [Value.slice.injEq] at e
    obtain ⟨e, _, _⟩ := e
    rw [e2] at e
    injection e with e
    injection e with ea eb
    rw [ea, eb]
    exact h3 i hi
set_option maxHeartbeats 1000000 in
set_option maxRecDepth 100000 in
theorem inodeLoad_big (b o c : Nat) (l : List Int) (w : World) (h : Rdv u8v w (.slice (some ⟨b, o, none⟩) 44 c) l) (hby : Byt l) (hg : 65536 < get4 l) : Calls Try.prog 9 #[.slice (some ⟨b, o, none⟩) 44 c] w (BegunPost w) := by
  have KB := Lib.hid (inoBegun w)
  obtain ⟨hn, h1, h2, h3⟩ := h.cap
  have HT := Lib.hid (fun w1 (hb : Below w.heap.size w w1) => inoLoad_big _ l w1 (h.below hb) hby hn.symm hg)
  unfold maxLen at h2
  have k2 : (44 : Int) ≤ c := by omega
  obtain ⟨x0, y0, b0⟩ := hby.at_ 0 (by omega)
  obtain ⟨x1, y1, b1⟩ := hby.at_ 1 (by omega)
  obtain ⟨x2, y2, b2⟩ := hby.at_ 2 (by omega)
  obtain ⟨x3, y3, b3⟩ := hby.at_ 3 (by omega)
  have HG := Lib.hid (get4_of y0 y1 y2 y3)
  have HJ := Lib.hid (join_i64 x0 x1 x2 x3 b0 b1 b2 b3)
  have H0 := Lib.hid (fun w' (hb : Below w.heap.size w w') => (h.below hb).cell_ 0 (by omega))
  have H1 := Lib.hid (fun w' (hb : Below w.heap.size w w') => (h.below hb).cell_ 1 (by omega))
  have H2 := Lib.hid (fun w' (hb : Below w.heap.size w w') => (h.below hb).cell_ 2 (by omega))
  have H3 := Lib.hid (fun w' (hb : Below w.heap.size w w') => (h.below hb).cell_ 3 (by omega))
  rw [y0, Nat.add_zero] at H0
  rw [y1] at H1
  rw [y2] at H2
  rw [y3] at H3
  clear y0 y1 y2 y3
  rw [HG.out] at hg
  have hgi : (65536 : Int) < ((v4 x0 x1 x2 x3 : Nat) : Int) := by omega
  have hgd : decide (((v4 x0 x1 x2 x3 : Nat) : Int) ≤ 65536) = false := decide_eq_false (by omega)
  generalize v4 x0 x1 x2 x3 = q at *
  clear h h1 h3 hn
  go_enter Try.func9, Try.ntmps9
  go_wp2_with fail
  refine KB.out.mono ?_
  rintro e w1 ⟨rfl, hb1⟩
  have B1 := Lib.hid hb1
  have KL := Lib.hid (HT.out w1 hb1)
  clear hb1 KB
  go_wp2_with fail
  refine KL.out.mono ?_
  rintro e w2 ⟨rfl, hb2⟩
  have B2 := Lib.hid (B1.out.trans (hb2.mono B1.out.size))
  clear hb2 KL
  have c0 := H0.out _ B2.out
  have c1 := H1.out _ B2.out
  have c2 := H2.out _ B2.out
  have c3 := H3.out _ B2.out
  go_wp2
  go_quiet (fail)
  rw [HJ.out]
  go_wp2
  go_ret
  exact ⟨rfl, below_drewN B2.out _⟩
set_option maxHeartbeats 1000000 in
set_option maxRecDepth 100000 in
theorem inodeLoad_fine (b o c : Nat) (l : List Int) (w : World) (h : Rdv u8v w (.slice (some ⟨b, o, none⟩) 44 c) l) (hby : Byt l) (hg : get4 l ≤ 65536) : Calls Try.prog 9 #[.slice (some ⟨b, o, none⟩) 44 c] w (BegunPost w) := by
  have KB := Lib.hid (inoBegun w)
  obtain ⟨hn, h1, h2, h3⟩ := h.cap
  have hLn : Hid (l.length = 44) := Lib.hid hn.symm
  have HT := Lib.hid (fun w1 (hb : Below w.heap.size w w1) => inoLoad_ok _ l w1 (h.below hb) hby hn.symm hg)
  unfold maxLen at h2
  have k2 : (44 : Int) ≤ c := by omega
  have H := Lib.hid h
  have HBY := Lib.hid hby
  have HGL := Lib.hid hg
  obtain ⟨x0, y0, b0⟩ := hby.at_ 0 (by omega)
  obtain ⟨x1, y1, b1⟩ := hby.at_ 1 (by omega)
  obtain ⟨x2, y2, b2⟩ := hby.at_ 2 (by omega)
  obtain ⟨x3, y3, b3⟩ := hby.at_ 3 (by omega)
  have HG := Lib.hid (get4_of y0 y1 y2 y3)
  have HJ := Lib.hid (join_i64 x0 x1 x2 x3 b0 b1 b2 b3)
  have H0 := Lib.hid (fun w' (hb : Below w.heap.size w w') => (h.below hb).cell_ 0 (by omega))
  have H1 := Lib.hid (fun w' (hb : Below w.heap.size w w') => (h.below hb).cell_ 1 (by omega))
  have H2 := Lib.hid (fun w' (hb : Below w.heap.size w w') => (h.below hb).cell_ 2 (by omega))
  have H3 := Lib.hid (fun w' (hb : Below w.heap.size w w') => (h.below hb).cell_ 3 (by omega))
  rw [y0, Nat.add_zero] at H0
  rw [y1] at H1
  rw [y2] at H2
  rw [y3] at H3
  clear y0 y1 y2 y3
  rw [HG.out] at hg
  have hgd : decide (((v4 x0 x1 x2 x3 : Nat) : Int) ≤ 65536) = true := decide_eq_true (by omega)
  generalize v4 x0 x1 x2 x3 = q at *
  clear h h1 h3 hn hby
  go_enter Try.func9, Try.ntmps9
  go_wp2_with fail
  refine KB.out.mono ?_
  rintro e w1 ⟨rfl, hb1⟩
  have B1 := Lib.hid hb1
  have KL := Lib.hid (HT.out w1 hb1)
  clear hb1 KB
  go_wp2_with fail
  refine KL.out.mono ?_
  rintro e w2 ⟨nb, rfl, _, hN, hb2⟩
  have B2 := Lib.hid (B1.out.trans (hb2.mono B1.out.size))
  have c0 := H0.out _ B2.out
  have c1 := H1.out _ B2.out
  have c2 := H2.out _ B2.out
  have c3 := H3.out _ B2.out
  have R2 := Lib.hid (H.out.below B2.out)
  have N2 := Lib.hid hN
  clear hN hb2 KL
  go_wp2
  go_quiet (fail)
  rw [HJ.out]
  go_wp2
  have KV : Hid (∀ w', Below w.heap.size w w' → (convert 48 9 (.slice (some ⟨b, o, none⟩) 44 c)).run Try.prog w' = .ok (.string (strOfNums l)) w') := Lib.hid (fun w' hb => conv_rdv (P := Try.prog) 48 5 Try.underlying48 Try.underlying5 (H.out.below hb) 9 Try.underlying9)
  have B6 : Hid (Below w.heap.size w (w2.drewN (nq + 1))) := Lib.hid (below_drewN B2.out (nq + 1))
  have KB2 : Hid (Calls Try.prog 43 #[.pointer (some ⟨nb, 0, none⟩)] (w2.drewN (nq + 1)) (ClonePost l (w2.drewN (nq + 1)))) := Lib.hid (by
    have hx := inoBytesL (w := (w2.drewN (nq + 1))) (Blk.drewN N2.out (nq + 1)) HGL.out (inoL_len l 10) (inoL_le HBY.out)
    rw [ino_back HBY.out hLn.out] at hx
    exact hx)
  have kv0 := KV.out _ (below_drewN B2.out nq)
  clear c0 c1 c2 c3
  refine wp_region_held_drew (S := fun w' => (convert 48 9 (.slice (some ⟨b, o, none⟩) 44 c)).run Try.prog w' = .ok (.string (strOfNums l)) w') (by kernel_rfl) (KV.out _ B6.out) (fun hHeld => ?_)
  refine wpAnyH_take (i := 0) (v := ?_) rfl (by kernel_rfl) (by kernel_rfl) (by kernel_rfl) (fun _ _ _ h => h) (Or.inl ⟨by kernel_rfl, ?_⟩) (by assumption) ?_
  rotate_left 1
  · (intro w hSw; (try dsimp only at hSw); go_simp; (try (with_reducible rfl)))
  (try simp only [List.getElem_toArray, List.getElem_cons_succ, List.getElem_cons_zero, Act.put, List.setIfInBounds_toArray, List.set_cons_zero, List.set_cons_succ])
  refine wpAnyH_take (i := 1) (v := ?_) rfl (by kernel_rfl) (by kernel_rfl) (by kernel_rfl) (fun _ _ _ h => h) (Or.inl ⟨by kernel_rfl, ?_⟩) (by assumption) ?_
  rotate_left 1
  · (intro w hSw; (try dsimp only at hSw); go_simp; (try (with_reducible rfl)))
  (try simp only [List.getElem_toArray, List.getElem_cons_succ, List.getElem_cons_zero, Act.put, List.setIfInBounds_toArray, List.set_cons_zero, List.set_cons_succ])
  refine wpAnyH_take (i := 2) (v := ?_) rfl (by kernel_rfl) (by kernel_rfl) (by kernel_rfl) (fun _ _ _ h => h) (Or.inl ⟨by kernel_rfl, ?_⟩) (by assumption) ?_
  rotate_left 1
  · (intro w hSw; (try dsimp only at hSw); go_simp; (try (with_reducible rfl)))
  (try simp only [List.getElem_toArray, List.getElem_cons_succ, List.getElem_cons_zero, Act.put, List.setIfInBounds_toArray, List.set_cons_zero, List.set_cons_succ])
  refine wpAnyH_take (i := 3) (v := ?_) rfl (by kernel_rfl) (by kernel_rfl) (by kernel_rfl) (fun _ _ _ h => h) (Or.inl ⟨by kernel_rfl, ?_⟩) (by assumption) ?_
  rotate_left 1
  · (intro w hSw; (try dsimp only at hSw); go_simp; (try (with_reducible rfl)))
  (try simp only [List.getElem_toArray, List.getElem_cons_succ, List.getElem_cons_zero, Act.put, List.setIfInBounds_toArray, List.set_cons_zero, List.set_cons_succ])
  refine wpAnyH_take (i := 4) (v := ?_) rfl (by kernel_rfl) (by kernel_rfl) (by kernel_rfl) (fun _ _ _ h => h) (Or.inl ⟨by kernel_rfl, ?_⟩) (by assumption) ?_
  rotate_left 1
  · (intro w hSw; (try dsimp only at hSw); go_simp; (try (with_reducible rfl)))
  (try simp only [List.getElem_toArray, List.getElem_cons_succ, List.getElem_cons_zero, Act.put, List.setIfInBounds_toArray, List.set_cons_zero, List.set_cons_succ])
  refine wpAnyH_take (i := 5) (v := ?_) rfl (by kernel_rfl) (by kernel_rfl) (by kernel_rfl) (fun _ _ _ h => h) (Or.inl ⟨by kernel_rfl, ?_⟩) (by assumption) ?_
  rotate_left 1
  · (intro w hSw; (try dsimp only at hSw); go_simp; (try (with_reducible rfl)))
  (try simp only [List.getElem_toArray, List.getElem_cons_succ, List.getElem_cons_zero, Act.put, List.setIfInBounds_toArray, List.set_cons_zero, List.set_cons_succ])
  refine wpAnyH_take (i := 6) (v := ?_) rfl (by kernel_rfl) (by kernel_rfl) (by kernel_rfl) (fun _ _ _ h => h) (Or.inl ⟨by kernel_rfl, ?_⟩) (by assumption) ?_
  rotate_left 1
  · (intro w hSw; (try dsimp only at hSw); go_simp; (try (with_reducible rfl)))
  (try simp only [List.getElem_toArray, List.getElem_cons_succ, List.getElem_cons_zero, Act.put, List.setIfInBounds_toArray, List.set_cons_zero, List.set_cons_succ])
  refine wpAnyH_take (i := 7) (v := ?_) rfl (by kernel_rfl) (by kernel_rfl) (by kernel_rfl) (fun _ _ _ h => h) (Or.inl ⟨by kernel_rfl, ?_⟩) (by assumption) ?_
  rotate_left 1
  · (intro w hSw; (try dsimp only at hSw); go_simp; (try (with_reducible rfl)))
  (try simp only [List.getElem_toArray, List.getElem_cons_succ, List.getElem_cons_zero, Act.put, List.setIfInBounds_toArray, List.set_cons_zero, List.set_cons_succ])
  refine wpAnyH_take (i := 8) (v := ?_) rfl (by kernel_rfl) (by kernel_rfl) (by kernel_rfl) (fun _ _ _ h => h) (Or.inl ⟨by kernel_rfl, ?_⟩) (by assumption) ?_
  rotate_left 1
  · (intro w hSw; (try dsimp only at hSw); go_simp; (try (with_reducible rfl)))
  (try simp only [List.getElem_toArray, List.getElem_cons_succ, List.getElem_cons_zero, Act.put, List.setIfInBounds_toArray, List.set_cons_zero, List.set_cons_succ])
  refine wpAnyH_take (i := 9) (v := ?_) rfl (by kernel_rfl) (by kernel_rfl) (by kernel_rfl) (fun _ _ _ h => h) (Or.inl ⟨by kernel_rfl, ?_⟩) (by assumption) ?_
  rotate_left 1
  · (intro w hSw; (try dsimp only at hSw); go_simp; (try (with_reducible rfl)))
  (try simp only [List.getElem_toArray, List.getElem_cons_succ, List.getElem_cons_zero, Act.put, List.setIfInBounds_toArray, List.set_cons_zero, List.set_cons_succ])
  refine wpAnyH_take (i := 10) (v := ?_) rfl (by kernel_rfl) (by kernel_rfl) (by kernel_rfl) (fun _ _ _ h => h) (Or.inl ⟨by kernel_rfl, ?_⟩) (by assumption) ?_
  rotate_left 1
  · (intro w hSw; (try dsimp only at hSw); go_simp; (try (with_reducible rfl)))
  (try simp only [List.getElem_toArray, List.getElem_cons_succ, List.getElem_cons_zero, Act.put, List.setIfInBounds_toArray, List.set_cons_zero, List.set_cons_succ])
  refine wpAnyH_take (i := 13) (v := ?_) rfl (by kernel_rfl) (by kernel_rfl) (by kernel_rfl) (fun _ _ _ h => h) (Or.inl ⟨by kernel_rfl, ?_⟩) (by assumption) ?_
  rotate_left 1
  · (intro w hSw; (try dsimp only at hSw); go_simp; (try (with_reducible rfl)))
  (try simp only [List.getElem_toArray, List.getElem_cons_succ, List.getElem_cons_zero, Act.put, List.setIfInBounds_toArray, List.set_cons_zero, List.set_cons_succ])
  refine wpAnyH_take (i := 14) (v := ?_) rfl (by kernel_rfl) (by kernel_rfl) (by kernel_rfl) (fun _ _ _ h => h) (Or.inl ⟨by kernel_rfl, ?_⟩) (by assumption) ?_
  rotate_left 1
  · (intro w hSw; (try dsimp only at hSw); go_simp; (try (with_reducible rfl)))
  (try simp only [List.getElem_toArray, List.getElem_cons_succ, List.getElem_cons_zero, Act.put, List.setIfInBounds_toArray, List.set_cons_zero, List.set_cons_succ])
  refine wpAnyH_ready (rs := [11]) (by kernel_rfl) (by simp) ?_
  refine AllReadyH.cons rfl (fun K hK => ?_) AllReadyH.nil
  go_simp
  go_wp2_with (go_at_call 43; (with_reducible refine KB2.out.mono ?_); rintro e w5 ⟨v5, rfl, ho5, hb5⟩; have KU5 := conv_rdv (P := Try.prog) 48 5 Try.underlying48 Try.underlying5 (Rdv.of_owns ho5) 9 Try.underlying9; have HB5 := Lib.hid hb5; have KV5 := KV.out w5 (B6.out.trans (hb5.mono B6.out.size)))
  refine hK.out _ _ ?_ (fun hHeld => ?_)
  · (try dsimp only)
    exact KV5
  clear hK K
  (try simp only [List.getElem_toArray, List.getElem_cons_succ, List.getElem_cons_zero, Act.put, List.setIfInBounds_toArray, List.set_cons_zero, List.set_cons_succ])
  refine wpAnyH_ready (rs := [12]) (by kernel_rfl) (by simp) ?_
  refine AllReadyH.cons rfl (fun K hK => ?_) AllReadyH.nil
  go_simp
  go_wp2_with (fail)
  refine hK.out _ _ ?_ (fun hHeld => ?_)
  · (try dsimp only)
    exact KV5
  clear hK K
  (try simp only [List.getElem_toArray, List.getElem_cons_succ, List.getElem_cons_zero, Act.put, List.setIfInBounds_toArray, List.set_cons_zero, List.set_cons_succ])
  refine wpAnyH_take (i := 15) (v := ?_) rfl (by kernel_rfl) (by kernel_rfl) (by kernel_rfl) (fun _ _ _ h => h) (Or.inl ⟨by kernel_rfl, ?_⟩) (by assumption) ?_
  rotate_left 1
  · (intro w hSw; (try dsimp only at hSw); go_simp; (try (with_reducible rfl)))
  (try simp only [List.getElem_toArray, List.getElem_cons_succ, List.getElem_cons_zero, Act.put, List.setIfInBounds_toArray, List.set_cons_zero, List.set_cons_succ])
  refine wpAnyH_take (i := 16) (v := ?_) rfl (by kernel_rfl) (by kernel_rfl) (by kernel_rfl) (fun _ _ _ h => h) (Or.inl ⟨by kernel_rfl, ?_⟩) (by assumption) ?_
  rotate_left 1
  · (intro w hSw; (try dsimp only at hSw); go_simp; (try (with_reducible rfl)))
  (try simp only [List.getElem_toArray, List.getElem_cons_succ, List.getElem_cons_zero, Act.put, List.setIfInBounds_toArray, List.set_cons_zero, List.set_cons_succ])
  refine wpAnyH_take (i := 17) (v := ?_) rfl (by kernel_rfl) (by kernel_rfl) (by kernel_rfl) (fun _ _ _ h => h) (Or.inl ⟨by kernel_rfl, ?_⟩) (by assumption) ?_
  rotate_left 1
  · (intro w hSw; (try dsimp only at hSw); go_simp; (try (with_reducible rfl)))
  (try simp only [List.getElem_toArray, List.getElem_cons_succ, List.getElem_cons_zero, Act.put, List.setIfInBounds_toArray, List.set_cons_zero, List.set_cons_succ])
  refine wpAnyH_done (by kernel_rfl) ?_ _
  have hB7 := B6.out.trans (HB5.out.mono B6.out.size)
  go_wp2
  go_ret
  exact ⟨ret_b (by simp), hB7⟩
theorem inodeLoad_walk (v : Value) (l : List Int) (w : World) (h : Rdv u8v w v l) (hby : Byt l) : Calls Try.prog 9 #[v] w (BegunPost w) := by
  obtain ⟨a, n, c, rfl⟩ := h.shape
  by_cases h1 : 60 < n
  · exact inodeLoad_long a n c l w h h1
  · by_cases h2 : n = 44
    · subst h2
      obtain ⟨hn, _, _, h3⟩ := h.cap
      obtain ⟨b, o, rfl⟩ := h3 (by rintro rfl; simp at hn)
      by_cases hg : get4 l ≤ 65536
      · exact inodeLoad_fine b o c l w h hby hg
      · exact inodeLoad_big b o c l w h hby (by omega)
    · exact inodeLoad_odd a n c l w h (by omega) h2
end Go.Proofs.Ytfcddpbpfckjfaa
