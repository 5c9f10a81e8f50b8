/- An inode is written: a block is filled. -/
import Derived.Test.YtfcddpbpfckjfaaChecked
import Derived.WalkKit
import Derived.Outline
import Derived.WalkSpells
import Derived.WalkLawsBesides
import Derived.Deep.QuietTactic
import Derived.Deep.RegionWith
import Derived.Deep.DeepMust
import Derived.BigQuiet
import Derived.Test.YtfcddpbpfckjfaaMem
import Derived.RegionTactic
import Derived.ChangeAlike
import Derived.StillTailTactics
import Derived.BigRegion
import Derived.Deep.LoopGhost
import Derived.Deep.RegionHeld3
import Derived.Deep.OwnRows
import Derived.Test.YtfcddpbpfckjfaaIh
namespace Go.Proofs.Ytfcddpbpfckjfaa
open Go.RowKit
set_option linter.unusedVariables false
set_option linter.unusedSimpArgs false
theorem RowsAt.stayN {S : Nat → Prop} {w w' : World} {vl : Nat} {ls : List (List Int)} (h : RowsAt w vl ls) (hc : Chg S w w') (hs : ∀ k, S k → NoB w k ∧ k ≠ vl) : RowsAt w' vl ls := by
  obtain ⟨vs, h1, h2, h3⟩ := h
  exact ⟨vs, hc.blk h1 (fun e => (hs _ e).2 rfl), h2, fun i v l a b => (h3 i v l a b).stayN hc (fun k hk => (hs k hk).1)⟩
theorem VolAt.stayN {S : Nat → Prop} {w w' : World} {vb b g : Nat} {ls : List (List Int)} {kept c : Nat} {ch : Bool} (h : VolAt w vb b g ls kept c ch) (hc : Chg S w w') (hs : ∀ k, S k → NoB w k ∧ k ≠ vb ∧ k ≠ g) : VolAt w' vb b g ls kept c ch :=
  ⟨hc.blk h.1 (fun e => (hs _ e).2.1 rfl), h.2.stayN hc (fun k hk => ⟨(hs k hk).1, (hs k hk).2.2⟩)⟩
theorem CchS.noM {w : World} {vb cb mb : Nat} {s : Option (Nat × Nat)} {t hits miss : Int} (h : CchS w vb cb mb s t hits miss) : NoB w mb := by
  obtain ⟨es, clock, he, _⟩ := h.2
  exact map_noB he
/-- A cache that holds nothing yet. -/
structure DiskE (w : World) (vb b g cb mb : Nat) (ls : List (List Int)) : Prop where
  cch : CchS w vb cb mb none 0 0 0
  vol : VolAt w vb b g ls 0 0 false
  len : ls.length ≤ 65536 ∧ 2 ≤ ls.length
  blk : ∀ x ∈ ls, x.length = 512
theorem DiskE.stay {S : Nat → Prop} {w w' : World} {vb b g cb mb : Nat} {ls : List (List Int)} (h : DiskE w vb b g cb mb ls) (hc : Chg S w w') (hs : ∀ k, S k → Plain w k ∧ k ≠ cb ∧ k ≠ mb ∧ k ≠ vb ∧ k ≠ g) : DiskE w' vb b g cb mb ls :=
  ⟨h.cch.stay hc (fun e => (hs _ e).2.1 rfl) (fun e => (hs _ e).2.2.1 rfl), h.vol.stay hc (fun k hk => ⟨(hs k hk).1, (hs k hk).2.2.2.1, (hs k hk).2.2.2.2⟩), h.len, h.blk⟩
theorem DiskE.below {w w' : World} {vb b g cb mb : Nat} {ls : List (List Int)} (h : DiskE w vb b g cb mb ls) (hb : Below w.heap.size w w') : DiskE w' vb b g cb mb ls :=
  ⟨h.cch.below hb, h.vol.below hb, h.len, h.blk⟩
def FillPost (wb mu mp n s x0 x2 x3 x4 x5 x6 x7 x8 x9 vb b g cb mb : Nat) (ls : List (List Int)) (oa wa ra : Option Addr) (rn rc : Nat) (w : World) (e : Ending) (w' : World) : Prop :=
  ∃ hb tk tc : Nat, e = .returned (.int .i64 0) ∧ w.heap.size ≤ hb ∧ Blk w' wb (workC s x0 1 x2 x3 x4 x5 x6 x7 x8 x9 (.pointer (some ⟨cb, 0, none⟩)) (.pointer (some ⟨mp, 0, none⟩)) (.pointer oa) (.pointer wa) (.slice ra rn rc) (.slice (some ⟨tk, 0, none⟩) 1 tc) (.slice none 0 0)) 128 ∧ MapAt w' mp mu (us2 n) ∧
    DiskA w' vb b g cb mb hb ls zB 1 0 1 true ∧ Chg (fun k => k = wb ∨ k = mu ∨ k = cb ∨ k = mb) w w'
set_option maxHeartbeats 1000000 in
set_option maxRecDepth 100000 in
theorem inoFill {w : World} {wb mu mp n s x0 x2 x3 x4 x5 x6 x7 x8 x9 vb b g cb mb : Nat} {ls : List (List Int)} {oa wa ra : Option Addr} {rn rc : Nat} (h : Blk w wb (workC s x0 0 x2 x3 x4 x5 x6 x7 x8 x9 (.pointer (some ⟨cb, 0, none⟩)) (.pointer (some ⟨mp, 0, none⟩)) (.pointer oa) (.pointer wa) (.slice ra rn rc) (.slice none 0 0) (.slice none 0 0)) 128)
    (hM : MapAt w mp mu (us1 n)) (hn : 1 ≤ n) (hne : mu ≠ mp) (hwm : wb ≠ mp ∧ wb ≠ mu) (hD : DiskE w vb b g cb mb ls) (hww : wb ≠ cb ∧ wb ≠ mb ∧ wb ≠ vb ∧ wb ≠ g) (hcg : cb ≠ vb ∧ cb ≠ g ∧ mb ≠ vb ∧ mb ≠ g) (hmu : mu ≠ cb ∧ mu ≠ mb ∧ mu ≠ vb ∧ mu ≠ g ∧ mp ≠ cb ∧ mp ≠ mb) :
    Calls Try.prog 91 #[.pointer (some ⟨wb, 0, none⟩), .int .i64 1] w (FillPost wb mu mp n s x0 x2 x3 x4 x5 x6 x7 x8 x9 vb b g cb mb ls oa wa ra rn rc w) := by
  have KA := Lib.hid (inoAt1 h (by omega))
  have KT := Lib.hid (inoWTake h hM hn hne hwm)
  have hmk := wMk512
  have HM := Lib.hid hM
  have HD := Lib.hid hD
  have HW := Lib.hid (workPlain h)
  clear h hM hD
  go_enter Try.func91, Try.ntmps91
  go_wp2_with fail
  refine KA.out.mono ?_
  rintro e w1 ⟨rfl, rfl⟩
  go_wp2_with fail
  refine inoReach.mono ?_
  rintro e w1 ⟨rfl, rfl⟩
  go_wp2_with fail
  refine KT.out.mono ?_
  rintro e w1 ⟨tk, tc, rfl, hW1, hM1, hg1⟩
  have hp1 : Plain w mu := HM.out.plain.2
  have D1 := Lib.hid (HD.out.stay hg1 (fun k hk => by rcases hk with rfl | rfl; exact ⟨HW.out, hww⟩; exact ⟨hp1, hmu.1, hmu.2.1, hmu.2.2.1, hmu.2.2.2.1⟩))
  have M1 := Lib.hid hM1
  have G1 := Lib.hid hg1
  have KS := Lib.hid (inoWSet hW1)
  have W1 := Lib.hid hW1
  clear hW1 hM1 hg1 KT KA
  go_wp2_with fail
  refine KS.out.mono ?_
  rintro e w2 ⟨rfl, hW2, hg2⟩
  have W2 := Lib.hid hW2
  have M2 := Lib.hid (M1.out.stay hg2 (fun e => hwm.1 e.symm) (fun e => hwm.2 e.symm))
  have G2 := Lib.hid (G1.out.trans (hg2.mono fun i _ e => .inl e))
  have hp2 : Plain w1 wb := workPlain W1.out
  have D2 := Lib.hid (D1.out.stay hg2 (fun k hk => by subst hk; exact ⟨hp2, hww⟩))
  have c11 : w2.cell? ⟨wb, 11, none⟩ = some (.pointer (some ⟨cb, 0, none⟩)) := W2.out.cell (o := 11) rfl
  have C11 := Lib.hid c11
  have hz2 := hg2.size
  have hz1 := G1.out.size
  have b7 : Below w2.heap.size w2 ((w2.alloc (.cells (madeCells #[.int .u8 0] 512) 5)).drew) := ((Below.refl _ _).alloc (Nat.le_refl _) _).drew
  have hK7 : ((w2.alloc (.cells (madeCells #[.int .u8 0] 512) 5)).drew).cell? ⟨wb, 11, none⟩ = some (.pointer (some ⟨cb, 0, none⟩)) := below_cell b7 _ _ C11.out
  have D7 := Lib.hid (D2.out.below b7)
  have Z7 := Lib.hid ((wZeros w2 512 (by unfold maxLen; omega)).below (Drw.below ⟨1, rfl⟩ : Below _ _ (w2.alloc (.cells (madeCells #[.int .u8 0] 512) 5)).drew))
  have hl1 : 1 < ls.length := by have := D2.out.len; omega
  have KP := Lib.hid (bcPut0 D7.out.cch D7.out.vol Z7.out List.length_replicate D7.out.len.1 hl1 ⟨by omega, by omega⟩)
  clear hW2 hg2 D1 M1 G1 KS hp1 W1
  go_wp2
  refine wp_region_held_drew (S := fun w' => w'.cell? ⟨wb, 11, none⟩ = some (.pointer (some ⟨cb, 0, none⟩))) (by kernel_rfl) C11.out (fun hHeld => ?_)
  refine wpAnyH_take (i := 0) (v := ?_) rfl (by kernel_rfl) (by kernel_rfl) (by kernel_rfl) (fun _ _ _ h => h) (Or.inl ⟨by kernel_rfl, ?_⟩) (by assumption) ?_
  rotate_left 1
  · (intro w hSw; (try dsimp only at hSw); go_simp; (try (with_reducible rfl)))
  (try simp only [List.getElem_toArray, List.getElem_cons_succ, List.getElem_cons_zero, Act.put, List.setIfInBounds_toArray, List.set_cons_zero, List.set_cons_succ])
  refine wpAnyH_take (i := 1) (v := ?_) rfl (by kernel_rfl) (by kernel_rfl) (by kernel_rfl) (fun _ _ _ h => h) (Or.inl ⟨by kernel_rfl, ?_⟩) (by assumption) ?_
  rotate_left 1
  · (intro w hSw; (try dsimp only at hSw); go_simp; (try (with_reducible rfl)))
  (try simp only [List.getElem_toArray, List.getElem_cons_succ, List.getElem_cons_zero, Act.put, List.setIfInBounds_toArray, List.set_cons_zero, List.set_cons_succ])
  refine wpAnyH_take (i := 2) (v := ?_) rfl (by kernel_rfl) (by kernel_rfl) (by kernel_rfl) (fun _ _ _ h => h) (Or.inl ⟨by kernel_rfl, ?_⟩) (by assumption) ?_
  rotate_left 1
  · (intro w hSw; (try dsimp only at hSw); go_simp; (try (with_reducible rfl)))
  (try simp only [List.getElem_toArray, List.getElem_cons_succ, List.getElem_cons_zero, Act.put, List.setIfInBounds_toArray, List.set_cons_zero, List.set_cons_succ])
  refine wpAnyH_take (i := 3) (v := ?_) rfl (by kernel_rfl) (by kernel_rfl) (by kernel_rfl) (fun _ _ _ h => h) (Or.inl ⟨by kernel_rfl, ?_⟩) (by assumption) ?_
  rotate_left 1
  · (intro w hSw; (try dsimp only at hSw); go_simp; (try (with_reducible rfl)))
  (try simp only [List.getElem_toArray, List.getElem_cons_succ, List.getElem_cons_zero, Act.put, List.setIfInBounds_toArray, List.set_cons_zero, List.set_cons_succ])
  refine wpAnyH_take (i := 4) (v := ?_) rfl (by kernel_rfl) (by kernel_rfl) (by kernel_rfl) (fun _ _ _ h => h) (Or.inl ⟨by kernel_rfl, ?_⟩) (by assumption) ?_
  rotate_left 1
  · (intro w hSw; (try dsimp only at hSw); go_simp; (try (with_reducible rfl)))
  (try simp only [List.getElem_toArray, List.getElem_cons_succ, List.getElem_cons_zero, Act.put, List.setIfInBounds_toArray, List.set_cons_zero, List.set_cons_succ])
  refine wpAnyH_ready (rs := [5]) (by kernel_rfl) (by simp) ?_
  refine AllReadyH.cons rfl (fun K hK => ?_) AllReadyH.nil
  go_simp
  go_wp2_with (fail)
  refine hK.out _ _ ?_ (fun hHeld => ?_)
  · (try dsimp only)
    first | exact hK7 | exact hP7
  clear hK K
  (try simp only [List.getElem_toArray, List.getElem_cons_succ, List.getElem_cons_zero, Act.put, List.setIfInBounds_toArray, List.set_cons_zero, List.set_cons_succ])
  refine wpAnyH_ready (rs := [6]) (by kernel_rfl) (by simp) ?_
  refine AllReadyH.cons rfl (fun K hK => ?_) AllReadyH.nil
  go_simp
  go_wp2_with fail
  refine KP.out.mono ?_
  rintro e w8 ⟨hb, rfl, hhb, hC8, hH8, hg8⟩
  have W8 := Lib.hid (hg8.blk (blkBelow b7 W2.out W2.out.lt) (by rintro (e | e); exact hww.1 e; exact hww.2.1 e))
  have M8 := Lib.hid ((M2.out.of_below b7).stay hg8 (by rintro (e | e); exact hmu.2.2.2.2.1 e; exact hmu.2.2.2.2.2 e) (by rintro (e | e); exact hmu.1 e; exact hmu.2.1 e))
  have hcv := D7.out.cch
  have V8 := Lib.hid (D7.out.vol.stayN hg8 (fun k hk => by
    rcases hk with rfl | rfl
    · exact ⟨hcv.plainC.noB, hcg.1, hcg.2.1⟩
    · exact ⟨hcv.noM, hcg.2.2.1, hcg.2.2.2⟩))
  have F8 : Hid (DiskA w8 vb b g cb mb hb ls zB 1 0 1 true) := Lib.hid ⟨hC8, hH8, V8.out, D7.out.len, D7.out.blk⟩
  have hz8 : w.heap.size ≤ hb := by have := b7.size; omega
  have G8 : Hid (Chg (fun k => k = wb ∨ k = mu ∨ k = cb ∨ k = mb) w w8) := Lib.hid (((G2.out.mono (S' := fun k => k = wb ∨ k = mu ∨ k = cb ∨ k = mb) (fun i _ h => by rcases h with h | h; exact .inl h; exact .inr (.inl h))).trans (Chg.of_below b7 (fun i h1 h2 => absurd h1 (Nat.not_lt.2 h2)))).trans (hg8.mono fun i _ h => by rcases h with h | h; exact .inr (.inr (.inl h)); exact .inr (.inr (.inr h))))
  have c8 : w8.cell? ⟨wb, 11, none⟩ = some (.pointer (some ⟨cb, 0, none⟩)) := W8.out.cell (o := 11) rfl
  clear hC8 hH8 hg8
  refine hK.out _ _ ?_ (fun hHeld => ?_)
  · (try dsimp only); exact c8
  clear hK K
  (try simp only [List.getElem_toArray, List.getElem_cons_succ, List.getElem_cons_zero, Act.put, List.setIfInBounds_toArray, List.set_cons_zero, List.set_cons_succ])
  refine wpAnyH_take (i := 7) (v := ?_) rfl (by kernel_rfl) (by kernel_rfl) (by kernel_rfl) (fun _ _ _ h => h) (Or.inl ⟨by kernel_rfl, ?_⟩) (by assumption) ?_
  rotate_left 1
  · (intro w hSw; (try dsimp only at hSw); go_simp; (try (with_reducible rfl)))
  (try simp only [List.getElem_toArray, List.getElem_cons_succ, List.getElem_cons_zero, Act.put, List.setIfInBounds_toArray, List.set_cons_zero, List.set_cons_succ])
  refine wpAnyH_done (by kernel_rfl) ?_ _
  go_wp2
  go_ret
  exact ⟨hb, tk, tc, rfl, hz8, W8.out, M8.out, F8.out, G8.out⟩
end Go.Proofs.Ytfcddpbpfckjfaa
