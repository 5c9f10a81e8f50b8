/- A volume: its blocks are read. -/
import Derived.Test.YtfcddpbpfckjfaaChecked
import Derived.WalkKit
import Derived.Outline
import Derived.WalkSpells
import Derived.WalkLawsBesides
import Derived.Deep.QuietTactic
import Derived.Deep.RegionWith
import Derived.Deep.DeepMust
import Derived.BigQuiet
import Derived.Test.YtfcddpbpfckjfaaMem
import Derived.RegionTactic
import Derived.ChangeAlike
import Derived.StillTailTactics
import Derived.BigRegion
import Derived.Deep.LoopGhost
import Derived.Deep.RegionHeld3
import Derived.Deep.OwnRows
import Derived.Test.YtfcddpbpfckjfaaWe
namespace Go.Proofs.Ytfcddpbpfckjfaa
open Go.RowKit
set_option linter.unusedVariables false
set_option linter.unusedSimpArgs false
theorem wInfo : (Try.prog.info? 48).map (fun i => (i.zero, i.size, i.bytes)) = some (some (.slice none 0 0), 1, 24) := by kernel_rfl
theorem wMake (m : Nat) (hm : m ≤ 65536) (w : World) : (Instr.makeSlice 99 (.int .i64 m) (.int .i64 m)).run Try.prog w = .ok (.slice (some ⟨w.heap.size, 0, none⟩) m m) (w.alloc (.cells (madeCells #[.slice none 0 0] m) 48)) :=
  run_make_row' (P := Try.prog) 99 48 (.slice none 0 0) 24 Try.underlying99 wInfo rfl .i64 .i64 m (by omega) (by omega) w
theorem wMade (m : Nat) : madeCells #[Value.slice none 0 0] m = Array.replicate m (.slice none 0 0) := by
  apply Array.toList_inj.1
  rw [toList_madeCells_one]
  simp
/-- The side that counts. -/
def sideL (bs : List (List Int)) (kept m : Nat) : List (List Int) := (bs.drop (8 + kept % 2 * m)).take m
theorem sideL_len {bs : List (List Int)} {kept m : Nat} (h : 8 + 2 * m ≤ bs.length) : (sideL bs kept m).length = m := by
  have : kept % 2 * m ≤ m := by
    rcases (show kept % 2 = 0 ∨ kept % 2 = 1 by omega) with h | h <;> rw [h] <;> omega
  unfold sideL
  rw [List.length_take, List.length_drop]
  omega
theorem sideL_get {bs : List (List Int)} {kept m i : Nat} (h : 8 + 2 * m ≤ bs.length) (hi : i < m) : ∃ hb : 8 + kept % 2 * m + i < bs.length, (sideL bs kept m)[i]? = some bs[8 + kept % 2 * m + i] := by
  have : kept % 2 * m ≤ m := by
    rcases (show kept % 2 = 0 ∨ kept % 2 = 1 by omega) with h | h <;> rw [h] <;> omega
  have hb : 8 + kept % 2 * m + i < bs.length := by omega
  refine ⟨hb, ?_⟩
  unfold sideL
  rw [List.getElem?_take, if_pos hi, List.getElem?_drop, List.getElem?_eq_getElem hb]
theorem side_step {l : List (List Int)} {m i : Nat} {x : List Int} (hl : l.length = m) (hx : l[i]? = some x) : (l.take i ++ List.replicate (m - i) []).set i x = l.take (i + 1) ++ List.replicate (m - (i + 1)) [] := by
  have hi : i < l.length := by
    rcases Nat.lt_or_ge i l.length with h | h
    · exact h
    · rw [List.getElem?_eq_none h] at hx; cases hx
  rw [List.getElem?_eq_getElem hi] at hx
  injection hx with hx
  have e1 : m - i = (m - (i + 1)) + 1 := by omega
  rw [e1, List.replicate_succ, List.set_append_right _ _ (by rw [List.length_take]; omega), List.length_take, show i - min i l.length = 0 by omega, List.set_cons_zero, List.take_add_one, List.getElem?_eq_getElem hi, hx]
  simp
def BlocksPost (vb b m : Nat) (kept : Nat) (c : Int) (ls : List (List Int)) (w : World) (e : Ending) (w' : World) : Prop :=
  e = .returned (.int .i64 0) ∧ ∃ g : Nat, w.heap.size ≤ g ∧ VolB w' vb b (.slice (some ⟨g, 0, none⟩) m m) kept c false false ∧ RowsAt w' g ls ∧ Chg (· = vb) w w'
theorem size_setCell (w : World) (a : Addr) (v : Value) : (w.setCell a v).heap.size = w.heap.size := by simp [World.setCell]
def blS (vb b g m kept : Nat) (wr w' : World) : Prop := (w'.cell? ⟨vb, 0, none⟩ = some (.pointer (some ⟨b, 0, none⟩)) ∧ w'.cell? ⟨vb, 1, none⟩ = some (.slice (some ⟨g, 0, none⟩) m m) ∧ w'.cell? ⟨vb, 2, none⟩ = some (.int .i64 kept)) ∧ Chg (· = g) wr w'
theorem blS_of {vb b g m kept : Nat} {c : Int} {wr w' : World} (hV : VolB wr vb b (.slice (some ⟨g, 0, none⟩) m m) kept c false false) (hb : Chg (· = g) wr w') (hg : vb ≠ g) : blS vb b g m kept wr w' :=
  have hV' := hb.blk hV hg
  ⟨⟨hV'.cell (o := 0) rfl, hV'.cell (o := 1) rfl, hV'.cell (o := 2) rfl⟩, hb⟩
theorem DevC.lt {w : World} {b u : Nat} {bs : List (List Int)} {co : Int} {fl : Bool} (h : DevC w b u bs co fl) : b < w.heap.size ∧ u < w.heap.size := by
  obtain ⟨ds, h1, _⟩ := h
  exact ⟨h1.1.lt, h1.2.1.lt⟩
theorem RowsAt.free {w : World} {vl : Nat} {ls : List (List Int)} (h : RowsAt w vl ls) (i : Nat) : w.frozen? ⟨vl, i, none⟩ = false := by
  obtain ⟨vs, hb, _⟩ := h
  exact Blk.free hb i
set_option maxHeartbeats 2000000 in
set_option maxRecDepth 100000 in
theorem walBlocks {w : World} {vb b u m : Nat} {bs : List (List Int)} {co : Int} {fl : Bool} {la : Option Addr} {ln lc : Nat} {kept : Nat} {c : Int} (hV : VolB w vb b (.slice la ln lc) kept c false false) (hD : DevC w b u bs co fl) (hvb : vb ≠ b ∧ vb ≠ u)
    (hm : roomN bs.length = m) (hm1 : 1 ≤ m) (hk : kept ≤ 2147483647) :
    Calls Try.prog 112 #[.pointer (some ⟨vb, 0, none⟩)] w (BlocksPost vb b m kept c (sideL bs kept m) w) := by
  have hbl := hD.len
  have hrm : 8 + 2 * m ≤ bs.length := by
    unfold roomN at hm
    split at hm <;> omega
  have hm2 : m ≤ 65536 := by omega
  have hmk := wMake m hm2
  have hvl := Blk.lt hV
  have KM := Lib.hid (walRoom hD)
  rw [hm] at KM
  have c0 : w.cell? ⟨vb, 0, none⟩ = some (.pointer (some ⟨b, 0, none⟩)) := Blk.cell hV (o := 0) rfl
  have c1 : w.cell? ⟨vb, 1, none⟩ = some (.slice la ln lc) := Blk.cell hV (o := 1) rfl
  have f1 := Blk.free hV 1
  have V1 : Hid (VolB ((w.setCell ⟨vb, 1, none⟩ (.slice (some ⟨w.heap.size, 0, none⟩) m m)).alloc (.cells (madeCells #[.slice none 0 0] m) 48)) vb b (.slice (some ⟨w.heap.size, 0, none⟩) m m) kept c false false) := Lib.hid (Blk.alloc (Blk.set hV 1 (.slice (some ⟨w.heap.size, 0, none⟩) m m)) _)
  have R1 : Hid (RowsAt ((w.setCell ⟨vb, 1, none⟩ (.slice (some ⟨w.heap.size, 0, none⟩) m m)).alloc (.cells (madeCells #[.slice none 0 0] m) 48)) w.heap.size ((sideL bs kept m).take 0 ++ List.replicate (m - 0) [])) := Lib.hid (by
    have h0 := Blk.new (w.setCell ⟨vb, 1, none⟩ (.slice (some ⟨w.heap.size, 0, none⟩) m m)) (madeCells #[.slice none 0 0] m) 48
    rw [size_setCell] at h0
    rw [wMade] at h0 ⊢
    exact RowsAt.nils h0)
  have C1 : Hid (Chg (· = vb) w ((w.setCell ⟨vb, 1, none⟩ (.slice (some ⟨w.heap.size, 0, none⟩) m m)).alloc (.cells (madeCells #[.slice none 0 0] m) 48))) := Lib.hid (((Chg.refl (· = vb) w).set (p := ⟨vb, 1, none⟩) (fun _ => rfl) _).alloc _)
  have HD := Lib.hid hD
  have HV := Lib.hid hV
  have HL := Lib.hid (sideL_len (kept := kept) hrm)
  have HG := Lib.hid (fun i (hi : i < m) => sideL_get (kept := kept) hrm hi)
  clear hV hD hm hrm hbl
  have h_1 : (1 : Int) ≤ m := by omega
  have h_2 : (m : Int) ≤ 65536 := by omega
  go_enter Try.func112, Try.ntmps112
  go_wp2_with (go_at_call 104; refine KM.out.mono ?_; rintro e w' ⟨rfl, rfl⟩)
  clear c0 c1 f1 hmk
  have hgl : w.heap.size ≠ vb := by omega
  obtain ⟨g, hg⟩ : ∃ g : Nat, w.heap.size = g := ⟨_, rfl⟩
  have HGE : Hid (w.heap.size ≤ g) := Lib.hid (by omega)
  generalize hW : (w.setCell ⟨vb, 1, none⟩ (.slice (some ⟨w.heap.size, 0, none⟩) m m)).alloc (.cells (madeCells #[.slice none 0 0] m) 48) = W at *
  rw [hg] at V1 R1 hgl
  try rw [hg]
  have GW : Hid (g < W.heap.size) := Lib.hid (by obtain ⟨vs, hb, _⟩ := R1.out; exact Blk.lt hb)
  clear hW hg
  have VP : Hid (∀ w', VolB w' vb b (.slice (some ⟨g, 0, none⟩) m m) kept c false false → Plain w' vb) := Lib.hid (fun w' h => VolB.plain h)
  go_loopw [3, 18] (fun _ iv wr => ∃ i : Nat, i ≤ m ∧ iv = .int .i64 i ∧ VolB wr vb b (.slice (some ⟨g, 0, none⟩) m m) kept c false false ∧ RowsAt wr g ((sideL bs kept m).take i ++ List.replicate (m - i) []) ∧ Chg (· = vb) w wr) (fun _ iv _ => m - (intOf iv).toNat)
  case atStart => exact ⟨0, by omega, rfl, V1.out, R1.out, C1.out⟩
  case round =>
    obtain ⟨i, hi, rfl, hV, hR, hC⟩ := hrel
    by_cases hlt : i < m
    · obtain ⟨hj, hx⟩ := HG.out i hlt
      have hst := side_step HL.out hx
      have hp0 : Plain w vb := HV.out.plain
      have hDr : DevC wr b u bs co fl := HD.out.stay hC (fun k hk => by subst hk; exact ⟨hp0, hvb.1, hvb.2⟩)
      have hlt2 := HD.out.lt
      have hgb : g ≠ b ∧ g ≠ u := by have := HGE.out; omega
      have hgv : vb ≠ g := fun e => hgl e.symm
      have KA : Hid (∀ w', Chg (· = g) wr w' → Calls Try.prog 129 #[.pointer (some ⟨vb, 0, none⟩), .int .i64 kept, .int .i64 i] w' fun e w2 => e = .returned (.int .i64 ((8 + kept % 2 * m + i : Nat) : Int)) ∧ w' = w2) := Lib.hid (fun w' h => walAt vb b m _ kept i c false false w' (h.blk hV hgv) hm2 (by omega) (by omega))
      have KR : Hid (∀ w', Chg (· = g) wr w' → Calls Try.prog 124 #[.pointer (some ⟨b, 0, none⟩), .int .i64 ((8 + kept % 2 * m + i : Nat) : Int)] w' (ReadPost bs[8 + kept % 2 * m + i] w')) := Lib.hid (fun w' h => dcRead (hDr.stay h (fun k hk => by subst hk; exact ⟨hR.plain, hgb.1, hgb.2⟩)) _ hj)
      have RS : Hid (∀ w' v, Chg (· = g) wr w' → Rdv u8v w' v bs[8 + kept % 2 * m + i] → RowsAt w' g ((sideL bs kept m).take i ++ List.replicate (m - i) []) → RowsAt (w'.setCell ⟨g, i, none⟩ v) g ((sideL bs kept m).take (i + 1) ++ List.replicate (m - (i + 1)) [])) := Lib.hid (fun w' v _ hv hr => by rw [← hst]; exact hr.set hv)
      have HVR := Lib.hid hV
      have HRR := Lib.hid hR
      have HCR := Lib.hid hC
      generalize 8 + kept % 2 * m + i = j at *
      generalize bs[j] = x at *
      clear hV hR hC hDr hst hx hj hp0 hlt2
      have k1 : (0 : Int) ≤ i := by omega
      have k2 : (i : Int) < m := by omega
      go_wp2
      refine wp_region_held_drew (S := fun w' => (w'.cell? ⟨vb, 0, none⟩ = some (.pointer (some ⟨b, 0, none⟩)) ∧ w'.cell? ⟨vb, 1, none⟩ = some (.slice (some ⟨g, 0, none⟩) m m) ∧ w'.cell? ⟨vb, 2, none⟩ = some (.int .i64 kept)) ∧ Chg (· = g) wr w') (by kernel_rfl) ?_ (fun hHeld => ?_)
      · exact blS_of HVR.out (Chg.drew (Chg.refl _ _)) hgv
      refine wpAnyH_take (i := 0) (v := ?_) rfl (by kernel_rfl) (by kernel_rfl) (by kernel_rfl) (fun _ _ _ h => h) (Or.inl ⟨by kernel_rfl, ?_⟩) (by assumption) ?_
      rotate_left 1
      · (intro w hSw; (try dsimp only at hSw); go_simp; (try (with_reducible rfl)))
      (try simp only [List.getElem_toArray, List.getElem_cons_succ, List.getElem_cons_zero, Act.put, List.setIfInBounds_toArray, List.set_cons_zero, List.set_cons_succ])
      refine wpAnyH_take (i := 1) (v := ?_) rfl (by kernel_rfl) (by kernel_rfl) (by kernel_rfl) (fun _ _ _ h => h) (Or.inl ⟨by kernel_rfl, ?_⟩) (by assumption) ?_
      rotate_left 1
      · (intro w hSw; (try dsimp only at hSw); go_simp; (try (with_reducible rfl)))
      (try simp only [List.getElem_toArray, List.getElem_cons_succ, List.getElem_cons_zero, Act.put, List.setIfInBounds_toArray, List.set_cons_zero, List.set_cons_succ])
      refine wpAnyH_take (i := 2) (v := ?_) rfl (by kernel_rfl) (by kernel_rfl) (by kernel_rfl) (fun _ _ _ h => h) (Or.inl ⟨by kernel_rfl, ?_⟩) (by assumption) ?_
      rotate_left 1
      · (intro w hSw; (try dsimp only at hSw); go_simp; (try (with_reducible rfl)))
      (try simp only [List.getElem_toArray, List.getElem_cons_succ, List.getElem_cons_zero, Act.put, List.setIfInBounds_toArray, List.set_cons_zero, List.set_cons_succ])
      refine wpAnyH_take (i := 3) (v := ?_) rfl (by kernel_rfl) (by kernel_rfl) (by kernel_rfl) (fun _ _ _ h => h) (Or.inl ⟨by kernel_rfl, ?_⟩) (by assumption) ?_
      rotate_left 1
      · (intro w hSw; (try dsimp only at hSw); go_simp; (try (with_reducible rfl)))
      (try simp only [List.getElem_toArray, List.getElem_cons_succ, List.getElem_cons_zero, Act.put, List.setIfInBounds_toArray, List.set_cons_zero, List.set_cons_succ])
      refine wpAnyH_take (i := 4) (v := ?_) rfl (by kernel_rfl) (by kernel_rfl) (by kernel_rfl) (fun _ _ _ h => h) (Or.inl ⟨by kernel_rfl, ?_⟩) (by assumption) ?_
      rotate_left 1
      · (intro w hSw; (try dsimp only at hSw); go_simp; (try (with_reducible rfl)))
      (try simp only [List.getElem_toArray, List.getElem_cons_succ, List.getElem_cons_zero, Act.put, List.setIfInBounds_toArray, List.set_cons_zero, List.set_cons_succ])
      refine wpAnyH_take (i := 5) (v := ?_) rfl (by kernel_rfl) (by kernel_rfl) (by kernel_rfl) (fun _ _ _ h => h) (Or.inl ⟨by kernel_rfl, ?_⟩) (by assumption) ?_
      rotate_left 1
      · (intro w hSw; (try dsimp only at hSw); go_simp; (try (with_reducible rfl)))
      (try simp only [List.getElem_toArray, List.getElem_cons_succ, List.getElem_cons_zero, Act.put, List.setIfInBounds_toArray, List.set_cons_zero, List.set_cons_succ])
      refine wpAnyH_take (i := 6) (v := ?_) rfl (by kernel_rfl) (by kernel_rfl) (by kernel_rfl) (fun _ _ _ h => h) (Or.inl ⟨by kernel_rfl, ?_⟩) (by assumption) ?_
      rotate_left 1
      · (intro w hSw; (try dsimp only at hSw); go_simp; (try (with_reducible rfl)))
      (try simp only [List.getElem_toArray, List.getElem_cons_succ, List.getElem_cons_zero, Act.put, List.setIfInBounds_toArray, List.set_cons_zero, List.set_cons_succ])
      refine wpAnyH_take (i := 7) (v := ?_) rfl (by kernel_rfl) (by kernel_rfl) (by kernel_rfl) (fun _ _ _ h => h) (Or.inl ⟨by kernel_rfl, ?_⟩) (by assumption) ?_
      rotate_left 1
      · (intro w hSw; (try dsimp only at hSw); go_simp; (try (with_reducible rfl)))
      (try simp only [List.getElem_toArray, List.getElem_cons_succ, List.getElem_cons_zero, Act.put, List.setIfInBounds_toArray, List.set_cons_zero, List.set_cons_succ])
      refine wpAnyH_take (i := 8) (v := ?_) rfl (by kernel_rfl) (by kernel_rfl) (by kernel_rfl) (fun _ _ _ h => h) (Or.inl ⟨by kernel_rfl, ?_⟩) (by assumption) ?_
      rotate_left 1
      · (intro w hSw; (try dsimp only at hSw); go_simp; (try (with_reducible rfl)))
      (try simp only [List.getElem_toArray, List.getElem_cons_succ, List.getElem_cons_zero, Act.put, List.setIfInBounds_toArray, List.set_cons_zero, List.set_cons_succ])
      refine wpAnyH_take (i := 9) (v := ?_) rfl (by kernel_rfl) (by kernel_rfl) (by kernel_rfl) (fun _ _ _ h => h) (Or.inl ⟨by kernel_rfl, ?_⟩) (by assumption) ?_
      rotate_left 1
      · (intro w hSw; (try dsimp only at hSw); go_simp; (try (with_reducible rfl)))
      (try simp only [List.getElem_toArray, List.getElem_cons_succ, List.getElem_cons_zero, Act.put, List.setIfInBounds_toArray, List.set_cons_zero, List.set_cons_succ])
      refine wpAnyH_take (i := 10) (v := ?_) rfl (by kernel_rfl) (by kernel_rfl) (by kernel_rfl) (fun _ _ _ h => h) (Or.inl ⟨by kernel_rfl, ?_⟩) (by assumption) ?_
      rotate_left 1
      · (intro w hSw; (try dsimp only at hSw); go_simp; (try (with_reducible rfl)))
      (try simp only [List.getElem_toArray, List.getElem_cons_succ, List.getElem_cons_zero, Act.put, List.setIfInBounds_toArray, List.set_cons_zero, List.set_cons_succ])
      refine wpAnyH_take (i := 11) (v := ?_) rfl (by kernel_rfl) (by kernel_rfl) (by kernel_rfl) (fun _ _ _ h => h) (Or.inl ⟨by kernel_rfl, ?_⟩) (by assumption) ?_
      rotate_left 1
      · (intro w hSw; (try dsimp only at hSw); go_simp; (try (with_reducible rfl)))
      (try simp only [List.getElem_toArray, List.getElem_cons_succ, List.getElem_cons_zero, Act.put, List.setIfInBounds_toArray, List.set_cons_zero, List.set_cons_succ])
      refine wpAnyH_take (i := 12) (v := ?_) rfl (by kernel_rfl) (by kernel_rfl) (by kernel_rfl) (fun _ _ _ h => h) (Or.inl ⟨by kernel_rfl, ?_⟩) (by assumption) ?_
      rotate_left 1
      · (intro w hSw; (try dsimp only at hSw); go_simp; (try (with_reducible rfl)))
      (try simp only [List.getElem_toArray, List.getElem_cons_succ, List.getElem_cons_zero, Act.put, List.setIfInBounds_toArray, List.set_cons_zero, List.set_cons_succ])
      refine wpAnyH_take (i := 13) (v := ?_) rfl (by kernel_rfl) (by kernel_rfl) (by kernel_rfl) (fun _ _ _ h => h) (Or.inl ⟨by kernel_rfl, ?_⟩) (by assumption) ?_
      rotate_left 1
      · (intro w hSw; (try dsimp only at hSw); go_simp; (try (with_reducible rfl)))
      (try simp only [List.getElem_toArray, List.getElem_cons_succ, List.getElem_cons_zero, Act.put, List.setIfInBounds_toArray, List.set_cons_zero, List.set_cons_succ])
      refine wpAnyH_take (i := 14) (v := ?_) rfl (by kernel_rfl) (by kernel_rfl) (by kernel_rfl) (fun _ _ _ h => h) (Or.inl ⟨by kernel_rfl, ?_⟩) (by assumption) ?_
      rotate_left 1
      · (intro w hSw; (try dsimp only at hSw); go_simp; (try (with_reducible rfl)))
      (try simp only [List.getElem_toArray, List.getElem_cons_succ, List.getElem_cons_zero, Act.put, List.setIfInBounds_toArray, List.set_cons_zero, List.set_cons_succ])
      refine wpAnyH_ready (rs := [15]) (by kernel_rfl) (by simp) ?_
      refine AllReadyH.cons rfl (fun K hK => ?_) AllReadyH.nil
      go_simp
      go_wp2_with (go_at_call 129; have C8_ := Chg.drewN (And.right (by assumption)) 0; (with_reducible refine (KA.out _ (And.right (by assumption))).mono ?_); rintro e w8 ⟨rfl, rfl⟩)
      refine hK.out _ _ ?_ (fun hHeld => ?_)
      · (try dsimp only)
        first | exact blS_of HVR.out C9_ hgv | exact blS_of HVR.out C8_ hgv | exact blS_of HVR.out (Chg.refl _ _) hgv | exact blS_of HVR.out (And.right hHeld) hgv
      clear hK K
      (try simp only [List.getElem_toArray, List.getElem_cons_succ, List.getElem_cons_zero, Act.put, List.setIfInBounds_toArray, List.set_cons_zero, List.set_cons_succ])
      refine wpAnyH_ready (rs := [16]) (by kernel_rfl) (by simp) ?_
      refine AllReadyH.cons rfl (fun K hK => ?_) AllReadyH.nil
      go_simp
      go_wp2_with (go_at_call 124; have C8_ := And.right (by assumption); (with_reducible refine (KR.out _ C8_).mono ?_); rintro e w9 ⟨v9, rfl, ⟨g9, c9, rfl, hg9⟩, ho9, hb9⟩; have C9_ := Chg.trans C8_ (Chg.of_below hb9 (fun i h1 h2 => by omega)); have O9 := Lib.hid ho9)
      refine hK.out _ _ ?_ (fun hHeld => ?_)
      · (try dsimp only)
        first | exact blS_of HVR.out C9_ hgv | exact blS_of HVR.out C8_ hgv | exact blS_of HVR.out (Chg.refl _ _) hgv | exact blS_of HVR.out (And.right hHeld) hgv
      clear hK K
      (try simp only [List.getElem_toArray, List.getElem_cons_succ, List.getElem_cons_zero, Act.put, List.setIfInBounds_toArray, List.set_cons_zero, List.set_cons_succ])
      refine wpAnyH_take (i := 17) (v := ?_) rfl (by kernel_rfl) (by kernel_rfl) (by kernel_rfl) (fun _ _ _ h => h) (Or.inl ⟨by kernel_rfl, ?_⟩) (by assumption) ?_
      rotate_left 1
      · (intro w hSw; (try dsimp only at hSw); go_simp; (try (with_reducible rfl)))
      (try simp only [List.getElem_toArray, List.getElem_cons_succ, List.getElem_cons_zero, Act.put, List.setIfInBounds_toArray, List.set_cons_zero, List.set_cons_succ])
      refine wpAnyH_take (i := 18) (v := ?_) rfl (by kernel_rfl) (by kernel_rfl) (by kernel_rfl) (fun _ _ _ h => h) (Or.inl ⟨by kernel_rfl, ?_⟩) (by assumption) ?_
      rotate_left 1
      · (intro w hSw; (try dsimp only at hSw); go_simp; (try (with_reducible rfl)))
      (try simp only [List.getElem_toArray, List.getElem_cons_succ, List.getElem_cons_zero, Act.put, List.setIfInBounds_toArray, List.set_cons_zero, List.set_cons_succ])
      refine wpAnyH_take (i := 19) (v := ?_) rfl (by kernel_rfl) (by kernel_rfl) (by kernel_rfl) (fun _ _ _ h => h) (Or.inl ⟨by kernel_rfl, ?_⟩) (by assumption) ?_
      rotate_left 1
      · (intro w hSw; (try dsimp only at hSw); go_simp; (try (with_reducible rfl)))
      (try simp only [List.getElem_toArray, List.getElem_cons_succ, List.getElem_cons_zero, Act.put, List.setIfInBounds_toArray, List.set_cons_zero, List.set_cons_succ])
      refine wpAnyH_take (i := 20) (v := ?_) rfl (by kernel_rfl) (by kernel_rfl) (by kernel_rfl) (fun _ _ _ h => h) (Or.inl ⟨by kernel_rfl, ?_⟩) (by assumption) ?_
      rotate_left 1
      · (intro w hSw; (try dsimp only at hSw); go_simp; (try (with_reducible rfl)))
      (try simp only [List.getElem_toArray, List.getElem_cons_succ, List.getElem_cons_zero, Act.put, List.setIfInBounds_toArray, List.set_cons_zero, List.set_cons_succ])
      have hR9 := HRR.out.stay (Chg.of_below (S := fun _ => False) ((Drw.below ⟨1, rfl⟩ : Below wr.heap.size wr wr.drew).trans hb9) (fun i h1 h2 => absurd h1 (Nat.not_lt.2 h2))) (fun k hk => hk.elim)
      obtain ⟨vo, hvo, _⟩ := hR9.get (i := i) (by rw [List.length_append, List.length_take, List.length_replicate, HL.out]; omega)
      have hfo := hR9.free i
      have HR9 := Lib.hid (RS.out _ _ C9_ (Rdv.of_owns O9.out) hR9)
      have C10 := Lib.hid (Chg.set C9_ (p := ⟨g, i, none⟩) (fun _ => rfl) (.slice (some ⟨g9, 0, none⟩) x.length c9))
      have HV9 := Lib.hid (C10.out.blk HVR.out hgv)
      clear hR9 hb9 ho9
      refine wpAnyH_ready (rs := [21]) (by kernel_rfl) (by simp) ?_
      refine AllReadyH.cons rfl (fun K hK => ?_) AllReadyH.nil
      go_simp
      go_wp2_with fail
      refine hK.out _ _ ?_ (fun hHeld => ?_)
      · (try dsimp only); exact blS_of HVR.out C10.out hgv
      clear hK K
      (try simp only [List.getElem_toArray, List.getElem_cons_succ, List.getElem_cons_zero, Act.put, List.setIfInBounds_toArray, List.set_cons_zero, List.set_cons_succ])
      refine wpAnyH_done (by kernel_rfl) ?_ _
      have HC10 := Lib.hid (HCR.out.trans' C10.out (fun k h1 h2 => by have := HGE.out; omega))
      clear hHeld hvo hfo
      go_wp2
      go_roundw
      case rel => exact ⟨i + 1, by omega, by go_num, HV9.out, HR9.out, HC10.out⟩
      case measure => simp [intOf]; omega
    · obtain rfl : i = m := by omega
      have hR2 : RowsAt wr g (sideL bs kept i) := by
        have h := hR
        rw [List.take_of_length_le (by rw [HL.out]; omega), Nat.sub_self, List.replicate_zero, List.append_nil] at h
        exact h
      have HV2 := Lib.hid hV
      have HR2 := Lib.hid hR2
      have HC2 := Lib.hid hC
      clear hV hR hR2 hC
      go_wp2
      go_ret
      exact ⟨rfl, g, HGE.out, HV2.out, HR2.out, HC2.out⟩
end Go.Proofs.Ytfcddpbpfckjfaa
