/- A device: all that was written is kept. -/
import Derived.Test.YtfcddpbpfckjfaaChecked
import Derived.WalkKit
import Derived.Outline
import Derived.WalkSpells
import Derived.WalkLawsBesides
import Derived.Deep.QuietTactic
import Derived.Deep.RegionWith
import Derived.Deep.DeepMust
import Derived.BigQuiet
import Derived.Test.YtfcddpbpfckjfaaMem
import Derived.RegionTactic
import Derived.ChangeAlike
import Derived.StillTailTactics
import Derived.BigRegion
import Derived.Deep.LoopGhost
import Derived.Deep.RegionHeld3
import Derived.Test.YtfcddpbpfckjfaaDev2
namespace Go.Proofs.Ytfcddpbpfckjfaa
open Go.RowKit
set_option linter.unusedVariables false
set_option linter.unusedSimpArgs false
def keptD (d : DBlk) : DBlk := (d.1, d.1, false)
def keptTo (ds : List DBlk) (k : Nat) : List DBlk := (ds.take k).map keptD ++ ds.drop k
theorem keptTo_len (ds : List DBlk) (k : Nat) : (keptTo ds k).length = ds.length := by unfold keptTo; simp; omega
theorem keptTo_get (ds : List DBlk) (k : Nat) (h : k < ds.length) : (keptTo ds k)[k]? = ds[k]? := by
  unfold keptTo
  rw [List.getElem?_append_right (by simp; omega)]
  simp [List.getElem?_drop]
  congr 1
  omega
theorem keptTo_succ (ds : List DBlk) (k : Nat) (h : k < ds.length) : keptTo ds (k + 1) = (keptTo ds k).set k (keptD ds[k]) := by
  unfold keptTo
  rw [List.take_succ_eq_append_getElem h, List.set_append_right _ _ (by simp; omega)]
  rw [show k - ((ds.take k).map keptD).length = 0 by simp; omega, List.drop_eq_getElem_cons h]
  simp only [List.append_assoc, List.singleton_append, List.set_cons_zero, List.map_append, List.map_cons, List.map_nil]
theorem DevAt.keep {w : World} {b u : Nat} {ds : List DBlk} {fu : Bool} {le : Int} {de : Bool} {co : Int} (h : DevAt w b u ds fu le de co) (i : Nat) (d : DBlk) (hi : ds[i]? = some d) : DevAt ((w.setCell ⟨u, i * 3 + 1, none⟩ d.1).setCell ⟨u, i * 3 + 2, none⟩ (.bool false)) b u (ds.set i (keptD d)) fu le de co := by
  have hlt : i < ds.length := by
    rcases Nat.lt_or_ge i ds.length with h | h
    · exact h
    · rw [List.getElem?_eq_none h] at hi; cases hi
  refine ⟨?_, ?_, by simpa using h.2.2.1, h.2.2.2⟩
  · have := (h.1.set_ne (a := ⟨u, i * 3 + 1, none⟩) (Ne.symm h.2.2.2) d.1).set_ne (a := ⟨u, i * 3 + 2, none⟩) (Ne.symm h.2.2.2) (.bool false)
    simpa using this
  · have := (h.2.1.set (i * 3 + 1) d.1).set (i * 3 + 2) (.bool false)
    unfold keptD
    rw [drow_set ds i d.1 d.1 false hlt]
    have e : (drow ds).set (i * 3) d.1 = drow ds := by
      have g := (drow_get ds i d hi).1
      apply List.ext_getElem?
      intro j
      rw [List.getElem?_set]
      split
      · next e => subst e; rw [g]; split
                  · rfl
                  · next h0 => rw [drow_len] at h0; omega
      · rfl
    rw [e]
    simpa using this
def FlushPost (b u : Nat) (ds : List DBlk) (le co : Int) (w : World) (e : Ending) (w' : World) : Prop := e = .returned (.int .i64 0) ∧ DevAt w' b u (ds.map keptD) false le false (co + 1) ∧ Chg (fun k => k = b ∨ k = u) w w'
set_option maxHeartbeats 2000000 in
set_option maxRecDepth 100000 in
theorem devFlush_ok (b u : Nat) (ds : List DBlk) (le : Int) (co : Int) (w : World) (h : DevAt w b u ds false le false co) (hv : ∀ d ∈ ds, ∃ a n c, d.1 = .slice a n c) (hco : 0 ≤ co ∧ co < 9000000000000000000) :
    Calls Try.prog 106 #[.pointer (some ⟨b, 0, none⟩)] w (FlushPost b u ds le co w) := by
  have KD := Lib.hid (devDead b u ds false le false co w h)
  have c0 : w.cell? ⟨b, 0, none⟩ = some (.slice (some ⟨u, 0, none⟩) ds.length ds.length) := h.1.cell (o := 0) rfl
  have c1 := h.1.cell (o := 1) rfl
  have c2 := h.1.cell (o := 2) rfl
  have c3 := h.1.cell (o := 3) rfl
  have c4 := h.1.cell (o := 4) rfl
  have hz := h.1.lt
  have hzu := h.2.1.lt
  have hl := h.2.2.1
  have H := Lib.hid h
  have HV := Lib.hid hv
  have hne := h.2.2.2
  clear h hv
  go_enter Try.func106, Try.ntmps106
  go_wp2_with fail
  refine KD.out.mono ?_
  rintro e w1 ⟨rfl, rfl⟩
  go_wp2
  go_loopw [3, 11] (fun _ iv wr => ∃ i : Nat, i ≤ ds.length ∧ iv = .int .i64 i ∧ DevAt wr b u (keptTo ds i) false le false co ∧ Chg (fun k => k = b ∨ k = u) w wr) (fun _ iv _ => ds.length - (intOf iv).toNat)
  case atStart => exact ⟨0, by omega, rfl, by unfold keptTo; simpa using H.out, Chg.refl _ _⟩
  case round =>
    obtain ⟨i, hi, rfl, hD, hC⟩ := hrel
    by_cases hlt : i < ds.length
    · have hg := keptTo_get ds i hlt
      rw [List.getElem?_eq_getElem hlt] at hg
      have c0' : wr.cell? ⟨b, 0, none⟩ = some (.slice (some ⟨u, 0, none⟩) ds.length ds.length) := by have := hD.1.cell (o := 0) rfl; rw [keptTo_len] at this; exact this
      have r0 := hD.2.1.cell (o := i * 3) (v := ds[i].1) (by have := (drow_get _ i _ hg).1; simpa using this)
      have r2 := hD.2.1.cell (o := i * 3 + 2) (v := .bool ds[i].2.2) (by have := (drow_get _ i _ hg).2.2; simpa using this)
      have r1 := hD.2.1.cell (o := i * 3 + 1) (v := ds[i].2.1) (by have := (drow_get _ i _ hg).2.1; simpa using this)
      have f1 := hD.2.1.free (i * 3 + 1)
      have f2 := hD.2.1.free (i * 3 + 2)
      have hu := hD.2.1.lt
      have hbl := hD.1.lt
      have hk := hD.keep i _ hg
      rw [← keptTo_succ ds i hlt] at hk
      have HK := Lib.hid hk
      have HC := Lib.hid (Chg.set (S := fun k => k = b ∨ k = u) (Chg.set (S := fun k => k = b ∨ k = u) hC (p := ⟨u, i * 3 + 1, none⟩) (fun _ => .inr rfl) ds[i].1) (p := ⟨u, i * 3 + 2, none⟩) (fun _ => .inr rfl) (.bool false))
      obtain ⟨da, dn, dc, hd1⟩ := HV.out _ (List.getElem_mem hlt)
      rw [hd1] at r0 HK HC
      clear hk hC hD hg hd1
      generalize ds[i] = d at *
      have k0 : (0 : Int) ≤ i := by omega
      have k1 : (i : Int) < ds.length := by omega
      go_wp2
      go_region_held3 (fun w' => w'.cell? ⟨b, 0, none⟩ = some (.slice (some ⟨u, 0, none⟩) ds.length ds.length) ∧ w'.cell? ⟨u, i * 3, none⟩ = some (.slice da dn dc)) ((refine ⟨?_, ?_⟩ <;> go_simp)) (fail)
      all_goals
        go_wp2
        go_roundw
        case rel => exact ⟨i + 1, by omega, by go_num, HK.out, HC.out.drew⟩
        case measure => simp [intOf]; omega
    · obtain rfl : i = ds.length := by omega
      have hk : keptTo ds ds.length = ds.map keptD := by unfold keptTo; simp
      rw [hk] at hD
      have KE := Lib.hid (devDone b u _ le false co wr hD hco)
      have HC := Lib.hid hC
      clear hD hC hk
      go_wp2_with fail
      refine KE.out.mono ?_
      rintro e w3 ⟨rfl, D3, g3⟩
      have D3' := Lib.hid D3
      have G3 := Lib.hid g3
      clear D3 g3
      go_wp2
      go_ret
      exact ⟨rfl, D3'.out, HC.out.trans (G3.out.mono fun k _ hk => .inl hk)⟩
end Go.Proofs.Ytfcddpbpfckjfaa
