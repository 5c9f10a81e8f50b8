/- Contracts of package device: Crash, Loose; no device. -/
import Derived.Test.YtgpfkdlnmifiiaaChecked
import Derived.WalkKit
import Derived.Outline
import Derived.WalkSpells
import Derived.WalkLawsBesides
import Derived.Deep.QuietTactic
import Derived.Deep.RegionWith
import Derived.Deep.DeepMust
import Derived.BigQuiet
import Derived.Test.YtgpfkdlnmifiiaaMem
import Derived.RegionTactic
import Derived.ChangeAlike
import Derived.StillTailTactics
import Derived.BigRegion
import Derived.Deep.RegionHeld
import Derived.Deep.RegionWith
import Derived.Test.YtgpfkdlnmifiiaaDev2
namespace Go.Proofs.Ytgpfkdlnmifiiaa
open Go.RowKit
set_option linter.unusedVariables false
set_option linter.unusedSimpArgs false
/-- What a crash leaves of a block. -/
def crashD (k : Bool) (d : DBlk) : DBlk := let x := if d.2.2 && k then d.1 else d.2.1; (x, x, false)
def crashTo (kp : Nat → Bool) (ds : List DBlk) (k : Nat) : List DBlk := (List.range ds.length).map fun i => if i < k then crashD (kp i) (ds.getD i nilD) else nilD
theorem crashTo_len (kp : Nat → Bool) (ds : List DBlk) (k : Nat) : (crashTo kp ds k).length = ds.length := by simp [crashTo]
theorem crashTo_zero (kp : Nat → Bool) (ds : List DBlk) : crashTo kp ds 0 = List.replicate ds.length nilD := by
  unfold crashTo
  rw [List.map_congr_left (g := fun _ => nilD) (fun i _ => if_neg (by omega)), List.map_const', List.length_range]
theorem crashTo_get (kp : Nat → Bool) (ds : List DBlk) (k i : Nat) (h : i < ds.length) : (crashTo kp ds k)[i]? = some (if i < k then crashD (kp i) (ds.getD i nilD) else nilD) := by
  simp [crashTo, List.getElem?_range h]
theorem crashTo_step (kp : Nat → Bool) (ds : List DBlk) (k : Nat) : crashTo kp ds (k + 1) = (crashTo kp ds k).set k (crashD (kp k) (ds.getD k nilD)) := by
  apply List.ext_getElem?
  intro i
  rw [List.getElem?_set, crashTo_len]
  by_cases hi : i < ds.length
  · rw [crashTo_get _ _ _ _ hi, crashTo_get _ _ _ _ hi]
    by_cases e : k = i
    · subst e
      rw [if_pos rfl, if_pos hi, if_pos (by omega)]
    · rw [if_neg e]
      by_cases h1 : i < k
      · rw [if_pos h1, if_pos (by omega)]
      · rw [if_neg h1, if_neg (by omega)]
  · rw [List.getElem?_eq_none (by rw [crashTo_len]; omega)]
    by_cases e : k = i
    · rw [if_pos e, if_neg (by omega)]
    · rw [if_neg e, List.getElem?_eq_none (by rw [crashTo_len]; omega)]
def CrashPost (kp : Nat → Bool) (ds : List DBlk) (w : World) (e : Ending) (w' : World) : Prop :=
  ∃ b u : Nat, e = .returned (.pointer (some ⟨b, 0, none⟩)) ∧ w.heap.size ≤ b ∧ w.heap.size ≤ u ∧ DevAt w' b u (crashTo kp ds ds.length) false 0 false 0 ∧ Below w.heap.size w w'
theorem DevAt.store3 {w : World} {b u : Nat} {ds : List DBlk} {fu : Bool} {le : Int} {de : Bool} {co : Int} (h : DevAt w b u ds fu le de co) (i : Nat) (hi : i < ds.length) (x y : Value) (q : Bool) : DevAt (((w.setCell ⟨u, i * 3, none⟩ x).setCell ⟨u, i * 3 + 1, none⟩ y).setCell ⟨u, i * 3 + 2, none⟩ (.bool q)) b u (ds.set i (x, y, q)) fu le de co := by
  refine ⟨?_, ?_, by simpa using h.2.2.1, h.2.2.2⟩
  · have := ((h.1.set_ne (a := ⟨u, i * 3, none⟩) (Ne.symm h.2.2.2) x).set_ne (a := ⟨u, i * 3 + 1, none⟩) (Ne.symm h.2.2.2) y).set_ne (a := ⟨u, i * 3 + 2, none⟩) (Ne.symm h.2.2.2) (.bool q)
    simpa using this
  · have := ((h.2.1.set (i * 3) x).set (i * 3 + 1) y).set (i * 3 + 2) (.bool q)
    rw [drow_set ds i x y q hi]
    simpa using this
/-- A block's values are nil or point to a row. -/
def Val1 (v : Value) : Prop := ∃ a n c, v = .slice a n c
set_option maxHeartbeats 2000000 in
set_option maxRecDepth 100000 in
theorem devCrashNil (b u : Nat) (ds : List DBlk) (fu : Bool) (le : Int) (de : Bool) (co : Int) (w : World) (h : DevAt w b u ds fu le de co) (h1 : 1 ≤ ds.length) (hv : ∀ d ∈ ds, Val1 d.1 ∧ Val1 d.2.1) :
    Calls Try.prog 62 #[.pointer (some ⟨b, 0, none⟩), .nilFunc] w (CrashPost (fun _ => false) ds w) := by
  have c0 : w.cell? ⟨b, 0, none⟩ = some (.slice (some ⟨u, 0, none⟩) ds.length ds.length) := h.1.cell (o := 0) rfl
  have c1 := h.1.cell (o := 1) rfl
  have c2 := h.1.cell (o := 2) rfl
  have c3 := h.1.cell (o := 3) rfl
  have c4 := h.1.cell (o := 4) rfl
  have hz := h.1.lt
  have hzu := h.2.1.lt
  have hl := h.2.2.1
  have KN := Lib.hid (devNew_ok ds.length w h1 hl)
  have H := Lib.hid h
  have HV := Lib.hid hv
  clear h hv
  have hfn : ∀ w', (binOp .neq 83 (.nilFunc) .nilFunc).run Try.prog w' = .ok (.bool false) w' := fun w' => by kernel_rfl
  go_enter Try.func62, Try.ntmps62
  go_wp2_with fail
  refine KN.out.mono ?_
  rintro e w1 ⟨bc, uc, rfl, q1, q2, hD, hb⟩
  have D := Lib.hid ((crashTo_zero (fun _ => false) ds).symm ▸ hD)
  have HB := Lib.hid hb
  have k0 := hb.cell (p := ⟨b, 0, none⟩) hz
  rw [c0] at k0
  clear hD hb
  go_wp2
  go_loopw [22] (fun i wr => ∃ k : Nat, k ≤ ds.length ∧ i = .int .i64 k ∧ DevAt wr bc uc (crashTo (fun _ => false) ds k) false 0 false 0 ∧ Below w.heap.size w wr) (fun i _ => ds.length - (intOf i).toNat)
  case atStart => exact ⟨0, by omega, rfl, D.out, HB.out⟩
  case round =>
    obtain ⟨k, hk, rfl, hD, hb⟩ := hrel
    by_cases hlt : k < ds.length
    · obtain ⟨d, hd⟩ : ∃ d, ds[k]? = some d := ⟨ds[k], List.getElem?_eq_getElem hlt⟩
      have hdm := HV.out d (List.mem_of_getElem? hd)
      obtain ⟨⟨a1, n1, cc1, e1⟩, ⟨a2, n2, cc2, e2⟩⟩ := hdm
      obtain ⟨d1, d2, d3⟩ := d
      simp only at e1 e2
      subst e1; subst e2
      have g := drow_get ds k _ hd
      have hw := H.out.of_below hb
      have r0 := hw.2.1.cell (o := k * 3) (v := .slice a1 n1 cc1) (by have := g.1; simpa using this)
      have r1 := hw.2.1.cell (o := k * 3 + 1) (v := .slice a2 n2 cc2) (by have := g.2.1; simpa using this)
      have r2 := hw.2.1.cell (o := k * 3 + 2) (v := .bool d3) (by have := g.2.2; simpa using this)
      have g2 := drow_get (crashTo (fun _ => false) ds k) k nilD (by rw [crashTo_get _ _ _ _ hlt, if_neg (by omega)])
      have t0 := hD.1.cell (o := 0) rfl
      have tz := hD.1.lt
      have tu := hD.2.1.lt
      rw [crashTo_len] at t0
      have s0 := hD.2.1.cell (o := k * 3) (v := .slice none 0 0) (by have := g2.1; simpa [nilD] using this)
      have s1 := hD.2.1.cell (o := k * 3 + 1) (v := .slice none 0 0) (by have := g2.2.1; simpa [nilD] using this)
      have s2 := hD.2.1.cell (o := k * 3 + 2) (v := .bool false) (by have := g2.2.2; simpa [nilD] using this)
      have sf := hD.2.1.free (k * 3)
      have sf1 := hD.2.1.free (k * 3 + 1)
      have sf2 := hD.2.1.free (k * 3 + 2)
      have HD := Lib.hid hD
      have HBB := Lib.hid hb
      have hbs := hb.size
      have h3l : k * 3 + 3 ≤ ds.length * 3 := by omega
      clear hD hw g g2 hb
      cases d3
      · have hst : Hid (crashTo (fun _ => false) ds (k + 1) = (crashTo (fun _ => false) ds k).set k (.slice a2 n2 cc2, .slice a2 n2 cc2, false)) := Lib.hid (by rw [crashTo_step, List.getD_eq_getElem?_getD, hd]; rfl)
        clear hd
        go_wp2
        go_roundw
        case rel => exact ⟨k + 1, by omega, by go_num, by rw [hst.out]; exact (HD.out.store3 k (by rw [crashTo_len]; exact hlt) _ _ _).of_below ((Below.refl _ _).alloc (Nat.le_refl _) _), (((HBB.out.setCell q2 _).setCell q2 _).setCell q2 _).alloc (by simpa using hbs) _⟩
        case measure => simp [intOf]; omega
      · have hst : Hid (crashTo (fun _ => false) ds (k + 1) = (crashTo (fun _ => false) ds k).set k (.slice a2 n2 cc2, .slice a2 n2 cc2, false)) := Lib.hid (by rw [crashTo_step, List.getD_eq_getElem?_getD, hd]; rfl)
        clear hd
        go_wp2
        go_roundw
        case rel => exact ⟨k + 1, by omega, by go_num, by rw [hst.out]; exact (HD.out.store3 k (by rw [crashTo_len]; exact hlt) _ _ _).of_below ((Below.refl _ _).alloc (Nat.le_refl _) _), (((HBB.out.setCell q2 _).setCell q2 _).setCell q2 _).alloc (by simpa using hbs) _⟩
        case measure => simp [intOf]; omega
    · obtain rfl : k = ds.length := by omega
      have HD := Lib.hid hD
      clear hD
      go_wp2
      go_ret
      exact ⟨bc, uc, rfl, q1, q2, HD.out, hb⟩
theorem keepC (i : Nat) (w : World) : Calls Try.prog 97 #[.int .i64 i] w fun e w' => e = .returned (.bool (decide (i = 2))) ∧ w = w' := by
  by_cases h : (i : Int) = 2
  all_goals
    go_enter Try.func97, Try.ntmps97
    go_wp2
    go_ret
    first
    | exact ⟨ret_b (by rw [decide_eq_true (by omega)]), rfl⟩
    | exact ⟨ret_b (by rw [decide_eq_false (by omega : ¬ i = 2)]; exact beq_false_of_ne (by omega)), rfl⟩
set_option maxHeartbeats 2000000 in
set_option maxRecDepth 100000 in
theorem devCrashC (b u : Nat) (ds : List DBlk) (fu : Bool) (le : Int) (de : Bool) (co : Int) (w : World) (h : DevAt w b u ds fu le de co) (h1 : 1 ≤ ds.length) (hv : ∀ d ∈ ds, Val1 d.1 ∧ Val1 d.2.1) :
    Calls Try.prog 62 #[.pointer (some ⟨b, 0, none⟩), .func (.func 97) #[] #[]] w (CrashPost (fun i => decide (i = 2)) ds w) := by
  have c0 : w.cell? ⟨b, 0, none⟩ = some (.slice (some ⟨u, 0, none⟩) ds.length ds.length) := h.1.cell (o := 0) rfl
  have c1 := h.1.cell (o := 1) rfl
  have c2 := h.1.cell (o := 2) rfl
  have c3 := h.1.cell (o := 3) rfl
  have c4 := h.1.cell (o := 4) rfl
  have hz := h.1.lt
  have hzu := h.2.1.lt
  have hl := h.2.2.1
  have KN := Lib.hid (devNew_ok ds.length w h1 hl)
  have H := Lib.hid h
  have HV := Lib.hid hv
  clear h hv
  have hfn : ∀ w', (binOp .neq 83 (.func (.func 97) #[] #[]) .nilFunc).run Try.prog w' = .ok (.bool true) w' := fun w' => by kernel_rfl
  go_enter Try.func62, Try.ntmps62
  go_wp2_with fail
  refine KN.out.mono ?_
  rintro e w1 ⟨bc, uc, rfl, q1, q2, hD, hb⟩
  have D := Lib.hid ((crashTo_zero (fun i => decide (i = 2)) ds).symm ▸ hD)
  have HB := Lib.hid hb
  have k0 := hb.cell (p := ⟨b, 0, none⟩) hz
  rw [c0] at k0
  clear hD hb
  go_wp2
  go_loopw [22] (fun i wr => ∃ k : Nat, k ≤ ds.length ∧ i = .int .i64 k ∧ DevAt wr bc uc (crashTo (fun i => decide (i = 2)) ds k) false 0 false 0 ∧ Below w.heap.size w wr) (fun i _ => ds.length - (intOf i).toNat)
  case atStart => exact ⟨0, by omega, rfl, D.out, HB.out⟩
  case round =>
    obtain ⟨k, hk, rfl, hD, hb⟩ := hrel
    by_cases hlt : k < ds.length
    · obtain ⟨d, hd⟩ : ∃ d, ds[k]? = some d := ⟨ds[k], List.getElem?_eq_getElem hlt⟩
      have hdm := HV.out d (List.mem_of_getElem? hd)
      obtain ⟨⟨a1, n1, cc1, e1⟩, ⟨a2, n2, cc2, e2⟩⟩ := hdm
      obtain ⟨d1, d2, d3⟩ := d
      simp only at e1 e2
      subst e1; subst e2
      have g := drow_get ds k _ hd
      have hw := H.out.of_below hb
      have r0 := hw.2.1.cell (o := k * 3) (v := .slice a1 n1 cc1) (by have := g.1; simpa using this)
      have r1 := hw.2.1.cell (o := k * 3 + 1) (v := .slice a2 n2 cc2) (by have := g.2.1; simpa using this)
      have r2 := hw.2.1.cell (o := k * 3 + 2) (v := .bool d3) (by have := g.2.2; simpa using this)
      have g2 := drow_get (crashTo (fun i => decide (i = 2)) ds k) k nilD (by rw [crashTo_get _ _ _ _ hlt, if_neg (by omega)])
      have t0 := hD.1.cell (o := 0) rfl
      have tz := hD.1.lt
      have tu := hD.2.1.lt
      rw [crashTo_len] at t0
      have s0 := hD.2.1.cell (o := k * 3) (v := .slice none 0 0) (by have := g2.1; simpa [nilD] using this)
      have s1 := hD.2.1.cell (o := k * 3 + 1) (v := .slice none 0 0) (by have := g2.2.1; simpa [nilD] using this)
      have s2 := hD.2.1.cell (o := k * 3 + 2) (v := .bool false) (by have := g2.2.2; simpa [nilD] using this)
      have sf := hD.2.1.free (k * 3)
      have sf1 := hD.2.1.free (k * 3 + 1)
      have sf2 := hD.2.1.free (k * 3 + 2)
      have HD := Lib.hid hD
      have HBB := Lib.hid hb
      have hbs := hb.size
      have h3l : k * 3 + 3 ≤ ds.length * 3 := by omega
      clear hD hw g g2 hb
      cases d3
      · have hst : Hid (crashTo (fun i => decide (i = 2)) ds (k + 1) = (crashTo (fun i => decide (i = 2)) ds k).set k (.slice a2 n2 cc2, .slice a2 n2 cc2, false)) := Lib.hid (by rw [crashTo_step, List.getD_eq_getElem?_getD, hd]; rfl)
        clear hd
        go_wp2
        go_roundw
        case rel => exact ⟨k + 1, by omega, by go_num, by rw [hst.out]; exact (HD.out.store3 k (by rw [crashTo_len]; exact hlt) _ _ _).of_below ((Below.refl _ _).alloc (Nat.le_refl _) _), (((HBB.out.setCell q2 _).setCell q2 _).setCell q2 _).alloc (by simpa using hbs) _⟩
        case measure => simp [intOf]; omega
      · by_cases hk2 : k = 2
        all_goals
          have KK := keepC k (wr.alloc (.cells #[.slice a1 n1 cc1, .slice a2 n2 cc2, .bool true] 107))
          have hst : Hid (crashTo (fun i => decide (i = 2)) ds (k + 1) = (crashTo (fun i => decide (i = 2)) ds k).set k (if k = 2 then (.slice a1 n1 cc1, .slice a1 n1 cc1, false) else (.slice a2 n2 cc2, .slice a2 n2 cc2, false))) := Lib.hid (by rw [crashTo_step, List.getD_eq_getElem?_getD, hd]; by_cases h2 : k = 2 <;> simp [crashD, h2])
        · rw [decide_eq_true hk2] at KK
          have HK2 := Lib.hid hk2
          replace KK := Lib.hid KK
          clear hd hk2
          go_wp2_with (go_at_call 97; (with_reducible refine KK.out.mono ?_); rintro e w' ⟨rfl, rfl⟩)
          go_roundw
          case rel => exact ⟨k + 1, by omega, by go_num, by rw [hst.out, if_pos HK2.out]; exact (HD.out.store3 k (by rw [crashTo_len]; exact hlt) _ _ _).of_below ((Below.refl _ _).alloc (Nat.le_refl _) _), (((HBB.out.setCell q2 _).setCell q2 _).setCell q2 _).alloc (by simpa using hbs) _⟩
          case measure => simp [intOf]; omega
        · rw [decide_eq_false hk2] at KK
          have HK2 := Lib.hid hk2
          replace KK := Lib.hid KK
          clear hd hk2
          go_wp2_with (go_at_call 97; (with_reducible refine KK.out.mono ?_); rintro e w' ⟨rfl, rfl⟩)
          go_roundw
          case rel => exact ⟨k + 1, by omega, by go_num, by rw [hst.out, if_neg HK2.out]; exact (HD.out.store3 k (by rw [crashTo_len]; exact hlt) _ _ _).of_below ((Below.refl _ _).alloc (Nat.le_refl _) _), (((HBB.out.setCell q2 _).setCell q2 _).setCell q2 _).alloc (by simpa using hbs) _⟩
          case measure => simp [intOf]; omega
    · obtain rfl : k = ds.length := by omega
      have HD := Lib.hid hD
      clear hD
      go_wp2
      go_ret
      exact ⟨bc, uc, rfl, q1, q2, HD.out, hb⟩
/-- The numbers of the loose blocks. -/
def looseTo (ds : List DBlk) : Nat → List Int | 0 => [] | k + 1 => looseTo ds k ++ if (ds.getD k nilD).2.2 = true then [(k : Int)] else []
theorem looseTo_len (ds : List DBlk) : ∀ k, (looseTo ds k).length ≤ k
  | 0 => by simp [looseTo]
  | k + 1 => by have := looseTo_len ds k; unfold looseTo; split <;> simp <;> omega
abbrev i64v' : Int → Value := .int .i64
def LoosePost (ds : List DBlk) (w : World) (e : Ending) (w' : World) : Prop := ∃ v, e = .returned v ∧ Rdv i64v' w' v (looseTo ds ds.length) ∧ Below w.heap.size w w'
theorem Dev.infoInt : (Try.prog.info? 3).map (fun i => (i.zero, i.size, i.bytes)) = some (some (.int .i64 0), 1, 8) := by kernel_rfl
set_option maxHeartbeats 1000000 in
set_option maxRecDepth 100000 in
theorem devLoose (b u : Nat) (ds : List DBlk) (fu : Bool) (le : Int) (de : Bool) (co : Int) (w : World) (h : DevAt w b u ds fu le de co) :
    Calls Try.prog 63 #[.pointer (some ⟨b, 0, none⟩)] w (LoosePost ds w) := by
  obtain ⟨i0, hi, hz0, hz1, hz2⟩ := info_parts Dev.infoInt
  have KB := Lib.hid (devBlocks b u ds fu le de co w h)
  have c0 : w.cell? ⟨b, 0, none⟩ = some (.slice (some ⟨u, 0, none⟩) ds.length ds.length) := h.1.cell (o := 0) rfl
  have c1 := h.1.cell (o := 1) rfl
  have c2 := h.1.cell (o := 2) rfl
  have c3 := h.1.cell (o := 3) rfl
  have c4 := h.1.cell (o := 4) rfl
  have hz := h.1.lt
  have hzu := h.2.1.lt
  have hl := h.2.2.1
  have H := Lib.hid h
  clear h
  go_enter Try.func63, Try.ntmps63
  go_wp2_with (go_at_call 70; refine KB.out.mono ?_; rintro e w' ⟨rfl, rfl⟩)
  go_loopw [3, 7] (fun l i wr => ∃ k : Nat, k ≤ ds.length ∧ i = .int .i64 k ∧ wr.ownsRow w.heap.size 3 1 l (looseTo ds k).length ((looseTo ds k).map i64v') ∧ Below w.heap.size w wr) (fun _ i _ => ds.length - (intOf i).toNat)
  case atStart => exact ⟨0, by omega, rfl, World.ownsRow_nil _ _ _ _, Below.refl _ _⟩
  case round =>
    obtain ⟨k, hk, rfl, hown, hb⟩ := hrel
    clear c0 c1 c2 c3 c4
    have hw := H.out.of_below hb
    have q0 : wr.cell? ⟨b, 0, none⟩ = some (.slice (some ⟨u, 0, none⟩) ds.length ds.length) := hw.1.cell (o := 0) rfl
    have hlen := looseTo_len ds k
    by_cases hlt : k < ds.length
    · obtain ⟨d, hd⟩ : ∃ d, ds[k]? = some d := ⟨ds[k], List.getElem?_eq_getElem hlt⟩
      have r2 := hw.2.1.cell (o := k * 3 + 2) (v := .bool d.2.2) (by have := (drow_get ds k d hd).2.2; simpa using this)
      have hst : Hid (looseTo ds (k + 1) = looseTo ds k ++ if d.2.2 = true then [(k : Int)] else []) := Lib.hid (by show looseTo ds k ++ _ = _; rw [List.getD_eq_getElem?_getD, hd]; rfl)
      cases hq : d.2.2
      all_goals
        rw [hq] at r2
        have HQ := Lib.hid hq
        clear hq hd
      · have HO1 := Lib.hid hown
        clear hown hw
        go_wp2
        go_roundw
        case rel => exact ⟨k + 1, by omega, by go_num, by rw [hst.out, HQ.out]; simpa using HO1.out, hb⟩
        case measure => simp [intOf]; omega
      · clear hw
        go_wp2_with (at_builtin; refine wpList_append_own _ rfl _ _ 24 rfl w.heap.size 3 i0 (.int .i64 0) 1 8 Try.underlying24 hi hz0 hz1 hz2 rfl (by decide) _ _ _ rfl (hown.alloc _) ⟨wr.heap.size, 0, none⟩ 1 1 [.int .i64 (k)] rfl rfl ?c1 ?c2 ?c3 ?c4 ?c5 ?_)
        case c1 => exact cell_one_new _ _ _
        case c2 => intro u hu; simp at hu; subst hu; rfl
        case c3 => unfold maxLen; omega
        case c4 => omega
        case c5 => have := hb.size; simp; omega
        intro v' w1 hown1 hgrow1 _
        have hb1 : Below w.heap.size w w1 := (hb.alloc (by have := hb.size; omega) _).grown hgrow1 (by have := hb.size; simp; omega) (fun q hq => (hown.lt q hq).1)
        have HB1 := Lib.hid hb1
        have HO1 := Lib.hid hown1
        clear hb1 hown1 hgrow1
        go_wp2
        go_roundw
        case rel => exact ⟨k + 1, by omega, by go_num, by rw [hst.out, HQ.out]; simpa using HO1.out, HB1.out⟩
        case measure => simp [intOf]; omega
    · obtain rfl : k = ds.length := by omega
      have hr := Rdv.of_owns (enc := i64v') (xs := looseTo ds ds.length) hown
      have HR := Lib.hid hr
      clear hr hown hw
      go_wp2
      go_ret
      exact ⟨_, rfl, HR.out, hb⟩
theorem devDeadNil (w : World) : Calls Try.prog 69 #[.pointer none] w fun e w' => e = .returned (.bool true) ∧ w = w' := by
  go_enter Try.func69, Try.ntmps69
  go_wp2
  go_ret
  exact ⟨rfl, rfl⟩
theorem devBlocksNil (w : World) : Calls Try.prog 70 #[.pointer none] w fun e w' => e = .returned (.int .i64 0) ∧ w = w' := by
  go_enter Try.func70, Try.ntmps70
  go_wp2
  go_ret
  exact ⟨rfl, rfl⟩
theorem devCountNil (w : World) : Calls Try.prog 71 #[.pointer none] w fun e w' => e = .returned (.int .i64 0) ∧ w = w' := by
  go_enter Try.func71, Try.ntmps71
  go_wp2
  go_ret
  exact ⟨rfl, rfl⟩
theorem devCrashNilNil (w : World) : Calls Try.prog 62 #[.pointer none, .nilFunc] w fun e w' => e = .returned (.pointer none) ∧ w = w' := by
  go_enter Try.func62, Try.ntmps62
  go_wp2
  go_ret
  exact ⟨rfl, rfl⟩
theorem devReadNil (w : World) : Calls Try.prog 61 #[.pointer none, .int .i64 0] w fun e w' => e = .returned (.tuple #[.slice none 0 0, .int .i64 22]) ∧ w = w' := by
  go_enter Try.func61, Try.ntmps61
  go_wp2
  go_ret2
  exact ⟨rfl, rfl⟩
theorem devFlushNil (w : World) : Calls Try.prog 68 #[.pointer none] w fun e w' => e = .returned (.int .i64 5) ∧ w = w' := by
  go_enter Try.func68, Try.ntmps68
  go_wp2
  go_ret
  exact ⟨rfl, rfl⟩
theorem devWriteNil (v : Value) (w : World) : Calls Try.prog 60 #[.pointer none, .int .i64 0, v] w fun e w' => e = .returned (.int .i64 5) ∧ w = w' := by
  go_enter Try.func60, Try.ntmps60
  go_wp2
  go_ret
  exact ⟨rfl, rfl⟩
theorem devFuseNil (n : Int) (w : World) : Calls Try.prog 67 #[.pointer none, .int .i64 n] w fun e w' => e = .returned (.tuple #[]) ∧ w = w' := by
  go_enter Try.func67, Try.ntmps67
  go_wp2
  go_end0
  exact ⟨rfl, rfl⟩
theorem devLooseNil (w : World) : Calls Try.prog 63 #[.pointer none] w fun e w' => e = .returned (.slice none 0 0) ∧ w = w' := by
  have K := Lib.hid (devBlocksNil w)
  go_enter Try.func63, Try.ntmps63
  go_wp2_with (go_at_call 70; refine K.out.mono ?_; rintro e w' ⟨rfl, rfl⟩)
  go_loop [3, 7] (fun n i => n = .slice none 0 0 ∧ i = .int .i64 0) (fun _ _ => 0)
  case atStart => exact ⟨rfl, rfl⟩
  case round =>
    obtain ⟨rfl, rfl⟩ := hrel
    go_wp2
    go_ret
    exact ⟨rfl, rfl⟩
end Go.Proofs.Ytgpfkdlnmifiiaa
