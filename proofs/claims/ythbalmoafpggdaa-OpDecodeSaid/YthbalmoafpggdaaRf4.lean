/- The reference's reader: vectors. -/
import Derived.Test.YthbalmoafpggdaaChecked
import Derived.WalkKit
import Derived.Outline
import Derived.WalkSpells
import Derived.WalkLawsBesides
import Derived.Deep.QuietTactic
import Derived.Deep.RegionWith
import Derived.Deep.DeepMust
import Derived.BigQuiet
import Derived.Test.YthbalmoafpggdaaMem
import Derived.RegionTactic
import Derived.ChangeAlike
import Derived.StillTailTactics
import Derived.Deep.LoopGhost
import Derived.Test.YthbalmoafpggdaaRf3
namespace Go.Proofs.Ythbalmoafpggdaa
open Go.RowKit
set_option linter.unusedVariables false
set_option linter.unusedSimpArgs false
theorem vecMayB_takeF (xs : List Int) (m k : Nat) (hkm : k < m) (hm : m ≤ xs.length) (hf : ¬ (0 ≤ xs.getD k 0 ∧ xs.getD k 0 ≤ 1152921504606846976)) : vecMayB (xs.take m) = false := by
  refine vecMayB_false (xs.take m) k (by simp; omega) ?_
  rw [List.getD_eq_getElem?_getD, List.getElem?_take_of_lt hkm, ← List.getD_eq_getElem?_getD]
  exact hf
set_option maxHeartbeats 1000000 in
theorem refMay (v : Value) (xs : List Int) (w : World) (h : Rdv i64c w v xs) : Calls Try.prog 105 #[v] w fun e w' => e = .returned (.bool (vecMayB (cutL xs) && decide ((cutL xs).length ≤ 64))) ∧ w = w' := by
  obtain ⟨a, n, c, rfl⟩ := h.shape
  obtain ⟨rfl, h1, h2, h3⟩ := h.cap
  unfold maxLen at h2
  have HX := Lib.hid h
  have HCL := Lib.hid (cutL_len xs)
  clear h h3
  go_enter Try.func105, Try.ntmps105
  go_wp2
  go_loop [3] (fun nv => ∃ m : Nat, m ≤ xs.length ∧ nv = .int .i64 m ∧ cutTo xs xs.length = cutTo xs m) (fun nv => (intOf nv).toNat)
  case atStart => exact ⟨_, Nat.le_refl _, rfl, rfl⟩
  case round =>
    obtain ⟨m, hm, rfl, he⟩ := hrel
    have HE := Lib.hid he
    clear he
    have fin : ∀ m : Nat, m ≤ xs.length → cutTo xs xs.length = m → cutL xs = xs.take m ∧ (cutL xs).length = m := fun m hm e => by
      refine ⟨by unfold cutL; rw [e], by rw [HCL.out, e]⟩
    have FIN := Lib.hid fin
    clear fin
    have done : m = 0 ∨ (0 < m ∧ xs.getD (m - 1) 0 ≠ 0) ∨ (0 < m ∧ xs.getD (m - 1) 0 = 0) := by omega
    rcases done with hm0 | ⟨hm0, hz⟩ | ⟨hm0, hz⟩
    · subst hm0
      obtain ⟨e1, e2⟩ := FIN.out 0 (by omega) (by rw [HE.out]; rfl)
      have HR : Hid ((vecMayB (cutL xs) && decide ((cutL xs).length ≤ 64)) = true) := Lib.hid (by rw [e2, e1]; simp [vecMayB])
      clear e1 e2
      go_wp2
      go_loop [4] (fun i => i = .int .i64 0) (fun _ => 0)
      case atStart => rfl
      case round =>
        obtain rfl := hrel
        go_wp2
        go_ret
        exact ⟨ret_b HR.out.symm, rfl⟩
    · obtain ⟨k, rfl⟩ : ∃ k, m = k + 1 := ⟨m - 1, by omega⟩
      rw [Nat.add_sub_cancel] at hz
      obtain ⟨e1, e2⟩ := FIN.out (k + 1) hm (by rw [HE.out, cutTo_stop xs k hz])
      have HR : Hid ((vecMayB (cutL xs) && decide ((cutL xs).length ≤ 64)) = (vecMayB (xs.take (k + 1)) && decide (k + 1 ≤ 64))) := Lib.hid (by rw [e2, e1])
      obtain ⟨bl, ol, rfl, hcell⟩ := rdv_at HX.out k (by omega)
      have hzb : (xs.getD k 0 == 0) = false := beq_false_of_ne hz
      generalize hq : xs.getD k 0 = q at *
      clear hz e1 e2 hq
      by_cases h64 : k + 1 ≤ 64
      · go_wp2
        go_loop [4] (fun i => ∃ j : Nat, j ≤ k + 1 ∧ i = .int .i64 j ∧ vecMayB (xs.take j) = true) (fun i => k + 1 - (intOf i).toNat)
        case atStart => exact ⟨0, Nat.zero_le _, rfl, rfl⟩
        case round =>
          obtain ⟨j, hj, rfl, hok⟩ := hrel
          have HOK := Lib.hid hok
          clear hok hcell
          by_cases hlt : j < k + 1
          · obtain ⟨bl', ol', hbe, hcell⟩ := rdv_at HX.out j (by omega)
            injection hbe with hbe
            injection hbe with hb1 hb2
            subst hb1; subst hb2
            by_cases hq : 0 ≤ xs.getD j 0 ∧ xs.getD j 0 ≤ 1152921504606846976
            · have HV : Hid (vecMayB (xs.take (j + 1)) = true) := Lib.hid (by rw [vecMayB_take xs j (by omega), HOK.out, decide_eq_true hq.1, decide_eq_true hq.2]; rfl)
              obtain ⟨q1, q2⟩ := hq
              generalize xs.getD j 0 = q' at *
              go_wp2
              go_round
              case rel => exact ⟨j + 1, by omega, by go_num, HV.out⟩
              case measure => simp [intOf]; omega
            · have HV := Lib.hid (vecMayB_takeF xs (k + 1) j hlt hm hq)
              by_cases q0 : xs.getD j 0 < 0
              · generalize xs.getD j 0 = q' at *
                clear hq
                go_wp2
                go_ret
                exact ⟨ret_b (by rw [HR.out, HV.out]; rfl), rfl⟩
              · have q1 : 1152921504606846976 < xs.getD j 0 := by omega
                generalize xs.getD j 0 = q' at *
                clear hq
                go_wp2
                go_ret
                exact ⟨ret_b (by rw [HR.out, HV.out]; rfl), rfl⟩
          · obtain rfl : j = k + 1 := by omega
            have HF : Hid ((vecMayB (xs.take (k + 1)) && decide (k + 1 ≤ 64)) = true) := Lib.hid (by rw [HOK.out, decide_eq_true h64]; rfl)
            go_wp2
            go_ret
            exact ⟨ret_b (by rw [HR.out, HF.out]), rfl⟩
      · have HF : Hid ((vecMayB (xs.take (k + 1)) && decide (k + 1 ≤ 64)) = false) := Lib.hid (by rw [decide_eq_false h64, Bool.and_false])
        have h65 : 64 < k + 1 := by omega
        clear h64
        go_wp2
        go_ret
        exact ⟨ret_b (by rw [HR.out, HF.out]), rfl⟩
    · obtain ⟨k, rfl⟩ : ∃ k, m = k + 1 := ⟨m - 1, by omega⟩
      rw [Nat.add_sub_cancel] at hz
      obtain ⟨bl, ol, rfl, hcell⟩ := rdv_at HX.out k (by omega)
      have HE2 := Lib.hid (HE.out.trans (cutTo_down xs k hz))
      rw [hz] at hcell
      clear hz
      go_wp2
      go_round
      case rel => exact ⟨k, by omega, by go_num, HE2.out⟩
      case measure => simp [intOf]
def FVecPost (r B : Nat) (s : RS) (w : World) (e : Ending) (w' : World) : Prop := ∃ v, e = .returned v ∧ w'.ownsRow w.heap.size 2 1 v (vecS s).1.length ((vecS s).1.map i64c) ∧ FStep r B w (vecS s).2 w'
theorem cutL_all (ys : List Int) (h : ys = [] ∨ ys.getD (ys.length - 1) 0 ≠ 0) : cutL ys = ys := by
  unfold cutL
  rw [(cutTo_iff ys).2 h, List.take_length]
set_option maxHeartbeats 4000000 in
set_option maxRecDepth 100000 in
theorem fVector (r B : Nat) (v : Value) (s : RS) (w : World) (h : Rf w r B v s) (hBl : B < w.heap.size) : Calls Try.prog 70 #[.pointer (some ⟨r, 0, none⟩)] w (FVecPost r B s w) := by
  obtain ⟨i0, hi, hz0, hz1, hz2⟩ := info_parts Cd.infoI64
  have hz := numS_zero s
  have hI := vecS_eq s
  have hbd := numS_bd s
  rcases hq : numS s with ⟨n, s1⟩
  rw [hq] at hz hI hbd
  simp only at hz hI hbd
  have KN := Lib.hid (fNum' r B v s w h hq)
  have hrl := h.lt
  have hn0 : (0 : Int) ≤ n := by omega
  clear h hq
  rcases s1 with _ | l
  · have HI : Hid (vecS s = ([], none)) := Lib.hid hI
    clear hI hz
    go_enter Try.func70, Try.ntmps70
    go_wp2_with fail
    refine KN.out.mono ?_
    rintro e w1 ⟨rfl, v1, h1, g1⟩
    have pc1 : w1.cell? ⟨r, 1, none⟩ = some (.bool true) := h1.blk.cell (o := 1) rfl
    have KF := Lib.hid (refFail r B v1 none w1 h1)
    have G1 := Lib.hid g1
    clear h1 g1 KN
    go_wp2_with fail
    (with_reducible refine KF.out.mono ?_)
    rintro e w3 ⟨rfl, h3⟩
    have H3 := Lib.hid (h3.trans G1.out)
    clear h3
    go_wp2
    go_ret
    exact ⟨_, rfl, by rw [HI.out]; exact World.ownsRow_nil _ _ _ _, by rw [HI.out]; exact H3.out⟩
  · by_cases h64 : 64 < n
    · have HI : Hid (vecS s = ([], none)) := Lib.hid (by rw [hI]; exact if_pos h64)
      have hd : decide ((64 : Int) < (n : Int)) = true := decide_eq_true (by omega)
      clear hI hz
      go_enter Try.func70, Try.ntmps70
      go_wp2_with fail
      refine KN.out.mono ?_
      rintro e w1 ⟨rfl, v1, h1, g1⟩
      have pc1 : w1.cell? ⟨r, 1, none⟩ = some (.bool false) := h1.blk.cell (o := 1) rfl
      have KF := Lib.hid (refFail r B v1 (some l) w1 h1)
      have G1 := Lib.hid g1
      clear h1 g1 KN
      go_wp2_with fail
      (with_reducible refine KF.out.mono ?_)
      rintro e w3 ⟨rfl, h3⟩
      have H3 := Lib.hid (h3.trans G1.out)
      clear h3
      go_wp2
      go_ret
      exact ⟨_, rfl, by rw [HI.out]; exact World.ownsRow_nil _ _ _ _, by rw [HI.out]; exact H3.out⟩
    · have hd : decide ((64 : Int) < (n : Int)) = false := decide_eq_false (by omega)
      have hn64 : n ≤ 64 := by omega
      have HI : Hid (vecS s = (match (numsS n (some l)).2 with | none => ([], none) | some l' => if vecOkB (numsS n (some l)).1 = true then ((numsS n (some l)).1, some l') else ([], none))) := Lib.hid (hI.trans (if_neg h64))
      clear hI hz h64
      go_enter Try.func70, Try.ntmps70
      go_wp2_with fail
      refine KN.out.mono ?_
      rintro e w1 ⟨rfl, v1, h1, g1⟩
      have pc1 : w1.cell? ⟨r, 1, none⟩ = some (.bool false) := h1.blk.cell (o := 1) rfl
      have H3 := Lib.hid h1
      have G3 := Lib.hid g1
      clear h1 g1 KN
      go_wp2_with fail
      go_loopw [4, 5] (fun vv i wr => ∃ k : Nat, k ≤ n ∧ i = .int .i64 k ∧ wr.ownsRow w.heap.size 2 1 vv k ((numsS k (some l)).1.map i64c) ∧ (∃ v', Rf wr r B v' (numsS k (some l)).2) ∧ Chg (· = r) w wr) (fun _ i _ => n - (intOf i).toNat)
      case atStart => exact ⟨0, by omega, rfl, World.ownsRow_nil _ _ _ _, ⟨v1, H3.out⟩, G3.out⟩
      case round =>
        obtain ⟨k, hk, rfl, ho, ⟨v', hR⟩, hC⟩ := hrel
        have HO := Lib.hid ho
        have HR := Lib.hid hR
        have HC := Lib.hid hC
        have hws := hC.size
        clear pc1
        by_cases hlt : k < n
        · have KM := Lib.hid (fNum r B v' _ wr hR)
          clear ho hR hC
          go_wp2_with fail
          refine KM.out.mono ?_
          rintro e w4 ⟨rfl, v4, h4, g4⟩
          have ho4 := ownsRow_chg HO.out g4 (fun b hb e => by have := (HO.out.lt b hb).1; omega)
          have C4 := Lib.hid (HC.out.trans g4)
          have H4 := Lib.hid h4
          have hws4 : w.heap.size ≤ w4.heap.size := C4.out.size
          have KV : Hid (numsS (k + 1) (some l) = ((numsS k (some l)).1 ++ [((numS (numsS k (some l)).2).1 : Int)], (numS (numsS k (some l)).2).2)) := Lib.hid rfl
          generalize (numS (numsS k (some l)).2).1 = q at *
          clear h4 g4
          go_wp2_with (at_builtin; refine wpList_append_own_at _ rfl _ _ 47 rfl w.heap.size 2 i0 (.int .i64 0) 1 8 Try.underlying47 hi hz0 hz1 hz2 rfl (by decide) _ _ _ rfl (ho4.alloc _) ⟨w4.heap.size, 0, none⟩ 1 1 [.int .i64 (q : Int)] rfl rfl ?c1 ?c2 ?c3 ?c4 ?c5 ?_)
          case c1 => exact cell_one_new _ _ _
          case c2 => intro u hu; simp at hu; subst hu; rfl
          case c3 => unfold maxLen; omega
          case c4 => omega
          case c5 => simp; omega
          intro v5 w5 o5 g5 _ b5
          have R5 := Lib.hid ((H4.out.below ((Below.refl _ _).alloc (Nat.le_refl _) _)).grown g5 (fun k hk => (ho4.lt k hk).1) hrl hBl)
          have C5 : Hid (Chg (· = r) w w5) := Lib.hid (C4.out.trans' ((((Chg.refl (fun k => w.heap.size ≤ k) w4).alloc _)).grown g5 (fun k hk _ => (ho4.lt k hk).1)) (fun i hi hs => by omega))
          have O5 := Lib.hid o5
          obtain ⟨v5a, v5c, rfl, _⟩ := own_shape o5
          clear o5 g5 b5 ho4
          go_wp2
          go_roundw
          case rel => exact ⟨k + 1, by omega, by go_num, by rw [KV.out]; have := O5.out; simpa using this, ⟨_, by rw [KV.out]; exact R5.out⟩, C5.out⟩
          case measure => simp [intOf]; omega
        · obtain rfl : k = n := by omega
          clear hC
          obtain ⟨va, vc, rfl, hv1, hv2, _⟩ := own_shape ho
          have hvl := numsS_len k (some l)
          generalize hNS : numsS k (some l) = NS at *
          obtain ⟨ys, s5⟩ := NS
          simp only at *
          subst hvl
          have hrd := Rdv.of_owns (enc := i64c) (xs := ys) ho
          have KM := refMay (.slice va ys.length vc) ys wr hrd
          have HRD := Lib.hid hrd
          have pq1 := hR.blk.cell (o := 1) rfl
          have KF2 := Lib.hid (refFail r B v' s5 wr hR)
          clear ho hrd
          rcases s5 with _ | l'
          · have HI2 : Hid (vecS s = ([], none)) := Lib.hid HI.out
            have pq1' : wr.cell? ⟨r, 1, none⟩ = some (.bool true) := pq1
            clear pq1 KM hR
            go_wp2_with fail
            (with_reducible refine KF2.out.mono ?_)
            rintro e w5 ⟨rfl, h5⟩
            have H5 := Lib.hid (h5.trans HC.out)
            clear h5
            go_wp2
            go_ret
            exact ⟨_, rfl, by rw [HI2.out]; exact World.ownsRow_nil _ _ _ _, by rw [HI2.out]; exact H5.out⟩
          · have pq1' : wr.cell? ⟨r, 1, none⟩ = some (.bool false) := pq1
            have hI3 : vecS s = if vecOkB ys = true then (ys, some l') else ([], none) := HI.out
            have hOkd : vecOkB ys = (vecMayB ys && decide (ys = [] ∨ ys.getD (ys.length - 1) 0 ≠ 0)) := rfl
            clear pq1 hR
            rcases Nat.eq_zero_or_pos ys.length with hy0 | hy0
            · have hyn : ys = [] := List.length_eq_zero_iff.1 hy0
              subst hyn
              have HI2 : Hid (vecS s = ([], some l')) := Lib.hid hI3
              rw [show (vecMayB (cutL []) && decide ((cutL []).length ≤ 64)) = true from rfl] at KM
              have KM := Lib.hid KM
              have H5 : Hid (FStep r B w (some l') wr) := Lib.hid ⟨v', HR.out, HC.out⟩
              clear hI3 hOkd hy0
              simp only [List.length_nil] at *
              go_wp2_with fail
              refine KM.out.mono ?_
              rintro e w4 ⟨rfl, rfl⟩
              go_wp2
              go_ret
              exact ⟨_, rfl, by rw [HI2.out]; exact HO.out, by rw [HI2.out]; exact H5.out⟩
            · obtain ⟨k, hkk⟩ : ∃ k, ys.length = k + 1 := ⟨ys.length - 1, by omega⟩
              obtain ⟨bl, ol, rfl, hcell⟩ := rdv_at HRD.out k (by omega)
              rw [show k = ys.length - 1 by omega] at hcell
              have hix0 : (0 : Int) ≤ (ys.length : Int) - 1 := by omega
              have hpos : (0 : Int) < (ys.length : Int) := by omega
              by_cases hz : ys.getD k 0 = 0
              · rw [show ys.getD (ys.length - 1) 0 = 0 by rw [show ys.length - 1 = k by omega]; exact hz] at hcell
                have hOk : vecOkB ys = false := by
                  rw [hOkd, decide_eq_false (by rw [hkk, Nat.add_sub_cancel]; intro h; rcases h with h | h; (rw [h] at hkk; simp at hkk); exact h hz), Bool.and_false]
                have HI2 : Hid (vecS s = ([], none)) := Lib.hid (by rw [hI3, hOk]; rfl)
                clear hI3 hOkd hOk hz
                cases hm : (vecMayB (cutL ys) && decide ((cutL ys).length ≤ 64))
                all_goals
                  rw [hm] at KM
                  have KM := Lib.hid KM
                  have HKK := Lib.hid hkk
                  clear hm hkk
                  go_wp2_with fail
                  refine KM.out.mono ?_
                  rintro e w4 ⟨rfl, rfl⟩
                  go_wp2_with fail
                  (with_reducible refine KF2.out.mono ?_)
                  rintro e w5 ⟨rfl, h5⟩
                  have H5 := Lib.hid (h5.trans HC.out)
                  clear h5
                  go_wp2
                  go_ret
                  exact ⟨_, rfl, by rw [HI2.out]; exact World.ownsRow_nil _ _ _ _, by rw [HI2.out]; exact H5.out⟩
              · have hz2 : ys.getD (ys.length - 1) 0 ≠ 0 := by rw [show ys.length - 1 = k by omega]; exact hz
                have hzb : (ys.getD (ys.length - 1) 0 == 0) = false := beq_false_of_ne hz2
                rw [cutL_all ys (.inr hz2), show decide (ys.length ≤ 64) = true from decide_eq_true hn64, Bool.and_true] at KM
                rw [decide_eq_true (show ys = [] ∨ ys.getD (ys.length - 1) 0 ≠ 0 from .inr hz2), Bool.and_true] at hOkd
                generalize ys.getD (ys.length - 1) 0 = q at *
                cases hm : vecMayB ys
                · rw [hm] at KM hOkd
                  have HI2 : Hid (vecS s = ([], none)) := Lib.hid (by rw [hI3, hOkd]; rfl)
                  have KM := Lib.hid KM
                  clear hm hkk hz hz2 hI3 hOkd
                  go_wp2_with fail
                  refine KM.out.mono ?_
                  rintro e w4 ⟨rfl, rfl⟩
                  go_wp2_with fail
                  (with_reducible refine KF2.out.mono ?_)
                  rintro e w5 ⟨rfl, h5⟩
                  have H5 := Lib.hid (h5.trans HC.out)
                  clear h5
                  go_wp2
                  go_ret
                  exact ⟨_, rfl, by rw [HI2.out]; exact World.ownsRow_nil _ _ _ _, by rw [HI2.out]; exact H5.out⟩
                · rw [hm] at KM hOkd
                  have HI2 : Hid (vecS s = (ys, some l')) := Lib.hid (by rw [hI3, hOkd]; rfl)
                  have KM := Lib.hid KM
                  have H5 : Hid (FStep r B w (some l') wr) := Lib.hid ⟨v', HR.out, HC.out⟩
                  clear hm hkk hz hz2 hI3 hOkd
                  go_wp2_with fail
                  refine KM.out.mono ?_
                  rintro e w4 ⟨rfl, rfl⟩
                  go_wp2
                  go_ret
                  exact ⟨_, rfl, by rw [HI2.out]; exact HO.out, by rw [HI2.out]; exact H5.out⟩
end Go.Proofs.Ythbalmoafpggdaa
