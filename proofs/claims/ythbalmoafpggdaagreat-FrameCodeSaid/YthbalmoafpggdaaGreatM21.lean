/- Frames: the reference's Decode, the walk. -/
import Derived.Test.YthbalmoafpggdaaGreatChecked
import Derived.WalkKit
import Derived.Outline
import Derived.WalkSpells
import Derived.WalkLawsBesides
import Derived.Deep.QuietTactic
import Derived.Deep.RegionWith
import Derived.Deep.DeepMust
import Derived.BigQuiet
import Derived.RegionTactic
import Derived.ChangeAlike
import Derived.StillTailTactics
import Derived.Deep.LoopGhost
import Derived.Deep.DeepCutAuto
import Derived.Deep.CutBlock
import Derived.Deep.AppendLies
import Derived.Test.YthbalmoafpggdaaGreatM1
import Derived.Test.YthbalmoafpggdaaGreatM20
namespace Go.Proofs.YthbalmoafpggdaaGreat
open Go.RowKit
set_option linter.unusedVariables false
set_option linter.unusedSimpArgs false
def lcs2 (n1 n2 n3 n4 n5 : Nat) : List Nat := [n1, n2, n3, n4, n5]
theorem below_chg_alloc {S : Nat → Prop} {B : Nat} {a w w' : World} (h0 : Below B a w) (g : Chg S w w') (hB : B ≤ w.heap.size) (hs : ∀ i, i < B → ¬ S i) (o : Obj) : Below B a (w'.alloc o) :=
  (g.below_trans h0 hB hs).alloc (Nat.le_trans hB g.size) o
theorem decB_nil : decB [] = false := by kernel_rfl
theorem unf_one (p : List Int) : p = [] ∨ p ≠ [] := by by_cases h : p = [] <;> simp [h]
set_option maxHeartbeats 20000000 in
set_option maxRecDepth 100000 in
theorem refFDecode (x : Value) (l : List Int) (w : World) (hx : Rdv u8v w x l) (hb : Byt l) :
    Calls Tryz.prog 14 #[x] w (FDecPost l (.bool true) (.bool false) w) := by
  obtain ⟨i0, hi, hz0, hz1, hz2⟩ := info_parts Op.info
  have hxl := hx.len
  unfold maxLen at hxl
  have KU := Lib.hid (fun w' hw => refUnframe2 x l w' (hx.below hw) hb : ∀ w', Below w.heap.size w w' → _)
  obtain ⟨xa, xn, xc, rfl⟩ := hx.shape
  obtain ⟨rfl, _, _, _⟩ := hx.cap
  unfold FDecPost decF
  have hpl := unf_len l
  have PB := Lib.hid (unf_byt hb)
  generalize unfL l = U at *
  obtain ⟨p, n, ue⟩ := U
  simp only at *
  have R0 := Lib.hid (Blk.new w #[.int .i64 0, .int .i64 0, .int .i64 0, .int .i64 0, .int .i64 0, .bool false, .slice none 0 0, .slice none 0 0] 26)
  have A0 := Lib.hid ((Below.refl w.heap.size w).alloc (Nat.le_refl _) (.cells #[.int .i64 0, .int .i64 0, .int .i64 0, .int .i64 0, .int .i64 0, .bool false, .slice none 0 0, .slice none 0 0] 26))
  clear hx hb
  by_cases hbad : ue = 0 ∧ n = l.length
  rotate_left 1
  · rw [if_neg hbad]
    simp only
    go_enter Tryz.func14, Tryz.ntmps14
    go_wp2_with fail
    refine (KU.out _ A0.out).mono ?_
    rintro e w1 ⟨v1, rfl, _, hb1⟩
    have B1 := Lib.hid (A0.out.trans (hb1.mono A0.out.size))
    have R1 := Lib.hid (blkBelow hb1 R0.out R0.out.lt)
    have z_0 : w1.cell? ⟨w.heap.size, 0, none⟩ = some (.int .i64 0) := (R1.out).cell (o := 0) rfl
    have z_1 : w1.cell? ⟨w.heap.size, 1, none⟩ = some (.int .i64 0) := (R1.out).cell (o := 1) rfl
    have z_2 : w1.cell? ⟨w.heap.size, 2, none⟩ = some (.int .i64 0) := (R1.out).cell (o := 2) rfl
    have z_3 : w1.cell? ⟨w.heap.size, 3, none⟩ = some (.int .i64 0) := (R1.out).cell (o := 3) rfl
    have z_4 : w1.cell? ⟨w.heap.size, 4, none⟩ = some (.int .i64 0) := (R1.out).cell (o := 4) rfl
    have z_5 : w1.cell? ⟨w.heap.size, 5, none⟩ = some (.bool false) := (R1.out).cell (o := 5) rfl
    have z_6 : w1.cell? ⟨w.heap.size, 6, none⟩ = some (.slice none 0 0) := (R1.out).cell (o := 6) rfl
    have z_7 : w1.cell? ⟨w.heap.size, 7, none⟩ = some (.slice none 0 0) := (R1.out).cell (o := 7) rfl
    have yz_0 := (R1.out).free 0
    have yz_1 := (R1.out).free 1
    have yz_2 := (R1.out).free 2
    have yz_3 := (R1.out).free 3
    have yz_4 := (R1.out).free 4
    have yz_5 := (R1.out).free 5
    have yz_6 := (R1.out).free 6
    have yz_7 := (R1.out).free 7
    clear hb1
    go_wp2
    all_goals exact bodyPost_ret (v := .tuple #[.agg #[.int .i64 0, .int .i64 0, .int .i64 0, .int .i64 0, .int .i64 0, .bool false, .slice none 0 0, .slice none 0 0], .bool false]) (by simp [results, Tryz.results14, go_sem, *] <;> rfl) rfl ⟨rfl, Chg.below_trans B1.out (chg8 _ w.heap.size _ _ _ _ _ _ _ _) (B1.out).size (fun i hi e => by omega)⟩
  · obtain ⟨rfl, rfl⟩ := hbad
    rw [if_pos ⟨rfl, rfl⟩]
    obtain ⟨D, hD⟩ : ∃ D, decP p = D := ⟨_, rfl⟩
    rw [hD]
    have DP := Lib.hid hD
    clear hD
    obtain ⟨n1, s1, q1⟩ : ∃ n s, numS (some p) = (n, s) := ⟨_, _, rfl⟩
    obtain ⟨n2, s2, q2⟩ : ∃ n s, numS s1 = (n, s) := ⟨_, _, rfl⟩
    obtain ⟨n3, s3, q3⟩ : ∃ n s, numS s2 = (n, s) := ⟨_, _, rfl⟩
    obtain ⟨n4, s4, q4⟩ : ∃ n s, numS s3 = (n, s) := ⟨_, _, rfl⟩
    obtain ⟨n5, s5, q5⟩ : ∃ n s, numS s4 = (n, s) := ⟨_, _, rfl⟩
    obtain ⟨b6, s6, q6⟩ : ∃ n s, truthS s5 = (n, s) := ⟨_, _, rfl⟩
    obtain ⟨v7, s7, q7⟩ : ∃ n s, vecS s6 = (n, s) := ⟨_, _, rfl⟩
    obtain ⟨n8, s8, q8⟩ : ∃ n s, numS s7 = (n, s) := ⟨_, _, rfl⟩
    have HR : Hid (hdR p = ⟨n1, n2, n3, n4, n5, b6, v7, n8, s8⟩) := Lib.hid (by unfold hdR; simp only [q1, q2, q3, q4, q5, q6, q7, q8])
    have hz8 : s8 = none → n8 = 0 := fun h => by have := numS_zero s7 (by rw [q8]; exact h); rw [q8] at this; exact this
    have Z8 := Lib.hid hz8
    have Q1 := Lib.hid q1
    have Q2 := Lib.hid q2
    have Q3 := Lib.hid q3
    have Q4 := Lib.hid q4
    have Q5 := Lib.hid q5
    have Q6 := Lib.hid q6
    have Q7 := Lib.hid q7
    have Q8 := Lib.hid q8
    have bd1 := numS_bd (some p)
    have bd2 := numS_bd s1
    have bd3 := numS_bd s2
    have bd4 := numS_bd s3
    have bd5 := numS_bd s4
    have bd8 := numS_bd s7
    rw [q1] at bd1
    rw [q2] at bd2
    rw [q3] at bd3
    rw [q4] at bd4
    rw [q5] at bd5
    rw [q8] at bd8
    simp only at bd1 bd2 bd3 bd4 bd5 bd8
    clear q1 q2 q3 q4 q5 q6 q7 q8 hz8
    go_enter Tryz.func14, Tryz.ntmps14
    go_wp2_with fail
    refine (KU.out _ A0.out).mono ?_
    rintro e w1 ⟨v1, rfl, hv1, hb1⟩
    obtain ⟨pa, pc, rfl, _, _, _⟩ := own_shape hv1
    have B1 := Lib.hid (A0.out.trans (hb1.mono A0.out.size))
    have R1 := Lib.hid (blkBelow hb1 R0.out R0.out.lt)
    have hr1 := R1.out.lt
    clear hb1
    have M0 : ∃ B, (B < w1.heap.size ∨ B = w1.heap.size) ∧ FrM w1 (w1.heap.size + 1) w1.heap.size B #[.int .i64 0, .int .i64 0, .int .i64 0, .int .i64 0, .int .i64 0, .bool false, .slice none 0 0, .slice none 0 0] (.slice pa p.length pc) (some p) ((w1.alloc (.cells #[.slice pa p.length pc, .bool false] 79)).alloc (.cells #[.int .i64 0, .int .i64 0, .int .i64 0, .int .i64 0, .int .i64 0, .bool false, .slice none 0 0, .slice none 0 0] 26)) := by
      have hbel := ((Below.refl w1.heap.size w1).alloc (Nat.le_refl _) (.cells #[.slice pa p.length pc, .bool false] 79)).alloc (by simp) (.cells #[.int .i64 0, .int .i64 0, .int .i64 0, .int .i64 0, .int .i64 0, .bool false, .slice none 0 0, .slice none 0 0] 26)
      have b1 := (Blk.new w1 #[.slice pa p.length pc, .bool false] 79).alloc (.cells #[.int .i64 0, .int .i64 0, .int .i64 0, .int .i64 0, .int .i64 0, .bool false, .slice none 0 0, .slice none 0 0] 26)
      have b2 : Blk ((w1.alloc (.cells #[.slice pa p.length pc, .bool false] 79)).alloc (.cells #[.int .i64 0, .int .i64 0, .int .i64 0, .int .i64 0, .int .i64 0, .bool false, .slice none 0 0, .slice none 0 0] 26)) (w1.heap.size + 1) #[.int .i64 0, .int .i64 0, .int .i64 0, .int .i64 0, .int .i64 0, .bool false, .slice none 0 0, .slice none 0 0] 26 := by
        have := Blk.new (w1.alloc (.cells #[.slice pa p.length pc, .bool false] 79)) #[.int .i64 0, .int .i64 0, .int .i64 0, .int .i64 0, .int .i64 0, .bool false, .slice none 0 0, .slice none 0 0] 26
        simpa using this
      have hrd := (Rdv.of_owns (enc := u8v) (xs := p) hv1).below hbel
      have hsz : ((w1.alloc (.cells #[.slice pa p.length pc, .bool false] 79)).alloc (.cells #[.int .i64 0, .int .i64 0, .int .i64 0, .int .i64 0, .int .i64 0, .bool false, .slice none 0 0, .slice none 0 0] 26)).heap.size = w1.heap.size + 1 + 1 := by simp
      rcases hv1.2 with ⟨h, _⟩ | ⟨g, c, cur, h, hg, hh, _⟩
      · exact ⟨w1.heap.size, .inr rfl, ⟨b1, hrd, .inl h, (fun ⟨_, _, _, e⟩ => by rw [h, Value.slice.injEq] at e; cases e.1), PB.out, (by show p.length ≤ _; omega)⟩, by rw [hsz]; omega, hbel, b2, ⟨Nat.le_refl _, by omega, by omega, by omega⟩⟩
      · have hgl := lt_of_block hh
        exact ⟨g, .inl hgl, ⟨b1, hrd, .inr ⟨0, _, _, h⟩, (fun _ => by omega), PB.out, (by show p.length ≤ _; omega)⟩, by rw [hsz]; omega, hbel, b2, ⟨Nat.le_refl _, by omega, by omega, by omega⟩⟩
    obtain ⟨B, hBr, hM0⟩ := M0
    have M0 := Lib.hid hM0
    have HBR := Lib.hid hBr
    clear hM0 hBr hv1
    go_wp2_with fail
    refine (frNum (M0).out Q1.out).mono ?_
    rintro e w2 ⟨rfl, ⟨v2, hM2⟩, _⟩
    have M2 := Lib.hid hM2
    clear hM2
    go_wp2_with fail
    refine (frNum (M2).out Q2.out).mono ?_
    rintro e w3 ⟨rfl, ⟨v3, hM3⟩, _⟩
    have M3 := Lib.hid hM3
    clear hM3
    go_wp2_with fail
    refine (frNum (M3).out Q3.out).mono ?_
    rintro e w4 ⟨rfl, ⟨v4, hM4⟩, _⟩
    have M4 := Lib.hid hM4
    clear hM4
    go_wp2_with fail
    refine (frNum (M4).out Q4.out).mono ?_
    rintro e w5 ⟨rfl, ⟨v5, hM5⟩, _⟩
    have M5 := Lib.hid hM5
    clear hM5
    go_wp2_with fail
    refine (frNum (M5).out Q5.out).mono ?_
    rintro e w6 ⟨rfl, ⟨v6, hM6⟩, _⟩
    have M6 := Lib.hid hM6
    clear hM6
    have AL := (Below.refl w6.heap.size w6).alloc (Nat.le_refl _) (.cells #[.int .i64 (n1 : Nat), .int .i64 (n2 : Nat), .int .i64 (n3 : Nat), .int .i64 (n4 : Nat), .int .i64 (n5 : Nat)] 2)
    have MW := Lib.hid (M6.out.below AL)
    have LB := Lib.hid (Blk.new w6 #[.int .i64 (n1 : Nat), .int .i64 (n2 : Nat), .int .i64 (n3 : Nat), .int .i64 (n4 : Nat), .int .i64 (n5 : Nat)] 2)
    obtain ⟨W, hW⟩ : ∃ W, W = w6.alloc (.cells #[.int .i64 (n1 : Nat), .int .i64 (n2 : Nat), .int .i64 (n3 : Nat), .int .i64 (n4 : Nat), .int .i64 (n5 : Nat)] 2) := ⟨_, rfl⟩
    rw [← hW] at MW LB
    clear AL M2 M3 M4 M5 M0
    go_wp2
    rw [← hW]
    clear hW
    have hLB : Hid (∀ i : Nat, i < 5 → W.cell? ⟨w6.heap.size, i, none⟩ = some (.int .i64 ((lcs2 n1 n2 n3 n4 n5).getD i 0 : Nat))) := Lib.hid (fun i hi => by
      rcases (by omega : i = 0 ∨ i = 1 ∨ i = 2 ∨ i = 3 ∨ i = 4) with rfl | rfl | rfl | rfl | rfl
      · exact LB.out.cell (o := 0) rfl
      · exact LB.out.cell (o := 1) rfl
      · exact LB.out.cell (o := 2) rfl
      · exact LB.out.cell (o := 3) rfl
      · exact LB.out.cell (o := 4) rfl)
    have hBD : Hid (∀ i : Nat, i < 5 → 1152921504606846976 < (lcs2 n1 n2 n3 n4 n5).getD i 0 → none = D) := Lib.hid (fun i hi h => by
      refine (decP_head (by rw [HR.out]; intro os; exact fmay_head (by
        unfold HeadP hdF; simp only
        rcases (by omega : i = 0 ∨ i = 1 ∨ i = 2 ∨ i = 3 ∨ i = 4) with rfl | rfl | rfl | rfl | rfl
        · have h : 1152921504606846976 < n1 := h
          omega
        · have h : 1152921504606846976 < n2 := h
          omega
        · have h : 1152921504606846976 < n3 := h
          omega
        · have h : 1152921504606846976 < n4 := h
          omega
        · have h : 1152921504606846976 < n5 := h
          omega))).symm.trans DP.out)
    have RW := Lib.hid (blkBelow MW.out.bel R1.out hr1)
    have BW := Lib.hid (B1.out.trans (MW.out.bel.mono B1.out.size))
    go_loop [10] (fun iv => ∃ i : Nat, i ≤ 5 ∧ iv = .int .i64 i) (fun iv => 5 - (intOf iv).toNat)
    case atStart => exact ⟨0, by omega, rfl⟩
    case round =>
      obtain ⟨i, hi5, rfl⟩ := hrel
      by_cases hlt : i < 5
      · have q0 : (0 : Int) ≤ i := by omega
        have q1 : (i : Int) < 5 := by omega
        have c_0 := hLB.out i hlt
        by_cases hbg : 1152921504606846976 < (lcs2 n1 n2 n3 n4 n5).getD i 0
        · obtain rfl : none = D := hBD.out i hlt hbg
          have hbg' : (1152921504606846976 : Int) < ((lcs2 n1 n2 n3 n4 n5).getD i 0 : Nat) := by omega
          generalize (lcs2 n1 n2 n3 n4 n5).getD i 0 = y at *
          have z_0 : W.cell? ⟨w.heap.size, 0, none⟩ = some (.int .i64 0) := (RW.out).cell (o := 0) rfl
          have z_1 : W.cell? ⟨w.heap.size, 1, none⟩ = some (.int .i64 0) := (RW.out).cell (o := 1) rfl
          have z_2 : W.cell? ⟨w.heap.size, 2, none⟩ = some (.int .i64 0) := (RW.out).cell (o := 2) rfl
          have z_3 : W.cell? ⟨w.heap.size, 3, none⟩ = some (.int .i64 0) := (RW.out).cell (o := 3) rfl
          have z_4 : W.cell? ⟨w.heap.size, 4, none⟩ = some (.int .i64 0) := (RW.out).cell (o := 4) rfl
          have z_5 : W.cell? ⟨w.heap.size, 5, none⟩ = some (.bool false) := (RW.out).cell (o := 5) rfl
          have z_6 : W.cell? ⟨w.heap.size, 6, none⟩ = some (.slice none 0 0) := (RW.out).cell (o := 6) rfl
          have z_7 : W.cell? ⟨w.heap.size, 7, none⟩ = some (.slice none 0 0) := (RW.out).cell (o := 7) rfl
          have yz_0 := (RW.out).free 0
          have yz_1 := (RW.out).free 1
          have yz_2 := (RW.out).free 2
          have yz_3 := (RW.out).free 3
          have yz_4 := (RW.out).free 4
          have yz_5 := (RW.out).free 5
          have yz_6 := (RW.out).free 6
          have yz_7 := (RW.out).free 7
          go_wp2
          exact bodyPost_ret (v := .tuple #[.agg #[.int .i64 0, .int .i64 0, .int .i64 0, .int .i64 0, .int .i64 0, .bool false, .slice none 0 0, .slice none 0 0], .bool false]) (by simp [results, Tryz.results14, go_sem, *] <;> rfl) rfl ⟨rfl, Chg.below_trans BW.out (chg8 _ w.heap.size _ _ _ _ _ _ _ _) (BW.out).size (fun i hi e => by omega)⟩
        · have hbg' : (((lcs2 n1 n2 n3 n4 n5).getD i 0 : Nat) : Int) ≤ 1152921504606846976 := by omega
          generalize (lcs2 n1 n2 n3 n4 n5).getD i 0 = y at *
          go_wp2
          go_round
          case rel => exact ⟨i + 1, by omega, by go_num⟩
          case measure => simp [intOf]; omega
      · obtain rfl : i = 5 := by omega
        have l_0 : W.cell? ⟨w6.heap.size, 0, none⟩ = some (.int .i64 n1) := LB.out.cell (o := 0) rfl
        have l_1 : W.cell? ⟨w6.heap.size, 1, none⟩ = some (.int .i64 n2) := LB.out.cell (o := 1) rfl
        have l_2 : W.cell? ⟨w6.heap.size, 2, none⟩ = some (.int .i64 n3) := LB.out.cell (o := 2) rfl
        have l_3 : W.cell? ⟨w6.heap.size, 3, none⟩ = some (.int .i64 n4) := LB.out.cell (o := 3) rfl
        have l_4 : W.cell? ⟨w6.heap.size, 4, none⟩ = some (.int .i64 n5) := LB.out.cell (o := 4) rfl
        have hne : w1.heap.size + 1 ≠ w6.heap.size := by have := M6.out.fr.lt; omega
        have hne' : ¬ w6.heap.size = w1.heap.size + 1 := by omega
        have z_0 : W.cell? ⟨w1.heap.size + 1, 0, none⟩ = some (.int .i64 0) := (MW.out.fr).cell (o := 0) rfl
        have z_1 : W.cell? ⟨w1.heap.size + 1, 1, none⟩ = some (.int .i64 0) := (MW.out.fr).cell (o := 1) rfl
        have z_2 : W.cell? ⟨w1.heap.size + 1, 2, none⟩ = some (.int .i64 0) := (MW.out.fr).cell (o := 2) rfl
        have z_3 : W.cell? ⟨w1.heap.size + 1, 3, none⟩ = some (.int .i64 0) := (MW.out.fr).cell (o := 3) rfl
        have z_4 : W.cell? ⟨w1.heap.size + 1, 4, none⟩ = some (.int .i64 0) := (MW.out.fr).cell (o := 4) rfl
        have yz_0 := (MW.out.fr).free 0
        have yz_1 := (MW.out.fr).free 1
        have yz_2 := (MW.out.fr).free 2
        have yz_3 := (MW.out.fr).free 3
        have yz_4 := (MW.out.fr).free 4
        have P5 := Lib.hid (((((MW.out.put 0 (.int .i64 n1)).put 1 (.int .i64 n2)).put 2 (.int .i64 n3)).put 3 (.int .i64 n4)).put 4 (.int .i64 n5))
        clear hLB hBD LB M6
        go_wp2_with fail
        refine (frTruth P5.out Q6.out).mono ?_
        rintro e x6 ⟨rfl, v6, hM6⟩
        have M6 := Lib.hid hM6
        clear hM6 P5 l_0 l_1 l_2 l_3 l_4 z_0 z_1 z_2 z_3 z_4 yz_0 yz_1 yz_2 yz_3 yz_4 MW
        have z_5 : x6.cell? ⟨w1.heap.size + 1, 5, none⟩ = some (.bool false) := M6.out.fr.cell (o := 5) rfl
        have yz_5 := M6.out.fr.free 5
        have P6 := Lib.hid (M6.out.put 5 (.bool b6))
        go_wp2_with fail
        refine (frVector P6.out Q7.out).mono ?_
        rintro e x7 ⟨⟨va, vc, rfl, hV7⟩, v7', hM7⟩
        have M7 := Lib.hid hM7
        have V7 := Lib.hid hV7
        clear hM7 hV7 P6 z_5 yz_5 M6
        have z_6 : x7.cell? ⟨w1.heap.size + 1, 6, none⟩ = some (.slice none 0 0) := M7.out.fr.cell (o := 6) rfl
        have yz_6 := M7.out.fr.free 6
        have P7 := Lib.hid (M7.out.put 6 (.slice va v7.length vc))
        have FB7 : Hid (Blk (x7.setCell ⟨w1.heap.size + 1, 6, none⟩ (.slice va v7.length vc)) (w1.heap.size + 1) #[.int .i64 n1, .int .i64 n2, .int .i64 n3, .int .i64 n4, .int .i64 n5, .bool b6, .slice va v7.length vc, .slice none 0 0] 26) := Lib.hid (by have := P7.out.fr; simpa using this)
        have VK7 := Lib.hid (V7.out.chg (Chg.set (S := (· = w1.heap.size + 1)) (Chg.refl _ x7) (p := ⟨w1.heap.size + 1, 6, none⟩) (fun _ => rfl) (.slice va v7.length vc)) (fun k hk => ⟨Nat.zero_le _, fun _ => by
          have hk : k = w1.heap.size + 1 := hk
          subst hk
          exact blk_ne M7.out.fr (by decide)⟩))
        have LX7 : Hid (FdL w1 (w1.heap.size + 1) ⟨n1, n2, n3, n4, n5, b6, v7, n8, s8⟩ va vc (.slice none 0 0) [] (x7.setCell ⟨w1.heap.size + 1, 6, none⟩ (.slice va v7.length vc))) := Lib.hid ⟨OpsOwn.nil _ _ _, FB7.out, VK7.out, P7.out.bel, by omega⟩
        go_wp2_with fail
        refine (frNum P7.out Q8.out).mono ?_
        rintro e x8 ⟨rfl, ⟨v8, hM8⟩, hg8⟩
        have LX8 : Hid (FrL w1 (w1.heap.size + 1) w1.heap.size B ⟨n1, n2, n3, n4, n5, b6, v7, n8, s8⟩ va vc (.slice none 0 0) [] v8 s8 x8) := Lib.hid ⟨LX7.out.chg P7.out.rf.blk (Nat.le_refl _) hg8, hM8.rf, hM8.inB, ⟨Nat.le_refl _, by omega, hM8.ord.2.2.2, HBR.out⟩⟩
        clear hM8 hg8 P7 FB7 VK7 LX7 z_6 yz_6 M7 V7 hne hne'
        have B8 := Lib.hid (B1.out.trans (LX8.out.l.bel.mono B1.out.size))
        have R8 := Lib.hid (blkBelow LX8.out.l.bel R1.out hr1)
        by_cases h8 : 8 < n8
        · obtain rfl : none = D := (decP_many (by rw [HR.out]; exact h8)).symm.trans DP.out
          have h8' : (8 : Int) < n8 := by omega
          have z_0 : x8.cell? ⟨w.heap.size, 0, none⟩ = some (.int .i64 0) := (R8.out).cell (o := 0) rfl
          have z_1 : x8.cell? ⟨w.heap.size, 1, none⟩ = some (.int .i64 0) := (R8.out).cell (o := 1) rfl
          have z_2 : x8.cell? ⟨w.heap.size, 2, none⟩ = some (.int .i64 0) := (R8.out).cell (o := 2) rfl
          have z_3 : x8.cell? ⟨w.heap.size, 3, none⟩ = some (.int .i64 0) := (R8.out).cell (o := 3) rfl
          have z_4 : x8.cell? ⟨w.heap.size, 4, none⟩ = some (.int .i64 0) := (R8.out).cell (o := 4) rfl
          have z_5 : x8.cell? ⟨w.heap.size, 5, none⟩ = some (.bool false) := (R8.out).cell (o := 5) rfl
          have z_6 : x8.cell? ⟨w.heap.size, 6, none⟩ = some (.slice none 0 0) := (R8.out).cell (o := 6) rfl
          have z_7 : x8.cell? ⟨w.heap.size, 7, none⟩ = some (.slice none 0 0) := (R8.out).cell (o := 7) rfl
          have yz_0 := (R8.out).free 0
          have yz_1 := (R8.out).free 1
          have yz_2 := (R8.out).free 2
          have yz_3 := (R8.out).free 3
          have yz_4 := (R8.out).free 4
          have yz_5 := (R8.out).free 5
          have yz_6 := (R8.out).free 6
          have yz_7 := (R8.out).free 7
          go_wp2
          exact bodyPost_ret (v := .tuple #[.agg #[.int .i64 0, .int .i64 0, .int .i64 0, .int .i64 0, .int .i64 0, .bool false, .slice none 0 0, .slice none 0 0], .bool false]) (by simp [results, Tryz.results14, go_sem, *] <;> rfl) rfl ⟨rfl, Chg.below_trans B8.out (chg8 _ w.heap.size _ _ _ _ _ _ _ _) (B8.out).size (fun i hi e => by omega)⟩
        have h8' : (n8 : Int) ≤ 8 := by omega
        rcases s8 with _ | rest
        · obtain rfl : n8 = 0 := Z8.out rfl
          obtain rfl : none = D := (decP_bad (by rw [HR.out])).symm.trans DP.out
          have KD := Lib.hid (fDone _ _ _ _ x8 LX8.out.rf)
          rw [decide_eq_false (by simp)] at KD
          have z_0 : x8.cell? ⟨w.heap.size, 0, none⟩ = some (.int .i64 0) := (R8.out).cell (o := 0) rfl
          have z_1 : x8.cell? ⟨w.heap.size, 1, none⟩ = some (.int .i64 0) := (R8.out).cell (o := 1) rfl
          have z_2 : x8.cell? ⟨w.heap.size, 2, none⟩ = some (.int .i64 0) := (R8.out).cell (o := 2) rfl
          have z_3 : x8.cell? ⟨w.heap.size, 3, none⟩ = some (.int .i64 0) := (R8.out).cell (o := 3) rfl
          have z_4 : x8.cell? ⟨w.heap.size, 4, none⟩ = some (.int .i64 0) := (R8.out).cell (o := 4) rfl
          have z_5 : x8.cell? ⟨w.heap.size, 5, none⟩ = some (.bool false) := (R8.out).cell (o := 5) rfl
          have z_6 : x8.cell? ⟨w.heap.size, 6, none⟩ = some (.slice none 0 0) := (R8.out).cell (o := 6) rfl
          have z_7 : x8.cell? ⟨w.heap.size, 7, none⟩ = some (.slice none 0 0) := (R8.out).cell (o := 7) rfl
          have yz_0 := (R8.out).free 0
          have yz_1 := (R8.out).free 1
          have yz_2 := (R8.out).free 2
          have yz_3 := (R8.out).free 3
          have yz_4 := (R8.out).free 4
          have yz_5 := (R8.out).free 5
          have yz_6 := (R8.out).free 6
          have yz_7 := (R8.out).free 7
          go_wp2
          go_loop [11] (fun kv => kv = .int .i64 0) (fun _ => 0)
          case atStart => rfl
          case round =>
            obtain rfl := hrel
            go_wp2_with fail
            refine KD.out.mono ?_
            rintro e x9 ⟨rfl, rfl⟩
            go_wp2
            exact bodyPost_ret (v := .tuple #[.agg #[.int .i64 0, .int .i64 0, .int .i64 0, .int .i64 0, .int .i64 0, .bool false, .slice none 0 0, .slice none 0 0], .bool false]) (by simp [results, Tryz.results14, go_sem, *] <;> rfl) rfl ⟨rfl, Chg.below_trans B8.out (chg8 _ w.heap.size _ _ _ _ _ _ _ _) (B8.out).size (fun i hi e => by omega)⟩
        go_wp2
        have OP0 : Hid (midS n8 rest (([] : List ODS).map (·.1)) = opsS n8 rest) := midS_start n8 rest
        go_loopw [11] (fun kv wr => ∃ (m : Nat) (q : List Int) (v : Value) (ov : Value) (ps : List ODS), m ≤ n8 ∧ kv = .int .i64 m ∧ FrL w1 (w1.heap.size + 1) w1.heap.size B ⟨n1, n2, n3, n4, n5, b6, v7, n8, some rest⟩ va vc ov ps v (some q) wr ∧ midS m q (ps.map (·.1)) = opsS n8 rest ∧ (∀ z ∈ ps.map (·.1), z.name.size < 4294967281) ∧ ps.length + m ≤ n8) (fun kv _ => (intOf kv).toNat)
        case atStart => exact ⟨n8, rest, v8, _, [], Nat.le_refl _, rfl, LX8.out, OP0.out, (fun z hz => by cases hz), by simp⟩
        case round =>
          obtain ⟨m, q, v, ov, ps, hm8, rfl, hL, hmid, hnm, hpsl⟩ := hrel
          have LL := Lib.hid hL
          have MID := Lib.hid hmid
          have HNM := Lib.hid hnm
          clear hL hmid hnm OP0 LX8 B8 R8 h8'
          have s_1 : wr.cell? ⟨w1.heap.size, 1, none⟩ = some (.bool false) := LL.out.rf.blk.cell (o := 1) rfl
          rcases m with _ | m
          · have ME : Hid (opsS n8 rest = some (ps.map (·.1), q)) := Lib.hid (by have := MID.out; rw [midS_end] at this; exact this.symm)
            have DE := Lib.hid (decP_end (l := p) (r := rest) (by rw [HR.out]) (by rw [HR.out]; exact h8) (by rw [HR.out]; exact ME.out))
            rw [HR.out] at DE
            have BE := Lib.hid (B1.out.trans (LL.out.l.bel.mono B1.out.size))
            have RE := Lib.hid (blkBelow LL.out.l.bel R1.out hr1)
            obtain ⟨oa, oc, rfl, _, _, _⟩ := own_shape LL.out.l.own.own
            have KD := Lib.hid (fDone _ _ _ _ wr LL.out.rf)
            by_cases hq0 : q = []
            rotate_left 1
            · rw [decide_eq_false (by simpa using hq0)] at KD
              obtain rfl : none = D := by have := DE.out.symm.trans DP.out; rwa [if_neg (fun h => hq0 h.1)] at this
              have z_0 : wr.cell? ⟨w.heap.size, 0, none⟩ = some (.int .i64 0) := (RE.out).cell (o := 0) rfl
              have z_1 : wr.cell? ⟨w.heap.size, 1, none⟩ = some (.int .i64 0) := (RE.out).cell (o := 1) rfl
              have z_2 : wr.cell? ⟨w.heap.size, 2, none⟩ = some (.int .i64 0) := (RE.out).cell (o := 2) rfl
              have z_3 : wr.cell? ⟨w.heap.size, 3, none⟩ = some (.int .i64 0) := (RE.out).cell (o := 3) rfl
              have z_4 : wr.cell? ⟨w.heap.size, 4, none⟩ = some (.int .i64 0) := (RE.out).cell (o := 4) rfl
              have z_5 : wr.cell? ⟨w.heap.size, 5, none⟩ = some (.bool false) := (RE.out).cell (o := 5) rfl
              have z_6 : wr.cell? ⟨w.heap.size, 6, none⟩ = some (.slice none 0 0) := (RE.out).cell (o := 6) rfl
              have z_7 : wr.cell? ⟨w.heap.size, 7, none⟩ = some (.slice none 0 0) := (RE.out).cell (o := 7) rfl
              have yz_0 := (RE.out).free 0
              have yz_1 := (RE.out).free 1
              have yz_2 := (RE.out).free 2
              have yz_3 := (RE.out).free 3
              have yz_4 := (RE.out).free 4
              have yz_5 := (RE.out).free 5
              have yz_6 := (RE.out).free 6
              have yz_7 := (RE.out).free 7
              go_wp2_with fail
              refine KD.out.mono ?_
              rintro e x9 ⟨rfl, rfl⟩
              go_wp2
              exact bodyPost_ret (v := .tuple #[.agg #[.int .i64 0, .int .i64 0, .int .i64 0, .int .i64 0, .int .i64 0, .bool false, .slice none 0 0, .slice none 0 0], .bool false]) (by simp [results, Tryz.results14, go_sem, *] <;> rfl) rfl ⟨rfl, Chg.below_trans BE.out (chg8 _ w.heap.size _ _ _ _ _ _ _ _) (BE.out).size (fun i hi e => by omega)⟩
            subst hq0
            rw [decide_eq_true rfl] at KD
            obtain ⟨F, hF⟩ : ∃ F : Frm, F = hdF ⟨n1, n2, n3, n4, n5, b6, v7, n8, some rest⟩ (ps.map (·.1)) := ⟨_, rfl⟩
            have MF := Lib.hid (refFMay F (.slice va v7.length vc) (.slice oa ps.length oc) wr (by rw [hF]; exact LL.out.l.vk.rd) (by rw [hF]; exact LL.out.l.own.rd) (by rw [hF]; exact HNM.out))
            rw [← hF] at DE
            have FD := Lib.hid hF
            have fr_0 : wr.cell? ⟨w1.heap.size + 1, 0, none⟩ = some (.int .i64 n1) := LL.out.l.fr.cell (o := 0) rfl
            have fr_1 : wr.cell? ⟨w1.heap.size + 1, 1, none⟩ = some (.int .i64 n2) := LL.out.l.fr.cell (o := 1) rfl
            have fr_2 : wr.cell? ⟨w1.heap.size + 1, 2, none⟩ = some (.int .i64 n3) := LL.out.l.fr.cell (o := 2) rfl
            have fr_3 : wr.cell? ⟨w1.heap.size + 1, 3, none⟩ = some (.int .i64 n4) := LL.out.l.fr.cell (o := 3) rfl
            have fr_4 : wr.cell? ⟨w1.heap.size + 1, 4, none⟩ = some (.int .i64 n5) := LL.out.l.fr.cell (o := 4) rfl
            have fr_5 : wr.cell? ⟨w1.heap.size + 1, 5, none⟩ = some (.bool b6) := LL.out.l.fr.cell (o := 5) rfl
            have fr_6 : wr.cell? ⟨w1.heap.size + 1, 6, none⟩ = some (.slice va v7.length vc) := LL.out.l.fr.cell (o := 6) rfl
            have fr_7 : wr.cell? ⟨w1.heap.size + 1, 7, none⟩ = some (.slice oa ps.length oc) := LL.out.l.fr.cell (o := 7) rfl
            rw [hF] at MF
            clear hF
            go_wp2_with fail
            refine KD.out.mono ?_
            rintro e x9 ⟨rfl, rfl⟩
            go_wp2_with fail
            refine MF.out.mono ?_
            rintro e w9 ⟨rfl, hb9⟩
            have L9 := Lib.hid (LL.out.l.below hb9)
            have B9 := Lib.hid (BE.out.trans (hb9.mono BE.out.size))
            have R9 := Lib.hid (blkBelow hb9 RE.out RE.out.lt)
            clear hb9 MF KD fr_0 fr_1 fr_2 fr_3 fr_4 fr_5 fr_6 fr_7 LL BE RE
            have z_0 : w9.cell? ⟨w.heap.size, 0, none⟩ = some (.int .i64 0) := (R9.out).cell (o := 0) rfl
            have z_1 : w9.cell? ⟨w.heap.size, 1, none⟩ = some (.int .i64 0) := (R9.out).cell (o := 1) rfl
            have z_2 : w9.cell? ⟨w.heap.size, 2, none⟩ = some (.int .i64 0) := (R9.out).cell (o := 2) rfl
            have z_3 : w9.cell? ⟨w.heap.size, 3, none⟩ = some (.int .i64 0) := (R9.out).cell (o := 3) rfl
            have z_4 : w9.cell? ⟨w.heap.size, 4, none⟩ = some (.int .i64 0) := (R9.out).cell (o := 4) rfl
            have z_5 : w9.cell? ⟨w.heap.size, 5, none⟩ = some (.bool false) := (R9.out).cell (o := 5) rfl
            have z_6 : w9.cell? ⟨w.heap.size, 6, none⟩ = some (.slice none 0 0) := (R9.out).cell (o := 6) rfl
            have z_7 : w9.cell? ⟨w.heap.size, 7, none⟩ = some (.slice none 0 0) := (R9.out).cell (o := 7) rfl
            have yz_0 := (R9.out).free 0
            have yz_1 := (R9.out).free 1
            have yz_2 := (R9.out).free 2
            have yz_3 := (R9.out).free 3
            have yz_4 := (R9.out).free 4
            have yz_5 := (R9.out).free 5
            have yz_6 := (R9.out).free 6
            have yz_7 := (R9.out).free 7
            rw [← FD.out]
            have DE2 : Hid ((if fMayB F = true then some F else none) = D) := Lib.hid (by rw [← DP.out, DE.out]; simp)
            clear DE
            cases hfm : fMayB F
            · obtain rfl : none = D := by have := DE2.out; rw [hfm] at this; simpa using this
              go_wp2
              exact bodyPost_ret (v := .tuple #[.agg #[.int .i64 0, .int .i64 0, .int .i64 0, .int .i64 0, .int .i64 0, .bool false, .slice none 0 0, .slice none 0 0], .bool false]) (by simp [results, Tryz.results14, go_sem, *] <;> rfl) rfl ⟨rfl, Chg.below_trans B9.out (chg8 _ w.heap.size _ _ _ _ _ _ _ _) (B9.out).size (fun i hi e => by omega)⟩
            · obtain rfl : some F = D := by have := DE2.out; rw [hfm] at this; simpa using this
              clear DE2
              have fr_0 : w9.cell? ⟨w1.heap.size + 1, 0, none⟩ = some (.int .i64 n1) := L9.out.fr.cell (o := 0) rfl
              have fr_1 : w9.cell? ⟨w1.heap.size + 1, 1, none⟩ = some (.int .i64 n2) := L9.out.fr.cell (o := 1) rfl
              have fr_2 : w9.cell? ⟨w1.heap.size + 1, 2, none⟩ = some (.int .i64 n3) := L9.out.fr.cell (o := 2) rfl
              have fr_3 : w9.cell? ⟨w1.heap.size + 1, 3, none⟩ = some (.int .i64 n4) := L9.out.fr.cell (o := 3) rfl
              have fr_4 : w9.cell? ⟨w1.heap.size + 1, 4, none⟩ = some (.int .i64 n5) := L9.out.fr.cell (o := 4) rfl
              have fr_5 : w9.cell? ⟨w1.heap.size + 1, 5, none⟩ = some (.bool b6) := L9.out.fr.cell (o := 5) rfl
              have fr_6 : w9.cell? ⟨w1.heap.size + 1, 6, none⟩ = some (.slice va v7.length vc) := L9.out.fr.cell (o := 6) rfl
              have fr_7 : w9.cell? ⟨w1.heap.size + 1, 7, none⟩ = some (.slice oa ps.length oc) := L9.out.fr.cell (o := 7) rfl
              have FIN := Lib.hid (fun w' (g : Chg (· = w.heap.size) w9 w') => (by
                have e8 : 5 ≠ 26 := by decide
                have e64 : 2 ≠ 26 := by decide
                have eo : 46 ≠ 26 := by decide
                have hK : ∀ k, k = w.heap.size → 0 ≤ k ∧ (∀ cs, ¬ Blk w9 k cs 5) ∧ (∀ cs, ¬ Blk w9 k cs 2) ∧ ∀ cs, ¬ Blk w9 k cs 46 := by
                  rintro k rfl
                  exact ⟨Nat.zero_le _, fun _ => blk_ne R9.out (Ne.symm e8), fun _ => blk_ne R9.out (Ne.symm e64), fun _ => blk_ne R9.out (Ne.symm eo)⟩
                exact ⟨.slice va v7.length vc, .slice oa ps.length oc, by rw [FD.out]; rfl, by rw [FD.out]; exact (L9.out.vk.chg g (fun k hk => ⟨(hK k hk).1, (hK k hk).2.2.1⟩)).rd, by rw [FD.out]; exact (L9.out.own.chg g hK).rd, g.below_trans B9.out B9.out.size (fun i hi e => by omega)⟩ : ∃ v o, Ending.returned (.tuple #[.agg #[.int .i64 n1, .int .i64 n2, .int .i64 n3, .int .i64 n4, .int .i64 n5, .bool b6, .slice va v7.length vc, .slice oa ps.length oc], .bool true]) = .returned (.tuple #[.agg #[.int .i64 (F).kind, .int .i64 (F).src, .int .i64 (F).dst, .int .i64 (F).sess, .int .i64 (F).seq, .bool (F).last, v, o], .bool true]) ∧ Rdv i64v w' v F.vec ∧ OpsRd w' o F.ops ∧ Below w.heap.size w w'))
              go_wp2
              exact bodyPost_ret (v := .tuple #[.agg #[.int .i64 n1, .int .i64 n2, .int .i64 n3, .int .i64 n4, .int .i64 n5, .bool b6, .slice va v7.length vc, .slice oa ps.length oc], .bool true]) (by simp [results, Tryz.results14, go_sem, *] <;> rfl) rfl (FIN.out _ (chg8 _ _ _ _ _ _ _ _ _ _))
          · have q0 : (0 : Int) < ((m + 1 : Nat) : Int) := by omega
            have q00 : (0 : Int) < (m : Int) + 1 := by omega
            obtain ⟨x, sx, qx⟩ : ∃ x sx, numS (some q) = (x, sx) := ⟨_, _, rfl⟩
            have QX := Lib.hid qx
            have bdx := numS_bd (some q)
            rw [qx] at bdx
            simp only at bdx
            have KN4 := Lib.hid (fNum' w1.heap.size B v (some q) wr LL.out.rf QX.out)
            go_wp2_with fail
            refine KN4.out.mono ?_
            rintro e w4 ⟨rfl, hs4⟩
            obtain ⟨v4, hL4⟩ := LL.out.step hs4
            have L4 := Lib.hid hL4
            clear hL4 hs4 KN4 s_1
            have B4 := Lib.hid (B1.out.trans (L4.out.l.bel.mono B1.out.size))
            have R4 := Lib.hid (blkBelow L4.out.l.bel R1.out hr1)
            have s_0 : w4.cell? ⟨w1.heap.size, 0, none⟩ = some v4 := L4.out.rf.blk.cell (o := 0) rfl
            rcases sx with _ | z
            · obtain rfl : none = D := (decP_ops (by rw [HR.out]) (by rw [HR.out]; exact (MID.out.symm.trans (midS_bad QX.out)))).symm.trans DP.out
              have s_1 : w4.cell? ⟨w1.heap.size, 1, none⟩ = some (.bool true) := L4.out.rf.blk.cell (o := 1) rfl
              have z_0 : w4.cell? ⟨w.heap.size, 0, none⟩ = some (.int .i64 0) := (R4.out).cell (o := 0) rfl
              have z_1 : w4.cell? ⟨w.heap.size, 1, none⟩ = some (.int .i64 0) := (R4.out).cell (o := 1) rfl
              have z_2 : w4.cell? ⟨w.heap.size, 2, none⟩ = some (.int .i64 0) := (R4.out).cell (o := 2) rfl
              have z_3 : w4.cell? ⟨w.heap.size, 3, none⟩ = some (.int .i64 0) := (R4.out).cell (o := 3) rfl
              have z_4 : w4.cell? ⟨w.heap.size, 4, none⟩ = some (.int .i64 0) := (R4.out).cell (o := 4) rfl
              have z_5 : w4.cell? ⟨w.heap.size, 5, none⟩ = some (.bool false) := (R4.out).cell (o := 5) rfl
              have z_6 : w4.cell? ⟨w.heap.size, 6, none⟩ = some (.slice none 0 0) := (R4.out).cell (o := 6) rfl
              have z_7 : w4.cell? ⟨w.heap.size, 7, none⟩ = some (.slice none 0 0) := (R4.out).cell (o := 7) rfl
              have yz_0 := (R4.out).free 0
              have yz_1 := (R4.out).free 1
              have yz_2 := (R4.out).free 2
              have yz_3 := (R4.out).free 3
              have yz_4 := (R4.out).free 4
              have yz_5 := (R4.out).free 5
              have yz_6 := (R4.out).free 6
              have yz_7 := (R4.out).free 7
              clear LL
              go_wp2
              exact bodyPost_ret (v := .tuple #[.agg #[.int .i64 0, .int .i64 0, .int .i64 0, .int .i64 0, .int .i64 0, .bool false, .slice none 0 0, .slice none 0 0], .bool false]) (by simp [results, Tryz.results14, go_sem, *] <;> rfl) rfl ⟨rfl, Chg.below_trans B4.out (chg8 _ w.heap.size _ _ _ _ _ _ _ _) (B4.out).size (fun i hi e => by omega)⟩
            · have s_1 : w4.cell? ⟨w1.heap.size, 1, none⟩ = some (.bool false) := L4.out.rf.blk.cell (o := 1) rfl
              clear LL
              have hzr : Rdv u8v w4 v4 z := L4.out.rf.rdv
              obtain ⟨v4a, v4n, v4c, rfl⟩ := hzr.shape
              obtain ⟨rfl, hzc, hcm, _⟩ := hzr.cap
              unfold maxLen at hcm
              have hin4 := L4.out.rf.inB
              have ZR := Lib.hid hzr
              have ZB : Hid (Byt z) := Lib.hid L4.out.rf.byt
              have hzl : z.length ≤ 100000000000 := L4.out.rf.len
              by_cases hxz : x ≤ z.length
              rotate_left 1
              · obtain rfl : none = D := (decP_ops (by rw [HR.out]) (by rw [HR.out]; exact (MID.out.symm.trans (midS_long QX.out (by omega))))).symm.trans DP.out
                have hxz' : (z.length : Int) < x := by omega
                have z_0 : w4.cell? ⟨w.heap.size, 0, none⟩ = some (.int .i64 0) := (R4.out).cell (o := 0) rfl
                have z_1 : w4.cell? ⟨w.heap.size, 1, none⟩ = some (.int .i64 0) := (R4.out).cell (o := 1) rfl
                have z_2 : w4.cell? ⟨w.heap.size, 2, none⟩ = some (.int .i64 0) := (R4.out).cell (o := 2) rfl
                have z_3 : w4.cell? ⟨w.heap.size, 3, none⟩ = some (.int .i64 0) := (R4.out).cell (o := 3) rfl
                have z_4 : w4.cell? ⟨w.heap.size, 4, none⟩ = some (.int .i64 0) := (R4.out).cell (o := 4) rfl
                have z_5 : w4.cell? ⟨w.heap.size, 5, none⟩ = some (.bool false) := (R4.out).cell (o := 5) rfl
                have z_6 : w4.cell? ⟨w.heap.size, 6, none⟩ = some (.slice none 0 0) := (R4.out).cell (o := 6) rfl
                have z_7 : w4.cell? ⟨w.heap.size, 7, none⟩ = some (.slice none 0 0) := (R4.out).cell (o := 7) rfl
                have yz_0 := (R4.out).free 0
                have yz_1 := (R4.out).free 1
                have yz_2 := (R4.out).free 2
                have yz_3 := (R4.out).free 3
                have yz_4 := (R4.out).free 4
                have yz_5 := (R4.out).free 5
                have yz_6 := (R4.out).free 6
                have yz_7 := (R4.out).free 7
                clear hin4
                go_wp2
                exact bodyPost_ret (v := .tuple #[.agg #[.int .i64 0, .int .i64 0, .int .i64 0, .int .i64 0, .int .i64 0, .bool false, .slice none 0 0, .slice none 0 0], .bool false]) (by simp [results, Tryz.results14, go_sem, *] <;> rfl) rfl ⟨rfl, Chg.below_trans B4.out (chg8 _ w.heap.size _ _ _ _ _ _ _ _) (B4.out).size (fun i hi e => by omega)⟩
              have hxz' : (x : Int) ≤ z.length := by omega
              have hxc : x ≤ v4c := by omega
              rcases hin4 with hn | ⟨o4, n4', c4', hn⟩
              ·
                --[
                rw [Value.slice.injEq] at hn
                obtain ⟨rfl, hzz, rfl⟩ := hn
                obtain rfl : x = 0 := by omega
                have hze : z = [] := List.eq_nil_of_length_eq_zero hzz
                subst hze
                have hdb : decB (([] : List Int).take 0) = false := decB_nil
                have KD := Lib.hid (refDecode (.slice none 0 0) [] w4 (Rdv.nil _ _) (fun q hq => by cases hq) (by simp) (.inl rfl))
                obtain rfl : none = D := (decP_ops (by rw [HR.out]) (by rw [HR.out]; exact (MID.out.symm.trans (midS_dec QX.out hdb)))).symm.trans DP.out
                go_wp2_with fail
                refine KD.out.mono ?_
                unfold RDecPost
                rw [decB_nil]
                simp only [Bool.false_eq_true, if_false]
                rintro e w5 ⟨rfl, hb5⟩
                have R5 := Lib.hid (blkBelow hb5 R4.out R4.out.lt)
                have B5 := Lib.hid (B4.out.trans (hb5.mono B4.out.size))
                have z_0 : w5.cell? ⟨w.heap.size, 0, none⟩ = some (.int .i64 0) := (R5.out).cell (o := 0) rfl
                have z_1 : w5.cell? ⟨w.heap.size, 1, none⟩ = some (.int .i64 0) := (R5.out).cell (o := 1) rfl
                have z_2 : w5.cell? ⟨w.heap.size, 2, none⟩ = some (.int .i64 0) := (R5.out).cell (o := 2) rfl
                have z_3 : w5.cell? ⟨w.heap.size, 3, none⟩ = some (.int .i64 0) := (R5.out).cell (o := 3) rfl
                have z_4 : w5.cell? ⟨w.heap.size, 4, none⟩ = some (.int .i64 0) := (R5.out).cell (o := 4) rfl
                have z_5 : w5.cell? ⟨w.heap.size, 5, none⟩ = some (.bool false) := (R5.out).cell (o := 5) rfl
                have z_6 : w5.cell? ⟨w.heap.size, 6, none⟩ = some (.slice none 0 0) := (R5.out).cell (o := 6) rfl
                have z_7 : w5.cell? ⟨w.heap.size, 7, none⟩ = some (.slice none 0 0) := (R5.out).cell (o := 7) rfl
                have yz_0 := (R5.out).free 0
                have yz_1 := (R5.out).free 1
                have yz_2 := (R5.out).free 2
                have yz_3 := (R5.out).free 3
                have yz_4 := (R5.out).free 4
                have yz_5 := (R5.out).free 5
                have yz_6 := (R5.out).free 6
                have yz_7 := (R5.out).free 7
                have hw5 : w.heap.size < w5.heap.size := R5.out.lt
                go_wp2
                exact bodyPost_ret (v := .tuple #[.agg #[.int .i64 0, .int .i64 0, .int .i64 0, .int .i64 0, .int .i64 0, .bool false, .slice none 0 0, .slice none 0 0], .bool false]) (by simp [results, Tryz.results14, go_sem, *] <;> rfl) rfl ⟨rfl, below_chg_alloc B5.out (chg8 _ w.heap.size _ _ _ _ _ _ _ _) B5.out.size (fun i hi e => by omega) _⟩
                --]
              · rw [Value.slice.injEq] at hn
                obtain ⟨rfl, e1, e2⟩ := hn
                clear e1 e2
                have TK := Lib.hid (ZR.out.take x v4c hxz hxc (Nat.le_refl _))
                have KD := Lib.hid (refDecode _ (z.take x) w4 TK.out (ZB.out.take x) (by rw [List.length_take]; omega) (.inr ⟨B, o4, x, v4c, rfl, L4.out.inB⟩))
                go_wp2_with fail
                refine KD.out.mono ?_
                unfold RDecPost
                cases hdb : decB (z.take x)
                ·
                  --[
                  obtain rfl : none = D := (decP_ops (by rw [HR.out]) (by rw [HR.out]; exact (MID.out.symm.trans (midS_dec QX.out hdb)))).symm.trans DP.out
                  simp only [Bool.false_eq_true, if_false]
                  rintro e w5 ⟨rfl, hb5⟩
                  have R5 := Lib.hid (blkBelow hb5 R4.out R4.out.lt)
                  have B5 := Lib.hid (B4.out.trans (hb5.mono B4.out.size))
                  have z_0 : w5.cell? ⟨w.heap.size, 0, none⟩ = some (.int .i64 0) := (R5.out).cell (o := 0) rfl
                  have z_1 : w5.cell? ⟨w.heap.size, 1, none⟩ = some (.int .i64 0) := (R5.out).cell (o := 1) rfl
                  have z_2 : w5.cell? ⟨w.heap.size, 2, none⟩ = some (.int .i64 0) := (R5.out).cell (o := 2) rfl
                  have z_3 : w5.cell? ⟨w.heap.size, 3, none⟩ = some (.int .i64 0) := (R5.out).cell (o := 3) rfl
                  have z_4 : w5.cell? ⟨w.heap.size, 4, none⟩ = some (.int .i64 0) := (R5.out).cell (o := 4) rfl
                  have z_5 : w5.cell? ⟨w.heap.size, 5, none⟩ = some (.bool false) := (R5.out).cell (o := 5) rfl
                  have z_6 : w5.cell? ⟨w.heap.size, 6, none⟩ = some (.slice none 0 0) := (R5.out).cell (o := 6) rfl
                  have z_7 : w5.cell? ⟨w.heap.size, 7, none⟩ = some (.slice none 0 0) := (R5.out).cell (o := 7) rfl
                  have yz_0 := (R5.out).free 0
                  have yz_1 := (R5.out).free 1
                  have yz_2 := (R5.out).free 2
                  have yz_3 := (R5.out).free 3
                  have yz_4 := (R5.out).free 4
                  have yz_5 := (R5.out).free 5
                  have yz_6 := (R5.out).free 6
                  have yz_7 := (R5.out).free 7
                  have hw5 : w.heap.size < w5.heap.size := R5.out.lt
                  go_wp2
                  exact bodyPost_ret (v := .tuple #[.agg #[.int .i64 0, .int .i64 0, .int .i64 0, .int .i64 0, .int .i64 0, .bool false, .slice none 0 0, .slice none 0 0], .bool false]) (by simp [results, Tryz.results14, go_sem, *] <;> rfl) rfl ⟨rfl, below_chg_alloc B5.out (chg8 _ w.heap.size _ _ _ _ _ _ _ _) B5.out.size (fun i hi e => by omega) _⟩
                  --]
                · simp only [if_true]
                  rintro e w5 ⟨d5, s5', rfl, hd5, hs5, hb5⟩
                  have D5 := Lib.hid (RdK.of_own (B := 0) (enc := u8v) hd5)
                  have S5 := Lib.hid (RdK.of_own (B := 0) (enc := i64v) hs5)
                  have L5 := Lib.hid (L4.out.below hb5)
                  obtain ⟨d5a, d5c, rfl, _, _, _⟩ := own_shape hd5
                  obtain ⟨s5a, s5c, rfl, _, _, _⟩ := own_shape hs5
                  have ST : Hid (midS m (z.drop x) ((ps.map (·.1)) ++ [decO (z.take x)]) = opsS n8 rest) := Lib.hid (by rw [← midS_step QX.out hxz hdb]; exact MID.out)
                  have hdn := may_size (decB_may hdb)
                  clear hd5 hs5 hb5 KD TK L4 R4 B4 hdb s_0 s_1 hzr
                  generalize decO (z.take x) = q' at *
                  have LO := Lib.hid ((Below.refl w5.heap.size w5).alloc (Nat.le_refl _) (.cells #[.int .i64 (q').time, .int .i64 (q').node, .int .i64 (q').seq, .int .i64 (q').kind, .int .i64 (q').ot, .int .i64 (q').on, .int .i64 (q').pt, .int .i64 (q').pn, .string (q').name, .slice d5a (q'.data).length d5c, .slice s5a (q'.seen).length s5c] 46))
                  have LO2 := Lib.hid (LO.out.alloc (by simp) (.cells #[.int .i64 (q').time, .int .i64 (q').node, .int .i64 (q').seq, .int .i64 (q').kind, .int .i64 (q').ot, .int .i64 (q').on, .int .i64 (q').pt, .int .i64 (q').pn, .string (q').name, .slice d5a (q'.data).length d5c, .slice s5a (q'.seen).length s5c] 46))
                  have L6 := Lib.hid (L5.out.below LO2.out)
                  have f_7 : w5.cell? ⟨w1.heap.size + 1, 7, none⟩ = some ov := L5.out.l.fr.cell (o := 7) rfl
                  have y_7 := L5.out.l.fr.free 7
                  have hfz : w1.heap.size + 1 < w5.heap.size := L5.out.l.fr.lt
                  have hbz := L5.out.l.bel.size
                  obtain ⟨oa, oc, rfl, _, _, _⟩ := own_shape L6.out.l.own.own
                  have psl : ps.length ≤ 8 := by omega
                  go_wp2_with (at_builtin; refine wpList_append_lies _ rfl (.tmp 128) (.tmp 130) 24 rfl w1.heap.size 46 i0 _ 11 128 Tryz.underlying24 hi hz0 hz1 hz2 rfl (Nat.zero_lt_succ 10) (.slice oa ps.length oc) ps.length (odrow ps) rfl L6.out.l.own.own ⟨w5.heap.size + 1, 0, none⟩ 1 1 (opC q' (.slice d5a (q'.data).length d5c) (.slice s5a (q'.seen).length s5c)) rfl rfl ?c1 ?c2 (Nat.zero_lt_succ 0) ?c3 ?c4 ?c5 (w5.heap.size + 2) ?c6 ?_)
                  case c1 => (intro j u hu; unfold opC at hu; rcases j with _ | _ | _ | _ | _ | _ | _ | _ | _ | _ | _ | j <;> simp at hu <;> subst hu <;> simp [Addr.add, go_sem, *])
                  case c2 => simp [opC, Value.oneCell']
                  case c3 => unfold maxLen; omega
                  case c4 => omega
                  case c5 => simp; omega
                  case c6 => simp
                  intro g7 c7 w7 ho7 hg7 _ hg7l
                  have L7 := Lib.hid (L6.out.push hg7 ho7 rfl (D5.out.below LO2.out) (S5.out.below LO2.out))
                  have gc : Chg (fun k => (Value.slice oa ps.length oc).ownBlock = some k) ((w5.alloc (.cells #[.int .i64 (q').time, .int .i64 (q').node, .int .i64 (q').seq, .int .i64 (q').kind, .int .i64 (q').ot, .int .i64 (q').on, .int .i64 (q').pt, .int .i64 (q').pn, .string (q').name, .slice d5a (q'.data).length d5c, .slice s5a (q'.seen).length s5c] 46)).alloc (.cells #[.int .i64 (q').time, .int .i64 (q').node, .int .i64 (q').seq, .int .i64 (q').kind, .int .i64 (q').ot, .int .i64 (q').on, .int .i64 (q').pt, .int .i64 (q').pn, .string (q').name, .slice d5a (q'.data).length d5c, .slice s5a (q'.seen).length s5c] 46)) w7 := (Chg.refl _ _).grown hg7 (fun _ e _ => e)
                  have F7 := Lib.hid (gc.blk L6.out.l.fr (fun e => by obtain ⟨_, cs, hb⟩ := own_typ L6.out.l.own.own e; exact blk_ne hb (by decide) L6.out.l.fr))
                  have RR7 := Lib.hid (gc.blk L6.out.rf.blk (fun e => by obtain ⟨_, cs, hb⟩ := own_typ L6.out.l.own.own e; exact blk_ne hb (by decide) L6.out.rf.blk))
                  clear gc ho7 hg7 f_7 y_7
                  have f_7 : ∃ u, w7.cell? ⟨w1.heap.size + 1, 7, none⟩ = some u := ⟨_, F7.out.cell (o := 7) rfl⟩
                  obtain ⟨u7', f_7⟩ := f_7
                  have y_7 := F7.out.free 7
                  have s_0 : w7.cell? ⟨w1.heap.size, 0, none⟩ = some (.slice (some ⟨B, o4, none⟩) z.length v4c) := RR7.out.cell (o := 0) rfl
                  have y_0 := RR7.out.free 0
                  have HNM2 : Hid (∀ y ∈ (ps ++ [(q', Value.slice d5a (q'.data).length d5c, Value.slice s5a (q'.seen).length s5c)]).map (·.1), y.name.size < 4294967281) := Lib.hid (by
                    intro y hy
                    rw [List.map_append, List.mem_append] at hy
                    rcases hy with hy | hy
                    · exact HNM.out y hy
                    · simp only [List.map_cons, List.map_nil, List.mem_singleton] at hy
                      subst hy
                      exact hdn)
                  have ST2 : Hid (midS m (z.drop x) ((ps ++ [(q', Value.slice d5a (q'.data).length d5c, Value.slice s5a (q'.seen).length s5c)]).map (·.1)) = opsS n8 rest) := Lib.hid (by rw [List.map_append]; exact ST.out)
                  have hpl7 : (ps ++ [(q', Value.slice d5a (q'.data).length d5c, Value.slice s5a (q'.seen).length s5c)]).length + m ≤ n8 := by rw [List.length_append]; simp only [List.length_cons, List.length_nil]; omega
                  have HPL7 := Lib.hid hpl7
                  have ZD := Lib.hid (ZB.out.drop x)
                  have zdl : (z.drop x).length = z.length - x := List.length_drop
                  have hzd0 : (z.drop x).length ≤ 100000000000 := by rw [zdl]; omega
                  have RC := Lib.hid (fun a c h hin => L7.out.rest (.slice a (z.drop x).length c) (z.drop x) (rdv_cutF (a := a) (c := c) L7.out.rf.rdv hxz rfl h) hin ZD.out hzd0 (fun _ => L7.out.rf.ne ⟨_, _, _, rfl⟩))
                  rw [zdl] at RC
                  clear hpl7 LO LO2 L5 L6 F7 RR7 D5 S5 ST HNM MID hzd0 zdl hdn
                  go_upto_region 31 with fail
                  by_cases hpk : v4c = x
                  · subst hpk
                    have hz0' : z.length - v4c = 0 := by omega
                    have RCE := Lib.hid (RC.out (some ⟨B, o4, none⟩) 0 (.inr ⟨rfl, by omega⟩) (.inr ⟨_, _, _, rfl⟩))
                    rw [hz0'] at RCE
                    clear hz0'
                    go_wp2
                    go_roundw
                    case rel => exact ⟨m, z.drop v4c, _, _, _, by omega, by go_num, RCE.out, ST2.out, HNM2.out, HPL7.out⟩
                    case measure => simp [intOf]
                  · have RCE := Lib.hid (RC.out (some ⟨B, o4 + x, none⟩) (v4c - x) (.inl ⟨rfl, rfl⟩) (.inr ⟨_, _, _, rfl⟩))
                    go_wp2
                    go_roundw
                    case rel => exact ⟨m, z.drop x, _, _, _, by omega, by go_num, RCE.out, ST2.out, HNM2.out, HPL7.out⟩
                    case measure => simp [intOf]
end Go.Proofs.YthbalmoafpggdaaGreat
