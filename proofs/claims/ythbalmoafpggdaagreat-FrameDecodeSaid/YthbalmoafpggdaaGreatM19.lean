/- Frames: frames.Decode. -/
import Derived.Test.YthbalmoafpggdaaGreatChecked
import Derived.WalkKit
import Derived.Outline
import Derived.WalkSpells
import Derived.WalkLawsBesides
import Derived.Deep.QuietTactic
import Derived.Deep.RegionWith
import Derived.Deep.DeepMust
import Derived.BigQuiet
import Derived.RegionTactic
import Derived.ChangeAlike
import Derived.StillTailTactics
import Derived.Deep.LoopGhost
import Derived.BigRegion
import Derived.Deep.RegionHeld
import Derived.Deep.RegionHeld3
import Derived.Deep.DeepCutAuto
import Derived.Deep.CutBlock
import Derived.Deep.AppendLies
import Derived.Test.YthbalmoafpggdaaGreatM1
import Derived.Test.YthbalmoafpggdaaGreatM16
import Derived.Test.YthbalmoafpggdaaGreatM18
import Derived.Test.YthbalmoafpggdaaGreatM3
namespace Go.Proofs.YthbalmoafpggdaaGreat
open Go.RowKit
set_option linter.unusedVariables false
set_option linter.unusedSimpArgs false
def lcs (nm : Nat → Nat) (i : Nat) : Array Value := #[.int .i64 (if 0 < i then nm 0 else 0 : Nat), .int .i64 (if 1 < i then nm 1 else 0 : Nat), .int .i64 (if 2 < i then nm 2 else 0 : Nat), .int .i64 (if 3 < i then nm 3 else 0 : Nat), .int .i64 (if 4 < i then nm 4 else 0 : Nat)]
theorem lcs_step (nm : Nat → Nat) (i : Nat) (hi : i < 5) : (lcs nm i).setIfInBounds i (.int .i64 (nm i : Nat)) = lcs nm (i + 1) := by
  rcases (by omega : i = 0 ∨ i = 1 ∨ i = 2 ∨ i = 3 ∨ i = 4) with rfl | rfl | rfl | rfl | rfl <;> rfl
theorem dTruth {w1 w2 : World} {lb r B : Nat} {cs : Array Value} {v : Value} {s : RS} (h : FdM w1 lb r B cs v s w2) {n : Bool} {s' : RS} (hq : truthS s = (n, s')) : Calls Tryz.prog 37 #[.pointer (some ⟨r, 0, none⟩)] w2 fun e w' => e = .returned (.bool n) ∧ (∃ v', FdM w1 lb r B cs v' s' w') ∧ Chg (· = r) w2 w' := by
  refine (rTruth r B v s w2 h.rd).mono ?_
  rintro e w3 ⟨he, hs⟩
  rw [hq] at he hs
  refine ⟨he, h.step hs, ?_⟩
  obtain ⟨_, _, g⟩ := hs
  exact g
theorem dVector {w1 w2 : World} {lb r B : Nat} {cs : Array Value} {v : Value} {s : RS} (h : FdM w1 lb r B cs v s w2) {n : List Int} {s' : RS} (hq : vecS s = (n, s')) : Calls Tryz.prog 38 #[.pointer (some ⟨r, 0, none⟩)] w2 fun e w' => (∃ va vc, e = .returned (.slice va n.length vc) ∧ w'.ownsRow w2.heap.size 2 1 (.slice va n.length vc) n.length (n.map i64v)) ∧ (∃ v', FdM w1 lb r B cs v' s' w') ∧ Chg (· = r) w2 w' := by
  refine (rVector r B v s w2 h.rd h.inB).mono ?_
  rintro e w3 ⟨u, he, hf, hs⟩
  rw [hq] at hs hf
  obtain ⟨ua, uc, rfl, _, _, _⟩ := own_shape hf
  refine ⟨⟨ua, uc, he, hf⟩, h.step hs, ?_⟩
  obtain ⟨_, _, g⟩ := hs
  exact g
def DRel (w1 : World) (lb r B : Nat) (cs : Array Value) (n4 : Nat) (b6 : Bool) (v7 : List Int) (s7 : RS) (s10 : Value) (wx : World) : Prop := ∃ fb va vc v', s10 = .pointer (some ⟨fb, 0, none⟩) ∧ (w1.heap.size ≤ fb ∧ fb ≠ B ∧ fb ≠ r ∧ fb ≠ lb) ∧ Blk wx fb #[.int .i64 0, .int .i64 0, .int .i64 0, .int .i64 n4, .int .i64 0, .bool b6, .slice va v7.length vc, .slice none 0 0] 26 ∧ RdK 0 2 i64v wx (.slice va v7.length vc) v7 ∧ FdM w1 lb r B cs v' s7 wx
theorem FdM.chgf {w1 w2 w3 : World} {lb r B fb : Nat} {cs : Array Value} {v : Value} {s : RS} (h : FdM w1 lb r B cs v s w2) (g : Chg (· = fb) w2 w3) (hf : w1.heap.size ≤ fb ∧ fb ≠ B ∧ fb ≠ r ∧ fb ≠ lb) : FdM w1 lb r B cs v s w3 :=
  ⟨h.rd.chg g (fun e => hf.2.2.1 e.symm) (fun e => hf.2.1 e.symm), Nat.lt_of_lt_of_le h.inB g.size, g.below_trans h.bel h.bel.size (fun i hi e => by omega), h.ord, g.blk h.lblk (fun e => hf.2.2.2 e.symm), h.lord⟩
theorem blk8 {w : World} {b : Nat} {a0 a1 a2 a3 a4 a5 a6 a7 : Value} {T : TypeId} (h : Blk w b #[a0, a1, a2, a3, a4, a5, a6, a7] T) (c0 c1 c2 c3 c4 c5 c6 c7 : Value) : Blk ((((((((w.setCell ⟨b, 0, none⟩ c0).setCell ⟨b, 1, none⟩ c1).setCell ⟨b, 2, none⟩ c2).setCell ⟨b, 3, none⟩ c3).setCell ⟨b, 4, none⟩ c4).setCell ⟨b, 5, none⟩ c5).setCell ⟨b, 6, none⟩ c6).setCell ⟨b, 7, none⟩ c7) b #[c0, c1, c2, c3, c4, c5, c6, c7] T := by
  have := (((((((h.set 0 c0).set 1 c1).set 2 c2).set 3 c3).set 4 c4).set 5 c5).set 6 c6).set 7 c7
  simpa using this
theorem DRel.mid {w1 : World} {lb r B n4 : Nat} {cs : Array Value} {b6 : Bool} {v7 : List Int} {s7 : RS} {s10 : Value} {wx : World} (h : DRel w1 lb r B cs n4 b6 v7 s7 s10 wx) : ∃ v', FdM w1 lb r B cs v' s7 wx := by
  obtain ⟨_, _, _, v', _, _, _, _, hm⟩ := h
  exact ⟨v', hm⟩
theorem DRel.of_set {w1 w7 : World} {lb r B fb n4 : Nat} {cs : Array Value} {b6 : Bool} {v7 : List Int} {s7 : RS} {v : Value} {va : Option Addr} {vc : Nat} (hM : FdM w1 lb r B cs v s7 w7) (hf : Blk w7 fb #[.int .i64 0, .int .i64 0, .int .i64 0, .int .i64 0, .int .i64 0, .bool false, .slice none 0 0, .slice none 0 0] 26) (hV : RdK 0 2 i64v w7 (.slice va v7.length vc) v7) (hb : w1.heap.size ≤ fb ∧ fb ≠ B ∧ fb ≠ r ∧ fb ≠ lb) :
    DRel w1 lb r B cs n4 b6 v7 s7 (.pointer (some ⟨fb, 0, none⟩)) ((((((((w7.setCell ⟨fb, 0, none⟩ (.int .i64 0)).setCell ⟨fb, 1, none⟩ (.int .i64 0)).setCell ⟨fb, 2, none⟩ (.int .i64 0)).setCell ⟨fb, 3, none⟩ (.int .i64 n4)).setCell ⟨fb, 4, none⟩ (.int .i64 0)).setCell ⟨fb, 5, none⟩ (.bool b6)).setCell ⟨fb, 6, none⟩ (.slice va v7.length vc)).setCell ⟨fb, 7, none⟩ (.slice none 0 0)) := by
  have g := chg8 w7 fb (.int .i64 0) (.int .i64 0) (.int .i64 0) (.int .i64 n4) (.int .i64 0) (.bool b6) (.slice va v7.length vc) (.slice none 0 0)
  have e : 26 ≠ 2 := by decide
  exact ⟨fb, va, vc, v, rfl, hb, blk8 hf _ _ _ _ _ _ _ _, hV.chg g (fun k hk => by
    have hk : k = fb := hk
    subst hk
    exact ⟨Nat.zero_le _, fun cs' => blk_ne hf e⟩), hM.chgf g hb⟩
theorem DRel.of_new {w1 w7 : World} {lb r B n4 : Nat} {cs : Array Value} {b6 : Bool} {v7 : List Int} {s7 : RS} {v : Value} {va : Option Addr} {vc : Nat} (hM : FdM w1 lb r B cs v s7 w7) (hV : RdK 0 2 i64v w7 (.slice va v7.length vc) v7) :
    DRel w1 lb r B cs n4 b6 v7 s7 (.pointer (some ⟨w7.heap.size, 0, none⟩)) (w7.alloc (.cells #[.int .i64 0, .int .i64 0, .int .i64 0, .int .i64 n4, .int .i64 0, .bool b6, .slice va v7.length vc, .slice none 0 0] 26)) := by
  have g := (Below.refl w7.heap.size w7).alloc (Nat.le_refl _) (.cells #[.int .i64 0, .int .i64 0, .int .i64 0, .int .i64 n4, .int .i64 0, .bool b6, .slice va v7.length vc, .slice none 0 0] 26)
  have h1 := hM.rd.lt
  have h2 := hM.inB
  have h3 := hM.lblk.lt
  exact ⟨_, va, vc, v, rfl, ⟨hM.bel.size, by omega, by omega, by omega⟩, Blk.new _ _ _, hV.below g, hM.below g⟩
theorem ls_set {w' : World} {lb fb : Nat} {a b c d : Value} (h : w'.cell? ⟨lb, 0, none⟩ = some a ∧ w'.cell? ⟨lb, 1, none⟩ = some b ∧ w'.cell? ⟨lb, 2, none⟩ = some c ∧ w'.cell? ⟨lb, 4, none⟩ = some d) (hne : fb ≠ lb) (k : Nat) (u : Value) :
    (w'.setCell ⟨fb, k, none⟩ u).cell? ⟨lb, 0, none⟩ = some a ∧ (w'.setCell ⟨fb, k, none⟩ u).cell? ⟨lb, 1, none⟩ = some b ∧ (w'.setCell ⟨fb, k, none⟩ u).cell? ⟨lb, 2, none⟩ = some c ∧ (w'.setCell ⟨fb, k, none⟩ u).cell? ⟨lb, 4, none⟩ = some d := by
  have K : ∀ o v, w'.cell? ⟨lb, o, none⟩ = some v → (w'.setCell ⟨fb, k, none⟩ u).cell? ⟨lb, o, none⟩ = some v := fun o v hv => by
    rw [World.cell?_setCell_other _ _ _ _ (by intro e; injection e with e _ _; exact hne e), hv]
  exact ⟨K _ _ h.1, K _ _ h.2.1, K _ _ h.2.2.1, K _ _ h.2.2.2⟩
theorem below_chg_alloc {S : Nat → Prop} {B : Nat} {a w w' : World} (h0 : Below B a w) (g : Chg S w w') (hB : B ≤ w.heap.size) (hs : ∀ i, i < B → ¬ S i) (o : Obj) : Below B a (w'.alloc o) :=
  (g.below_trans h0 hB hs).alloc (Nat.le_trans hB g.size) o
set_option maxHeartbeats 20000000 in
set_option maxRecDepth 100000 in
theorem framesDecode (x : Value) (l : List Int) (w : World) (hx : Rdv u8v w x l) (hb : Byt l) :
    Calls Tryz.prog 11 #[x] w (FDecPost l (.int .i64 0) (.int .i64 74) w) := by
  obtain ⟨i0, hi, hz0, hz1, hz2⟩ := info_parts Op.info
  have hxl := hx.len
  unfold maxLen at hxl
  have KU := Lib.hid (fun w' hw => crcUnframe x l w' (hx.below hw) hb : ∀ w', Below w.heap.size w w' → _)
  obtain ⟨xa, xn, xc, rfl⟩ := hx.shape
  obtain ⟨rfl, _, _, _⟩ := hx.cap
  unfold FDecPost decF
  have hpl := unf_len l
  have PB := Lib.hid (unf_byt hb)
  generalize unfL l = U at *
  obtain ⟨p, n, ue⟩ := U
  simp only at *
  have R0 := Lib.hid (Blk.new w #[.int .i64 0, .int .i64 0, .int .i64 0, .int .i64 0, .int .i64 0, .bool false, .slice none 0 0, .slice none 0 0] 26)
  have A0 := Lib.hid ((Below.refl w.heap.size w).alloc (Nat.le_refl _) (.cells #[.int .i64 0, .int .i64 0, .int .i64 0, .int .i64 0, .int .i64 0, .bool false, .slice none 0 0, .slice none 0 0] 26))
  clear hx hb
  by_cases hbad : ue = 0 ∧ n = l.length
  rotate_left 1
  · rw [if_neg hbad]
    simp only
    --[
    go_enter Tryz.func11, Tryz.ntmps11
    go_wp2_with fail
    refine (KU.out _ A0.out).mono ?_
    rintro e w1 ⟨v1, rfl, _, hb1⟩
    have B1 := Lib.hid (A0.out.trans (hb1.mono A0.out.size))
    have R1 := Lib.hid (blkBelow hb1 R0.out R0.out.lt)
    have z_0 : w1.cell? ⟨w.heap.size, 0, none⟩ = some (.int .i64 0) := (R1.out).cell (o := 0) rfl
    have z_1 : w1.cell? ⟨w.heap.size, 1, none⟩ = some (.int .i64 0) := (R1.out).cell (o := 1) rfl
    have z_2 : w1.cell? ⟨w.heap.size, 2, none⟩ = some (.int .i64 0) := (R1.out).cell (o := 2) rfl
    have z_3 : w1.cell? ⟨w.heap.size, 3, none⟩ = some (.int .i64 0) := (R1.out).cell (o := 3) rfl
    have z_4 : w1.cell? ⟨w.heap.size, 4, none⟩ = some (.int .i64 0) := (R1.out).cell (o := 4) rfl
    have z_5 : w1.cell? ⟨w.heap.size, 5, none⟩ = some (.bool false) := (R1.out).cell (o := 5) rfl
    have z_6 : w1.cell? ⟨w.heap.size, 6, none⟩ = some (.slice none 0 0) := (R1.out).cell (o := 6) rfl
    have z_7 : w1.cell? ⟨w.heap.size, 7, none⟩ = some (.slice none 0 0) := (R1.out).cell (o := 7) rfl
    have yz_0 := (R1.out).free 0
    have yz_1 := (R1.out).free 1
    have yz_2 := (R1.out).free 2
    have yz_3 := (R1.out).free 3
    have yz_4 := (R1.out).free 4
    have yz_5 := (R1.out).free 5
    have yz_6 := (R1.out).free 6
    have yz_7 := (R1.out).free 7
    clear hb1
    go_wp2
    all_goals exact bodyPost_ret (v := .tuple #[.agg #[.int .i64 0, .int .i64 0, .int .i64 0, .int .i64 0, .int .i64 0, .bool false, .slice none 0 0, .slice none 0 0], .int .i64 74]) (by simp [results, Tryz.results11, go_sem, *] <;> rfl) rfl ⟨rfl, Chg.below_trans B1.out (chg8 _ w.heap.size _ _ _ _ _ _ _ _) (B1.out).size (fun i hi e => by omega)⟩
    --]
  · obtain ⟨rfl, rfl⟩ := hbad
    rw [if_pos ⟨rfl, rfl⟩]
    obtain ⟨D, hD⟩ : ∃ D, decP p = D := ⟨_, rfl⟩
    rw [hD]
    have DP := Lib.hid hD
    clear hD
    obtain ⟨n1, s1, q1⟩ : ∃ n s, numS (some p) = (n, s) := ⟨_, _, rfl⟩
    obtain ⟨n2, s2, q2⟩ : ∃ n s, numS s1 = (n, s) := ⟨_, _, rfl⟩
    obtain ⟨n3, s3, q3⟩ : ∃ n s, numS s2 = (n, s) := ⟨_, _, rfl⟩
    obtain ⟨n4, s4, q4⟩ : ∃ n s, numS s3 = (n, s) := ⟨_, _, rfl⟩
    obtain ⟨n5, s5, q5⟩ : ∃ n s, numS s4 = (n, s) := ⟨_, _, rfl⟩
    obtain ⟨b6, s6, q6⟩ : ∃ n s, truthS s5 = (n, s) := ⟨_, _, rfl⟩
    obtain ⟨v7, s7, q7⟩ : ∃ n s, vecS s6 = (n, s) := ⟨_, _, rfl⟩
    obtain ⟨n8, s8, q8⟩ : ∃ n s, numS s7 = (n, s) := ⟨_, _, rfl⟩
    have HR : Hid (hdR p = ⟨n1, n2, n3, n4, n5, b6, v7, n8, s8⟩) := Lib.hid (by unfold hdR; simp only [q1, q2, q3, q4, q5, q6, q7, q8])
    have bd1 := numS_bd (some p)
    have bd2 := numS_bd s1
    have bd3 := numS_bd s2
    have bd4 := numS_bd s3
    have bd5 := numS_bd s4
    have bd8 := numS_bd s7
    rw [q1] at bd1
    rw [q2] at bd2
    rw [q3] at bd3
    rw [q4] at bd4
    rw [q5] at bd5
    rw [q8] at bd8
    simp only at bd1 bd2 bd3 bd4 bd5 bd8
    obtain ⟨nm, hnm⟩ : ∃ nm : Nat → Nat, nm = fun i => if i = 0 then n1 else if i = 1 then n2 else if i = 2 then n3 else if i = 3 then n4 else n5 := ⟨_, rfl⟩
    obtain ⟨st, hst⟩ : ∃ st : Nat → RS, st = fun i => if i = 0 then some p else if i = 1 then s1 else if i = 2 then s2 else if i = 3 then s3 else if i = 4 then s4 else s5 := ⟨_, rfl⟩
    have NS : Hid (∀ i, i < 5 → numS (st i) = (nm i, st (i + 1))) := Lib.hid (fun i hi => by
      subst hnm hst
      rcases (by omega : i = 0 ∨ i = 1 ∨ i = 2 ∨ i = 3 ∨ i = 4) with rfl | rfl | rfl | rfl | rfl
      · simpa using q1
      · simpa using q2
      · simpa using q3
      · simpa using q4
      · simpa using q5)
    have ST0 : Hid (st 0 = some p) := Lib.hid (by rw [hst]; rfl)
    have ST5 : Hid (st 5 = s5) := Lib.hid (by rw [hst]; rfl)
    have LC5 : Hid (lcs nm 5 = #[.int .i64 (n1 : Nat), .int .i64 (n2 : Nat), .int .i64 (n3 : Nat), .int .i64 (n4 : Nat), .int .i64 (n5 : Nat)]) := Lib.hid (by rw [hnm]; rfl)
    have Q6 := Lib.hid q6
    have Q7 := Lib.hid q7
    have Q8 := Lib.hid q8
    clear hnm hst q1 q2 q3 q4 q5 q6 q7 q8
    have KN := Lib.hid (fun vv w' (h : Rdv u8v w' vv p) => rNew vv p w' h PB.out (by omega))
    go_enter Tryz.func11, Tryz.ntmps11
    go_wp2_with fail
    refine (KU.out _ A0.out).mono ?_
    rintro e w1 ⟨v1, rfl, hv1, hb1⟩
    obtain ⟨pa, pn, pc, rfl⟩ := hv1.shape
    obtain ⟨rfl, _, _, hpa⟩ := hv1.cap
    have V1 := Lib.hid hv1
    have B1 := Lib.hid (A0.out.trans (hb1.mono A0.out.size))
    have R1 := Lib.hid (blkBelow hb1 R0.out R0.out.lt)
    have hr1 := R1.out.lt
    clear hb1 hv1
    go_wp2_with fail
    refine (KN.out _ _ V1.out).mono ?_
    rintro e w2 ⟨r, B, vr, rfl, hr, hB, hBl, hrd, hb2⟩
    have hrl := hrd.lt
    have HRD := Lib.hid hrd
    have B2 := Lib.hid hb2
    clear hrd hb2
    have M0 : Hid (FdM w1 w2.heap.size r B (lcs nm 0) vr (st 0) (w2.alloc (.cells (lcs nm 0) 2))) := Lib.hid ⟨by rw [ST0.out]; exact HRD.out.below ((Below.refl _ _).alloc (Nat.le_refl _) _), by simp; omega, B2.out.alloc B2.out.size _, ⟨hr, hB⟩, Blk.new _ _ _, ⟨B2.out.size, by omega, by omega⟩⟩
    have hc0 : lcs nm 0 = #[.int .i64 0, .int .i64 0, .int .i64 0, .int .i64 0, .int .i64 0] := rfl
    have hb2s := B2.out.size
    obtain ⟨W, hW⟩ : ∃ W, W = w2.alloc (.cells (lcs nm 0) 2) := ⟨_, rfl⟩
    rw [← hW] at M0
    rw [hc0] at hW
    have hmk : ∀ w', (Instr.makeSlice 22 (.int .i64 5) (.int .i64 5)).run Tryz.prog w' = .ok (.slice (some ⟨w'.heap.size, 0, none⟩) 5 5) (w'.alloc (.cells #[.int .i64 0, .int .i64 0, .int .i64 0, .int .i64 0, .int .i64 0] 2)) := fun _ => by kernel_rfl
    go_wp2
    rw [← hW]
    clear hW
    go_loopw [37] (fun iv wr => ∃ (i : Nat) (v : Value), i ≤ 5 ∧ iv = .int .i64 i ∧ FdM w1 w2.heap.size r B (lcs nm i) v (st i) wr) (fun iv _ => 5 - (intOf iv).toNat)
    case atStart => exact ⟨0, vr, by omega, rfl, M0.out⟩
    case round =>
      obtain ⟨i, v, hi5, rfl, hM⟩ := hrel
      have MM := Lib.hid hM
      clear hM M0
      by_cases hlt : i < 5
      · have q0 : (0 : Int) ≤ i := by omega
        have q1 : (i : Int) < 5 := by omega
        have KQ := Lib.hid (rNum' r B v (st i) wr MM.out.rd (NS.out i hlt))
        go_wp2_with fail
        refine KQ.out.mono ?_
        rintro e w3 ⟨rfl, hs⟩
        obtain ⟨v', hM3⟩ := MM.out.step hs
        have M3 := Lib.hid hM3
        clear hM3 hs
        have P3 : Hid (FdM w1 w2.heap.size r B (lcs nm (i + 1)) v' (st (i + 1)) (w3.setCell ⟨w2.heap.size, i, none⟩ (.int .i64 (nm i : Nat)))) := Lib.hid (by rw [← lcs_step nm i hlt]; exact M3.out.put i _)
        obtain ⟨u0, c_0⟩ : ∃ u, w3.cell? ⟨w2.heap.size, i, none⟩ = some u := ⟨_, M3.out.lblk.cell (o := i) (Array.getElem?_eq_getElem (by show i < 5; exact hlt))⟩
        have y_0 := M3.out.lblk.free i
        clear M3 MM KQ
        go_wp2
        go_roundw
        case rel => exact ⟨i + 1, v', by omega, by go_num, P3.out⟩
        case measure => simp [intOf]; omega
      · obtain rfl : i = 5 := by omega
        have M5 : Hid (FdM w1 w2.heap.size r B #[.int .i64 (n1 : Nat), .int .i64 (n2 : Nat), .int .i64 (n3 : Nat), .int .i64 (n4 : Nat), .int .i64 (n5 : Nat)] v s5 wr) := Lib.hid (by rw [← LC5.out, ← ST5.out]; exact MM.out)
        clear MM
        have l_0 : wr.cell? ⟨w2.heap.size, 0, none⟩ = some (.int .i64 n1) := M5.out.lblk.cell (o := 0) rfl
        have l_1 : wr.cell? ⟨w2.heap.size, 1, none⟩ = some (.int .i64 n2) := M5.out.lblk.cell (o := 1) rfl
        have l_2 : wr.cell? ⟨w2.heap.size, 2, none⟩ = some (.int .i64 n3) := M5.out.lblk.cell (o := 2) rfl
        have l_3 : wr.cell? ⟨w2.heap.size, 3, none⟩ = some (.int .i64 n4) := M5.out.lblk.cell (o := 3) rfl
        have l_4 : wr.cell? ⟨w2.heap.size, 4, none⟩ = some (.int .i64 n5) := M5.out.lblk.cell (o := 4) rfl
        have K6 := Lib.hid (fun w' v' h => dTruth (w1 := w1) (lb := w2.heap.size) (r := r) (B := B) (cs := #[.int .i64 (n1 : Nat), .int .i64 (n2 : Nat), .int .i64 (n3 : Nat), .int .i64 (n4 : Nat), .int .i64 (n5 : Nat)]) (v := v') (w2 := w') h Q6.out)
        have K7 := Lib.hid (fun w' v' h => dVector (w1 := w1) (lb := w2.heap.size) (r := r) (B := B) (cs := #[.int .i64 (n1 : Nat), .int .i64 (n2 : Nat), .int .i64 (n3 : Nat), .int .i64 (n4 : Nat), .int .i64 (n5 : Nat)]) (v := v') (w2 := w') h Q7.out)
        go_upto_region 11 with fail
        go_cut [10] (fun s10 wx => DRel w1 w2.heap.size r B #[.int .i64 (n1 : Nat), .int .i64 (n2 : Nat), .int .i64 (n3 : Nat), .int .i64 (n4 : Nat), .int .i64 (n5 : Nat)] n4 b6 v7 s7 s10 wx)
        case first =>
          --[
          refine wp_region_held_drew (S := fun w' => w'.cell? ⟨w2.heap.size, 3, none⟩ = some (.int .i64 n4)) (by kernel_rfl) ?_ (fun hHeld => ?_)
          · exact l_3
          refine wpAnyH_take (i := 0) (v := ?_) rfl (by kernel_rfl) (by kernel_rfl) (by kernel_rfl) (fun _ _ _ h => h) (Or.inl ⟨by kernel_rfl, ?_⟩) (by assumption) ?_
          rotate_left 1
          · (intro w hSw; (try dsimp only at hSw); go_simp; (try (with_reducible rfl)))
          (try simp only [List.getElem_toArray, List.getElem_cons_succ, List.getElem_cons_zero, Act.put, List.setIfInBounds_toArray, List.set_cons_zero, List.set_cons_succ])
          refine wpAnyH_take (i := 1) (v := ?_) rfl (by kernel_rfl) (by kernel_rfl) (by kernel_rfl) (fun _ _ _ h => h) (Or.inl ⟨by kernel_rfl, ?_⟩) (by assumption) ?_
          rotate_left 1
          · (intro w hSw; (try dsimp only at hSw); go_simp; (try (with_reducible rfl)))
          (try simp only [List.getElem_toArray, List.getElem_cons_succ, List.getElem_cons_zero, Act.put, List.setIfInBounds_toArray, List.set_cons_zero, List.set_cons_succ])
          refine wpAnyH_take (i := 2) (v := ?_) rfl (by kernel_rfl) (by kernel_rfl) (by kernel_rfl) (fun _ _ _ h => h) (Or.inl ⟨by kernel_rfl, ?_⟩) (by assumption) ?_
          rotate_left 1
          · (intro w hSw; (try dsimp only at hSw); go_simp; (try (with_reducible rfl)))
          (try simp only [List.getElem_toArray, List.getElem_cons_succ, List.getElem_cons_zero, Act.put, List.setIfInBounds_toArray, List.set_cons_zero, List.set_cons_succ])
          refine wpAnyH_take (i := 3) (v := ?_) rfl (by kernel_rfl) (by kernel_rfl) (by kernel_rfl) (fun _ _ _ h => h) (Or.inl ⟨by kernel_rfl, ?_⟩) (by assumption) ?_
          rotate_left 1
          · (intro w hSw; (try dsimp only at hSw); go_simp; (try (with_reducible rfl)))
          (try simp only [List.getElem_toArray, List.getElem_cons_succ, List.getElem_cons_zero, Act.put, List.setIfInBounds_toArray, List.set_cons_zero, List.set_cons_succ])
          refine wpAnyH_take (i := 5) (v := ?_) rfl (by kernel_rfl) (by kernel_rfl) (by kernel_rfl) (fun _ _ _ h => h) (Or.inl ⟨by kernel_rfl, ?_⟩) (by assumption) ?_
          rotate_left 1
          · (intro w hSw; (try dsimp only at hSw); go_simp; (try (with_reducible rfl)))
          (try simp only [List.getElem_toArray, List.getElem_cons_succ, List.getElem_cons_zero, Act.put, List.setIfInBounds_toArray, List.set_cons_zero, List.set_cons_succ])
          have MD := Lib.hid (M5.out.below (Drw.below ⟨1, rfl⟩ : Below wr.heap.size wr wr.drew))
          refine wpAnyH_ready (rs := [4, 8]) (by kernel_rfl) (by simp) ?_
          refine AllReadyH.cons rfl (fun K hK => ?_) (AllReadyH.cons rfl (fun K hK => ?_) AllReadyH.nil)
          · go_simp
            go_wp2_with (go_at_call 37; (with_reducible refine (K6.out _ _ (MD.out)).mono ?_); rintro e w6 ⟨rfl, hM6, hg6⟩)
            obtain ⟨v6, hM6⟩ := hM6
            have M6 := Lib.hid hM6
            have G6 := Lib.hid hg6
            clear hM6 hg6
            refine hK.out _ _ ?_ (fun hHeld => ?_)
            · (try dsimp only); exact M6.out.lblk.cell (o := 3) rfl
            clear hK K
            (try simp only [List.getElem_toArray, List.getElem_cons_succ, List.getElem_cons_zero, Act.put, List.setIfInBounds_toArray, List.set_cons_zero, List.set_cons_succ])
            refine wpAnyH_ready (rs := [6, 8]) (by kernel_rfl) (by simp) ?_
            refine AllReadyH.cons rfl (fun K hK => ?_) (AllReadyH.cons rfl (fun K hK => ?_) AllReadyH.nil)
            · go_simp
              go_wp2_with (go_at_call 38; (with_reducible refine (K7.out _ _ (M6.out)).mono ?_); rintro e w7 ⟨⟨va, vc, rfl, hv7⟩, hM7, hg7⟩)
              obtain ⟨v7', hM7⟩ := hM7
              have M7 := Lib.hid hM7
              have G7 := Lib.hid hg7
              have V7 := Lib.hid hv7
              clear hM7 hg7 hv7
              refine hK.out _ _ ?_ (fun hHeld => ?_)
              · (try dsimp only); exact M7.out.lblk.cell (o := 3) rfl
              clear hK K
              (try simp only [List.getElem_toArray, List.getElem_cons_succ, List.getElem_cons_zero, Act.put, List.setIfInBounds_toArray, List.set_cons_zero, List.set_cons_succ])
              have VK := Lib.hid (RdK.of_own (B := 0) (enc := i64v) V7.out)
              have FIN := Lib.hid (DRel.of_new (n4 := n4) (b6 := b6) M7.out VK.out)
              refine wpAnyH_take (i := 7) (v := ?_) rfl (by kernel_rfl) (by kernel_rfl) (by kernel_rfl) (fun _ _ _ h => h) (Or.inl ⟨by kernel_rfl, ?_⟩) (by assumption) ?_
              rotate_left 1
              · (intro w hSw; (try dsimp only at hSw); go_simp; (try (with_reducible rfl)))
              (try simp only [List.getElem_toArray, List.getElem_cons_succ, List.getElem_cons_zero, Act.put, List.setIfInBounds_toArray, List.set_cons_zero, List.set_cons_succ])
              refine wpAnyH_ready (rs := [8]) (by kernel_rfl) (by simp) ?_
              refine AllReadyH.cons rfl (fun K hK => ?_) AllReadyH.nil
              go_simp
              go_wp2_with fail
              refine hK.out _ _ ?_ (fun hHeld => ?_)
              · (try dsimp only); exact ((M7.out).below ((Below.refl _ _).alloc (Nat.le_refl _) _)).lblk.cell (o := 3) rfl
              clear hK K
              (try simp only [List.getElem_toArray, List.getElem_cons_succ, List.getElem_cons_zero, Act.put, List.setIfInBounds_toArray, List.set_cons_zero, List.set_cons_succ])
              have FB := Lib.hid (Blk.new w7 #[.int .i64 0, .int .i64 0, .int .i64 0, .int .i64 0, .int .i64 0, .bool false, .slice none 0 0, .slice none 0 0] 26)
              have MA := Lib.hid (M7.out.below ((Below.refl w7.heap.size w7).alloc (Nat.le_refl _) (.cells #[.int .i64 0, .int .i64 0, .int .i64 0, .int .i64 0, .int .i64 0, .bool false, .slice none 0 0, .slice none 0 0] 26)))
              have MF := Lib.hid (M7.out.below ((Below.refl w7.heap.size w7).alloc (Nat.le_refl _) (.cells #[.int .i64 0, .int .i64 0, .int .i64 0, .int .i64 n4, .int .i64 0, .bool b6, .slice va v7.length vc, .slice none 0 0] 26)))
              refine wpAnyH_ready (rs := [9]) (by kernel_rfl) (by simp) ?_
              refine AllReadyH.cons rfl (fun K hK => ?_) AllReadyH.nil
              go_simp
              go_wp2_with fail
              refine hK.out _ _ ?_ (fun hHeld => ?_)
              · (try dsimp only); exact MF.out.lblk.cell (o := 3) rfl
              clear hK K
              (try simp only [List.getElem_toArray, List.getElem_cons_succ, List.getElem_cons_zero, Act.put, List.setIfInBounds_toArray, List.set_cons_zero, List.set_cons_succ])
              refine wpAnyH_done (by kernel_rfl) ?_ _
              go_wp2_with fail
              go_meet
              exact FIN.out
            · go_simp
              go_wp2_with fail
              refine hK.out _ _ ?_ (fun hHeld => ?_)
              · (try dsimp only); exact ((M6.out).below ((Below.refl _ _).alloc (Nat.le_refl _) _)).lblk.cell (o := 3) rfl
              clear hK K
              (try simp only [List.getElem_toArray, List.getElem_cons_succ, List.getElem_cons_zero, Act.put, List.setIfInBounds_toArray, List.set_cons_zero, List.set_cons_succ])
              have FB := Lib.hid (Blk.new w6 #[.int .i64 0, .int .i64 0, .int .i64 0, .int .i64 0, .int .i64 0, .bool false, .slice none 0 0, .slice none 0 0] 26)
              have MB := Lib.hid (M6.out.below ((Below.refl w6.heap.size w6).alloc (Nat.le_refl _) (.cells #[.int .i64 0, .int .i64 0, .int .i64 0, .int .i64 0, .int .i64 0, .bool false, .slice none 0 0, .slice none 0 0] 26)))
              have hne : w6.heap.size ≠ r := by have := M6.out.rd.lt; omega
              have hcc : w1.heap.size ≤ w6.heap.size ∧ w6.heap.size ≠ B ∧ w6.heap.size ≠ r ∧ w6.heap.size ≠ w2.heap.size := ⟨M6.out.bel.size, by have := M6.out.inB; omega, hne, by have := M6.out.lblk.lt; omega⟩
              refine wpAnyH_ready (rs := [6]) (by kernel_rfl) (by simp) ?_
              refine AllReadyH.cons rfl (fun K hK => ?_) AllReadyH.nil
              go_simp
              go_wp2_with (go_at_call 38; (with_reducible refine (K7.out _ _ (MB.out)).mono ?_); rintro e w7 ⟨⟨va, vc, rfl, hv7⟩, hM7, hg7⟩)
              obtain ⟨v7', hM7⟩ := hM7
              have M7 := Lib.hid hM7
              have G7 := Lib.hid hg7
              have V7 := Lib.hid hv7
              clear hM7 hg7 hv7
              refine hK.out _ _ ?_ (fun hHeld => ?_)
              · (try dsimp only); exact M7.out.lblk.cell (o := 3) rfl
              clear hK K
              (try simp only [List.getElem_toArray, List.getElem_cons_succ, List.getElem_cons_zero, Act.put, List.setIfInBounds_toArray, List.set_cons_zero, List.set_cons_succ])
              have FB7 := Lib.hid (G7.out.blk FB.out hne)
              have VK := Lib.hid (RdK.of_own (B := 0) (enc := i64v) V7.out)
              have FIN := Lib.hid (DRel.of_set (n4 := n4) (b6 := b6) M7.out FB7.out VK.out hcc)
              have FM := Lib.hid FIN.out.mid
              refine wpAnyH_take (i := 7) (v := ?_) rfl (by kernel_rfl) (by kernel_rfl) (by kernel_rfl) (fun _ _ _ h => h) (Or.inl ⟨by kernel_rfl, ?_⟩) (by assumption) ?_
              rotate_left 1
              · (intro w hSw; (try dsimp only at hSw); go_simp; (try (with_reducible rfl)))
              (try simp only [List.getElem_toArray, List.getElem_cons_succ, List.getElem_cons_zero, Act.put, List.setIfInBounds_toArray, List.set_cons_zero, List.set_cons_succ])
              have z_0 : w7.cell? ⟨w6.heap.size, 0, none⟩ = some (.int .i64 0) := (FB7.out).cell (o := 0) rfl
              have z_1 : w7.cell? ⟨w6.heap.size, 1, none⟩ = some (.int .i64 0) := (FB7.out).cell (o := 1) rfl
              have z_2 : w7.cell? ⟨w6.heap.size, 2, none⟩ = some (.int .i64 0) := (FB7.out).cell (o := 2) rfl
              have z_3 : w7.cell? ⟨w6.heap.size, 3, none⟩ = some (.int .i64 0) := (FB7.out).cell (o := 3) rfl
              have z_4 : w7.cell? ⟨w6.heap.size, 4, none⟩ = some (.int .i64 0) := (FB7.out).cell (o := 4) rfl
              have z_5 : w7.cell? ⟨w6.heap.size, 5, none⟩ = some (.bool false) := (FB7.out).cell (o := 5) rfl
              have z_6 : w7.cell? ⟨w6.heap.size, 6, none⟩ = some (.slice none 0 0) := (FB7.out).cell (o := 6) rfl
              have z_7 : w7.cell? ⟨w6.heap.size, 7, none⟩ = some (.slice none 0 0) := (FB7.out).cell (o := 7) rfl
              have yz_0 := (FB7.out).free 0
              have yz_1 := (FB7.out).free 1
              have yz_2 := (FB7.out).free 2
              have yz_3 := (FB7.out).free 3
              have yz_4 := (FB7.out).free 4
              have yz_5 := (FB7.out).free 5
              have yz_6 := (FB7.out).free 6
              have yz_7 := (FB7.out).free 7
              refine wpAnyH_ready (rs := [9]) (by kernel_rfl) (by simp) ?_
              refine AllReadyH.cons rfl (fun K hK => ?_) AllReadyH.nil
              go_simp
              go_wp2_with fail
              refine hK.out _ _ ?_ (fun hHeld => ?_)
              · (try dsimp only); exact (by obtain ⟨_, hm⟩ := FM.out; exact hm.lblk.cell (o := 3) rfl)
              clear hK K
              (try simp only [List.getElem_toArray, List.getElem_cons_succ, List.getElem_cons_zero, Act.put, List.setIfInBounds_toArray, List.set_cons_zero, List.set_cons_succ])
              refine wpAnyH_done (by kernel_rfl) ?_ _
              go_wp2_with fail
              go_meet
              exact FIN.out
          · go_simp
            go_wp2_with fail
            refine hK.out _ _ ?_ (fun hHeld => ?_)
            · (try dsimp only); exact ((MD.out).below ((Below.refl _ _).alloc (Nat.le_refl _) _)).lblk.cell (o := 3) rfl
            clear hK K
            (try simp only [List.getElem_toArray, List.getElem_cons_succ, List.getElem_cons_zero, Act.put, List.setIfInBounds_toArray, List.set_cons_zero, List.set_cons_succ])
            have FB := Lib.hid ((Blk.new wr #[.int .i64 0, .int .i64 0, .int .i64 0, .int .i64 0, .int .i64 0, .bool false, .slice none 0 0, .slice none 0 0] 26).drew)
            have MB := Lib.hid (M5.out.below ((Below.refl wr.heap.size wr).alloc (Nat.le_refl _) (.cells #[.int .i64 0, .int .i64 0, .int .i64 0, .int .i64 0, .int .i64 0, .bool false, .slice none 0 0, .slice none 0 0] 26)).drew)
            have hne : wr.heap.size ≠ r := by have := M5.out.rd.lt; omega
            have hcc : w1.heap.size ≤ wr.heap.size ∧ wr.heap.size ≠ B ∧ wr.heap.size ≠ r ∧ wr.heap.size ≠ w2.heap.size := ⟨M5.out.bel.size, by have := M5.out.inB; omega, hne, by have := M5.out.lblk.lt; omega⟩
            refine wpAnyH_ready (rs := [4]) (by kernel_rfl) (by simp) ?_
            refine AllReadyH.cons rfl (fun K hK => ?_) AllReadyH.nil
            go_simp
            go_wp2_with (go_at_call 37; (with_reducible refine (K6.out _ _ (MB.out)).mono ?_); rintro e w6 ⟨rfl, hM6, hg6⟩)
            obtain ⟨v6, hM6⟩ := hM6
            have M6 := Lib.hid hM6
            have G6 := Lib.hid hg6
            clear hM6 hg6
            refine hK.out _ _ ?_ (fun hHeld => ?_)
            · (try dsimp only); exact M6.out.lblk.cell (o := 3) rfl
            clear hK K
            (try simp only [List.getElem_toArray, List.getElem_cons_succ, List.getElem_cons_zero, Act.put, List.setIfInBounds_toArray, List.set_cons_zero, List.set_cons_succ])
            have FB6 := Lib.hid (G6.out.blk FB.out hne)
            refine wpAnyH_ready (rs := [6]) (by kernel_rfl) (by simp) ?_
            refine AllReadyH.cons rfl (fun K hK => ?_) AllReadyH.nil
            go_simp
            go_wp2_with (go_at_call 38; (with_reducible refine (K7.out _ _ (M6.out)).mono ?_); rintro e w7 ⟨⟨va, vc, rfl, hv7⟩, hM7, hg7⟩)
            obtain ⟨v7', hM7⟩ := hM7
            have M7 := Lib.hid hM7
            have G7 := Lib.hid hg7
            have V7 := Lib.hid hv7
            clear hM7 hg7 hv7
            refine hK.out _ _ ?_ (fun hHeld => ?_)
            · (try dsimp only); exact M7.out.lblk.cell (o := 3) rfl
            clear hK K
            (try simp only [List.getElem_toArray, List.getElem_cons_succ, List.getElem_cons_zero, Act.put, List.setIfInBounds_toArray, List.set_cons_zero, List.set_cons_succ])
            have FB7 := Lib.hid (G7.out.blk FB6.out hne)
            have VK := Lib.hid (RdK.of_own (B := 0) (enc := i64v) V7.out)
            have FIN := Lib.hid (DRel.of_set (n4 := n4) (b6 := b6) M7.out FB7.out VK.out hcc)
            have FM := Lib.hid FIN.out.mid
            refine wpAnyH_take (i := 7) (v := ?_) rfl (by kernel_rfl) (by kernel_rfl) (by kernel_rfl) (fun _ _ _ h => h) (Or.inl ⟨by kernel_rfl, ?_⟩) (by assumption) ?_
            rotate_left 1
            · (intro w hSw; (try dsimp only at hSw); go_simp; (try (with_reducible rfl)))
            (try simp only [List.getElem_toArray, List.getElem_cons_succ, List.getElem_cons_zero, Act.put, List.setIfInBounds_toArray, List.set_cons_zero, List.set_cons_succ])
            have z_0 : w7.cell? ⟨wr.heap.size, 0, none⟩ = some (.int .i64 0) := (FB7.out).cell (o := 0) rfl
            have z_1 : w7.cell? ⟨wr.heap.size, 1, none⟩ = some (.int .i64 0) := (FB7.out).cell (o := 1) rfl
            have z_2 : w7.cell? ⟨wr.heap.size, 2, none⟩ = some (.int .i64 0) := (FB7.out).cell (o := 2) rfl
            have z_3 : w7.cell? ⟨wr.heap.size, 3, none⟩ = some (.int .i64 0) := (FB7.out).cell (o := 3) rfl
            have z_4 : w7.cell? ⟨wr.heap.size, 4, none⟩ = some (.int .i64 0) := (FB7.out).cell (o := 4) rfl
            have z_5 : w7.cell? ⟨wr.heap.size, 5, none⟩ = some (.bool false) := (FB7.out).cell (o := 5) rfl
            have z_6 : w7.cell? ⟨wr.heap.size, 6, none⟩ = some (.slice none 0 0) := (FB7.out).cell (o := 6) rfl
            have z_7 : w7.cell? ⟨wr.heap.size, 7, none⟩ = some (.slice none 0 0) := (FB7.out).cell (o := 7) rfl
            have yz_0 := (FB7.out).free 0
            have yz_1 := (FB7.out).free 1
            have yz_2 := (FB7.out).free 2
            have yz_3 := (FB7.out).free 3
            have yz_4 := (FB7.out).free 4
            have yz_5 := (FB7.out).free 5
            have yz_6 := (FB7.out).free 6
            have yz_7 := (FB7.out).free 7
            refine wpAnyH_ready (rs := [9]) (by kernel_rfl) (by simp) ?_
            refine AllReadyH.cons rfl (fun K hK => ?_) AllReadyH.nil
            go_simp
            go_wp2_with fail
            refine hK.out _ _ ?_ (fun hHeld => ?_)
            · (try dsimp only); exact (by obtain ⟨_, hm⟩ := FM.out; exact hm.lblk.cell (o := 3) rfl)
            clear hK K
            (try simp only [List.getElem_toArray, List.getElem_cons_succ, List.getElem_cons_zero, Act.put, List.setIfInBounds_toArray, List.set_cons_zero, List.set_cons_succ])
            refine wpAnyH_done (by kernel_rfl) ?_ _
            go_wp2_with fail
            go_meet
            exact FIN.out
          --]
        case rest =>
          obtain ⟨fb, va, vc, v', rfl, hfb, hF, hV, hM⟩ := hcut
          have FB := Lib.hid hF
          have VK := Lib.hid hV
          have MM := Lib.hid hM
          clear hF hV hM K6 K7 M5 l_0 l_1 l_2 l_3 l_4
          have K8 := Lib.hid (rNum' r B v' s7 wc MM.out.rd Q8.out)
          go_wp2_with fail
          refine K8.out.mono ?_
          rintro e w8 ⟨rfl, hs8⟩
          obtain ⟨v8, hM8⟩ := MM.out.step hs8
          have M8 := Lib.hid hM8
          have efi : 26 ≠ 2 := by decide
          have er8 : ∀ k, k = r → 0 ≤ k ∧ ∀ cs, ¬ Blk wc k cs 2 := by
            rintro k rfl
            exact ⟨Nat.zero_le _, fun cs' => blk_ne MM.out.rd.blk (by decide)⟩
          have FB8 : Hid (Blk w8 fb #[.int .i64 0, .int .i64 0, .int .i64 0, .int .i64 n4, .int .i64 0, .bool b6, .slice va v7.length vc, .slice none 0 0] 26) := Lib.hid (by obtain ⟨_, _, g⟩ := hs8; exact g.blk FB.out hfb.2.2.1)
          have VK8 : Hid (RdK 0 2 i64v w8 (.slice va v7.length vc) v7) := Lib.hid (by obtain ⟨_, _, g⟩ := hs8; exact VK.out.chg g er8)
          clear hs8 hM8 MM FB VK K8 efi er8
          have l_0 : w8.cell? ⟨w2.heap.size, 0, none⟩ = some (.int .i64 n1) := M8.out.lblk.cell (o := 0) rfl
          have l_1 : w8.cell? ⟨w2.heap.size, 1, none⟩ = some (.int .i64 n2) := M8.out.lblk.cell (o := 1) rfl
          have l_2 : w8.cell? ⟨w2.heap.size, 2, none⟩ = some (.int .i64 n3) := M8.out.lblk.cell (o := 2) rfl
          have l_3 : w8.cell? ⟨w2.heap.size, 3, none⟩ = some (.int .i64 n4) := M8.out.lblk.cell (o := 3) rfl
          have l_4 : w8.cell? ⟨w2.heap.size, 4, none⟩ = some (.int .i64 n5) := M8.out.lblk.cell (o := 4) rfl
          have KE := Lib.hid (rErr r B v8 s8 w8 M8.out.rd)
          have R8 := Lib.hid (blkBelow M8.out.bel R1.out hr1)
          have B8 := Lib.hid (B1.out.trans (M8.out.bel.mono B1.out.size))
          have z_0 : w8.cell? ⟨w.heap.size, 0, none⟩ = some (.int .i64 0) := (R8.out).cell (o := 0) rfl
          have z_1 : w8.cell? ⟨w.heap.size, 1, none⟩ = some (.int .i64 0) := (R8.out).cell (o := 1) rfl
          have z_2 : w8.cell? ⟨w.heap.size, 2, none⟩ = some (.int .i64 0) := (R8.out).cell (o := 2) rfl
          have z_3 : w8.cell? ⟨w.heap.size, 3, none⟩ = some (.int .i64 0) := (R8.out).cell (o := 3) rfl
          have z_4 : w8.cell? ⟨w.heap.size, 4, none⟩ = some (.int .i64 0) := (R8.out).cell (o := 4) rfl
          have z_5 : w8.cell? ⟨w.heap.size, 5, none⟩ = some (.bool false) := (R8.out).cell (o := 5) rfl
          have z_6 : w8.cell? ⟨w.heap.size, 6, none⟩ = some (.slice none 0 0) := (R8.out).cell (o := 6) rfl
          have z_7 : w8.cell? ⟨w.heap.size, 7, none⟩ = some (.slice none 0 0) := (R8.out).cell (o := 7) rfl
          have yz_0 := (R8.out).free 0
          have yz_1 := (R8.out).free 1
          have yz_2 := (R8.out).free 2
          have yz_3 := (R8.out).free 3
          have yz_4 := (R8.out).free 4
          have yz_5 := (R8.out).free 5
          have yz_6 := (R8.out).free 6
          have yz_7 := (R8.out).free 7
          rcases s8 with _ | rest
          · obtain rfl : none = D := (decP_bad (by rw [HR.out])).symm.trans DP.out
            go_wp2_with fail
            refine KE.out.mono ?_
            rintro e w9 ⟨rfl, rfl⟩
            have he : errS none = 74 := rfl
            rw [he]
            go_wp2
            exact bodyPost_ret (v := .tuple #[.agg #[.int .i64 0, .int .i64 0, .int .i64 0, .int .i64 0, .int .i64 0, .bool false, .slice none 0 0, .slice none 0 0], .int .i64 74]) (by simp [results, Tryz.results11, go_sem, *] <;> rfl) rfl ⟨rfl, Chg.below_trans B8.out (chg8 _ w.heap.size _ _ _ _ _ _ _ _) (B8.out).size (fun i hi e => by omega)⟩
          · have he : errS (some rest) = 0 := rfl
            rw [he] at KE
            by_cases h8 : 8 < n8
            · obtain rfl : none = D := (decP_many (by rw [HR.out]; exact h8)).symm.trans DP.out
              have h8' : (8 : Int) < n8 := by omega
              go_wp2_with fail
              refine KE.out.mono ?_
              rintro e w9 ⟨rfl, rfl⟩
              go_wp2
              exact bodyPost_ret (v := .tuple #[.agg #[.int .i64 0, .int .i64 0, .int .i64 0, .int .i64 0, .int .i64 0, .bool false, .slice none 0 0, .slice none 0 0], .int .i64 74]) (by simp [results, Tryz.results11, go_sem, *] <;> rfl) rfl ⟨rfl, Chg.below_trans B8.out (chg8 _ w.heap.size _ _ _ _ _ _ _ _) (B8.out).size (fun i hi e => by omega)⟩
            have h8' : (n8 : Int) ≤ 8 := by omega
            by_cases h1 : 4 < n1
            · obtain rfl : none = D := (decP_head (by rw [HR.out]; intro os; exact fmay_head (by unfold HeadP hdF; simp only; omega))).symm.trans DP.out
              have h1' : (4 : Int) < n1 := by omega
              go_wp2_with fail
              refine KE.out.mono ?_
              rintro e w9 ⟨rfl, rfl⟩
              go_wp2
              exact bodyPost_ret (v := .tuple #[.agg #[.int .i64 0, .int .i64 0, .int .i64 0, .int .i64 0, .int .i64 0, .bool false, .slice none 0 0, .slice none 0 0], .int .i64 74]) (by simp [results, Tryz.results11, go_sem, *] <;> rfl) rfl ⟨rfl, Chg.below_trans B8.out (chg8 _ w.heap.size _ _ _ _ _ _ _ _) (B8.out).size (fun i hi e => by omega)⟩
            have h1' : (n1 : Int) ≤ 4 := by omega
            by_cases h2 : 64 ≤ n2
            · obtain rfl : none = D := (decP_head (by rw [HR.out]; intro os; exact fmay_head (by unfold HeadP hdF; simp only; omega))).symm.trans DP.out
              have h2' : (64 : Int) ≤ n2 := by omega
              go_wp2_with fail
              refine KE.out.mono ?_
              rintro e w9 ⟨rfl, rfl⟩
              go_wp2
              exact bodyPost_ret (v := .tuple #[.agg #[.int .i64 0, .int .i64 0, .int .i64 0, .int .i64 0, .int .i64 0, .bool false, .slice none 0 0, .slice none 0 0], .int .i64 74]) (by simp [results, Tryz.results11, go_sem, *] <;> rfl) rfl ⟨rfl, Chg.below_trans B8.out (chg8 _ w.heap.size _ _ _ _ _ _ _ _) (B8.out).size (fun i hi e => by omega)⟩
            have h2' : (n2 : Int) < 64 := by omega
            by_cases h3 : 64 ≤ n3
            · obtain rfl : none = D := (decP_head (by rw [HR.out]; intro os; exact fmay_head (by unfold HeadP hdF; simp only; omega))).symm.trans DP.out
              have h3' : (64 : Int) ≤ n3 := by omega
              go_wp2_with fail
              refine KE.out.mono ?_
              rintro e w9 ⟨rfl, rfl⟩
              go_wp2
              exact bodyPost_ret (v := .tuple #[.agg #[.int .i64 0, .int .i64 0, .int .i64 0, .int .i64 0, .int .i64 0, .bool false, .slice none 0 0, .slice none 0 0], .int .i64 74]) (by simp [results, Tryz.results11, go_sem, *] <;> rfl) rfl ⟨rfl, Chg.below_trans B8.out (chg8 _ w.heap.size _ _ _ _ _ _ _ _) (B8.out).size (fun i hi e => by omega)⟩
            have h3' : (n3 : Int) < 64 := by omega
            by_cases h5 : 1073741824 < n5
            · obtain rfl : none = D := (decP_head (by rw [HR.out]; intro os; exact fmay_head (by unfold HeadP hdF; simp only; omega))).symm.trans DP.out
              have h5' : (1073741824 : Int) < n5 := by omega
              go_wp2_with fail
              refine KE.out.mono ?_
              rintro e w9 ⟨rfl, rfl⟩
              go_wp2
              exact bodyPost_ret (v := .tuple #[.agg #[.int .i64 0, .int .i64 0, .int .i64 0, .int .i64 0, .int .i64 0, .bool false, .slice none 0 0, .slice none 0 0], .int .i64 74]) (by simp [results, Tryz.results11, go_sem, *] <;> rfl) rfl ⟨rfl, Chg.below_trans B8.out (chg8 _ w.heap.size _ _ _ _ _ _ _ _) (B8.out).size (fun i hi e => by omega)⟩
            have h5' : (n5 : Int) ≤ 1073741824 := by omega
            clear z_0 z_1 z_2 z_3 z_4 z_5 z_6 z_7 yz_0 yz_1 yz_2 yz_3 yz_4 yz_5 yz_6 yz_7
            have hd : Hid (hdF (hdR p) = fun os => (⟨n1, n2, n3, n4, n5, b6, v7, os⟩ : Frm)) := Lib.hid (by rw [HR.out]; rfl)
            obtain ⟨X, hX⟩ : ∃ X, X = ((((w8.setCell ⟨fb, 0, none⟩ (.int .i64 n1)).setCell ⟨fb, 1, none⟩ (.int .i64 n2)).setCell ⟨fb, 2, none⟩ (.int .i64 n3)).setCell ⟨fb, 4, none⟩ (.int .i64 n5)).drew := ⟨_, rfl⟩
            have gX : Chg (· = fb) w8 X := by
              rw [hX]
              have h : ∀ o, (⟨fb, o, none⟩ : Addr).block < w8.heap.size → (· = fb) fb := fun _ _ => rfl
              exact (Chg.set (S := (· = fb)) (Chg.set (S := (· = fb)) (Chg.set (S := (· = fb)) (Chg.set (S := (· = fb)) (Chg.refl _ _) (h 0) _) (h 1) _) (h 2) _) (h 4) _).drew
            have MX := Lib.hid (M8.out.chgf gX hfb)
            have LX : Hid (FdL w1 fb ⟨n1, n2, n3, n4, n5, b6, v7, n8, some rest⟩ va vc (.slice none 0 0) [] X) := Lib.hid (by
              refine ⟨OpsOwn.nil _ _ _, ?_, VK8.out.chg gX (fun k hk => ?_), MX.out.bel, hfb.1⟩
              · rw [hX]
                have := ((((FB8.out.set 0 (.int .i64 n1)).set 1 (.int .i64 n2)).set 2 (.int .i64 n3)).set 4 (.int .i64 n5)).drew
                simpa using this
              · have hk : k = fb := hk
                subst hk
                exact ⟨Nat.zero_le _, fun _ => blk_ne FB8.out (by decide)⟩)
            clear gX
            obtain ⟨hsuf, hpne⟩ := hd_suf (p := p) (rest := rest) (by rw [HR.out])
            obtain ⟨hrd, hrl⟩ := suf_drop hsuf
            obtain ⟨b, o, rfl⟩ := hpa hpne
            obtain ⟨k, hk⟩ : ∃ k, k = p.length - rest.length := ⟨_, rfl⟩
            rw [← hk] at hrd
            have HRD2 : Hid (rest = p.drop k) := Lib.hid hrd
            have hk1 : k ≤ p.length := by omega
            have hk2 : ((p.length : Nat) : Int) - (rest.length : Int) = (k : Int) := by omega
            have hk3 : p.length - k = rest.length := by omega
            have VR := Lib.hid (V1.out.drop k hk1)
            rw [hk3, ← hrd] at VR
            have PR : Hid (Byt rest) := Lib.hid (by rw [hrd]; exact PB.out.drop k)
            clear hrd hsuf hpne hk
            have z_0 : w8.cell? ⟨fb, 0, none⟩ = some (.int .i64 0) := (FB8.out).cell (o := 0) rfl
            have z_1 : w8.cell? ⟨fb, 1, none⟩ = some (.int .i64 0) := (FB8.out).cell (o := 1) rfl
            have z_2 : w8.cell? ⟨fb, 2, none⟩ = some (.int .i64 0) := (FB8.out).cell (o := 2) rfl
            have z_4 : w8.cell? ⟨fb, 4, none⟩ = some (.int .i64 0) := (FB8.out).cell (o := 4) rfl
            have yz_0 := (FB8.out).free 0
            have yz_1 := (FB8.out).free 1
            have yz_2 := (FB8.out).free 2
            have yz_4 := (FB8.out).free 4
            go_wp2_with fail
            refine KE.out.mono ?_
            rintro e w9 ⟨rfl, rfl⟩
            go_upto_region 15 with fail
            refine wp_region_held_drew (S := fun w' => (w').cell? ⟨w2.heap.size, 0, none⟩ = some (.int .i64 n1) ∧ (w').cell? ⟨w2.heap.size, 1, none⟩ = some (.int .i64 n2) ∧ (w').cell? ⟨w2.heap.size, 2, none⟩ = some (.int .i64 n3) ∧ (w').cell? ⟨w2.heap.size, 4, none⟩ = some (.int .i64 n5)) (by kernel_rfl) ?_ (fun hHeld => ?_)
            · exact ⟨l_0, l_1, l_2, l_4⟩
            refine wpAnyH_take (i := 0) (v := ?_) rfl (by kernel_rfl) (by kernel_rfl) (by kernel_rfl) (fun _ _ _ h => h) (Or.inl ⟨by kernel_rfl, ?_⟩) (by assumption) ?_
            rotate_left 1
            · (intro w hSw; (try dsimp only at hSw); go_simp; (try (with_reducible rfl)))
            (try simp only [List.getElem_toArray, List.getElem_cons_succ, List.getElem_cons_zero, Act.put, List.setIfInBounds_toArray, List.set_cons_zero, List.set_cons_succ])
            refine wpAnyH_take (i := 1) (v := ?_) rfl (by kernel_rfl) (by kernel_rfl) (by kernel_rfl) (fun _ _ _ h => h) (Or.inl ⟨by kernel_rfl, ?_⟩) (by assumption) ?_
            rotate_left 1
            · (intro w hSw; (try dsimp only at hSw); go_simp; (try (with_reducible rfl)))
            (try simp only [List.getElem_toArray, List.getElem_cons_succ, List.getElem_cons_zero, Act.put, List.setIfInBounds_toArray, List.set_cons_zero, List.set_cons_succ])
            refine wpAnyH_take (i := 2) (v := ?_) rfl (by kernel_rfl) (by kernel_rfl) (by kernel_rfl) (fun _ _ _ h => h) (Or.inl ⟨by kernel_rfl, ?_⟩) (by assumption) ?_
            rotate_left 1
            · (intro w hSw; (try dsimp only at hSw); go_simp; (try (with_reducible rfl)))
            (try simp only [List.getElem_toArray, List.getElem_cons_succ, List.getElem_cons_zero, Act.put, List.setIfInBounds_toArray, List.set_cons_zero, List.set_cons_succ])
            refine wpAnyH_take (i := 3) (v := ?_) rfl (by kernel_rfl) (by kernel_rfl) (by kernel_rfl) (fun _ _ _ h => h) (Or.inl ⟨by kernel_rfl, ?_⟩) (by assumption) ?_
            rotate_left 1
            · (intro w hSw; (try dsimp only at hSw); go_simp; (try (with_reducible rfl)))
            (try simp only [List.getElem_toArray, List.getElem_cons_succ, List.getElem_cons_zero, Act.put, List.setIfInBounds_toArray, List.set_cons_zero, List.set_cons_succ])
            refine wpAnyH_take (i := 4) (v := ?_) rfl (by kernel_rfl) (by kernel_rfl) (by kernel_rfl) (fun _ _ _ h => h) (Or.inl ⟨by kernel_rfl, ?_⟩) (by assumption) ?_
            rotate_left 1
            · (intro w hSw; (try dsimp only at hSw); go_simp; (try (with_reducible rfl)))
            (try simp only [List.getElem_toArray, List.getElem_cons_succ, List.getElem_cons_zero, Act.put, List.setIfInBounds_toArray, List.set_cons_zero, List.set_cons_succ])
            refine wpAnyH_take (i := 5) (v := ?_) rfl (by kernel_rfl) (by kernel_rfl) (by kernel_rfl) (fun _ _ _ h => h) (Or.inl ⟨by kernel_rfl, ?_⟩) (by assumption) ?_
            rotate_left 1
            · (intro w hSw; (try dsimp only at hSw); go_simp; (try (with_reducible rfl)))
            (try simp only [List.getElem_toArray, List.getElem_cons_succ, List.getElem_cons_zero, Act.put, List.setIfInBounds_toArray, List.set_cons_zero, List.set_cons_succ])
            refine wpAnyH_take (i := 6) (v := ?_) rfl (by kernel_rfl) (by kernel_rfl) (by kernel_rfl) (fun _ _ _ h => h) (Or.inl ⟨by kernel_rfl, ?_⟩) (by assumption) ?_
            rotate_left 1
            · (intro w hSw; (try dsimp only at hSw); go_simp; (try (with_reducible rfl)))
            (try simp only [List.getElem_toArray, List.getElem_cons_succ, List.getElem_cons_zero, Act.put, List.setIfInBounds_toArray, List.set_cons_zero, List.set_cons_succ])
            refine wpAnyH_take (i := 7) (v := ?_) rfl (by kernel_rfl) (by kernel_rfl) (by kernel_rfl) (fun _ _ _ h => h) (Or.inl ⟨by kernel_rfl, ?_⟩) (by assumption) ?_
            rotate_left 1
            · (intro w hSw; (try dsimp only at hSw); go_simp; (try (with_reducible rfl)))
            (try simp only [List.getElem_toArray, List.getElem_cons_succ, List.getElem_cons_zero, Act.put, List.setIfInBounds_toArray, List.set_cons_zero, List.set_cons_succ])
            refine wpAnyH_take (i := 8) (v := ?_) rfl (by kernel_rfl) (by kernel_rfl) (by kernel_rfl) (fun _ _ _ h => h) (Or.inl ⟨by kernel_rfl, ?_⟩) (by assumption) ?_
            rotate_left 1
            · (intro w hSw; (try dsimp only at hSw); go_simp; (try (with_reducible rfl)))
            (try simp only [List.getElem_toArray, List.getElem_cons_succ, List.getElem_cons_zero, Act.put, List.setIfInBounds_toArray, List.set_cons_zero, List.set_cons_succ])
            refine wpAnyH_take (i := 9) (v := ?_) rfl (by kernel_rfl) (by kernel_rfl) (by kernel_rfl) (fun _ _ _ h => h) (Or.inl ⟨by kernel_rfl, ?_⟩) (by assumption) ?_
            rotate_left 1
            · (intro w hSw; (try dsimp only at hSw); go_simp; (try (with_reducible rfl)))
            (try simp only [List.getElem_toArray, List.getElem_cons_succ, List.getElem_cons_zero, Act.put, List.setIfInBounds_toArray, List.set_cons_zero, List.set_cons_succ])
            refine wpAnyH_take (i := 10) (v := ?_) rfl (by kernel_rfl) (by kernel_rfl) (by kernel_rfl) (fun _ _ _ h => h) (Or.inl ⟨by kernel_rfl, ?_⟩) (by assumption) ?_
            rotate_left 1
            · (intro w hSw; (try dsimp only at hSw); go_simp; (try (with_reducible rfl)))
            (try simp only [List.getElem_toArray, List.getElem_cons_succ, List.getElem_cons_zero, Act.put, List.setIfInBounds_toArray, List.set_cons_zero, List.set_cons_succ])
            refine wpAnyH_take (i := 11) (v := ?_) rfl (by kernel_rfl) (by kernel_rfl) (by kernel_rfl) (fun _ _ _ h => h) (Or.inl ⟨by kernel_rfl, ?_⟩) (by assumption) ?_
            rotate_left 1
            · (intro w hSw; (try dsimp only at hSw); go_simp; (try (with_reducible rfl)))
            (try simp only [List.getElem_toArray, List.getElem_cons_succ, List.getElem_cons_zero, Act.put, List.setIfInBounds_toArray, List.set_cons_zero, List.set_cons_succ])
            refine wpAnyH_take (i := 12) (v := ?_) rfl (by kernel_rfl) (by kernel_rfl) (by kernel_rfl) (fun _ _ _ h => h) (Or.inl ⟨by kernel_rfl, ?_⟩) (by assumption) ?_
            rotate_left 1
            · (intro w hSw; (try dsimp only at hSw); go_simp; (try (with_reducible rfl)))
            (try simp only [List.getElem_toArray, List.getElem_cons_succ, List.getElem_cons_zero, Act.put, List.setIfInBounds_toArray, List.set_cons_zero, List.set_cons_succ])
            refine wpAnyH_ready (rs := [13]) (by kernel_rfl) (by simp) ?_
            refine AllReadyH.cons rfl (fun K hK => ?_) AllReadyH.nil
            go_simp
            go_wp2_with fail
            refine hK.out _ _ ?_ (fun hHeld => ?_)
            · (try dsimp only); exact ls_set hHeld hfb.2.2.2 _ _
            clear hK K
            (try simp only [List.getElem_toArray, List.getElem_cons_succ, List.getElem_cons_zero, Act.put, List.setIfInBounds_toArray, List.set_cons_zero, List.set_cons_succ])
            refine wpAnyH_take (i := 14) (v := ?_) rfl (by kernel_rfl) (by kernel_rfl) (by kernel_rfl) (fun _ _ _ h => h) (Or.inl ⟨by kernel_rfl, ?_⟩) (by assumption) ?_
            rotate_left 1
            · (intro w hSw; (try dsimp only at hSw); go_simp; (try (with_reducible rfl)))
            (try simp only [List.getElem_toArray, List.getElem_cons_succ, List.getElem_cons_zero, Act.put, List.setIfInBounds_toArray, List.set_cons_zero, List.set_cons_succ])
            refine wpAnyH_ready (rs := [15]) (by kernel_rfl) (by simp) ?_
            refine AllReadyH.cons rfl (fun K hK => ?_) AllReadyH.nil
            go_simp
            go_wp2_with fail
            refine hK.out _ _ ?_ (fun hHeld => ?_)
            · (try dsimp only); exact ls_set hHeld hfb.2.2.2 _ _
            clear hK K
            (try simp only [List.getElem_toArray, List.getElem_cons_succ, List.getElem_cons_zero, Act.put, List.setIfInBounds_toArray, List.set_cons_zero, List.set_cons_succ])
            refine wpAnyH_take (i := 16) (v := ?_) rfl (by kernel_rfl) (by kernel_rfl) (by kernel_rfl) (fun _ _ _ h => h) (Or.inl ⟨by kernel_rfl, ?_⟩) (by assumption) ?_
            rotate_left 1
            · (intro w hSw; (try dsimp only at hSw); go_simp; (try (with_reducible rfl)))
            (try simp only [List.getElem_toArray, List.getElem_cons_succ, List.getElem_cons_zero, Act.put, List.setIfInBounds_toArray, List.set_cons_zero, List.set_cons_succ])
            refine wpAnyH_ready (rs := [17]) (by kernel_rfl) (by simp) ?_
            refine AllReadyH.cons rfl (fun K hK => ?_) AllReadyH.nil
            go_simp
            go_wp2_with fail
            refine hK.out _ _ ?_ (fun hHeld => ?_)
            · (try dsimp only); exact ls_set hHeld hfb.2.2.2 _ _
            clear hK K
            (try simp only [List.getElem_toArray, List.getElem_cons_succ, List.getElem_cons_zero, Act.put, List.setIfInBounds_toArray, List.set_cons_zero, List.set_cons_succ])
            refine wpAnyH_take (i := 18) (v := ?_) rfl (by kernel_rfl) (by kernel_rfl) (by kernel_rfl) (fun _ _ _ h => h) (Or.inl ⟨by kernel_rfl, ?_⟩) (by assumption) ?_
            rotate_left 1
            · (intro w hSw; (try dsimp only at hSw); go_simp; (try (with_reducible rfl)))
            (try simp only [List.getElem_toArray, List.getElem_cons_succ, List.getElem_cons_zero, Act.put, List.setIfInBounds_toArray, List.set_cons_zero, List.set_cons_succ])
            refine wpAnyH_ready (rs := [19]) (by kernel_rfl) (by simp) ?_
            refine AllReadyH.cons rfl (fun K hK => ?_) AllReadyH.nil
            go_simp
            go_wp2_with fail
            refine hK.out _ _ ?_ (fun hHeld => ?_)
            · (try dsimp only); exact ls_set hHeld hfb.2.2.2 _ _
            clear hK K
            (try simp only [List.getElem_toArray, List.getElem_cons_succ, List.getElem_cons_zero, Act.put, List.setIfInBounds_toArray, List.set_cons_zero, List.set_cons_succ])
            refine wpAnyH_done (by kernel_rfl) ?_ _
            clear hHeld l_0 l_1 l_2 l_3 l_4
            rw [← hX]
            clear hX M8 VK8 FB8 KE z_0 z_1 z_2 z_4 yz_0 yz_1 yz_2 yz_4 h1' h2' h3' h5' R8 B8
            have KL := Lib.hid (rLeft r B v8 (some rest) X MX.out.rd)
            have hll : leftS (some rest) = rest := rfl
            rw [hll] at KL
            go_upto_region 16 with fail
            go_cut [12] (fun s12 wx => ∃ o' c', s12 = .slice (some ⟨b, o', none⟩) rest.length c' ∧ Rdv u8v w1 s12 rest ∧ wx = X)
            case first =>
              --[
              by_cases hpk : pc = k
              · subst hpk
                go_wp2_with fail
                refine KL.out.mono ?_
                rintro e w9 ⟨rfl, rfl⟩
                go_wp2
                go_meet
                exact ⟨_, _, rfl, rdv_cutF V1.out hk1 HRD2.out _ _ (.inr ⟨rfl, by omega⟩), rfl⟩
              · go_wp2_with fail
                refine KL.out.mono ?_
                rintro e w9 ⟨rfl, rfl⟩
                go_wp2
                go_meet
                exact ⟨_, _, rfl, rdv_cutF V1.out hk1 HRD2.out _ _ (.inl ⟨rfl, rfl⟩), rfl⟩
              --]
            case rest =>
              obtain ⟨o', c', rfl, hRR, rfl⟩ := hcut
              have RR := Lib.hid hRR
              clear hRR KL VR
              go_wp2
              have OP0 : Hid (midS n8 rest (([] : List ODS).map (·.1)) = opsS n8 rest) := midS_start n8 rest
              have hpl2 : rest.length ≤ 1048576 := by omega
              clear hk1 hk2 hk3 HRD2
              go_loopw [12, 112] (fun rv iv wr => ∃ (i : Nat) (q : List Int) (o c : Nat) (ov : Value) (ps : List ODS), i ≤ n8 ∧ iv = .int .i64 i ∧ rv = .slice (some ⟨b, o, none⟩) q.length c ∧ Rdv u8v w1 rv q ∧ Byt q ∧ q.length ≤ 1048576 ∧ FdL w1 fb ⟨n1, n2, n3, n4, n5, b6, v7, n8, some rest⟩ va vc ov ps wr ∧ midS (n8 - i) q (ps.map (·.1)) = opsS n8 rest ∧ (∀ z ∈ ps.map (·.1), z.name.size < 4294967281) ∧ ps.length ≤ i) (fun _ iv _ => n8 - (intOf iv).toNat)
              case atStart => exact ⟨0, rest, o', c', _, [], by omega, rfl, rfl, RR.out, PR.out, hpl2, LX.out, OP0.out, (fun z hz => by cases hz), Nat.le_refl _⟩
              case round =>
                obtain ⟨i, q, o3, c3, ov, ps, hi8, rfl, rfl, hq, hqb, hql, hL, hmid, hnm, hpsl⟩ := hrel
                have RQ := Lib.hid hq
                have QB := Lib.hid hqb
                have LL := Lib.hid hL
                have MID := Lib.hid hmid
                have HNM := Lib.hid hnm
                clear hq hqb hL hmid hnm LX OP0 RR PR MX
                by_cases hlt : i < n8
                · have q0 : (i : Int) < n8 := by omega
                  obtain ⟨m, hm⟩ : ∃ m, n8 - i = m + 1 := ⟨n8 - i - 1, by omega⟩
                  rw [hm] at MID
                  have hm2 : Hid (m = n8 - (i + 1)) := Lib.hid (by omega)
                  clear hm
                  obtain ⟨x, sx, qx⟩ : ∃ x sx, numS (some q) = (x, sx) := ⟨_, _, rfl⟩
                  have QX := Lib.hid qx
                  have KN3 := Lib.hid (rNew _ q wr (RQ.out.below LL.out.bel) QB.out (by omega))
                  go_wp2_with fail
                  refine KN3.out.mono ?_
                  rintro e w3 ⟨r3, B3, v3, rfl, hr3, hB3, hBl3, hrd3, hb3⟩
                  have M3 := Lib.hid hrd3
                  have G3 := Lib.hid hb3
                  clear hrd3 hb3 KN3
                  have KN4 := Lib.hid (rNum' r3 B3 v3 (some q) w3 M3.out QX.out)
                  go_wp2_with fail
                  refine KN4.out.mono ?_
                  rintro e w4 ⟨rfl, v4, hrd4, hg4⟩
                  have M4 := Lib.hid hrd4
                  have G4 := Lib.hid (hg4.below_trans G3.out G3.out.size (fun k hk e => by omega))
                  have L4 := Lib.hid (LL.out.below G4.out)
                  clear hrd4 hg4 KN4 M3 G3
                  have KL4 := Lib.hid (rLeft r3 B3 v4 sx w4 M4.out)
                  have KE4 := Lib.hid (rErr r3 B3 v4 sx w4 M4.out)
                  have hcut2 : ∃ q1 k, leftS sx = q1 ∧ q1 = q.drop k ∧ k ≤ q.length ∧ ((q.length : Nat) : Int) - (q1.length : Int) = (k : Int) ∧ (∀ z, sx = some z → z = q1) := by
                    rcases sx with _ | q1
                    · exact ⟨[], q.length, rfl, by simp, Nat.le_refl _, by simp, fun z h => by cases h⟩
                    · obtain ⟨k, h1, h2, h3, h4⟩ := numS_end qx
                      exact ⟨q1, k, rfl, h2, h1, by omega, fun z h => by injection h with h; exact h.symm⟩
                  obtain ⟨q1, k, hq1, hq2, hk1, hk2, hsx⟩ := hcut2
                  have HSX := Lib.hid hsx
                  have HQ2 := Lib.hid hq2
                  rw [hq1] at KL4
                  clear hsx hq2 qx hq1
                  have hq1l : q1.length ≤ q.length := by rw [HQ2.out, List.length_drop]; omega
                  go_upto_region 21 with fail
                  go_cut [12] (fun s12 wx => ∃ o' c', s12 = .slice (some ⟨b, o', none⟩) q1.length c' ∧ Rdv u8v w1 s12 q1 ∧ wx = w4)
                  case first =>
                    --[
                    have hcap := RQ.out.cap
                    have hqc : q.length ≤ c3 := hcap.2.1
                    have hcm : c3 ≤ maxLen := hcap.2.2.1
                    unfold maxLen at hcm
                    clear hcap
                    have hk3 : q.length - k = q1.length := by omega
                    by_cases hpk : c3 = k
                    · subst hpk
                      go_wp2_with fail
                      refine KL4.out.mono ?_
                      rintro e w9 ⟨rfl, rfl⟩
                      go_wp2
                      go_meet
                      exact ⟨_, _, rfl, rdv_cutF RQ.out hk1 HQ2.out _ _ (.inr ⟨rfl, by omega⟩), rfl⟩
                    · go_wp2_with fail
                      refine KL4.out.mono ?_
                      rintro e w9 ⟨rfl, rfl⟩
                      go_wp2
                      go_meet
                      exact ⟨_, _, rfl, rdv_cutF RQ.out hk1 HQ2.out _ _ (.inl ⟨rfl, rfl⟩), rfl⟩
                    --]
                  case rest =>
                    obtain ⟨o4, c4, rfl, hR4, rfl⟩ := hcut
                    have R4 := Lib.hid hR4
                    clear hR4 KL4 RQ
                    have B4 := Lib.hid (B1.out.trans (L4.out.bel.mono B1.out.size))
                    have R0' := Lib.hid (blkBelow L4.out.bel R1.out hr1)
                    rcases sx with _ | z
                    · obtain rfl : none = D := (decP_ops (by rw [HR.out]) (by rw [HR.out]; exact (MID.out.symm.trans (midS_bad QX.out)))).symm.trans DP.out
                      have z_0 : wc.cell? ⟨w.heap.size, 0, none⟩ = some (.int .i64 0) := (R0'.out).cell (o := 0) rfl
                      have z_1 : wc.cell? ⟨w.heap.size, 1, none⟩ = some (.int .i64 0) := (R0'.out).cell (o := 1) rfl
                      have z_2 : wc.cell? ⟨w.heap.size, 2, none⟩ = some (.int .i64 0) := (R0'.out).cell (o := 2) rfl
                      have z_3 : wc.cell? ⟨w.heap.size, 3, none⟩ = some (.int .i64 0) := (R0'.out).cell (o := 3) rfl
                      have z_4 : wc.cell? ⟨w.heap.size, 4, none⟩ = some (.int .i64 0) := (R0'.out).cell (o := 4) rfl
                      have z_5 : wc.cell? ⟨w.heap.size, 5, none⟩ = some (.bool false) := (R0'.out).cell (o := 5) rfl
                      have z_6 : wc.cell? ⟨w.heap.size, 6, none⟩ = some (.slice none 0 0) := (R0'.out).cell (o := 6) rfl
                      have z_7 : wc.cell? ⟨w.heap.size, 7, none⟩ = some (.slice none 0 0) := (R0'.out).cell (o := 7) rfl
                      have yz_0 := (R0'.out).free 0
                      have yz_1 := (R0'.out).free 1
                      have yz_2 := (R0'.out).free 2
                      have yz_3 := (R0'.out).free 3
                      have yz_4 := (R0'.out).free 4
                      have yz_5 := (R0'.out).free 5
                      have yz_6 := (R0'.out).free 6
                      have yz_7 := (R0'.out).free 7
                      have he : errS none = 74 := rfl
                      rw [he] at KE4
                      go_wp2_with fail
                      refine KE4.out.mono ?_
                      rintro e w9 ⟨rfl, rfl⟩
                      go_wp2
                      exact bodyPost_ret (v := .tuple #[.agg #[.int .i64 0, .int .i64 0, .int .i64 0, .int .i64 0, .int .i64 0, .bool false, .slice none 0 0, .slice none 0 0], .int .i64 74]) (by simp [results, Tryz.results11, go_sem, *] <;> rfl) rfl ⟨rfl, Chg.below_trans B4.out (chg8 _ w.heap.size _ _ _ _ _ _ _ _) (B4.out).size (fun i hi e => by omega)⟩
                    · obtain rfl := HSX.out z rfl
                      have he : errS (some z) = 0 := rfl
                      rw [he] at KE4
                      by_cases hxz : x ≤ z.length
                      rotate_left 1
                      · obtain rfl : none = D := (decP_ops (by rw [HR.out]) (by rw [HR.out]; exact (MID.out.symm.trans (midS_long QX.out (by omega))))).symm.trans DP.out
                        have hxz' : (z.length : Int) < x := by omega
                        have z_0 : wc.cell? ⟨w.heap.size, 0, none⟩ = some (.int .i64 0) := (R0'.out).cell (o := 0) rfl
                        have z_1 : wc.cell? ⟨w.heap.size, 1, none⟩ = some (.int .i64 0) := (R0'.out).cell (o := 1) rfl
                        have z_2 : wc.cell? ⟨w.heap.size, 2, none⟩ = some (.int .i64 0) := (R0'.out).cell (o := 2) rfl
                        have z_3 : wc.cell? ⟨w.heap.size, 3, none⟩ = some (.int .i64 0) := (R0'.out).cell (o := 3) rfl
                        have z_4 : wc.cell? ⟨w.heap.size, 4, none⟩ = some (.int .i64 0) := (R0'.out).cell (o := 4) rfl
                        have z_5 : wc.cell? ⟨w.heap.size, 5, none⟩ = some (.bool false) := (R0'.out).cell (o := 5) rfl
                        have z_6 : wc.cell? ⟨w.heap.size, 6, none⟩ = some (.slice none 0 0) := (R0'.out).cell (o := 6) rfl
                        have z_7 : wc.cell? ⟨w.heap.size, 7, none⟩ = some (.slice none 0 0) := (R0'.out).cell (o := 7) rfl
                        have yz_0 := (R0'.out).free 0
                        have yz_1 := (R0'.out).free 1
                        have yz_2 := (R0'.out).free 2
                        have yz_3 := (R0'.out).free 3
                        have yz_4 := (R0'.out).free 4
                        have yz_5 := (R0'.out).free 5
                        have yz_6 := (R0'.out).free 6
                        have yz_7 := (R0'.out).free 7
                        go_wp2_with fail
                        refine KE4.out.mono ?_
                        rintro e w9 ⟨rfl, rfl⟩
                        go_wp2
                        exact bodyPost_ret (v := .tuple #[.agg #[.int .i64 0, .int .i64 0, .int .i64 0, .int .i64 0, .int .i64 0, .bool false, .slice none 0 0, .slice none 0 0], .int .i64 74]) (by simp [results, Tryz.results11, go_sem, *] <;> rfl) rfl ⟨rfl, Chg.below_trans B4.out (chg8 _ w.heap.size _ _ _ _ _ _ _ _) (B4.out).size (fun i hi e => by omega)⟩
                      have hxz' : (x : Int) ≤ z.length := by omega
                      have hz4 := R4.out.cap
                      have hzc : z.length ≤ c4 := hz4.2.1
                      have hcm : c4 ≤ maxLen := hz4.2.2.1
                      unfold maxLen at hcm
                      have hxc : x ≤ c4 := by omega
                      clear hz4
                      have TK := Lib.hid ((R4.out.take x c4 hxz hxc (Nat.le_refl _)).below L4.out.bel)
                      have ZB : Hid (Byt z) := Lib.hid (by rw [HQ2.out]; exact QB.out.drop k)
                      have KD := Lib.hid (opsDecode _ (z.take x) wc TK.out (ZB.out.take x) (by rw [List.length_take]; omega))
                      go_wp2_with fail
                      refine KE4.out.mono ?_
                      rintro e w9 ⟨rfl, rfl⟩
                      go_wp2_with fail
                      refine KD.out.mono ?_
                      unfold DecPost
                      cases hdb : decB (z.take x)
                      · obtain rfl : none = D := (decP_ops (by rw [HR.out]) (by rw [HR.out]; exact (MID.out.symm.trans (midS_dec QX.out hdb)))).symm.trans DP.out
                        simp only [Bool.false_eq_true, if_false]
                        rintro e w5 ⟨rfl, hb5⟩
                        have R5 := Lib.hid (blkBelow hb5 R0'.out R0'.out.lt)
                        have B5 := Lib.hid (B4.out.trans (hb5.mono B4.out.size))
                        have z_0 : w5.cell? ⟨w.heap.size, 0, none⟩ = some (.int .i64 0) := (R5.out).cell (o := 0) rfl
                        have z_1 : w5.cell? ⟨w.heap.size, 1, none⟩ = some (.int .i64 0) := (R5.out).cell (o := 1) rfl
                        have z_2 : w5.cell? ⟨w.heap.size, 2, none⟩ = some (.int .i64 0) := (R5.out).cell (o := 2) rfl
                        have z_3 : w5.cell? ⟨w.heap.size, 3, none⟩ = some (.int .i64 0) := (R5.out).cell (o := 3) rfl
                        have z_4 : w5.cell? ⟨w.heap.size, 4, none⟩ = some (.int .i64 0) := (R5.out).cell (o := 4) rfl
                        have z_5 : w5.cell? ⟨w.heap.size, 5, none⟩ = some (.bool false) := (R5.out).cell (o := 5) rfl
                        have z_6 : w5.cell? ⟨w.heap.size, 6, none⟩ = some (.slice none 0 0) := (R5.out).cell (o := 6) rfl
                        have z_7 : w5.cell? ⟨w.heap.size, 7, none⟩ = some (.slice none 0 0) := (R5.out).cell (o := 7) rfl
                        have yz_0 := (R5.out).free 0
                        have yz_1 := (R5.out).free 1
                        have yz_2 := (R5.out).free 2
                        have yz_3 := (R5.out).free 3
                        have yz_4 := (R5.out).free 4
                        have yz_5 := (R5.out).free 5
                        have yz_6 := (R5.out).free 6
                        have yz_7 := (R5.out).free 7
                        have hw5 : w.heap.size < w5.heap.size := R5.out.lt
                        go_wp2
                        exact bodyPost_ret (v := .tuple #[.agg #[.int .i64 0, .int .i64 0, .int .i64 0, .int .i64 0, .int .i64 0, .bool false, .slice none 0 0, .slice none 0 0], .int .i64 74]) (by simp [results, Tryz.results11, go_sem, *] <;> rfl) rfl ⟨rfl, below_chg_alloc B5.out (chg8 _ w.heap.size _ _ _ _ _ _ _ _) B5.out.size (fun i hi e => by omega) _⟩
                      · simp only [if_true]
                        rintro e w5 ⟨d5, s5', rfl, hd5, hs5, hb5⟩
                        have D5 := Lib.hid (RdK.of_own (B := 0) (enc := u8v) hd5)
                        have S5 := Lib.hid (RdK.of_own (B := 0) (enc := i64v) hs5)
                        have L5 := Lib.hid (L4.out.below hb5)
                        obtain ⟨d5a, d5c, rfl, _, _, _⟩ := own_shape hd5
                        obtain ⟨s5a, s5c, rfl, _, _, _⟩ := own_shape hs5
                        have ST : Hid (midS m (z.drop x) ((ps.map (·.1)) ++ [decO (z.take x)]) = opsS n8 rest) := Lib.hid (by rw [← midS_step QX.out hxz hdb]; exact MID.out)
                        have hdn := may_size (decB_may hdb)
                        clear hd5 hs5 hb5 KD KE4 TK L4 R0' B4 hdb
                        generalize decO (z.take x) = q' at *
                        have LO := Lib.hid ((Below.refl w5.heap.size w5).alloc (Nat.le_refl _) (.cells #[.int .i64 (q').time, .int .i64 (q').node, .int .i64 (q').seq, .int .i64 (q').kind, .int .i64 (q').ot, .int .i64 (q').on, .int .i64 (q').pt, .int .i64 (q').pn, .string (q').name, .slice d5a (q'.data).length d5c, .slice s5a (q'.seen).length s5c] 46))
                        have LO2 := Lib.hid (LO.out.alloc (by simp) (.cells #[.int .i64 (q').time, .int .i64 (q').node, .int .i64 (q').seq, .int .i64 (q').kind, .int .i64 (q').ot, .int .i64 (q').on, .int .i64 (q').pt, .int .i64 (q').pn, .string (q').name, .slice d5a (q'.data).length d5c, .slice s5a (q'.seen).length s5c] 46))
                        have L6 := Lib.hid (L5.out.below LO2.out)
                        have f_7 : w5.cell? ⟨fb, 7, none⟩ = some ov := L5.out.fr.cell (o := 7) rfl
                        have y_7 := L5.out.fr.free 7
                        have hfz : fb < w5.heap.size := L5.out.fr.lt
                        have hbz := L5.out.bel.size
                        obtain ⟨oa, oc, rfl, _, _, _⟩ := own_shape L6.out.own.own
                        have psl : ps.length ≤ 8 := by omega
                        go_wp2_with (at_builtin; refine wpList_append_lies _ rfl (.tmp 146) (.tmp 148) 24 rfl w1.heap.size 46 i0 _ 11 128 Tryz.underlying24 hi hz0 hz1 hz2 rfl (Nat.zero_lt_succ 10) (.slice oa ps.length oc) ps.length (odrow ps) rfl L6.out.own.own ⟨w5.heap.size + 1, 0, none⟩ 1 1 (opC q' (.slice d5a (q'.data).length d5c) (.slice s5a (q'.seen).length s5c)) rfl rfl ?c1 ?c2 (Nat.zero_lt_succ 0) ?c3 ?c4 ?c5 (w5.heap.size + 2) ?c6 ?_)
                        case c1 => (intro j u hu; unfold opC at hu; rcases j with _ | _ | _ | _ | _ | _ | _ | _ | _ | _ | _ | j <;> simp at hu <;> subst hu <;> simp [Addr.add, go_sem, *])
                        case c2 => simp [opC, Value.oneCell']
                        case c3 => unfold maxLen; omega
                        case c4 => omega
                        case c5 => simp; omega
                        case c6 => simp
                        intro g7 c7 w7 ho7 hg7 _ hg7l
                        have L7 := Lib.hid (L6.out.push hg7 ho7 rfl (D5.out.below LO2.out) (S5.out.below LO2.out))
                        have gc : Chg (fun k => (Value.slice oa ps.length oc).ownBlock = some k) ((w5.alloc (.cells #[.int .i64 (q').time, .int .i64 (q').node, .int .i64 (q').seq, .int .i64 (q').kind, .int .i64 (q').ot, .int .i64 (q').on, .int .i64 (q').pt, .int .i64 (q').pn, .string (q').name, .slice d5a (q'.data).length d5c, .slice s5a (q'.seen).length s5c] 46)).alloc (.cells #[.int .i64 (q').time, .int .i64 (q').node, .int .i64 (q').seq, .int .i64 (q').kind, .int .i64 (q').ot, .int .i64 (q').on, .int .i64 (q').pt, .int .i64 (q').pn, .string (q').name, .slice d5a (q'.data).length d5c, .slice s5a (q'.seen).length s5c] 46)) w7 := (Chg.refl _ _).grown hg7 (fun _ e _ => e)
                        have F7 := Lib.hid (gc.blk L6.out.fr (fun e => by obtain ⟨_, cs, hb⟩ := own_typ L6.out.own.own e; exact blk_ne hb (by decide) L6.out.fr))
                        clear gc ho7 hg7 f_7 y_7
                        have f_7 : ∃ u, w7.cell? ⟨fb, 7, none⟩ = some u := ⟨_, F7.out.cell (o := 7) rfl⟩
                        obtain ⟨u7', f_7⟩ := f_7
                        have y_7 := F7.out.free 7
                        have HNM2 : Hid (∀ y ∈ (ps ++ [(q', Value.slice d5a (q'.data).length d5c, Value.slice s5a (q'.seen).length s5c)]).map (·.1), y.name.size < 4294967281) := Lib.hid (by
                          intro y hy
                          rw [List.map_append, List.mem_append] at hy
                          rcases hy with hy | hy
                          · exact HNM.out y hy
                          · simp only [List.map_cons, List.map_nil, List.mem_singleton] at hy
                            subst hy
                            exact hdn)
                        have ST2 : Hid (midS (n8 - (i + 1)) (z.drop x) ((ps ++ [(q', Value.slice d5a (q'.data).length d5c, Value.slice s5a (q'.seen).length s5c)]).map (·.1)) = opsS n8 rest) := Lib.hid (by rw [← hm2.out, List.map_append]; exact ST.out)
                        have hpl7 : (ps ++ [(q', Value.slice d5a (q'.data).length d5c, Value.slice s5a (q'.seen).length s5c)]).length ≤ i + 1 := by rw [List.length_append]; simp only [List.length_cons, List.length_nil]; omega
                        have HPL7 := Lib.hid hpl7
                        have ZD := Lib.hid (ZB.out.drop x)
                        have zdl : (z.drop x).length = z.length - x := List.length_drop
                        have hzd0 : (z.drop x).length ≤ 1048576 := by rw [zdl]; omega
                        have ZL := Lib.hid hzd0
                        have RC := Lib.hid (fun a c h => rdv_cutF (a := a) (c := c) R4.out hxz rfl h)
                        rw [zdl] at RC
                        have ZDL := Lib.hid zdl
                        clear hpl7 LO LO2 L5 L6 F7 D5 S5 ST HNM MID LL QB hzd0 zdl hdn
                        go_upto_region 28 with fail
                        by_cases hpk : c4 = x
                        · subst hpk
                          have hz0 : Hid ((z.drop c4).length = 0) := Lib.hid (by rw [ZDL.out]; omega)
                          have RCE : Hid (Rdv u8v w1 (.slice (some ⟨b, o4, none⟩) 0 0) (z.drop c4)) := Lib.hid (by have h := RC.out (some ⟨b, o4, none⟩) 0 (.inr ⟨rfl, by omega⟩); rwa [show z.length - c4 = 0 by omega] at h)
                          go_wp2
                          go_roundw
                          case rel => exact ⟨i + 1, z.drop c4, o4, 0, _, _, by omega, by go_num, by rw [hz0.out], RCE.out, ZD.out, ZL.out, L7.out, ST2.out, HNM2.out, HPL7.out⟩
                          case measure => simp [intOf]; omega
                        · go_wp2
                          go_roundw
                          case rel => exact ⟨i + 1, z.drop x, o4 + x, c4 - x, _, _, by omega, by go_num, by rw [ZDL.out], RC.out _ _ (.inl ⟨rfl, rfl⟩), ZD.out, ZL.out, L7.out, ST2.out, HNM2.out, HPL7.out⟩
                          case measure => simp [intOf]; omega
                · obtain rfl : i = n8 := by omega
                  have ME : Hid (opsS i rest = some (ps.map (·.1), q)) := Lib.hid (by have := MID.out; rw [Nat.sub_self, midS_end] at this; exact this.symm)
                  have DE := Lib.hid (decP_end (l := p) (r := rest) (by rw [HR.out]) (by rw [HR.out]; exact h8) (by rw [HR.out]; exact ME.out))
                  rw [HR.out] at DE
                  have BE := Lib.hid (B1.out.trans (LL.out.bel.mono B1.out.size))
                  have RE := Lib.hid (blkBelow LL.out.bel R1.out hr1)
                  obtain ⟨oa, oc, rfl, _, _, _⟩ := own_shape LL.out.own.own
                  by_cases hq0 : q = []
                  rotate_left 1
                  · have hql0 : 0 < (q.length : Int) := by have := List.length_pos_iff.2 hq0; omega
                    obtain rfl : none = D := by have := DE.out.symm.trans DP.out; rwa [if_neg (fun h => hq0 h.1)] at this
                    have z_0 : wr.cell? ⟨w.heap.size, 0, none⟩ = some (.int .i64 0) := (RE.out).cell (o := 0) rfl
                    have z_1 : wr.cell? ⟨w.heap.size, 1, none⟩ = some (.int .i64 0) := (RE.out).cell (o := 1) rfl
                    have z_2 : wr.cell? ⟨w.heap.size, 2, none⟩ = some (.int .i64 0) := (RE.out).cell (o := 2) rfl
                    have z_3 : wr.cell? ⟨w.heap.size, 3, none⟩ = some (.int .i64 0) := (RE.out).cell (o := 3) rfl
                    have z_4 : wr.cell? ⟨w.heap.size, 4, none⟩ = some (.int .i64 0) := (RE.out).cell (o := 4) rfl
                    have z_5 : wr.cell? ⟨w.heap.size, 5, none⟩ = some (.bool false) := (RE.out).cell (o := 5) rfl
                    have z_6 : wr.cell? ⟨w.heap.size, 6, none⟩ = some (.slice none 0 0) := (RE.out).cell (o := 6) rfl
                    have z_7 : wr.cell? ⟨w.heap.size, 7, none⟩ = some (.slice none 0 0) := (RE.out).cell (o := 7) rfl
                    have yz_0 := (RE.out).free 0
                    have yz_1 := (RE.out).free 1
                    have yz_2 := (RE.out).free 2
                    have yz_3 := (RE.out).free 3
                    have yz_4 := (RE.out).free 4
                    have yz_5 := (RE.out).free 5
                    have yz_6 := (RE.out).free 6
                    have yz_7 := (RE.out).free 7
                    go_wp2
                    exact bodyPost_ret (v := .tuple #[.agg #[.int .i64 0, .int .i64 0, .int .i64 0, .int .i64 0, .int .i64 0, .bool false, .slice none 0 0, .slice none 0 0], .int .i64 74]) (by simp [results, Tryz.results11, go_sem, *] <;> rfl) rfl ⟨rfl, Chg.below_trans BE.out (chg8 _ w.heap.size _ _ _ _ _ _ _ _) (BE.out).size (fun i hi e => by omega)⟩
                  subst hq0
                  obtain ⟨F, hF⟩ : ∃ F : Frm, F = hdF ⟨n1, n2, n3, n4, n5, b6, v7, i, some rest⟩ (ps.map (·.1)) := ⟨_, rfl⟩
                  have KF := Lib.hid (fun w' (hb : Below wr.heap.size wr w') => framesMay F (.slice va v7.length vc) (.slice oa ps.length oc) w' (by rw [hF]; exact (LL.out.below hb).vk.rd) (by rw [hF]; exact (LL.out.below hb).own.rd) (by rw [hF]; exact HNM.out))
                  rw [← hF] at DE
                  have FD := Lib.hid hF
                  have fr_0 : wr.cell? ⟨fb, 0, none⟩ = some (.int .i64 n1) := LL.out.fr.cell (o := 0) rfl
                  have fr_1 : wr.cell? ⟨fb, 1, none⟩ = some (.int .i64 n2) := LL.out.fr.cell (o := 1) rfl
                  have fr_2 : wr.cell? ⟨fb, 2, none⟩ = some (.int .i64 n3) := LL.out.fr.cell (o := 2) rfl
                  have fr_3 : wr.cell? ⟨fb, 3, none⟩ = some (.int .i64 n4) := LL.out.fr.cell (o := 3) rfl
                  have fr_4 : wr.cell? ⟨fb, 4, none⟩ = some (.int .i64 n5) := LL.out.fr.cell (o := 4) rfl
                  have fr_5 : wr.cell? ⟨fb, 5, none⟩ = some (.bool b6) := LL.out.fr.cell (o := 5) rfl
                  have fr_6 : wr.cell? ⟨fb, 6, none⟩ = some (.slice va v7.length vc) := LL.out.fr.cell (o := 6) rfl
                  have fr_7 : wr.cell? ⟨fb, 7, none⟩ = some (.slice oa ps.length oc) := LL.out.fr.cell (o := 7) rfl
                  rw [hF] at KF
                  clear hF
                  go_wp2_with fail
                  have MF := Lib.hid (KF.out wr (Below.refl _ _))
                  refine MF.out.mono ?_
                  rintro e w9 ⟨rfl, hb9⟩
                  have L9 := Lib.hid (LL.out.below hb9)
                  have B9 := Lib.hid (BE.out.trans (hb9.mono BE.out.size))
                  have R9 := Lib.hid (blkBelow hb9 RE.out RE.out.lt)
                  clear hb9 MF KF fr_0 fr_1 fr_2 fr_3 fr_4 fr_5 fr_6 fr_7 LL BE RE
                  have z_0 : w9.cell? ⟨w.heap.size, 0, none⟩ = some (.int .i64 0) := (R9.out).cell (o := 0) rfl
                  have z_1 : w9.cell? ⟨w.heap.size, 1, none⟩ = some (.int .i64 0) := (R9.out).cell (o := 1) rfl
                  have z_2 : w9.cell? ⟨w.heap.size, 2, none⟩ = some (.int .i64 0) := (R9.out).cell (o := 2) rfl
                  have z_3 : w9.cell? ⟨w.heap.size, 3, none⟩ = some (.int .i64 0) := (R9.out).cell (o := 3) rfl
                  have z_4 : w9.cell? ⟨w.heap.size, 4, none⟩ = some (.int .i64 0) := (R9.out).cell (o := 4) rfl
                  have z_5 : w9.cell? ⟨w.heap.size, 5, none⟩ = some (.bool false) := (R9.out).cell (o := 5) rfl
                  have z_6 : w9.cell? ⟨w.heap.size, 6, none⟩ = some (.slice none 0 0) := (R9.out).cell (o := 6) rfl
                  have z_7 : w9.cell? ⟨w.heap.size, 7, none⟩ = some (.slice none 0 0) := (R9.out).cell (o := 7) rfl
                  have yz_0 := (R9.out).free 0
                  have yz_1 := (R9.out).free 1
                  have yz_2 := (R9.out).free 2
                  have yz_3 := (R9.out).free 3
                  have yz_4 := (R9.out).free 4
                  have yz_5 := (R9.out).free 5
                  have yz_6 := (R9.out).free 6
                  have yz_7 := (R9.out).free 7
                  rw [← FD.out]
                  have DE2 : Hid ((if fMayB F = true then some F else none) = D) := Lib.hid (by rw [← DP.out, DE.out]; simp)
                  clear DE
                  cases hfm : fMayB F
                  · obtain rfl : none = D := by have := DE2.out; rw [hfm] at this; simpa using this
                    go_wp2
                    exact bodyPost_ret (v := .tuple #[.agg #[.int .i64 0, .int .i64 0, .int .i64 0, .int .i64 0, .int .i64 0, .bool false, .slice none 0 0, .slice none 0 0], .int .i64 74]) (by simp [results, Tryz.results11, go_sem, *] <;> rfl) rfl ⟨rfl, Chg.below_trans B9.out (chg8 _ w.heap.size _ _ _ _ _ _ _ _) (B9.out).size (fun i hi e => by omega)⟩
                  · obtain rfl : some F = D := by have := DE2.out; rw [hfm] at this; simpa using this
                    clear DE2
                    have fr_0 : w9.cell? ⟨fb, 0, none⟩ = some (.int .i64 n1) := L9.out.fr.cell (o := 0) rfl
                    have fr_1 : w9.cell? ⟨fb, 1, none⟩ = some (.int .i64 n2) := L9.out.fr.cell (o := 1) rfl
                    have fr_2 : w9.cell? ⟨fb, 2, none⟩ = some (.int .i64 n3) := L9.out.fr.cell (o := 2) rfl
                    have fr_3 : w9.cell? ⟨fb, 3, none⟩ = some (.int .i64 n4) := L9.out.fr.cell (o := 3) rfl
                    have fr_4 : w9.cell? ⟨fb, 4, none⟩ = some (.int .i64 n5) := L9.out.fr.cell (o := 4) rfl
                    have fr_5 : w9.cell? ⟨fb, 5, none⟩ = some (.bool b6) := L9.out.fr.cell (o := 5) rfl
                    have fr_6 : w9.cell? ⟨fb, 6, none⟩ = some (.slice va v7.length vc) := L9.out.fr.cell (o := 6) rfl
                    have fr_7 : w9.cell? ⟨fb, 7, none⟩ = some (.slice oa ps.length oc) := L9.out.fr.cell (o := 7) rfl
                    have FIN := Lib.hid (fun w' (g : Chg (· = w.heap.size) w9 w') => (by
                      have e8 : 5 ≠ 26 := by decide
                      have e64 : 2 ≠ 26 := by decide
                      have eo : 46 ≠ 26 := by decide
                      have hK : ∀ k, k = w.heap.size → 0 ≤ k ∧ (∀ cs, ¬ Blk w9 k cs 5) ∧ (∀ cs, ¬ Blk w9 k cs 2) ∧ ∀ cs, ¬ Blk w9 k cs 46 := by
                        rintro k rfl
                        exact ⟨Nat.zero_le _, fun _ => blk_ne R9.out (Ne.symm e8), fun _ => blk_ne R9.out (Ne.symm e64), fun _ => blk_ne R9.out (Ne.symm eo)⟩
                      exact ⟨.slice va v7.length vc, .slice oa ps.length oc, by rw [FD.out]; rfl, by rw [FD.out]; exact (L9.out.vk.chg g (fun k hk => ⟨(hK k hk).1, (hK k hk).2.2.1⟩)).rd, by rw [FD.out]; exact (L9.out.own.chg g hK).rd, g.below_trans B9.out B9.out.size (fun i hi e => by omega)⟩ : ∃ v o, Ending.returned (.tuple #[.agg #[.int .i64 n1, .int .i64 n2, .int .i64 n3, .int .i64 n4, .int .i64 n5, .bool b6, .slice va v7.length vc, .slice oa ps.length oc], .int .i64 0]) = .returned (.tuple #[.agg #[.int .i64 (F).kind, .int .i64 (F).src, .int .i64 (F).dst, .int .i64 (F).sess, .int .i64 (F).seq, .bool (F).last, v, o], .int .i64 0]) ∧ Rdv i64v w' v F.vec ∧ OpsRd w' o F.ops ∧ Below w.heap.size w w'))
                    go_wp2
                    exact bodyPost_ret (v := .tuple #[.agg #[.int .i64 n1, .int .i64 n2, .int .i64 n3, .int .i64 n4, .int .i64 n5, .bool b6, .slice va v7.length vc, .slice oa ps.length oc], .int .i64 0]) (by simp [results, Tryz.results11, go_sem, *] <;> rfl) rfl (FIN.out _ (chg8 _ _ _ _ _ _ _ _ _ _))
end Go.Proofs.YthbalmoafpggdaaGreat
