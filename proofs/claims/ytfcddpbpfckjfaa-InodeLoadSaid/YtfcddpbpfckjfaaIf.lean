/- An inode's bytes are read. -/
import Derived.Test.YtfcddpbpfckjfaaChecked
import Derived.WalkKit
import Derived.Outline
import Derived.WalkSpells
import Derived.WalkLawsBesides
import Derived.Deep.QuietTactic
import Derived.Deep.RegionWith
import Derived.Deep.DeepMust
import Derived.BigQuiet
import Derived.Test.YtfcddpbpfckjfaaMem
import Derived.RegionTactic
import Derived.ChangeAlike
import Derived.StillTailTactics
import Derived.BigRegion
import Derived.Deep.LoopGhost
import Derived.Deep.RegionHeld3
import Derived.Deep.OwnRows
import Derived.Test.YtfcddpbpfckjfaaIe
namespace Go.Proofs.Ytfcddpbpfckjfaa
open Go.RowKit
set_option linter.unusedVariables false
set_option linter.unusedSimpArgs false
theorem DiskA.below {w w' : World} {vb b g cb mb hb : Nat} {ls : List (List Int)} {l : List Int} {t hits used : Int} {d : Bool} (h : DiskA w vb b g cb mb hb ls l t hits used d) (hb' : Below w.heap.size w w') : DiskA w' vb b g cb mb hb ls l t hits used d :=
  ⟨h.cch.below hb', h.held.stay (Chg.of_below (S := fun _ => False) hb' (fun i h1 h2 => absurd h1 (Nat.not_lt.2 h2))) (fun k hk => hk.elim), h.vol.below hb', h.len, h.blk⟩
theorem eachCall (args : Array Value) (w : World) : (callFunc 67 args).run Try.prog w = .ok (.enter 67 args) w := by kernel_rfl
def IReadPost (vb cb mb hb : Nat) (l : List Int) (d : Bool) (t hits : Int) (w : World) (e : Ending) (w' : World) : Prop :=
  ∃ v, e = .returned (.tuple #[v, .int .i64 0]) ∧ Rdv u8v w' v ((l.drop 187).take 4) ∧ CchS w' vb cb mb (some (1, hb)) (t + 1) (hits + 1) 0 ∧ HeldAt w' hb 1 l (t + 1) d ∧ Chg (cS3 cb hb) w w'
set_option maxHeartbeats 1000000 in
set_option maxRecDepth 100000 in
theorem inoRead {w : World} {nb x0 x2 x3 x4 x5 x6 x7 : Nat} {vb b g cb mb hb : Nat} {ls : List (List Int)} {l : List Int} {t hits used : Int} {d : Bool} (h : Blk w nb (inoC 703 x0 1 x2 x3 x4 x5 x6 x7 0 0) 110) (hD : DiskA w vb b g cb mb hb ls l t hits used d)
    (hl : l.length = 512) (ht : 0 ≤ t ∧ t ≤ 1000) (hh : 0 ≤ hits ∧ hits ≤ 1000) :
    Calls Try.prog 45 #[.pointer (some ⟨nb, 0, none⟩), .pointer (some ⟨cb, 0, none⟩), .int .i64 699, .int .i64 10] w (IReadPost vb cb mb hb l d t hits w) := by
  have c0 : w.cell? ⟨nb, 0, none⟩ = some (.int .i64 703) := h.cell (o := 0) rfl
  have KB := Lib.hid (inoBegin h (.pointer (some ⟨cb, 0, none⟩)) (.pointer none) _ _ rfl rfl)
  have KN : Hid (∀ w, Calls Try.prog 59 #[.int .i64 703] w fun e w' => e = .returned (.int .i64 2) ∧ w = w') := Lib.hid (fun w => inoBlocks 703 w (by omega) (by omega))
  have HD := Lib.hid hD
  have HL := Lib.hid hl
  have hmf : ∀ (fn : Fn) (first cap : Array Value) (w : World), (Instr.makeFunc fn first cap).run Try.prog w = .ok (.func fn first cap) w := fun _ _ _ _ => rfl
  have hcl := Blk.lt hD.cch.1
  have hhl := hD.held.plain
  clear h hD hl
  go_enter Try.func45, Try.ntmps45
  go_wp2_with fail
  refine KB.out.mono ?_
  rintro e w1 ⟨wb, t1, z1, t2, z2, t3, z3, rb, rc, rfl, hs, hW, hb1⟩
  have D1 := Lib.hid (HD.out.below hb1)
  have W1 := Lib.hid hW.blk
  have B1 := Lib.hid hb1
  have hz1 := hb1.size
  clear hW hb1 c0 KB
  go_wp2_with fail
  refine (KN.out _).mono ?_
  rintro e w2 ⟨rfl, rfl⟩
  have R2 := Lib.hid (Blk.new w1 #[.pointer (some ⟨wb, 0, none⟩), .slice none 0 0] 121)
  have W2 := Lib.hid (W1.out.alloc (.cells #[.pointer (some ⟨wb, 0, none⟩), .slice none 0 0] 121))
  have ba := (Below.refl w1.heap.size w1).alloc (Nat.le_refl _) (.cells #[.pointer (some ⟨wb, 0, none⟩), .slice none 0 0] 121)
  have D2 := Lib.hid (D1.out.below ba)
  have B2 := Lib.hid (B1.out.trans (ba.mono hz1))
  obtain ⟨rr, hrr⟩ : ∃ rr : Nat, w1.heap.size = rr := ⟨_, rfl⟩
  generalize w1.alloc (.cells #[.pointer (some ⟨wb, 0, none⟩), .slice none 0 0] 121) = w2 at *
  rw [hrr] at R2
  (try rw [hrr])
  have hhb : hb < w.heap.size := by
    obtain ⟨bv, h1, _⟩ := HD.out.held
    exact h1.lt
  have hrne : rr ≠ cb ∧ rr ≠ hb := by omega
  have KT := Lib.hid (eachStep 67 #[.pointer (some ⟨rr, 0, none⟩)] (fun w' => TakePost vb cb mb hb rr wb l d t hits w2 (.returned (.int .i64 0)) w') eachCall ((inoTake1 R2.out W2.out D2.out HL.out ht hh hrne).mono fun e w' h => ⟨h.1, rfl, h.2⟩))
  clear W1 D1 B1 ba KN
  go_wp2_with fail
  refine KT.out.mono ?_
  rintro e w3 ⟨rfl, _, v, hR, hv, hC, hH, hg⟩
  obtain ⟨va, vn, vc, rfl⟩ := hv.shape
  obtain ⟨hvn, hv1, hv2, hv3⟩ := hv.cap
  obtain rfl : vn = 512 := by rw [hvn, HL.out]
  obtain ⟨pb, po, rfl⟩ := hv3 (by intro e; have := HL.out; rw [e] at this; simp at this)
  have V3 := Lib.hid hv
  have C3 := Lib.hid hC
  have H3 := Lib.hid hH
  have G3 := Lib.hid hg
  have c1 : w3.cell? ⟨rr, 1, none⟩ = some (.slice (some ⟨pb, po, none⟩) 512 vc) := hR.cell (o := 1) rfl
  have k1 : (512 : Int) ≤ vc := by omega
  have KC0 := cloneC _ _ w3 ((hv.drop 187 (by omega)).take 4 (vc - 187) (by omega) (by omega) (by omega)) (by rw [List.length_take]; omega)
  obtain ⟨l4, hl4⟩ : ∃ l4, (l.drop 187).take 4 = l4 := ⟨_, rfl⟩
  rw [hl4] at KC0
  have KC := Lib.hid KC0
  have HL4 := Lib.hid hl4
  clear hl4 KC0
  clear hv hC hH hg hvn hR KT
  go_wp2_with fail
  refine KC.out.mono ?_
  rintro e w4 ⟨v, rfl, ho, hb4⟩
  obtain ⟨oa, oc, rfl, _, _, _⟩ := own_shape ho
  have O4 := Lib.hid (Rdv.of_owns ho)
  have C4 := Lib.hid (C3.out.below hb4)
  have H4 := Lib.hid (H3.out.stay (Chg.of_below (S := fun _ => False) hb4 (fun i h1 h2 => absurd h1 (Nat.not_lt.2 h2))) (fun k hk => hk.elim))
  have hw2 := B2.out.size
  have G4 : Hid (Chg (cS3 cb hb) w w4) := Lib.hid (((Chg.of_below (S := cS3 cb hb) B2.out (fun i h1 h2 => absurd h1 (Nat.not_lt.2 h2))).trans' G3.out (fun i h1 h2 => by
    rcases h2 with rfl | rfl | rfl
    · exact .inl rfl
    · exact .inr rfl
    · omega)).trans (Chg.of_below hb4 (fun i h1 h2 => absurd h1 (Nat.not_lt.2 h2))))
  clear ho hb4 KC
  go_wp2
  go_ret2
  exact ⟨_, rfl, HL4.out ▸ O4.out, C4.out, H4.out, G4.out⟩
end Go.Proofs.Ytfcddpbpfckjfaa
