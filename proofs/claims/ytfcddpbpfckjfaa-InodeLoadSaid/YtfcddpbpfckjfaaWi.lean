/- A volume of zeros is laid on a device of zeros. -/
import Derived.Test.YtfcddpbpfckjfaaChecked
import Derived.WalkKit
import Derived.Outline
import Derived.WalkSpells
import Derived.WalkLawsBesides
import Derived.Deep.QuietTactic
import Derived.Deep.RegionWith
import Derived.Deep.DeepMust
import Derived.BigQuiet
import Derived.Test.YtfcddpbpfckjfaaMem
import Derived.RegionTactic
import Derived.ChangeAlike
import Derived.StillTailTactics
import Derived.BigRegion
import Derived.Deep.LoopGhost
import Derived.Deep.RegionHeld3
import Derived.Deep.OwnRows
import Derived.Test.YtfcddpbpfckjfaaWh
namespace Go.Proofs.Ytfcddpbpfckjfaa
open Go.RowKit
set_option linter.unusedVariables false
set_option linter.unusedSimpArgs false
theorem wZeros (w : World) (n : Nat) (hn : n ≤ maxLen) : Rdv u8v (w.alloc (.cells (madeCells #[.int .u8 0] n) 5)) (.slice (some ⟨w.heap.size, 0, none⟩) n n) (List.replicate n 0) := by
  have h0 := Blk.new w (madeCells #[.int .u8 0] n) 5
  have e : madeCells #[Value.int .u8 0] n = ((List.replicate n (0 : Int)).map u8v).toArray := by
    apply Array.toList_inj.1; rw [toList_madeCells_one]; simp
  rw [e] at h0
  have := Rdv.of_blk (enc := u8v) h0 (by rw [List.length_replicate]; exact hn)
  rw [List.length_replicate, ← e] at this
  exact this
theorem wMk512 (w' : World) : (Instr.makeSlice 48 (.int .i64 512) (.int .i64 512)).run Try.prog w' = .ok (.slice (some ⟨w'.heap.size, 0, none⟩) 512 512) (w'.alloc (.cells (madeCells #[.int .u8 0] 512) 5)) := run_make_row' (P := Try.prog) 48 5 (.int .u8 0) 1 Try.underlying48 Try.info5 rfl .i64 .i64 512 (by omega) (by omega) w'
abbrev zB : List Int := List.replicate 512 0
def FormatPost (b u : Nat) (bs : List (List Int)) (co : Int) (w : World) (e : Ending) (w' : World) : Prop :=
  e = .returned (.int .i64 0) ∧ DevC w' b u (bs.set 0 (headL 0 0)) (co + 4) true ∧ Chg (dvS b u) w w'
theorem fmtS {w w' : World} {b u zb : Nat} {bs : List (List Int)} {co : Int} {fl : Bool} (hD : DevC w b u bs co fl) (hz : Rdv u8v w (.slice (some ⟨zb, 0, none⟩) 512 512) zB) (hc : Chg (dvS b u) w w') : Rdv u8v w' (.slice (some ⟨zb, 0, none⟩) 512 512) zB :=
  hz.stay hc (fun k hk => by rcases hk with rfl | rfl; exact hD.plain.1; exact hD.plain.2)
set_option maxHeartbeats 2000000 in
set_option maxRecDepth 100000 in
theorem walFormat {w : World} {b u n m : Nat} {co : Int} (hD : DevC w b u (List.replicate n zB) co true) (hm : roomN n = m) (hm1 : 1 ≤ m) (hco : 0 ≤ co ∧ co < 1000000) :
    Calls Try.prog 82 #[.pointer (some ⟨b, 0, none⟩)] w (FormatPost b u (List.replicate n zB) co w) := by
  have hmk := wMk512
  have hnl : 8 + 4 * m ≤ n := by
    unfold roomN at hm
    split at hm <;> omega
  have hn := hD.len
  rw [List.length_replicate] at hn
  have KM := walRoom hD
  rw [List.length_replicate, hm] at KM
  have KM0 := Lib.hid KM
  have hlt := hD.lt
  have HD := Lib.hid hD
  have m0 : (1 : Int) ≤ m := by omega
  have D1 := Lib.hid (hD.below ((Below.refl w.heap.size w).alloc (Nat.le_refl _) (.cells (madeCells #[.int .u8 0] 512) 5)))
  have Z1 := Lib.hid (wZeros w 512 (by unfold maxLen; omega))
  have C1 := Lib.hid ((Chg.refl (dvS b u) w).alloc (.cells (madeCells #[.int .u8 0] 512) 5))
  have HM := Lib.hid hm
  clear hD KM hm
  go_enter Try.func82, Try.ntmps82
  go_wp2_with (go_at_call 104; refine KM0.out.mono ?_; rintro e w' ⟨rfl, rfl⟩)
  obtain ⟨zb, hzb⟩ : ∃ zb : Nat, w.heap.size = zb := ⟨_, rfl⟩
  generalize hW : w.alloc (.cells (madeCells #[.int .u8 0] 512) 5) = W at *
  rw [hzb] at Z1
  (try rw [hzb])
  clear hW hmk KM0
  have hm0 : ((m : Int) == 0) = false := beq_eq_false_iff_ne.2 (by omega)
  (try rw [hm0])
  have REL : Hid (∀ wr, Below W.heap.size W wr → DevC wr b u (List.replicate n zB) co true ∧ Rdv u8v wr (.slice (some ⟨zb, 0, none⟩) 512 512) zB ∧ Chg (dvS b u) w wr) := Lib.hid (fun wr h => ⟨D1.out.below h, Z1.out.below h, C1.out.trans' (S' := fun _ => False) (Chg.of_below h (fun i h1 h2 => absurd h1 (Nat.not_lt.2 h2))) (fun _ _ e => e.elim)⟩)
  have KS : Hid (∀ wr, Below W.heap.size W wr → ∀ i : Nat, i < n → Calls Try.prog 105 #[.pointer (some ⟨b, 0, none⟩), .int .i64 i, .slice (some ⟨zb, 0, none⟩) 512 512] wr (WroteSame b u (List.replicate n zB) co true wr)) := Lib.hid (fun wr h i hi => by
    obtain ⟨h1, h2, _⟩ := REL.out wr h
    refine walSame h1 i (by rw [List.length_replicate]; exact hi) _ ?_
    rw [List.getElem_replicate]
    exact h2)
  go_loopw [4, 5, 15] (fun _ _ iv wr => ∃ i : Nat, i ≤ 2 ∧ iv = .int .i64 i ∧ Below W.heap.size W wr) (fun _ _ iv _ => 2 - (intOf iv).toNat)
  case atStart => exact ⟨0, by omega, rfl, Below.refl _ _⟩
  case round =>
    obtain ⟨i, hi, rfl, hB⟩ := hrel
    by_cases hlt2 : i < 2
    · have K := Lib.hid (KS.out wr hB i (by omega))
      have B1 := Lib.hid hB
      clear hB
      have k1 : (0 : Int) ≤ i := by omega
      have k2 : (i : Int) < 2 := by omega
      go_wp2_with (go_at_call 105; refine K.out.mono ?_; rintro e w2 ⟨rfl, _, hb2⟩)
      have B2 := Lib.hid (B1.out.trans (hb2.mono B1.out.size))
      go_wp2
      go_roundw
      case rel => exact ⟨i + 1, by omega, by go_num, B2.out⟩
      case measure => simp [intOf]; omega
    · obtain rfl : i = 2 := by omega
      obtain ⟨hD2, hZ2, hC2⟩ := REL.out wr hB
      have KF := Lib.hid (dcFlush hD2 (by omega))
      have D2 := Lib.hid hD2
      have Z2 := Lib.hid hZ2
      have C2 := Lib.hid hC2
      clear hD2 hZ2 hC2 hB KS REL D1 Z1 C1
      go_wp2_with (go_at_call 106; refine KF.out.mono ?_; rintro e w2 ⟨rfl, hD3, hC3⟩)
      have Z3 := Lib.hid (fmtS D2.out Z2.out hC3)
      have C3 := Lib.hid (C2.out.trans hC3)
      have D3 := Lib.hid hD3
      have KM := walRoom hD3
      rw [List.length_replicate, HM.out] at KM
      have KM2 := Lib.hid KM
      clear hC3 hD3 KM D2 Z2 C2 KF
      go_wp2_with (go_at_call 104; refine KM2.out.mono ?_; rintro e w3 ⟨rfl, rfl⟩)
      have REL : Hid (∀ wr, Below w2.heap.size w2 wr → DevC wr b u (List.replicate n zB) (co + 1) true ∧ Rdv u8v wr (.slice (some ⟨zb, 0, none⟩) 512 512) zB ∧ Chg (dvS b u) w wr) := Lib.hid (fun wr h => ⟨D3.out.below h, Z3.out.below h, C3.out.trans' (S' := fun _ => False) (Chg.of_below h (fun i h1 h2 => absurd h1 (Nat.not_lt.2 h2))) (fun _ _ e => e.elim)⟩)
      have KS : Hid (∀ wr, Below w2.heap.size w2 wr → ∀ i : Nat, i < n → Calls Try.prog 105 #[.pointer (some ⟨b, 0, none⟩), .int .i64 i, .slice (some ⟨zb, 0, none⟩) 512 512] wr (WroteSame b u (List.replicate n zB) (co + 1) true wr)) := Lib.hid (fun wr h i hi => by
        obtain ⟨h1, h2, _⟩ := REL.out wr h
        refine walSame h1 i (by rw [List.length_replicate]; exact hi) _ ?_
        rw [List.getElem_replicate]
        exact h2)
      clear D3 Z3 C3 KM2
      go_loopw [7, 8, 33] (fun _ _ iv wr => ∃ i : Nat, i ≤ m ∧ iv = .int .i64 i ∧ Below w2.heap.size w2 wr) (fun _ _ iv _ => m - (intOf iv).toNat)
      case atStart => exact ⟨0, by omega, rfl, Below.refl _ _⟩
      case round =>
        obtain ⟨i, hi, rfl, hB⟩ := hrel
        by_cases hlt2 : i < m
        · have K := KS.out wr hB (8 + i) (by omega)
          have K2 := Lib.hid (show Calls Try.prog 105 #[.pointer (some ⟨b, 0, none⟩), .int .i64 (8 + (i : Int)), .slice (some ⟨zb, 0, none⟩) 512 512] wr (WroteSame b u (List.replicate n zB) (co + 1) true wr) from by rw [show (8 + (i : Int)) = ((8 + i : Nat) : Int) by omega]; exact K)
          have B1 := Lib.hid hB
          clear hB K
          have k1 : (0 : Int) ≤ i := by omega
          have k2 : (i : Int) < m := by omega
          have k3 : (m : Int) ≤ 65536 := by omega
          go_wp2_with (go_at_call 105; refine K2.out.mono ?_; rintro e w3 ⟨rfl, _, hb2⟩)
          have B2 := Lib.hid (B1.out.trans (hb2.mono B1.out.size))
          go_wp2
          go_roundw
          case rel => exact ⟨i + 1, by omega, by go_num, B2.out⟩
          case measure => simp [intOf]; omega
        · obtain rfl : i = m := by omega
          obtain ⟨hD2, hZ2, hC2⟩ := REL.out wr hB
          have KF := Lib.hid (dcFlush hD2 (by omega))
          have C2 := Lib.hid hC2
          clear hD2 hZ2 hC2 hB KS REL
          have KH := Lib.hid (fun w => walHead 0 0 w (by omega) (by omega))
          go_wp2_with (go_at_call 106; refine KF.out.mono ?_; rintro e w3 ⟨rfl, hD3, hC3⟩)
          have C3 := Lib.hid (C2.out.trans hC3)
          have D3 := Lib.hid hD3
          clear hC3 hD3 KF C2
          go_wp2_with (go_at_call 108; refine (KH.out _).mono ?_; rintro e w4 ⟨v4, rfl, ho4, hb4⟩)
          obtain ⟨va, vc, rfl, _, _, _⟩ := own_shape ho4
          have hi0 : 0 < (List.replicate n zB).length := by rw [List.length_replicate]; omega
          have KW := Lib.hid (dcWrite (D3.out.below hb4) 0 hi0 _ (headL 0 0) (Rdv.of_owns ho4) (headL_len 0 0) (headL_byt 0 0) (by omega))
          have C4 := Lib.hid (C3.out.trans' (S' := fun _ => False) (Chg.of_below hb4 (fun i h1 h2 => absurd h1 (Nat.not_lt.2 h2))) (fun _ _ e => e.elim))
          clear ho4 hb4 D3 C3
          go_wp2_with (go_at_call 107; refine KW.out.mono ?_; rintro e w5 ⟨rfl, hD5, hC5⟩)
          have KF := Lib.hid (dcFlush hD5 (by omega))
          have C5 := Lib.hid (C4.out.trans hC5)
          clear hD5 hC5 C4 KW
          go_wp2_with (go_at_call 106; refine KF.out.mono ?_; rintro e w6 ⟨rfl, hD6, hC6⟩)
          have C6 := Lib.hid ((C5.out.trans hC6).alloc (.cells #[.int .i64 0, .int .i64 0, .int .i64 0] 23))
          have D6 := Lib.hid (hD6.below ((Below.refl w6.heap.size w6).alloc (Nat.le_refl _) (.cells #[.int .i64 0, .int .i64 0, .int .i64 0] 23)))
          have F6 := Lib.hid (Blk.new w6 #[.int .i64 0, .int .i64 0, .int .i64 0] 23)
          clear hD6 hC6 C5 KF KH
          go_wp2
          obtain ⟨fb, hfb⟩ : ∃ fb : Nat, w6.heap.size = fb := ⟨_, rfl⟩
          generalize hW : w6.alloc (.cells #[.int .i64 0, .int .i64 0, .int .i64 0] 23) = W6 at *
          rw [hfb] at F6
          (try rw [hfb])
          clear hW hfb
          go_loopw [10, 54] (fun _ iv wr => ∃ i : Nat, i ≤ 3 ∧ iv = .int .i64 i ∧ wr = W6) (fun _ iv _ => 3 - (intOf iv).toNat)
          case atStart => exact ⟨0, by omega, rfl, rfl⟩
          case round =>
            obtain ⟨j, hj, rfl, rfl⟩ := hrel
            by_cases hlt3 : j < 3
            · have c : wr.cell? ⟨fb, j, none⟩ = some (.int .i64 0) := F6.out.cell (by rcases (show j = 0 ∨ j = 1 ∨ j = 2 by omega) with rfl | rfl | rfl <;> rfl)
              go_wp2
              go_roundw
              case rel => exact ⟨j + 1, by omega, by go_num, trivial⟩
              case measure => simp [intOf]; omega
            · obtain rfl : j = 3 := by omega
              go_wp2
              go_ret
              exact ⟨rfl, by have := D6.out; rwa [show co + 1 + 1 + 1 + 1 = co + 4 by omega] at this, C6.out⟩
end Go.Proofs.Ytfcddpbpfckjfaa
