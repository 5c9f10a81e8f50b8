/- A volume is mounted. -/
import Derived.Test.YtfcddpbpfckjfaaChecked
import Derived.WalkKit
import Derived.Outline
import Derived.WalkSpells
import Derived.WalkLawsBesides
import Derived.Deep.QuietTactic
import Derived.Deep.RegionWith
import Derived.Deep.DeepMust
import Derived.BigQuiet
import Derived.Test.YtfcddpbpfckjfaaMem
import Derived.RegionTactic
import Derived.ChangeAlike
import Derived.StillTailTactics
import Derived.BigRegion
import Derived.Deep.LoopGhost
import Derived.Deep.RegionHeld3
import Derived.Deep.OwnRows
import Derived.Test.YtfcddpbpfckjfaaWg
namespace Go.Proofs.Ytfcddpbpfckjfaa
open Go.RowKit
set_option linter.unusedVariables false
set_option linter.unusedSimpArgs false
/-- A volume that is mounted: its blocks, how often it was kept, its commits. -/
def VolAt (w : World) (vb b g : Nat) (ls : List (List Int)) (kept c : Nat) (ch : Bool) : Prop :=
  VolB w vb b (.slice (some ⟨g, 0, none⟩) ls.length ls.length) kept c ch false ∧ RowsAt w g ls
theorem VolAt.stay {S : Nat → Prop} {w w' : World} {vb b g : Nat} {ls : List (List Int)} {kept c : Nat} {ch : Bool} (h : VolAt w vb b g ls kept c ch) (hc : Chg S w w') (hs : ∀ k, S k → Plain w k ∧ k ≠ vb ∧ k ≠ g) : VolAt w' vb b g ls kept c ch :=
  ⟨hc.blk h.1 (fun e => (hs _ e).2.1 rfl), h.2.stay hc (fun k hk => ⟨(hs k hk).1, (hs k hk).2.2⟩)⟩
theorem VolAt.below {w w' : World} {vb b g : Nat} {ls : List (List Int)} {kept c : Nat} {ch : Bool} (h : VolAt w vb b g ls kept c ch) (hb : Below w.heap.size w w') : VolAt w' vb b g ls kept c ch :=
  h.stay (S := fun _ => False) (Chg.of_below hb (fun i h1 h2 => absurd h1 (Nat.not_lt.2 h2))) (fun k hk => hk.elim)
theorem walLarge {w : World} {vb b u : Nat} {l : Value} {kept c : Int} {bs : List (List Int)} {co : Int} {fl : Bool} (hV : VolB w vb b l kept c false false) (hD : DevC w b u bs co fl) (hm : 1 ≤ roomN bs.length) :
    Calls Try.prog 109 #[.pointer (some ⟨vb, 0, none⟩)] w fun e w' => e = .returned (.int .i64 0) ∧ w = w' := by
  have c0 : w.cell? ⟨vb, 0, none⟩ = some (.pointer (some ⟨b, 0, none⟩)) := Blk.cell hV (o := 0) rfl
  have KM := Lib.hid (walRoom hD)
  generalize roomN bs.length = m at *
  have m1 : (1 : Int) ≤ m := by omega
  go_enter Try.func109, Try.ntmps109
  go_wp2_with (go_at_call 104; refine KM.out.mono ?_; rintro e w' ⟨rfl, rfl⟩)
  go_ret
  exact ⟨rfl, rfl⟩
theorem walAlive {w : World} {vb b u : Nat} {l : Value} {kept c : Int} {bs : List (List Int)} {co : Int} {fl : Bool} (hV : VolB w vb b l kept c false false) (hD : DevC w b u bs co fl) :
    Calls Try.prog 110 #[.pointer (some ⟨vb, 0, none⟩)] w fun e w' => e = .returned (.int .i64 0) ∧ w = w' := by
  have c0 : w.cell? ⟨vb, 0, none⟩ = some (.pointer (some ⟨b, 0, none⟩)) := Blk.cell hV (o := 0) rfl
  have KM := Lib.hid (dcDead hD)
  go_enter Try.func110, Try.ntmps110
  go_wp2_with (go_at_call 125; refine KM.out.mono ?_; rintro e w' ⟨rfl, rfl⟩)
  go_ret
  exact ⟨rfl, rfl⟩
def mntS (vb b m kept c B : Nat) (ls : List (List Int)) : Nat → World → Prop
  | 0 => fun wr => VolB wr vb b (.slice none 0 0) 0 0 false false
  | 1 => fun wr => VolB wr vb b (.slice none 0 0) 0 0 false false
  | 2 => fun wr => VolB wr vb b (.slice none 0 0) 0 0 false false
  | 3 => fun wr => VolB wr vb b (.slice none 0 0) kept c false false
  | _ => fun wr => ∃ g, B ≤ g ∧ VolB wr vb b (.slice (some ⟨g, 0, none⟩) m m) kept c false false ∧ RowsAt wr g ls
def MountPost (b : Nat) (ls : List (List Int)) (kept c : Nat) (w : World) (e : Ending) (w' : World) : Prop :=
  ∃ vb g : Nat, e = .returned (.tuple #[.pointer (some ⟨vb, 0, none⟩), .int .i64 0]) ∧ w.heap.size ≤ vb ∧ w.heap.size ≤ g ∧ VolAt w' vb b g ls kept c false ∧ Below w.heap.size w w'
theorem wCall (k : FuncId) (hk : k = 109 ∨ k = 110 ∨ k = 111 ∨ k = 112) (args : Array Value) (w : World) : (callFunc k args).run Try.prog w = .ok (.enter k args) w := by
  rcases hk with rfl | rfl | rfl | rfl <;> kernel_rfl
set_option maxHeartbeats 2000000 in
set_option maxRecDepth 100000 in
theorem walMount {w : World} {b u m kept c : Nat} {bs : List (List Int)} {co : Int} {fl : Bool} {h0 h1 : HdK} (hD : DevC w b u bs co fl)
    (e0 : bs[0]? = some (hdL h0)) (e1 : bs[1]? = some (hdL h1)) (o0 : HdOk h0) (o1 : HdOk h1) (hacc : accH h0 h1 2 = ((kept : Int), (c : Int)))
    (hm : roomN bs.length = m) (hm1 : 1 ≤ m) :
    Calls Try.prog 83 #[.pointer (some ⟨b, 0, none⟩)] w (MountPost b (sideL bs kept m) kept c w) := by
  have hmf : ∀ (fn : Fn) (first cap : Array Value) (w : World), (Instr.makeFunc fn first cap).run Try.prog w = .ok (.func fn first cap) w := fun _ _ _ _ => rfl
  have hcf := wCall
  have hlt := hD.lt
  have HD := Lib.hid hD
  go_enter Try.func83, Try.ntmps83
  go_wp2
  have hV0 : VolB ((w.alloc (.cells #[.pointer (some ⟨b, 0, none⟩), .slice none 0 0, .int .i64 0, .int .i64 0, .bool false, .bool false] 188)).alloc (.cells #[.func (.func 109) #[.pointer (some ⟨w.heap.size, 0, none⟩)] #[], .func (.func 110) #[.pointer (some ⟨w.heap.size, 0, none⟩)] #[], .func (.func 111) #[.pointer (some ⟨w.heap.size, 0, none⟩)] #[], .func (.func 112) #[.pointer (some ⟨w.heap.size, 0, none⟩)] #[]] 162)) w.heap.size b (.slice none 0 0) 0 0 false false := (Blk.new w _ _).alloc _
  have hF0 : Blk ((w.alloc (.cells #[.pointer (some ⟨b, 0, none⟩), .slice none 0 0, .int .i64 0, .int .i64 0, .bool false, .bool false] 188)).alloc (.cells #[.func (.func 109) #[.pointer (some ⟨w.heap.size, 0, none⟩)] #[], .func (.func 110) #[.pointer (some ⟨w.heap.size, 0, none⟩)] #[], .func (.func 111) #[.pointer (some ⟨w.heap.size, 0, none⟩)] #[], .func (.func 112) #[.pointer (some ⟨w.heap.size, 0, none⟩)] #[]] 162)) (w.heap.size + 1) #[.func (.func 109) #[.pointer (some ⟨w.heap.size, 0, none⟩)] #[], .func (.func 110) #[.pointer (some ⟨w.heap.size, 0, none⟩)] #[], .func (.func 111) #[.pointer (some ⟨w.heap.size, 0, none⟩)] #[], .func (.func 112) #[.pointer (some ⟨w.heap.size, 0, none⟩)] #[]] 162 := by
    have := Blk.new (w.alloc (.cells #[.pointer (some ⟨b, 0, none⟩), .slice none 0 0, .int .i64 0, .int .i64 0, .bool false, .bool false] 188)) #[.func (.func 109) #[.pointer (some ⟨w.heap.size, 0, none⟩)] #[], .func (.func 110) #[.pointer (some ⟨w.heap.size, 0, none⟩)] #[], .func (.func 111) #[.pointer (some ⟨w.heap.size, 0, none⟩)] #[], .func (.func 112) #[.pointer (some ⟨w.heap.size, 0, none⟩)] #[]] 162
    simpa using this
  have hB0 : Below w.heap.size w ((w.alloc (.cells #[.pointer (some ⟨b, 0, none⟩), .slice none 0 0, .int .i64 0, .int .i64 0, .bool false, .bool false] 188)).alloc (.cells #[.func (.func 109) #[.pointer (some ⟨w.heap.size, 0, none⟩)] #[], .func (.func 110) #[.pointer (some ⟨w.heap.size, 0, none⟩)] #[], .func (.func 111) #[.pointer (some ⟨w.heap.size, 0, none⟩)] #[], .func (.func 112) #[.pointer (some ⟨w.heap.size, 0, none⟩)] #[]] 162)) := by (repeat (first | exact Below.refl _ _ | (with_reducible assumption) | apply Below.drew | apply belowDN | (refine Below.alloc ?_ (by first | exact Nat.le_refl _ | omega | (simp; done) | (simp; omega)) _) | (refine Below.setCell ?_ (by first | exact Nat.le_refl _ | omega | (simp; done) | (simp; omega)) _) | (refine Below.trans ?_ (Below.mono (by with_reducible assumption) (by first | omega | (simp; done) | (simp; omega))))))
  obtain ⟨vb, hvb⟩ : ∃ vb : Nat, w.heap.size = vb := ⟨_, rfl⟩
  rw [hvb] at hV0 hF0 hB0
  (try rw [hvb])
  generalize (w.alloc (.cells #[.pointer (some ⟨b, 0, none⟩), .slice none 0 0, .int .i64 0, .int .i64 0, .bool false, .bool false] 188)).alloc (.cells #[.func (.func 109) #[.pointer (some ⟨vb, 0, none⟩)] #[], .func (.func 110) #[.pointer (some ⟨vb, 0, none⟩)] #[], .func (.func 111) #[.pointer (some ⟨vb, 0, none⟩)] #[], .func (.func 112) #[.pointer (some ⟨vb, 0, none⟩)] #[]] 162) = W at *
  have V0 := Lib.hid hV0
  have F0 := Lib.hid hF0
  have B0 := Lib.hid hB0
  have HVB := Lib.hid hvb
  have HACC := Lib.hid hacc
  have HM := Lib.hid hm
  have E0 := Lib.hid e0
  have E1 := Lib.hid e1
  have O0 := Lib.hid o0
  have O1 := Lib.hid o1
  have hkc : kept ≤ 2147483647 := by
    have h2 := accH_lo h0 h1 o0 o1 2
    rw [hacc] at h2
    simp only at h2
    omega
  clear hV0 hF0 hB0 hacc hm e0 e1 o0 o1 hvb hD hmf
  have hne : vb ≠ b ∧ vb ≠ u := by have := HVB.out; omega
  go_loopw [6, 7, 21] (fun _ _ iv wr => ∃ i : Nat, i ≤ 4 ∧ iv = .int .i64 i ∧ mntS vb b m kept c vb (sideL bs kept m) i wr ∧ Blk wr (vb + 1) #[.func (.func 109) #[.pointer (some ⟨vb, 0, none⟩)] #[], .func (.func 110) #[.pointer (some ⟨vb, 0, none⟩)] #[], .func (.func 111) #[.pointer (some ⟨vb, 0, none⟩)] #[], .func (.func 112) #[.pointer (some ⟨vb, 0, none⟩)] #[]] 162 ∧ Below vb w wr) (fun _ _ iv _ => 4 - (intOf iv).toNat)
  case atStart => exact ⟨0, by omega, rfl, V0.out, F0.out, B0.out⟩
  case round =>
    obtain ⟨i, hi, rfl, hV, hF, hB⟩ := hrel
    have hD : DevC wr b u bs co fl := HD.out.below (by rw [HVB.out]; exact hB)
    have hFl := hF.lt
    rcases (show i = 0 ∨ i = 1 ∨ i = 2 ∨ i = 3 ∨ i = 4 by omega) with rfl | rfl | rfl | rfl | rfl
    · have hV : VolB wr vb b (.slice none 0 0) 0 0 false false := hV
      have c0 : wr.cell? ⟨vb + 1, 0, none⟩ = some (.func (.func 109) #[.pointer (some ⟨vb, 0, none⟩)] #[]) := hF.cell (o := 0) rfl
      have KL := Lib.hid (walLarge hV hD (by rw [HM.out]; exact hm1))
      have V1 := Lib.hid hV
      have F1 := Lib.hid hF
      have B1 := Lib.hid hB
      have hcf := wCall 109 (.inl rfl)
      clear hV hF hB hD
      go_wp2_with (go_at_call 109; refine KL.out.mono ?_; rintro e w' ⟨rfl, rfl⟩)
      go_roundw
      case rel => exact ⟨1, by omega, by go_num, V1.out, F1.out, B1.out⟩
      case measure => simp [intOf]
    · have hV : VolB wr vb b (.slice none 0 0) 0 0 false false := hV
      have c0 : wr.cell? ⟨vb + 1, 1, none⟩ = some (.func (.func 110) #[.pointer (some ⟨vb, 0, none⟩)] #[]) := hF.cell (o := 1) rfl
      have KL := Lib.hid (walAlive hV hD)
      have V1 := Lib.hid hV
      have F1 := Lib.hid hF
      have B1 := Lib.hid hB
      have hcf := wCall 110 (.inr (.inl rfl))
      clear hV hF hB hD
      go_wp2_with (go_at_call 110; refine KL.out.mono ?_; rintro e w' ⟨rfl, rfl⟩)
      go_roundw
      case rel => exact ⟨2, by omega, by go_num, V1.out, F1.out, B1.out⟩
      case measure => simp [intOf]
    · have hV : VolB wr vb b (.slice none 0 0) 0 0 false false := hV
      have c0 : wr.cell? ⟨vb + 1, 2, none⟩ = some (.func (.func 111) #[.pointer (some ⟨vb, 0, none⟩)] #[]) := hF.cell (o := 2) rfl
      have KL := walHeads hV hD hne E0.out E1.out O0.out O1.out rfl (by rw [HACC.out]; simp only; omega)
      rw [HACC.out] at KL
      have KL := Lib.hid KL
      have F1 := Lib.hid hF
      have B1 := Lib.hid hB
      have hcf := wCall 111 (.inr (.inr (.inl rfl)))
      clear hV hF hB hD
      go_wp2_with (go_at_call 111; refine KL.out.mono ?_; rintro e w' ⟨rfl, hV2, hC2⟩)
      have V2 := Lib.hid hV2
      have F2 := Lib.hid (hC2.blk F1.out (by omega))
      have B2 := Lib.hid (hC2.below_trans B1.out (by omega) (fun i h1 h2 => by omega))
      clear hV2 hC2
      go_wp2
      go_roundw
      case rel => exact ⟨3, by omega, by go_num, V2.out, F2.out, B2.out⟩
      case measure => simp [intOf]
    · have hV : VolB wr vb b (.slice none 0 0) kept c false false := hV
      have c0 : wr.cell? ⟨vb + 1, 3, none⟩ = some (.func (.func 112) #[.pointer (some ⟨vb, 0, none⟩)] #[]) := hF.cell (o := 3) rfl
      have KL := Lib.hid (walBlocks hV hD hne HM.out hm1 hkc)
      have F1 := Lib.hid hF
      have B1 := Lib.hid hB
      have hcf := wCall 112 (.inr (.inr (.inr rfl)))
      clear hV hF hB hD
      go_wp2_with (go_at_call 112; refine KL.out.mono ?_; rintro e w' ⟨rfl, g, hg, hV2, hR2, hC2⟩)
      have V2 := Lib.hid (show ∃ g, vb ≤ g ∧ VolB w' vb b (.slice (some ⟨g, 0, none⟩) m m) kept c false false ∧ RowsAt w' g (sideL bs kept m) from ⟨g, by omega, hV2, hR2⟩)
      have F2 := Lib.hid (hC2.blk F1.out (by omega))
      have B2 := Lib.hid (hC2.below_trans B1.out (by omega) (fun i h1 h2 => by omega))
      clear hV2 hC2 hR2
      go_wp2
      go_roundw
      case rel => exact ⟨4, by omega, by go_num, V2.out, F2.out, B2.out⟩
      case measure => simp [intOf]
    · obtain ⟨g, hg, hV, hR⟩ : ∃ g, vb ≤ g ∧ VolB wr vb b (.slice (some ⟨g, 0, none⟩) m m) kept c false false ∧ RowsAt wr g (sideL bs kept m) := hV
      have hl : (sideL bs kept m).length = m := sideL_len (by
        have := HM.out
        unfold roomN at this
        split at this <;> omega)
      have V1 := Lib.hid (show VolAt wr vb b g (sideL bs kept m) kept c false from ⟨by rw [hl]; exact hV, hR⟩)
      have B1 := Lib.hid hB
      clear hV hR hF hB hD hl
      go_wp2
      go_ret2
      exact ⟨vb, g, rfl, by rw [HVB.out]; exact Nat.le_refl _, by rw [HVB.out]; exact hg, V1.out, by rw [HVB.out]; exact B1.out⟩
end Go.Proofs.Ytfcddpbpfckjfaa
