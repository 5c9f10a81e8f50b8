/- Laws of the directory of names: 2,048 names. -/
import Derived.Test.YtfcddpbpfckjfaaChecked
import Derived.WalkKit
import Derived.Outline
import Derived.WalkSpells
import Derived.WalkLawsBesides
import Derived.Deep.QuietTactic
import Derived.Deep.RegionWith
import Derived.Deep.DeepMust
import Derived.BigQuiet
import Derived.Test.YtfcddpbpfckjfaaMem
import Derived.RegionTactic
import Derived.ChangeAlike
import Derived.StillTailTactics
import Derived.BigRegion
import Derived.Deep.LoopGhost
import Derived.Lib.SlBytesConst
import Derived.Test.YtfcddpbpfckjfaaDv
import Derived.Test.YtfcddpbpfckjfaaDw
namespace Go.Proofs.Ytfcddpbpfckjfaa
open Go.RowKit
open Go.Maps
set_option linter.unusedVariables false
set_option linter.unusedSimpArgs false
/-- A row with the mark of a text's bytes. -/
def BlkM (w : World) (b : Nat) (cs : Array Value) (T : TypeId) (m : Nat) : Prop := w.heap[b]? = some (.cells cs T (m, m + 1))
theorem BlkM.lt {w : World} {b m : Nat} {cs : Array Value} {T : TypeId} (h : BlkM w b cs T m) : b < w.heap.size := lt_of_block h
theorem BlkM.cell {w : World} {b m : Nat} {cs : Array Value} {T : TypeId} (h : BlkM w b cs T m) {o : Nat} {v : Value} (hv : cs[o]? = some v) : w.cell? ⟨b, o, none⟩ = some v := by
  unfold BlkM at h; simp [World.cell?, h, hv]
theorem BlkM.free {w : World} {b m : Nat} {cs : Array Value} {T : TypeId} (h : BlkM w b cs T m) (o : Nat) (ho : o < m) : w.frozen? ⟨b, o, none⟩ = false := by
  unfold BlkM at h; simp [World.frozen?, h]; omega
theorem BlkM.chg {S : Nat → Prop} {w w' : World} {b m : Nat} {cs : Array Value} {T : TypeId} (h : BlkM w b cs T m) (g : Chg S w w') (hs : ¬ S b) : BlkM w' b cs T m := (g.block b h.lt hs).trans h
theorem BlkM.set {w : World} {b m : Nat} {cs : Array Value} {T : TypeId} (h : BlkM w b cs T m) (o : Nat) (u : Value) : BlkM (w.setCell ⟨b, o, none⟩ u) b (cs.setIfInBounds o u) T m := by
  have hlt := h.lt
  unfold BlkM at *
  have h' : w.heap[b] = .cells cs T (m, m + 1) := by simpa [Array.getElem?_eq_getElem hlt] using h
  show (w.heap.modify b _)[b]? = _
  rw [Array.getElem?_eq_getElem (by simpa using hlt), Array.getElem_modify_self, h']
  rfl
theorem BlkM.rdv {w : World} {b m : Nat} {l : List Int} {T : TypeId} (h : BlkM w b (l.map u8v).toArray T m) (hl : l.length ≤ maxLen) : Rdv u8v w (.slice (some ⟨b, 0, none⟩) l.length l.length) l :=
  ⟨_, _, rfl, Nat.le_refl _, hl, .inr ⟨b, 0, rfl, fun i hi => h.cell (by simp [List.getElem?_eq_getElem hi])⟩⟩
def FullRel (w : World) (d dm bb : Nat) (v : Value) (wr : World) : Prop :=
  ∃ (i : Nat) (x1 x2 x3 x4 : Int), i ≤ 2048 ∧ v = .int .i64 i ∧ DirM wr d dm (fullL i) ∧ BlkM wr bb #[.int .u8 110, .int .u8 x1, .int .u8 x2, .int .u8 x3, .int .u8 x4] 5 5 ∧ Below w.heap.size w wr
set_option maxRecDepth 100000 in
set_option maxHeartbeats 1000000 in
theorem dirFull_walk (w : World) : Calls Try.prog 6 #[] w fun e w' => e = .returned (.bool true) ∧ Below w.heap.size w w' := by
  have KN := Lib.hid (dirNew w)
  have kc := fun (w : World) (C : Array Value) (n c : Nat) => Lib.run_convert_bytes_const (P := Try.prog) w 48 5 C n c Try.underlying48 Try.underlying5
  go_enter Try.func6, Try.ntmps6
  go_wp2_with fail
  refine KN.out.mono ?_
  rintro e w1 ⟨d, dm, rfl, hd, hb1, hd1, hd2⟩
  have D1 := Lib.hid hd
  have B1 := Lib.hid hb1
  clear hd hb1
  go_wp2
  have R0 := Lib.hid (show FullRel w d dm w1.heap.size (.int .i64 0) (w1.alloc (.cells #[.int .u8 110, .int .u8 48, .int .u8 48, .int .u8 48, .int .u8 48] 5 (5, 6))) from
    ⟨0, 48, 48, 48, 48, by omega, rfl, D1.out.below ((Below.refl _ _).alloc (Nat.le_refl _) _), heap_alloc_new w1 _, B1.out.alloc B1.out.size _⟩)
  have hbb := B1.out.size
  have hne : w1.heap.size ≠ d ∧ w1.heap.size ≠ dm := by
    have h1 := D1.out.1.lt
    have h2 := D1.out.2.lt
    omega
  generalize w1.heap.size = bb at *
  clear D1 B1
  go_loopw [3] (fun v wr => FullRel w d dm bb v wr) (fun v _ => 2048 - (intOf v).toNat)
  case atStart => exact R0.out
  case round =>
    obtain ⟨i, x1, x2, x3, x4, hi, rfl, hD, hM, hB⟩ := hrel
    have c1 := hM.cell (o := 1) rfl
    have c2 := hM.cell (o := 2) rfl
    have c3 := hM.cell (o := 3) rfl
    have c4 := hM.cell (o := 4) rfl
    have f1 := hM.free 1 (by omega)
    have f2 := hM.free 2 (by omega)
    have f3 := hM.free 3 (by omega)
    have f4 := hM.free 4 (by omega)
    have hlt := hM.lt
    have D := Lib.hid hD
    have M := Lib.hid hM
    have B := Lib.hid hB
    clear hD hM hB
    by_cases hl : i < 2048
    · have k0 : (0 : Int) ≤ i := by omega
      have k1 : (i : Int) < 2048 := by omega
      go_upto_region 12 with fail
      have M4 := Lib.hid ((((M.out.set 1 (.int .u8 (48 + (i : Int) / 1000))).set 2 (.int .u8 (48 + (i : Int) / 100 % 10))).set 3 (.int .u8 (48 + (i : Int) / 10 % 10))).set 4 (.int .u8 (48 + (i : Int) % 10)))
      have C4 := Lib.hid (Chg.set (S := (· = bb)) (Chg.set (S := (· = bb)) (Chg.set (S := (· = bb)) (Chg.set (S := (· = bb)) (Chg.refl (· = bb) wr) (p := ⟨bb, 1, none⟩) (fun _ => rfl) (.int .u8 (48 + (i : Int) / 1000))) (p := ⟨bb, 2, none⟩) (fun _ => rfl) (.int .u8 (48 + (i : Int) / 100 % 10))) (p := ⟨bb, 3, none⟩) (fun _ => rfl) (.int .u8 (48 + (i : Int) / 10 % 10))) (p := ⟨bb, 4, none⟩) (fun _ => rfl) (.int .u8 (48 + (i : Int) % 10)))
      generalize ((((wr.setCell ⟨bb, 1, none⟩ (.int .u8 (48 + (i : Int) / 1000))).setCell ⟨bb, 2, none⟩ (.int .u8 (48 + (i : Int) / 100 % 10))).setCell ⟨bb, 3, none⟩ (.int .u8 (48 + (i : Int) / 10 % 10))).setCell ⟨bb, 4, none⟩ (.int .u8 (48 + (i : Int) % 10))) = w2 at *
      have M5 : BlkM w2 bb ((nlF i).map u8v).toArray 5 5 := M4.out
      have hcv := conv_rdv (P := Try.prog) 48 5 Try.underlying48 Try.underlying5 (M5.rdv (by unfold maxLen; show 5 ≤ _; omega)) 9 Try.underlying9
      have hcv2 : (convert 48 9 (.slice (some ⟨bb, 0, none⟩) 5 5)).run Try.prog w2 = .ok (.string (nmF i)) w2 := hcv
      have D2 := D.out.chg C4.out (fun e => hne.1 e.symm) (fun e => hne.2 e.symm)
      have B2 := Lib.hid (C4.out.below_trans B.out B.out.size (fun i hi e => by omega))
      have hsz := nmF_size i hl
      have hpe : putE (fullL i) (nmF i) (1 + (i : Int)) = 0 := by have := full_put i hl; rwa [Int.natCast_add] at this
      have KP := Lib.hid (dirPut d dm (fullL i) (nmF i) (1 + (i : Int)) w2 D2 (by rw [hsz]; decide) (by omega) (by omega) (by rw [full_len i hi]; omega))
      have HPE := Lib.hid hpe
      have M6 := Lib.hid M5
      clear M5 hcv D2 hsz hpe c1 c2 c3 c4 f1 f2 f3 f4 M4 M D B C4
      go_wp2_with fail
      refine KP.out.mono ?_
      rintro e w3 ⟨rfl, hD3, hC3⟩
      rw [HPE.out, if_pos rfl, show (1 + (i : Int)).toNat = 1 + i by omega, ← fullL_succ] at hD3
      rw [HPE.out]
      have HR := Lib.hid (show FullRel w d dm bb (.int .i64 ((i : Int) + 1)) w3 from ⟨i + 1, _, _, _, _, by omega, rfl, hD3, M6.out.chg hC3 (fun e => hne.2 e), hC3.below_trans B2.out B2.out.size (fun i hi e => by omega)⟩)
      clear hD3 hC3 KP
      go_wp2
      go_roundw
      case rel => exact HR.out
      case measure => simp [intOf]; omega
    · obtain rfl : i = 2048 := by omega
      clear c1 c2 c3 c4 f1 f2 f3 f4 M
      have KP := Lib.hid (dirPut d dm (fullL 2048) nmMore 5 wr D.out (by decide) (by omega) (by omega) (by rw [full_len 2048 hi]; omega))
      go_wp2_with fail
      refine KP.out.mono ?_
      rintro e w3 ⟨rfl, hD3, hC3⟩
      rw [full_more, if_neg (by decide)] at hD3
      rw [full_more]
      have B3 := Lib.hid (hC3.below_trans B.out B.out.size (fun i hi e => by omega))
      have KP2 := Lib.hid (dirPut d dm (fullL 2048) nm7 9 w3 hD3 (by decide) (by omega) (by omega) (by rw [full_len 2048 hi]; omega))
      clear KP hD3 hC3 D B
      go_wp2_with fail
      refine KP2.out.mono ?_
      rintro e w4 ⟨rfl, hD4, hC4⟩
      rw [full_same, if_pos rfl] at hD4
      rw [full_same]
      have B4 := Lib.hid (hC4.below_trans B3.out B3.out.size (fun i hi e => by omega))
      have hD4 : DirM w4 d dm (putL (fullL 2048) nm7 9) := hD4
      obtain ⟨L, hL⟩ : ∃ L, L = putL (fullL 2048) nm7 9 := ⟨_, rfl⟩
      rw [← hL] at hD4
      have hs := hD4.sorted
      obtain ⟨ho, hl7, hl47, hln⟩ := full_end hL hs
      have KB := Lib.hid (dirBytes d dm L w4 hD4 ho)
      clear KP2 hD4 hC4 hL B3
      go_wp2_with fail
      refine KB.out.mono ?_
      rintro e w5 ⟨v5, rfl, ho5, hb5⟩
      have B5 := Lib.hid (B4.out.trans (hb5.mono B4.out.size))
      have KL := Lib.hid (dirBack v5 L w5 (Rdv.of_owns ho5) ho hs)
      clear KB ho5 hb5 B4
      go_wp2_with fail
      refine KL.out.mono ?_
      rintro e w6 ⟨d6, dm6, rfl, hD6, hb6, h61, h62⟩
      have B6 := Lib.hid (B5.out.trans (hb6.mono B5.out.size))
      have KG := fun n => dirGet d6 dm6 L nm7 (w6.drewN n) (hD6.below (Drw.below ⟨n, rfl⟩)) (by decide)
      have KG2 := fun n => dirGet d6 dm6 L nm2047 (w6.drewN n) (hD6.below (Drw.below ⟨n, rfl⟩)) (by decide)
      rw [hl7] at KG
      rw [hl47] at KG2
      have G1 : Hid (∀ n, Calls Try.prog 32 #[.pointer (some ⟨d6, 0, none⟩), .string nm7] (w6.drewN n) fun e w' => e = .returned (.tuple #[.int .i64 9, .bool true]) ∧ Drw (w6.drewN n) w') := Lib.hid KG
      have G2 : Hid (∀ n, Calls Try.prog 32 #[.pointer (some ⟨d6, 0, none⟩), .string nm2047] (w6.drewN n) fun e w' => e = .returned (.tuple #[.int .i64 2048, .bool true]) ∧ Drw (w6.drewN n) w') := Lib.hid KG2
      have D6 := Lib.hid hD6
      have HLN := Lib.hid hln
      clear KG KG2 KL hD6 hb6 B5 hl7 hl47 hln ho hs
      go_wp2_with fail
      refine (G1.out 0).mono ?_
      rintro e w7 ⟨rfl, n7, rfl⟩
      go_wp2_with fail
      refine (G2.out _).mono ?_
      rintro e w8 ⟨rfl, n8, rfl⟩
      have KB := Lib.hid (fun w' (hb : Below w6.heap.size w6 w') => dirBegun w')
      go_wp2_with fail
      refine (dirBegun _).mono ?_
      rintro e w9 ⟨rfl, hb9⟩
      have hb9' : Below w6.heap.size w6 w9 := (belowDN (Below.refl w6.heap.size w6) (n7 + n8)).trans (hb9.mono (show w6.heap.size ≤ _ from Nat.le_refl _))
      have KL := Lib.hid (dirLen d6 dm6 L w9 (D6.out.below hb9'))
      rw [HLN.out] at KL
      have B9 := Lib.hid (B6.out.trans (hb9'.mono B6.out.size))
      clear hb9 hb9' D6
      go_wp2_with fail
      refine KL.out.mono ?_
      rintro e w10 ⟨rfl, n10, rfl⟩
      go_wp2
      go_ret
      exact ⟨rfl, belowDN B9.out n10⟩
end Go.Proofs.Ytfcddpbpfckjfaa
