/- FdsNone: the walk. -/
import Derived.Test.YtfcddpbpfckjfaaChecked
import Derived.WalkKit
import Derived.Outline
import Derived.WalkSpells
import Derived.WalkLawsBesides
import Derived.Deep.QuietTactic
import Derived.Deep.RegionWith
import Derived.Deep.DeepMust
import Derived.BigQuiet
import Derived.Test.YtfcddpbpfckjfaaMem
import Derived.RegionTactic
import Derived.ChangeAlike
import Derived.StillTailTactics
import Derived.BigRegion
import Derived.Deep.RegionHeld3
import Derived.Deep.RegionLaw
import Derived.Test.YtfcddpbpfckjfaaFds2
namespace Go.Proofs.Ytfcddpbpfckjfaa
open Go.RowKit
set_option linter.unusedVariables false
set_option linter.unusedSimpArgs false
def FTrue (w : World) (e : Ending) (w' : World) : Prop := e = .returned (.bool true) ∧ Below w.heap.size w w'
def f0 (n : Int) : Fil := ⟨5, 0, 8, n, true⟩
def FOpenPost (p : Nat) (n : Nat) (fs : List Fil) (w : World) (e : Ending) (w' : World) : Prop := e = .returned (.tuple #[.int .i64 n, .int .i64 0]) ∧ ∃ v', FdAt w' p v' fs ∧ Below p w w'
theorem fdOpen1 (p : Nat) (v : Value) (w : World) (h : FdAt w p v []) : Calls Try.prog 11 #[.pointer (some ⟨p, 0, none⟩), .agg #[.int .i64 5, .int .i64 0], .int .i64 8] w (FOpenPost p 0 [f0 0] w) :=
  fdOpen p v [] 5 0 8 w h (by decide)
def zf (k : Nat) : List Fil := List.replicate k ⟨0, 0, 0, 0, true⟩
theorem zf_len (k : Nat) : (zf k).length = k := by simp [zf]
theorem zf_snoc (k : Nat) : zf k ++ [⟨0, 0, 0, 0, true⟩] = zf (k + 1) := by simp [zf, List.replicate_succ']
theorem fdOpenZ (p : Nat) (v : Value) (k : Nat) (w : World) (h : FdAt w p v (zf k)) (hk : k < 32) : Calls Try.prog 11 #[.pointer (some ⟨p, 0, none⟩), .agg #[.int .i64 0, .int .i64 0], .int .i64 0] w (FOpenPost p k (zf (k + 1)) w) := by
  have := fdOpen p v (zf k) 0 0 0 w h (by rw [zf_len]; exact hk)
  rw [zf_len, zf_snoc] at this
  exact this
theorem fdRoomZ (p : Nat) (v : Value) (w : World) (h : FdAt w p v (zf 32)) : Calls Try.prog 18 #[.pointer (some ⟨p, 0, none⟩)] w fun e w' => e = .returned (.bool false) ∧ Drw w w' := by
  have := fdRoom p v (zf 32) w h
  rw [zf_len] at this
  exact this
theorem fd_under {w w' w2 : World} {B : Nat} (h : Below w.heap.size w w') (hB : w.heap.size ≤ B) (k : Below B w' w2) : Below w.heap.size w w2 := h.trans (k.mono hB)
theorem fdBegun (w : World) : Calls Try.prog 14 #[] w (FTrue w) := by
  go_enter Try.func14, Try.ntmps14
  go_wp2_with fail
  refine (fdNew w).mono ?_
  rintro e w1 ⟨p, rfl, hp, h1, b1⟩
  have B1 := Lib.hid b1
  have K1 := Lib.hid (fdOpen1 p _ w1 h1)
  clear h1 b1
  go_wp2_with fail
  refine K1.out.mono ?_
  rintro e w2 ⟨rfl, v2, h2, b2⟩
  have B2 := Lib.hid (fd_under B1.out hp b2)
  have K2 := Lib.hid (fdSeek1 p v2 (f0 0) w2 h2 rfl)
  clear h2 b2
  go_wp2_with fail
  refine K2.out.mono ?_
  rintro e w3 ⟨rfl, h3, b3⟩
  have h3 : FdAt w3 p v2 [f0 9] := h3
  have B3 := Lib.hid (fd_under B2.out hp b3)
  have H3 := Lib.hid h3
  have K3 := Lib.hid (fdGet1 p v2 (f0 9) w3 h3 rfl)
  have hp3 := h3.blk.lt
  clear h3 b3
  go_wp2_with fail
  refine K3.out.mono ?_
  rintro e w4 ⟨rfl, b4⟩
  have B4 := Lib.hid (fd_under B3.out B3.out.size b4)
  have H4 := Lib.hid (H3.out.below b4)
  have hp4 := H4.out.blk.lt
  clear b4
  go_wp2_with fail
  refine (fdLen p v2 [f0 9] _ (H4.out.below (by (repeat first | exact Below.refl _ _ | refine Below.drew ?_ | refine below_drewN ?_ _ | refine Below.alloc ?_ (by simp <;> omega) _ | refine Below.setCell ?_ (by simp) _)))).mono ?_
  rintro e w5 ⟨rfl, n5, rfl⟩
  go_wp2_with fail
  refine (fdRoom p v2 [f0 9] _ (H4.out.below (by (repeat first | exact Below.refl _ _ | refine Below.drew ?_ | refine below_drewN ?_ _ | refine Below.alloc ?_ (by simp <;> omega) _ | refine Below.setCell ?_ (by simp) _)))).mono ?_
  rintro e w6 ⟨rfl, n6, rfl⟩
  go_wp2
  go_ret
  exact ⟨rfl, fd_under B4.out B4.out.size (by (repeat first | exact Below.refl _ _ | refine Below.drew ?_ | refine below_drewN ?_ _ | refine Below.alloc ?_ (by simp <;> omega) _ | refine Below.setCell ?_ (by simp) _))⟩
def FRel (w : World) (p : Nat) (k : Nat) (wr : World) : Prop := ∃ v, FdAt wr p v (zf k) ∧ Below w.heap.size w wr
theorem FRel.next {w wr w' : World} {p k : Nat} (hp : w.heap.size ≤ p) (h : FRel w p k wr) (g : ∃ v', FdAt w' p v' (zf (k + 1)) ∧ Below p wr w') : FRel w p (k + 1) w' := by
  obtain ⟨v, _, hb⟩ := h
  obtain ⟨v', h', hb'⟩ := g
  exact ⟨v', h', fd_under hb hp hb'⟩
theorem FRel.open' {w wr : World} {p k : Nat} (h : FRel w p k wr) (hk : k < 32) : Calls Try.prog 11 #[.pointer (some ⟨p, 0, none⟩), .agg #[.int .i64 0, .int .i64 0], .int .i64 0] wr (FOpenPost p k (zf (k + 1)) wr) := by
  obtain ⟨v, h, _⟩ := h
  exact fdOpenZ p v k wr h hk
theorem FRel.full {w wr : World} {p : Nat} (h : FRel w p 32 wr) : Calls Try.prog 11 #[.pointer (some ⟨p, 0, none⟩), .agg #[.int .i64 0, .int .i64 0], .int .i64 0] wr fun e w' => e = .returned (.tuple #[.int .i64 0, .int .i64 23]) ∧ Below wr.heap.size wr w' := by
  obtain ⟨v, h, _⟩ := h
  exact fdOpenFull p v (zf 32) 0 0 0 wr h (zf_len 32)
theorem FRel.below {w wr w' : World} {p k : Nat} (h : FRel w p k wr) (g : Below wr.heap.size wr w') : FRel w p k w' := by
  obtain ⟨v, h, hb⟩ := h
  exact ⟨v, h.below g, fd_under hb hb.size g⟩
theorem FRel.room {w wr : World} {p : Nat} (h : FRel w p 32 wr) : Calls Try.prog 18 #[.pointer (some ⟨p, 0, none⟩)] wr fun e w' => e = .returned (.bool false) ∧ Drw wr w' := by
  obtain ⟨v, h, _⟩ := h
  exact fdRoomZ p v wr h
set_option maxHeartbeats 4000000 in
set_option maxRecDepth 100000 in
theorem fdsNone_walk (w : World) : Calls Try.prog 3 #[] w (FTrue w) := by
  go_enter Try.func3, Try.ntmps3
  go_wp2_with fail
  refine (fdOpenNil 0 0 _).mono ?_
  rintro e w1 ⟨rfl, b1⟩
  have B1 := Lib.hid b1
  clear b1
  go_wp2_with fail
  refine (fdGetNil _).mono ?_
  rintro e w2 ⟨rfl, b2⟩
  have B2 := Lib.hid (fd_under B1.out B1.out.size b2)
  clear b2
  go_wp2_with fail
  refine (fdNew _).mono ?_
  rintro e w3 ⟨p, rfl, hp, h3, b3⟩
  have hs2 := B2.out.size
  have hp0 : w.heap.size ≤ p := by simp at hp; omega
  have B3 := Lib.hid (fd_under (Below.alloc B2.out hs2 _) (by simp; omega) b3)
  have HR0 : FRel w p 0 w3 := ⟨_, h3, B3.out⟩
  clear b3 h3 hp hs2
  go_wp2_with fail
  go_loopw [9] (fun i wr => ∃ k : Nat, k ≤ 32 ∧ i = .int .i64 k ∧ FRel w p k wr) (fun i _ => 32 - (intOf i).toNat)
  case atStart => exact ⟨0, by omega, rfl, HR0⟩
  case round =>
    obtain ⟨k, hk, rfl, hR⟩ := hrel
    by_cases hlt : k < 32
    · have KO := Lib.hid (hR.open' hlt)
      have HR := Lib.hid hR
      clear hR
      go_wp2_with fail
      refine KO.out.mono ?_
      rintro e w4 ⟨rfl, g4⟩
      have HN := Lib.hid (HR.out.next hp0 g4)
      clear g4
      go_wp2
      go_roundw
      case rel => exact ⟨k + 1, by omega, by go_num, HN.out⟩
      case measure => simp [intOf]; omega
    · obtain rfl : k = 32 := by omega
      have KO := Lib.hid hR.full
      have HR := Lib.hid hR
      clear hR
      go_wp2_with fail
      refine KO.out.mono ?_
      rintro e w4 ⟨rfl, b4⟩
      have HR4 := Lib.hid (HR.out.below b4)
      clear b4
      go_wp2_with fail
      refine (fdBegun _).mono ?_
      rintro e w5 ⟨rfl, b5⟩
      have HR5 := Lib.hid (HR4.out.below b5)
      clear b5
      go_wp2_with fail
      refine (fdCloseNil _).mono ?_
      rintro e w6 ⟨rfl, b6⟩
      have HR6 := Lib.hid (HR5.out.below b6)
      clear b6
      go_wp2_with fail
      refine (fdSeekNil _).mono ?_
      rintro e w7 ⟨rfl, b7⟩
      have HR7 := Lib.hid (HR6.out.below b7)
      clear b7
      go_wp2_with fail
      refine (fdLenNil _).mono ?_
      rintro e w8 ⟨rfl, b8⟩
      have HR8 := Lib.hid (HR7.out.below b8)
      clear b8
      go_wp2_with fail
      refine (fdRoomNil _).mono ?_
      rintro e w9 ⟨rfl, b9⟩
      have HR9 := Lib.hid (HR8.out.below b9)
      clear b9
      go_wp2_with fail
      refine (HR9.out.room).mono ?_
      rintro e w10 ⟨rfl, n, rfl⟩
      go_wp2
      go_ret
      exact ⟨rfl, by obtain ⟨v, _, hb⟩ := HR9.out; exact below_drewN hb n⟩
end Go.Proofs.Ytfcddpbpfckjfaa
