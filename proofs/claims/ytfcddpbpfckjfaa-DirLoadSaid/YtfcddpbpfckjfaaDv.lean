/- Laws of the directory of names: what they begin with; 2,048 names. -/
import Derived.Test.YtfcddpbpfckjfaaChecked
import Derived.WalkKit
import Derived.Outline
import Derived.WalkSpells
import Derived.WalkLawsBesides
import Derived.Deep.QuietTactic
import Derived.Deep.RegionWith
import Derived.Deep.DeepMust
import Derived.BigQuiet
import Derived.Test.YtfcddpbpfckjfaaMem
import Derived.RegionTactic
import Derived.ChangeAlike
import Derived.StillTailTactics
import Derived.BigRegion
import Derived.Deep.LoopGhost
import Derived.Deep.RegionHeld3
import Derived.Test.YtfcddpbpfckjfaaDt
import Derived.Test.YtfcddpbpfckjfaaDu
namespace Go.Proofs.Ytfcddpbpfckjfaa
open Go.RowKit
open Go.Maps
set_option linter.unusedVariables false
set_option linter.unusedSimpArgs false
def nmA : ByteArray := ⟨#[97]⟩
theorem put_A : putE [] nmA 5 = 0 := by decide +kernel
theorem ok_A : OkL [(nmA, 5)] := ⟨fun p hp => by simp at hp; subst hp; decide +kernel, fun p hp => by simp at hp; subst hp; decide, by simp⟩
theorem dotdot : localE (⟨#[46, 46]⟩ : ByteArray).data.toList = 22 := by decide +kernel
/-- What Bytes gives, Load takes. -/
def BackPost (L : List Ent) (w : World) (e : Ending) (w' : World) : Prop :=
  ∃ d dm, e = .returned (.tuple #[.pointer (some ⟨d, 0, none⟩), .int .i64 0]) ∧ DirM w' d dm L ∧ Below w.heap.size w w' ∧ w.heap.size ≤ d ∧ w.heap.size ≤ dm
theorem dirBack (v : Value) (L : List Ent) (w : World) (h : Rdv u8v w v (dirB L)) (ho : OkL L) (hs : SortL L) : Calls Try.prog 30 #[v] w (BackPost L w) := by
  have hl := dirB_len ho
  have hk := ho.len
  refine (dirLoad v (dirB L) w h (dirB_byt ho) (by rw [hl]; unfold rowsB; omega)).mono fun e w' hq => ?_
  obtain ⟨hb, hq⟩ := hq
  rw [load_dir ho hs] at hq
  obtain ⟨d, dm, h1, h2, h3, h4, h5⟩ := hq
  exact ⟨d, dm, h1, h2, hb, h4, h5⟩
set_option maxRecDepth 100000 in
set_option maxHeartbeats 1000000 in
theorem dirBegun (w : World) : Calls Try.prog 24 #[] w fun e w' => e = .returned (.bool true) ∧ Below w.heap.size w w' := by
  have KN := Lib.hid (dirNew w)
  go_enter Try.func24, Try.ntmps24
  go_wp2_with fail
  refine KN.out.mono ?_
  rintro e w1 ⟨d, dm, rfl, hd, hb1, hd1, hd2⟩
  have KP := Lib.hid (dirPut d dm [] nmA 5 w1 hd (by decide) (by omega) (by omega) (by simp))
  have B1 := Lib.hid hb1
  clear hd hb1
  go_wp2_with fail
  refine KP.out.mono ?_
  rintro e w2 ⟨rfl, hD2, hc2⟩
  rw [put_A, if_pos rfl] at hD2
  rw [put_A]
  have hD2 : DirM w2 d dm [(nmA, 5)] := hD2
  have B2 := Lib.hid (hc2.below_trans B1.out B1.out.size (fun i hi e => by omega))
  have KB := Lib.hid (dirBytes d dm _ w2 hD2 ok_A)
  clear hD2 hc2 KP
  go_wp2_with fail
  refine KB.out.mono ?_
  rintro e w3 ⟨v3, rfl, ho3, hb3⟩
  have B3 := Lib.hid (B2.out.trans (hb3.mono B2.out.size))
  have KL := Lib.hid (dirBack v3 [(nmA, 5)] w3 (Rdv.of_owns ho3) ok_A (List.pairwise_singleton _ _))
  clear ho3 hb3 KB
  go_wp2_with fail
  refine KL.out.mono ?_
  rintro e w4 ⟨d4, dm4, rfl, hD4, hb4, hd4, hdm4⟩
  have B4 := Lib.hid (B3.out.trans (hb4.mono B3.out.size))
  have KG := Lib.hid (dirGet d4 dm4 _ nmA w4 hD4 (by decide))
  have D4 := Lib.hid hD4
  clear hb4 hD4 KL
  have hlk : lookL [(nmA, 5)] nmA = some 5 := by simp [lookL]
  rw [hlk] at KG
  clear hlk
  have KG2 : Hid (Calls Try.prog 32 #[.pointer (some ⟨d4, 0, none⟩), .string nmA] w4 fun e w' => e = .returned (.tuple #[.int .i64 5, .bool true]) ∧ Drw w4 w') := Lib.hid KG.out
  clear KG
  go_wp2_with fail
  refine KG2.out.mono ?_
  rintro e w5 ⟨rfl, n5, rfl⟩
  have D5 := D4.out.below (Drw.below ⟨n5, rfl⟩ : Below w4.heap.size w4 (w4.drewN n5))
  have B5 := Lib.hid (belowDN B4.out n5)
  have KL := Lib.hid (dirList d4 dm4 _ _ D5 (by simp))
  clear D5 D4 B4
  go_wp2_with fail
  refine KL.out.mono ?_
  rintro e w6 ⟨v6, rfl, ho6, hb6⟩
  obtain ⟨a6, c6, rfl, h61, h62, h63⟩ := own_shape ho6
  have B6 := Lib.hid (B5.out.trans (hb6.mono B5.out.size))
  obtain ⟨g, rfl⟩ : ∃ g, a6 = some ⟨g, 0, none⟩ := by
    rcases ho6.2 with ⟨e, _⟩ | ⟨g', c', cur', e, _⟩
    · injection e with _ e; simp at e
    · injection e with e; exact ⟨g', e⟩
  obtain ⟨_, _, _, _, cur, hcu, hcs, hct⟩ := own_cells ho6
  have hc0 : w6.cell? ⟨g, 0, none⟩ = some (.string ⟨#[97]⟩) := by
    refine hcu.cell ?_
    have hk : (cur.toList.take 1)[0]? = some (.string nmA) := by
      have : cur.toList.take 1 = [Value.string nmA] := hct
      rw [this]; rfl
    rw [List.getElem?_take_of_lt (by omega)] at hk
    rw [← Array.getElem?_toList]
    exact hk
  have KF := Lib.hid (fun w' => dirFine (⟨#[46, 46]⟩ : ByteArray) w' (by decide))
  clear ho6 hb6 KL hcu hct hcs B5
  rw [dotdot] at KF
  simp only [List.length_cons, List.length_nil, Nat.zero_add] at *
  go_wp2_with fail
  refine (KF.out _).mono ?_
  rintro e w7 ⟨rfl, hb7⟩
  have B7 := Lib.hid (B6.out.trans (hb7.mono B6.out.size))
  clear hb7
  go_wp2
  go_ret
  exact ⟨rfl, B7.out⟩
end Go.Proofs.Ytfcddpbpfckjfaa
