/- Contracts of zbyte and of package crc's frames. -/
import Derived.Test.YtfcddpbpfckjfaaChecked
import Derived.WalkKit
import Derived.Outline
import Derived.WalkSpells
import Derived.WalkLawsBesides
import Derived.Deep.QuietTactic
import Derived.Deep.RegionWith
import Derived.Deep.DeepMust
import Derived.BigQuiet
import Derived.Test.YtfcddpbpfckjfaaMem
import Derived.RegionTactic
import Derived.ChangeAlike
import Derived.StillTailTactics
import Derived.Deep.LoopGhost
import Derived.Test.YtfcddpbpfckjfaaApp
import Derived.Test.YtfcddpbpfckjfaaCrc
import Derived.Test.YtfcddpbpfckjfaaBts
namespace Go.Proofs.Ytfcddpbpfckjfaa
open Go.RowKit
set_option linter.unusedVariables false
set_option linter.unusedSimpArgs false
/-- The number that four bytes are. -/
def get4 (l : List Int) : Nat := v4 (l.getD 0 0).toNat (l.getD 1 0).toNat (l.getD 2 0).toNat (l.getD 3 0).toNat
theorem get4_of {l : List Int} {a b c d : Nat} (h0 : l.getD 0 0 = a) (h1 : l.getD 1 0 = b) (h2 : l.getD 2 0 = c) (h3 : l.getD 3 0 = d) : get4 l = v4 a b c d := by
  unfold get4; rw [h0, h1, h2, h3]; simp
theorem get4_lt {l : List Int} (h : Byt l) : get4 l < 4294967296 := by
  have hq : ∀ i, (l.getD i 0).toNat < 256 := fun i => by
    by_cases hi : i < l.length
    · obtain ⟨x, e, hx⟩ := h.at_ i hi
      rw [e]; simpa using hx
    · rw [List.getD_eq_getElem?_getD, List.getElem?_eq_none (by omega)]; simp
  have := hq 0; have := hq 1; have := hq 2; have := hq 3
  unfold get4 v4; omega
theorem get32 (v : Value) (l : List Int) (w : World) (h : Rdv u8v w v l) (hb : Byt l) (h4 : 4 ≤ l.length) :
    Calls Try.prog 54 #[v] w fun e w' => e = .returned (.int .u32 (get4 l : Nat)) ∧ Drw w w' := by
  obtain ⟨a, c, rfl, h1, h2, h3⟩ := h
  unfold maxLen at h2
  rcases h3 with rfl | ⟨b, o, rfl, h3⟩
  · simp at h4
  obtain ⟨x0, y0, b0⟩ := hb.at_ 0 (by omega)
  obtain ⟨x1, y1, b1⟩ := hb.at_ 1 (by omega)
  obtain ⟨x2, y2, b2⟩ := hb.at_ 2 (by omega)
  obtain ⟨x3, y3, b3⟩ := hb.at_ 3 (by omega)
  have c0 := h3 0 (by omega)
  have c1 := h3 1 (by omega)
  have c2 := h3 2 (by omega)
  have c3 := h3 3 (by omega)
  rw [y0, Nat.add_zero] at c0
  rw [y1] at c1
  rw [y2] at c2
  rw [y3] at c3
  have HG := Lib.hid (get4_of y0 y1 y2 y3)
  have HJ := Lib.hid (join_u32 x0 x1 x2 x3 b0 b1 b2 b3)
  clear h3 y0 y1 y2 y3
  go_enter Try.func54, Try.ntmps54
  go_wp2
  go_quiet (fail)
  go_wp2
  go_ret
  exact ⟨ret_i (by rw [HG.out]; exact HJ.out), _, rfl⟩
def OwnPost (B : Nat) (xs : List Int) (S : Nat → Prop) (w : World) (e : Ending) (w' : World) : Prop :=
  ∃ v, e = .returned v ∧ w'.ownsRow B 5 1 v xs.length (xs.map u8v) ∧ Chg S w w'
theorem le4_len (x : Nat) : (le4 x).length = 4 := rfl
set_option maxHeartbeats 1000000 in
theorem app32 (B : Nat) (v : Value) (xs : List Int) (x : Nat) (w : World) (hx : x < 4294967296) (hown : w.ownsRow B 5 1 v xs.length (xs.map u8v)) (hB : B ≤ w.heap.size) (hl : xs.length ≤ 1000000000000) :
    Calls Try.prog 60 #[v, .int .u32 (x : Int)] w (OwnPost B (xs ++ le4 x) (fun k => some k = v.ownBlock) w) := by
  obtain ⟨i0, hi, hz0, hz1, hz2⟩ := info_parts Try.info5
  have hlt := fun k hk => (hown.lt k hk)
  have h24 : Hid ((x : Int) / 16777216 = (x : Int) / 16777216 % 256) := by show (x : Int) / 16777216 = (x : Int) / 16777216 % 256; omega
  have HL := Lib.hid hlt
  clear hlt
  go_enter Try.func60, Try.ntmps60
  go_wp2_with (at_builtin; refine wpList_append_own _ rfl _ _ 48 rfl B 5 i0 (.int .u8 0) 1 1 Try.underlying48 hi hz0 hz1 hz2 rfl (by decide) v _ _ rfl (hown.alloc _) ⟨w.heap.size, 0, none⟩ 4 4 [.int .u8 ((x : Int) % 256), .int .u8 ((x : Int) / 256 % 256), .int .u8 ((x : Int) / 65536 % 256), .int .u8 ((x : Int) / 16777216)] rfl rfl ?c1 ?c2 ?c3 ?c4 ?c5 ?_)
  case c1 =>
    intro j u hu
    have hj : j < 4 := by
      rcases Nat.lt_or_ge j 4 with h | h
      · exact h
      · rw [List.getElem?_eq_none (by simpa using h)] at hu; cases hu
    have hb := Blk.new w #[.int .u8 ((x : Int) % 256), .int .u8 ((x : Int) / 256 % 256), .int .u8 ((x : Int) / 65536 % 256), .int .u8 ((x : Int) / 16777216)] 5
    have e : (⟨w.heap.size, 0, none⟩ : Addr).add j = ⟨w.heap.size, j, none⟩ := by
      unfold Addr.add
      split
      · next h => rw [h]
      · simp
    rw [e]
    exact hb.cell (by simpa using hu)
  case c2 => intro u hu; simp at hu; rcases hu with rfl | rfl | rfl | rfl <;> rfl
  case c3 => unfold maxLen; omega
  case c4 => omega
  case c5 => simp; omega
  intro v' w1 hown1 hgrow1 _
  have hg : Chg (fun k => some k = v.ownBlock) w w1 := ((Chg.refl _ w).alloc _).grown hgrow1 (fun k hk _ => hk.symm)
  have HO := Lib.hid hown1
  have HG := Lib.hid hg
  clear hown1 hgrow1 hg
  go_wp2
  go_ret
  refine ⟨_, rfl, ?_, HG.out⟩
  have h := HO.out
  rw [h24.out] at h
  simpa [le4] using h

theorem le4_byt (x : Nat) : Byt (le4 x) := by
  intro q hq
  simp [le4] at hq
  omega
theorem AllB.one {l : List Int} (h : Byt l) : AllB [l] := by
  intro x hx q hq
  have : x = l := by simpa using hx
  subst this
  exact h q hq
def frameL (l : List Int) : List Int := le4 l.length ++ le4 (crcOf l) ++ l
theorem crcOf_lt {l : List Int} (h : Byt l) : crcOf l < 4294967296 := flip32_lt (crcR_lt (by omega) l h)
def FramePost (B : Nat) (xs : List Int) (w : World) (e : Ending) (w' : World) : Prop :=
  ∃ v, e = .returned (.tuple #[v, .int .i64 0]) ∧ w'.ownsRow B 5 1 v xs.length (xs.map u8v) ∧ Below w.heap.size w w'
end Go.Proofs.Ytfcddpbpfckjfaa
