/- Contracts of zbyte and of package crc's frames. -/
import Derived.Test.YtgpfkdlnmifiiaaChecked
import Derived.WalkKit
import Derived.Outline
import Derived.WalkSpells
import Derived.WalkLawsBesides
import Derived.Deep.QuietTactic
import Derived.Deep.RegionWith
import Derived.Deep.DeepMust
import Derived.BigQuiet
import Derived.Test.YtgpfkdlnmifiiaaMem
import Derived.RegionTactic
import Derived.ChangeAlike
import Derived.StillTailTactics
import Derived.Deep.LoopGhost
import Derived.Test.YtgpfkdlnmifiiaaApp
import Derived.Test.YtgpfkdlnmifiiaaCrc
namespace Go.Proofs.Ytgpfkdlnmifiiaa
open Go.RowKit
set_option linter.unusedVariables false
set_option linter.unusedSimpArgs false
theorem Try.info5 : (Try.prog.info? 5).map (fun i => (i.zero, i.size, i.bytes)) = some (some (.int .u8 0), 1, 1) := by kernel_rfl
def Byt (l : List Int) : Prop := ∀ q ∈ l, 0 ≤ q ∧ q < 256
theorem Byt.at_ {l : List Int} (h : Byt l) (i : Nat) (hi : i < l.length) : ∃ x : Nat, l.getD i 0 = x ∧ x < 256 := by
  have hm : l.getD i 0 ∈ l := by rw [List.getD_eq_getElem?_getD, List.getElem?_eq_getElem hi]; exact List.getElem_mem hi
  have := h _ hm
  exact ⟨(l.getD i 0).toNat, by omega, by omega⟩
/-- The number that four bytes are. -/
def get4 (l : List Int) : Nat := v4 (l.getD 0 0).toNat (l.getD 1 0).toNat (l.getD 2 0).toNat (l.getD 3 0).toNat
theorem get4_of {l : List Int} {a b c d : Nat} (h0 : l.getD 0 0 = a) (h1 : l.getD 1 0 = b) (h2 : l.getD 2 0 = c) (h3 : l.getD 3 0 = d) : get4 l = v4 a b c d := by
  unfold get4; rw [h0, h1, h2, h3]; simp
theorem get4_lt {l : List Int} (h : Byt l) : get4 l < 4294967296 := by
  have hq : ∀ i, (l.getD i 0).toNat < 256 := fun i => by
    by_cases hi : i < l.length
    · obtain ⟨x, e, hx⟩ := h.at_ i hi
      rw [e]; simpa using hx
    · rw [List.getD_eq_getElem?_getD, List.getElem?_eq_none (by omega)]; simp
  have := hq 0; have := hq 1; have := hq 2; have := hq 3
  unfold get4 v4; omega
theorem get32 (v : Value) (l : List Int) (w : World) (h : Rdv u8v w v l) (hb : Byt l) (h4 : 4 ≤ l.length) :
    Calls Try.prog 93 #[v] w fun e w' => e = .returned (.int .u32 (get4 l : Nat)) ∧ Drw w w' := by
  obtain ⟨a, c, rfl, h1, h2, h3⟩ := h
  unfold maxLen at h2
  rcases h3 with rfl | ⟨b, o, rfl, h3⟩
  · simp at h4
  obtain ⟨x0, y0, b0⟩ := hb.at_ 0 (by omega)
  obtain ⟨x1, y1, b1⟩ := hb.at_ 1 (by omega)
  obtain ⟨x2, y2, b2⟩ := hb.at_ 2 (by omega)
  obtain ⟨x3, y3, b3⟩ := hb.at_ 3 (by omega)
  have c0 := h3 0 (by omega)
  have c1 := h3 1 (by omega)
  have c2 := h3 2 (by omega)
  have c3 := h3 3 (by omega)
  rw [y0, Nat.add_zero] at c0
  rw [y1] at c1
  rw [y2] at c2
  rw [y3] at c3
  have HG := Lib.hid (get4_of y0 y1 y2 y3)
  have HJ := Lib.hid (join_u32 x0 x1 x2 x3 b0 b1 b2 b3)
  clear h3 y0 y1 y2 y3
  go_enter Try.func93, Try.ntmps93
  go_wp2
  go_quiet (fail)
  go_wp2
  go_ret
  exact ⟨ret_i (by rw [HG.out]; exact HJ.out), _, rfl⟩
theorem refNum (v : Value) (l : List Int) (w : World) (h : Rdv u8v w v l) (hb : Byt l) (h4 : 4 ≤ l.length) :
    Calls Try.prog 95 #[v] w fun e w' => e = .returned (.int .i64 (get4 l : Nat)) ∧ Drw w w' := by
  obtain ⟨a, c, rfl, h1, h2, h3⟩ := h
  unfold maxLen at h2
  rcases h3 with rfl | ⟨b, o, rfl, h3⟩
  · simp at h4
  obtain ⟨x0, y0, b0⟩ := hb.at_ 0 (by omega)
  obtain ⟨x1, y1, b1⟩ := hb.at_ 1 (by omega)
  obtain ⟨x2, y2, b2⟩ := hb.at_ 2 (by omega)
  obtain ⟨x3, y3, b3⟩ := hb.at_ 3 (by omega)
  have c0 := h3 0 (by omega)
  have c1 := h3 1 (by omega)
  have c2 := h3 2 (by omega)
  have c3 := h3 3 (by omega)
  rw [y0, Nat.add_zero] at c0
  rw [y1] at c1
  rw [y2] at c2
  rw [y3] at c3
  have HG := Lib.hid (get4_of y0 y1 y2 y3)
  have HJ := Lib.hid (join_i64 x0 x1 x2 x3 b0 b1 b2 b3)
  clear h3 y0 y1 y2 y3
  go_enter Try.func95, Try.ntmps95
  go_wp2
  go_quiet (fail)
  go_wp2
  go_ret
  exact ⟨ret_i (by rw [HG.out]; exact HJ.out), _, rfl⟩
def OwnPost (B : Nat) (xs : List Int) (S : Nat → Prop) (w : World) (e : Ending) (w' : World) : Prop :=
  ∃ v, e = .returned v ∧ w'.ownsRow B 5 1 v xs.length (xs.map u8v) ∧ Chg S w w'
theorem le4_len (x : Nat) : (le4 x).length = 4 := rfl
set_option maxHeartbeats 1000000 in
theorem app32 (B : Nat) (v : Value) (xs : List Int) (x : Nat) (w : World) (hx : x < 4294967296) (hown : w.ownsRow B 5 1 v xs.length (xs.map u8v)) (hB : B ≤ w.heap.size) (hl : xs.length ≤ 1000000000000) :
    Calls Try.prog 91 #[v, .int .u32 (x : Int)] w (OwnPost B (xs ++ le4 x) (fun k => some k = v.ownBlock) w) := by
  obtain ⟨i0, hi, hz0, hz1, hz2⟩ := info_parts Try.info5
  have hlt := fun k hk => (hown.lt k hk)
  have h24 : Hid ((x : Int) / 16777216 = (x : Int) / 16777216 % 256) := by show (x : Int) / 16777216 = (x : Int) / 16777216 % 256; omega
  have HL := Lib.hid hlt
  clear hlt
  go_enter Try.func91, Try.ntmps91
  go_wp2_with (at_builtin; refine wpList_append_own _ rfl _ _ 46 rfl B 5 i0 (.int .u8 0) 1 1 Try.underlying46 hi hz0 hz1 hz2 rfl (by decide) v _ _ rfl (hown.alloc _) ⟨w.heap.size, 0, none⟩ 4 4 [.int .u8 ((x : Int) % 256), .int .u8 ((x : Int) / 256 % 256), .int .u8 ((x : Int) / 65536 % 256), .int .u8 ((x : Int) / 16777216)] rfl rfl ?c1 ?c2 ?c3 ?c4 ?c5 ?_)
  case c1 =>
    intro j u hu
    have hj : j < 4 := by
      rcases Nat.lt_or_ge j 4 with h | h
      · exact h
      · rw [List.getElem?_eq_none (by simpa using h)] at hu; cases hu
    have hb := Blk.new w #[.int .u8 ((x : Int) % 256), .int .u8 ((x : Int) / 256 % 256), .int .u8 ((x : Int) / 65536 % 256), .int .u8 ((x : Int) / 16777216)] 5
    have e : (⟨w.heap.size, 0, none⟩ : Addr).add j = ⟨w.heap.size, j, none⟩ := by
      unfold Addr.add
      split
      · next h => rw [h]
      · simp
    rw [e]
    exact hb.cell (by simpa using hu)
  case c2 => intro u hu; simp at hu; rcases hu with rfl | rfl | rfl | rfl <;> rfl
  case c3 => unfold maxLen; omega
  case c4 => omega
  case c5 => simp; omega
  intro v' w1 hown1 hgrow1 _
  have hg : Chg (fun k => some k = v.ownBlock) w w1 := ((Chg.refl _ w).alloc _).grown hgrow1 (fun k hk _ => hk.symm)
  have HO := Lib.hid hown1
  have HG := Lib.hid hg
  clear hown1 hgrow1 hg
  go_wp2
  go_ret
  refine ⟨_, rfl, ?_, HG.out⟩
  have h := HO.out
  rw [h24.out] at h
  simpa [le4] using h

theorem le4_byt (x : Nat) : Byt (le4 x) := by
  intro q hq
  simp [le4] at hq
  omega
theorem Byt.append {l m : List Int} (h1 : Byt l) (h2 : Byt m) : Byt (l ++ m) := by
  intro q hq
  rcases List.mem_append.1 hq with h | h
  · exact h1 q h
  · exact h2 q h
theorem AllB.one {l : List Int} (h : Byt l) : AllB [l] := by
  intro x hx q hq
  have : x = l := by simpa using hx
  subst this
  exact h q hq
def frameL (l : List Int) : List Int := le4 l.length ++ le4 (crcOf l) ++ l
theorem crcOf_lt {l : List Int} (h : Byt l) : crcOf l < 4294967296 := flip32_lt (crcR_lt (by omega) l h)
def FramePost (B : Nat) (xs : List Int) (w : World) (e : Ending) (w' : World) : Prop :=
  ∃ v, e = .returned (.tuple #[v, .int .i64 0]) ∧ w'.ownsRow B 5 1 v xs.length (xs.map u8v) ∧ Below w.heap.size w w'
set_option maxHeartbeats 1000000 in
theorem crcFrameBig (v : Value) (l : List Int) (w : World) (h : Rdv u8v w v l) (hl : 1048576 < l.length) :
    Calls Try.prog 49 #[v] w fun e w' => e = .returned (.tuple #[.slice none 0 0, .int .i64 22]) ∧ w = w' := by
  obtain ⟨a, c, rfl, h1, h2, h3⟩ := h
  unfold maxLen at h2
  clear h3
  go_enter Try.func49, Try.ntmps49
  go_wp2
  go_ret2
  exact ⟨rfl, rfl⟩
set_option maxHeartbeats 2000000 in
set_option maxRecDepth 100000 in
theorem crcFrameOk (v : Value) (l : List Int) (w : World) (h : Rdv u8v w v l) (hb : Byt l) (hl : l.length ≤ 1048576) :
    Calls Try.prog 49 #[v] w (FramePost w.heap.size (frameL l) w) := by
  obtain ⟨i0, hi, hz0, hz1, hz2⟩ := info_parts Try.info5
  have h0 := h
  obtain ⟨a, c, rfl, h1, h2, h3⟩ := h
  unfold maxLen at h2
  clear h3
  have hlen := Lib.hid (le4_len l.length)
  have K1 := Lib.hid (app32 w.heap.size (.slice none 0 0) [] l.length w (by omega) (World.ownsRow_nil _ _ _ _) (Nat.le_refl _) (by simp))
  have hcl := crcOf_lt hb
  go_enter Try.func49, Try.ntmps49
  go_wp2_with fail
  refine K1.out.mono ?_
  rintro e w1 ⟨v1, rfl, ho1, hg1⟩
  have b1 : Below w.heap.size w w1 := hg1.below (Nat.le_refl _) (fun i hi hs => by simp [Value.ownBlock] at hs)
  have z1 := b1.size
  clear K1
  go_wp2_with fail
  have hr1 := h0.below b1
  have hx := RdBs.one (Blk.new w1 #[.slice a l.length c] 46) (hr1.alloc _)
  refine (crcOfC _ _ _ hx (AllB.one hb)).mono ?_
  clear hx
  rintro e w2 ⟨rfl, b2⟩
  rw [show [l].flatten = l from by simp]
  have b2' : Below w1.heap.size w1 w2 := ((Below.refl _ w1).alloc (Nat.le_refl _) (.cells #[.slice a l.length c] 46)).trans (b2.mono (by simp))
  clear b2
  have z2 := b2'.size
  have ho2 : w2.ownsRow w.heap.size 5 1 v1 (le4 l.length).length ((le4 l.length).map u8v) := ownsRow_below (by simpa using ho1) b2'
  have K2 := Lib.hid (app32 w.heap.size v1 (le4 l.length) (crcOf l) w2 hcl ho2 (by omega) (by rw [le4_len]; omega))
  clear ho1
  go_wp2_with fail
  refine K2.out.mono ?_
  rintro e w3 ⟨v3, rfl, ho3, hg3⟩
  have b3 := Chg.below_trans (b1.trans (b2'.mono z1)) hg3 (by omega) (fun i hi hs => by have := (ho2.lt i hs.symm).1; omega)
  have z3 := b3.size
  have hr3 := h0.below b3
  clear K2 ho2 hg3
  go_wp2_with (at_builtin; refine wpList_append_rd rfl _ _ 46 rfl w.heap.size 5 i0 (.int .u8 0) 1 Try.underlying46 hi hz0 hz1 hz2 rfl v3 _ _ rfl ho3 (.slice a l.length c) u8v l rfl hr3 (fun _ => rfl) ?c1 ?c2 ?c3 ?_)
  case c1 => simp [le4_len]; unfold maxLen; omega
  case c2 => simp [le4_len]; omega
  case c3 => exact z3
  intro v4 w4 ho4 hg4 _
  have b4 := b3.grown hg4 z3 (fun q hq => (ho3.lt q hq).1)
  have HO := Lib.hid ho4
  clear ho4 ho3 hg4 hr3
  go_wp2
  go_ret2
  refine ⟨v4, rfl, ?_, b4⟩
  have := HO.out
  simpa [frameL, Nat.add_assoc] using this
end Go.Proofs.Ytgpfkdlnmifiiaa
