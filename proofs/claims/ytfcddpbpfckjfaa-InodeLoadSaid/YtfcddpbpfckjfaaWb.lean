/- A volume: heads; a block is written, if it is another one. -/
import Derived.Test.YtfcddpbpfckjfaaChecked
import Derived.WalkKit
import Derived.Outline
import Derived.WalkSpells
import Derived.WalkLawsBesides
import Derived.Deep.QuietTactic
import Derived.Deep.RegionWith
import Derived.Deep.DeepMust
import Derived.BigQuiet
import Derived.Test.YtfcddpbpfckjfaaMem
import Derived.RegionTactic
import Derived.ChangeAlike
import Derived.StillTailTactics
import Derived.Deep.LoopGhost
import Derived.Lib.SlBytesConst
import Derived.Test.YtfcddpbpfckjfaaAppZ
import Derived.Test.YtfcddpbpfckjfaaZ64
import Derived.Test.YtfcddpbpfckjfaaWa
namespace Go.Proofs.Ytfcddpbpfckjfaa
open Go.RowKit
set_option linter.unusedVariables false
set_option linter.unusedSimpArgs false
def magicL : List Int := [108, 97, 103, 111, 111, 110, 39, 115, 32, 118, 111, 108, 117, 109, 101, 10]
def preL (k c : Nat) : List Int := magicL ++ le8 k ++ le8 c
def headL (k c : Nat) : List Int := preL k c ++ le4 (crcOf (preL k c)) ++ List.replicate 476 0
theorem preL_len (k c : Nat) : (preL k c).length = 32 := rfl
theorem headL_len (k c : Nat) : (headL k c).length = 512 := by unfold headL; rw [List.length_append, List.length_append, preL_len, List.length_replicate]; rfl
theorem preL_byt (k c : Nat) : Byt (preL k c) := by
  unfold preL
  refine (Byt.append ?_ (le8_byt k)).append (le8_byt c)
  intro q hq
  unfold magicL at hq
  simp only [List.mem_cons, List.not_mem_nil, or_false] at hq
  omega
theorem headL_byt (k c : Nat) : Byt (headL k c) := by
  unfold headL
  refine ((preL_byt k c).append (le4_byt _)).append ?_
  intro q hq
  have := (List.mem_replicate.1 hq).2
  omega
theorem one_rd {w : World} {B : Nat} {v : Value} {xs : List Int} (h : w.ownsRow B 5 1 v xs.length (xs.map u8v)) : RdBs (w.alloc (.cells #[v] 48)) (.slice (some ⟨w.heap.size, 0, none⟩) 1 1) [xs] :=
  ⟨_, 1, rfl, Nat.le_refl _, by unfold maxLen; omega, .inr ⟨_, 0, rfl, fun j hj => by
    simp at hj
    subst hj
    exact ⟨_, (Blk.new w #[v] 48).cell (o := 0) rfl, (Rdv.of_owns h).alloc _⟩⟩⟩
set_option maxHeartbeats 1000000 in
set_option maxRecDepth 100000 in
theorem walHead (k c : Nat) (w : World) (hk : k ≤ 4294967295) (hc : c ≤ 4294967295) : Calls Try.prog 108 #[.int .i64 (k : Int), .int .i64 (c : Int)] w (ClonePost (headL k c) w) := by
  obtain ⟨i0, hi, hz0, hz1, hz2⟩ := info_parts Try.info5
  have kc := fun (w : World) (C : Array Value) (n c : Nat) => Lib.run_convert_bytes_const (P := Try.prog) w 48 5 C n c Try.underlying48 Try.underlying5
  have h1 : (0 : Int) ≤ k := by omega
  have h2 : (k : Int) ≤ 4294967295 := by omega
  have h3 : (0 : Int) ≤ c := by omega
  have h4 : (c : Int) ≤ 4294967295 := by omega
  have K1 := Lib.hid (app64g w.heap.size 16 k magicL _ hk (rdv_mark w magicL 5 (16, 17) (by unfold maxLen; decide)) (by decide))
  go_enter Try.func108, Try.ntmps108
  go_wp2_with fail
  refine K1.out.mono ?_
  rintro e w1 ⟨v1, rfl, ho1, hb1⟩
  have B1 := Lib.hid (((Below.refl w.heap.size w).alloc (Nat.le_refl _) (.cells (magicL.map u8v).toArray 5 (16, 17))).trans (hb1.mono (by simp)))
  have O1 := Lib.hid (own_mono ho1 (B' := w.heap.size) (by simp))
  have s1 := B1.out.size
  have K2 := Lib.hid (app64 w.heap.size v1 (magicL ++ le8 k) c w1 hc O1.out s1 (by rw [show (magicL ++ le8 k).length = 24 from rfl]; omega))
  clear ho1 hb1 K1
  go_wp2_with fail
  refine K2.out.mono ?_
  rintro e w2 ⟨v2, rfl, ho2, hc2⟩
  have B2 := Lib.hid (hc2.below_trans B1.out s1 (fun i hi e => by have := (O1.out.lt i e.symm).1; omega))
  have ho2 : w2.ownsRow w.heap.size 5 1 v2 32 ((preL k c).map u8v) := ho2
  obtain ⟨a2, c2, rfl, h21, h22, _⟩ := own_shape ho2
  have O2 : Hid (w2.ownsRow w.heap.size 5 1 (.slice a2 32 c2) (preL k c).length ((preL k c).map u8v)) := Lib.hid ho2
  have s2 := B2.out.size
  have KC := Lib.hid (crcOfC _ [preL k c] _ (one_rd O2.out) (AllB.one (preL_byt k c)))
  rw [show [preL k c].flatten = preL k c by simp] at KC
  have hx := crcOf_lt (preL_byt k c)
  clear ho2 hc2 K2 B1 O1
  go_wp2_with fail
  refine KC.out.mono ?_
  rintro e w3 ⟨rfl, hb3⟩
  have hb3' : Below w2.heap.size w2 w3 := ((Below.refl _ w2).alloc (Nat.le_refl _) (.cells #[.slice a2 32 c2] 48)).trans (hb3.mono (by simp))
  have B3 := Lib.hid (B2.out.trans (hb3'.mono s2))
  have s3 := B3.out.size
  have K4 := Lib.hid (app32 w.heap.size (.slice a2 32 c2) (preL k c) (crcOf (preL k c)) w3 hx (ownsRow_below O2.out hb3') s3 (by rw [preL_len]; omega))
  have L2 := Lib.hid (fun q (hq : (Value.slice a2 32 c2).ownBlock = some q) => (O2.out.lt q hq).1)
  clear hb3 hb3' KC hx B2
  go_wp2_with fail
  refine K4.out.mono ?_
  rintro e w4 ⟨v4, rfl, ho4, hc4⟩
  have B4 := Lib.hid (hc4.below_trans B3.out s3 (fun i hi e => by have := L2.out i e.symm; omega))
  have s4 := B4.out.size
  have hl4 : (preL k c ++ le4 (crcOf (preL k c))).length = 36 := by rw [List.length_append, preL_len]; rfl
  rw [hl4] at ho4
  have O4 := Lib.hid ho4
  obtain ⟨a4, c4, rfl, h41, h42, _⟩ := own_shape ho4
  clear ho4 hc4 K4 hl4 B3
  go_wp2_with (at_builtin; refine wpList_append_own_zeros rfl _ _ 48 3 rfl w.heap.size 5 i0 (.int .u8 0) 1 .i64 .i64 Try.underlying48 Try.underlying3 hi hz0 rfl rfl hz1 hz2 _ _ _ rfl O4.out 476 rfl ?c1 ?c2 ?c3 ?_)
  case c1 => unfold maxLen; omega
  case c2 => omega
  case c3 => exact s4
  intro v5 w5 ho5 hg5 _
  have B5 := Lib.hid (B4.out.grown hg5 s4 (fun q hq => (O4.out.lt q hq).1))
  have O5 : Hid (w5.ownsRow w.heap.size 5 1 v5 (headL k c).length ((headL k c).map u8v)) := Lib.hid (by
    rw [headL_len]
    unfold headL
    rw [List.map_append, List.map_replicate]
    exact ho5)
  clear ho5 hg5 B4 O4
  go_wp2
  go_ret
  exact ⟨_, rfl, O5.out, B5.out⟩
def roomN (n : Nat) : Nat := if n < 16 then 0 else (n - 8) / 4
theorem walRoom {w : World} {b u : Nat} {bs : List (List Int)} {co : Int} {fl : Bool} (h : DevC w b u bs co fl) : Calls Try.prog 104 #[.pointer (some ⟨b, 0, none⟩)] w fun e w' => e = .returned (.int .i64 (roomN bs.length)) ∧ w = w' := by
  have KB := Lib.hid (dcBlocks h)
  have hl := h.len
  by_cases h1 : bs.length < 16
  · have e : Hid (roomN bs.length = 0) := Lib.hid (by unfold roomN; rw [if_pos h1])
    go_enter Try.func104, Try.ntmps104
    go_wp2_with (go_at_call 123; refine KB.out.mono ?_; rintro e w' ⟨rfl, rfl⟩)
    go_ret
    exact ⟨ret_i (by rw [e.out]; first | rfl | simp), rfl⟩
  · have e : Hid (((bs.length : Int) - 8) / 4 = (roomN bs.length : Nat)) := Lib.hid (by unfold roomN; rw [if_neg h1]; omega)
    have h2 : (16 : Int) ≤ bs.length := by omega
    go_enter Try.func104, Try.ntmps104
    go_wp2_with (go_at_call 123; refine KB.out.mono ?_; rintro e w' ⟨rfl, rfl⟩)
    go_ret
    exact ⟨ret_i e.out, rfl⟩
def WrotePost (b u : Nat) (bs : List (List Int)) (i : Nat) (l : List Int) (co : Int) (w : World) (e : Ending) (w' : World) : Prop :=
  e = .returned (.int .i64 0) ∧ ∃ co' fl', DevC w' b u (bs.set i l) co' fl' ∧ co ≤ co' ∧ co' ≤ co + 1 ∧ Chg (dvS b u) w w'
/-- Where a block is as it is to be, nothing is done. -/
def WroteSame (b u : Nat) (bs : List (List Int)) (co : Int) (fl : Bool) (w : World) (e : Ending) (w' : World) : Prop :=
  e = .returned (.int .i64 0) ∧ DevC w' b u bs co fl ∧ Below w.heap.size w w'
set_option maxRecDepth 100000 in
theorem walSame {w : World} {b u : Nat} {bs : List (List Int)} {co : Int} {fl : Bool} (h : DevC w b u bs co fl) (i : Nat) (hi : i < bs.length) (x : Value) (hx : Rdv u8v w x bs[i]) :
    Calls Try.prog 105 #[.pointer (some ⟨b, 0, none⟩), .int .i64 i, x] w (WroteSame b u bs co fl w) := by
  have KR := Lib.hid (dcRead h i hi)
  have hb := (h.byt (List.getElem_mem hi)).2
  obtain ⟨xa, xn, xc, rfl⟩ := hx.shape
  have H := Lib.hid h
  have HX := Lib.hid hx
  have HB := Lib.hid hb
  clear h hx hb
  go_enter Try.func105, Try.ntmps105
  go_wp2_with fail
  refine KR.out.mono ?_
  rintro e w1 ⟨v1, rfl, ⟨g, c, rfl, _⟩, ho1, hb1⟩
  have KE := Lib.hid (bytesEqual _ _ bs[i] bs[i] w1 (Rdv.of_owns ho1) (HX.out.below hb1) HB.out HB.out)
  rw [decide_eq_true rfl] at KE
  have B1 := Lib.hid hb1
  clear ho1 hb1
  go_wp2_with fail
  refine KE.out.mono ?_
  rintro e w2 ⟨rfl, rfl⟩
  go_wp2
  go_ret
  exact ⟨rfl, H.out.below B1.out, B1.out⟩
set_option maxRecDepth 100000 in
theorem walWrote {w : World} {b u : Nat} {bs : List (List Int)} {co : Int} {fl : Bool} (h : DevC w b u bs co fl) (i : Nat) (hi : i < bs.length) (x : Value) (l : List Int) (hx : Rdv u8v w x l) (hl : l.length = 512) (hby : Byt l) (hco : co < 9000000000000000000) :
    Calls Try.prog 105 #[.pointer (some ⟨b, 0, none⟩), .int .i64 i, x] w (WrotePost b u bs i l co w) := by
  by_cases he : bs[i] = l
  · subst he
    refine (walSame h i hi x hx).mono fun e w' ⟨h1, h2, h3⟩ => ⟨h1, co, fl, by rw [List.set_getElem_self]; exact h2, Int.le_refl _, by omega, Chg.of_below h3 (fun i h1 h2 => by omega)⟩
  · have KR := Lib.hid (dcRead h i hi)
    have hb := (h.byt (List.getElem_mem hi)).2
    obtain ⟨xa, xn, xc, rfl⟩ := hx.shape
    have H := Lib.hid h
    have HX := Lib.hid hx
    have HB := Lib.hid hb
    have HE := Lib.hid he
    have HY := Lib.hid hby
    have HLL := Lib.hid hl
    clear h hx hb he hby hl
    go_enter Try.func105, Try.ntmps105
    go_wp2_with fail
    refine KR.out.mono ?_
    rintro e w1 ⟨v1, rfl, ⟨g, c, rfl, _⟩, ho1, hb1⟩
    have KE := Lib.hid (bytesEqual _ _ bs[i] l w1 (Rdv.of_owns ho1) (HX.out.below hb1) HB.out HY.out)
    rw [decide_eq_false HE.out] at KE
    have B1 := Lib.hid hb1
    have KW := Lib.hid (dcWrite (H.out.below hb1) i hi _ l (HX.out.below hb1) HLL.out HY.out hco)
    clear ho1 hb1
    go_wp2_with fail
    refine KE.out.mono ?_
    rintro e w2 ⟨rfl, rfl⟩
    go_wp2_with fail
    refine KW.out.mono ?_
    rintro e w3 ⟨rfl, hd3, hc3⟩
    have D3 := Lib.hid hd3
    have C3 := Lib.hid hc3
    clear hd3 hc3
    go_wp2
    go_ret
    exact ⟨rfl, _, _, D3.out, by omega, by omega, (Chg.of_below B1.out (fun i h1 h2 => by omega)).trans' C3.out (fun i _ h => h)⟩
end Go.Proofs.Ytfcddpbpfckjfaa
