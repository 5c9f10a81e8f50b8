/- The laws of package codec: begun, CodecNone. -/
import Derived.Test.YthbalmoafpggdaaChecked
import Derived.WalkKit
import Derived.Outline
import Derived.WalkSpells
import Derived.WalkLawsBesides
import Derived.Deep.QuietTactic
import Derived.Deep.RegionWith
import Derived.Deep.DeepMust
import Derived.BigQuiet
import Derived.Test.YthbalmoafpggdaaMem
import Derived.RegionTactic
import Derived.ChangeAlike
import Derived.StillTailTactics
import Derived.Deep.LoopGhost
import Derived.Deep.OwnRows
import Derived.Test.YthbalmoafpggdaaRd5
namespace Go.Proofs.Ythbalmoafpggdaa
open Go.RowKit
set_option linter.unusedVariables false
set_option linter.unusedSimpArgs false
def CdTrue (w : World) (e : Ending) (w' : World) : Prop := e = .returned (.bool true) ∧ Below w.heap.size w w'
theorem cb_under {w w1 w2 : World} (h : Below w.heap.size w w1) (g : Below w1.heap.size w1 w2) : Below w.heap.size w w2 := h.trans (g.mono h.size)
/-- A writer that was made since w0. -/
def WC (w0 w : World) (p : Nat) (l : List Int) (bad : Bool) : Prop := w0.heap.size ≤ p ∧ Below w0.heap.size w0 w ∧ ∃ v, Wr w p v l bad ∧ ∀ k, v.ownBlock = some k → w0.heap.size ≤ k
theorem WC.step {w0 w w' : World} {p : Nat} {v : Value} {l l' : List Int} {bad bad' : Bool} (hp : w0.heap.size ≤ p) (hb : Below w0.heap.size w0 w) (hW : Wr w p v l bad) (hv : ∀ k, v.ownBlock = some k → w0.heap.size ≤ k) (h : WStep p v w l' bad' w') : WC w0 w' p l' bad' := by
  obtain ⟨v', h1, h2, h3⟩ := h
  refine ⟨hp, Chg.below_trans hb h3 hb.size (fun i hi hs => ?_), v', h1, fun k hk => ?_⟩
  · rcases hs with hs | hs
    · omega
    · have := hv i hs; omega
  · rcases h2 with h2 | h2
    · exact hv k (h2 ▸ hk)
    · exact Nat.le_trans hb.size (h2 k hk)
theorem WC.below {w0 w w' : World} {p : Nat} {l : List Int} {bad : Bool} (h : WC w0 w p l bad) (g : Below w.heap.size w w') : WC w0 w' p l bad := by
  obtain ⟨h1, h2, v, h3, h4⟩ := h
  exact ⟨h1, cb_under h2 g, v, h3.below g, h4⟩
theorem WC.new {w0 w w' : World} {p : Nat} (hb : Below w0.heap.size w0 w) (hp : w.heap.size ≤ p) (hW : Wr w' p (.slice none 0 0) [] false) (g : Below w.heap.size w w') : WC w0 w' p [] false :=
  ⟨Nat.le_trans hb.size hp, cb_under hb g, _, hW, fun k hk => by simp [Value.ownBlock] at hk⟩
def RC (w0 w : World) (r B : Nat) (s : RS) : Prop := w0.heap.size ≤ r ∧ w0.heap.size ≤ B ∧ B < w.heap.size + 2 ∧ Below w0.heap.size w0 w ∧ ∃ v, Rd w r B v s
theorem chg_b {w0 w w' : World} {r : Nat} (hb : Below w0.heap.size w0 w) (hr : w0.heap.size ≤ r) (g : Chg (· = r) w w') : Below w0.heap.size w0 w' := Chg.below_trans hb g hb.size (fun i hi e => by omega)
theorem rLeftNil (w : World) : Calls Try.prog 18 #[.pointer none] w fun e w' => e = .returned (.int .i64 0) ∧ w = w' := by
  go_enter Try.func18, Try.ntmps18
  go_wp2
  go_ret
  exact ⟨rfl, rfl⟩
theorem rErrNil (w : World) : Calls Try.prog 17 #[.pointer none] w fun e w' => e = .returned (.int .i64 74) ∧ w = w' := by
  go_enter Try.func17, Try.ntmps17
  go_wp2
  go_ret
  exact ⟨rfl, rfl⟩
theorem cbg1 : bytesW (strL ⟨#[97, 98]⟩) = some [2, 97, 98] := by decide +kernel
theorem cbg2 : vecW [1, 0, 2, 0] = some [3, 1, 0, 2] := by decide +kernel
theorem cbg3 : numS (some [172, 2, 2, 97, 98, 3, 1, 0, 2]) = (300, some [2, 97, 98, 3, 1, 0, 2]) := by decide +kernel
theorem cbg4 : bytesS (some [2, 97, 98, 3, 1, 0, 2]) = ([97, 98], some [3, 1, 0, 2]) := by decide +kernel
theorem cbg5 : vecS (some [3, 1, 0, 2]) = ([1, 0, 2], some []) := by decide +kernel
theorem cbg6 : numW 300 = some [172, 2] := by decide +kernel
set_option maxHeartbeats 4000000 in
set_option maxRecDepth 100000 in
theorem cdBegun (w : World) : Calls Try.prog 16 #[] w (CdTrue w) := by
  go_enter Try.func16, Try.ntmps16
  go_wp2_with fail
  refine (wNew w).mono ?_
  rintro e w1 ⟨p, rfl, hp, hW, hb⟩
  have KN := wNum p _ [] false 300 w1 hW (by omega) (by simp)
  rw [cbg6] at KN
  have KN := Lib.hid KN
  have H1 := Lib.hid (show w.heap.size ≤ p ∧ Below w.heap.size w w1 ∧ Wr w1 p (.slice none 0 0) [] false from ⟨hp, hb, hW⟩)
  clear hp hW hb
  go_wp2_with fail
  refine KN.out.mono ?_
  rintro e w2 ⟨rfl, h2⟩
  obtain ⟨hp, b2, v2, W2, k2⟩ := WC.step H1.out.1 H1.out.2.1 H1.out.2.2 (fun k hk => by simp [Value.ownBlock] at hk) h2
  have KT := wText p v2 _ _ ⟨#[97, 98]⟩ w2 W2 (by decide) (by simp [wadd, wbad])
  rw [cbg1] at KT
  have KT := Lib.hid KT
  have H2 := Lib.hid (show w.heap.size ≤ p ∧ Below w.heap.size w w2 ∧ Wr w2 p v2 _ _ ∧ ∀ k, v2.ownBlock = some k → w.heap.size ≤ k from ⟨hp, b2, W2, k2⟩)
  clear hp b2 W2 k2 h2 KN
  go_wp2_with fail
  refine KT.out.mono ?_
  rintro e w3 ⟨rfl, h3⟩
  obtain ⟨hp, b3, v3, W3, k3⟩ := WC.step H2.out.1 H2.out.2.1 H2.out.2.2.1 H2.out.2.2.2 h3
  have a3 : Below w3.heap.size w3 (w3.alloc (.cells #[.int .i64 1, .int .i64 0, .int .i64 2, .int .i64 0] 2)) := (Below.refl _ _).alloc (Nat.le_refl _) _
  have hbl : ∀ b o n c, Value.slice (some ⟨w3.heap.size, 0, none⟩) 4 4 = Value.slice (some ⟨b, o, none⟩) n c → b = w3.heap.size := fun b o n c e => by
    rw [Value.slice.injEq] at e; obtain ⟨e, _⟩ := e; injection e with e; injection e with e _; exact e.symm
  have KV := wVector p v3 _ _ (.slice (some ⟨w3.heap.size, 0, none⟩) 4 4) [1, 0, 2, 0] _ (W3.below a3) (Rdv.of_blk (xs := [1, 0, 2, 0]) (Blk.new w3 #[.int .i64 1, .int .i64 0, .int .i64 2, .int .i64 0] 2) (by unfold maxLen; simp)) (fun b o n c e _ => by
    have := hbl b o n c e; subst this
    exact ⟨by have := W3.lt; omega, fun e2 => by have := (W3.own.lt _ e2).2; omega⟩) (fun b o n c e _ => by have := hbl b o n c e; subst this; simp) (by simp [wadd, wbad])
  rw [cbg2] at KV
  have KV := Lib.hid KV
  have H3 := Lib.hid (show w.heap.size ≤ p ∧ Below w.heap.size w _ ∧ Wr _ p v3 _ _ ∧ ∀ k, v3.ownBlock = some k → w.heap.size ≤ k from ⟨hp, cb_under b3 a3, W3.below a3, k3⟩)
  clear hp b3 W3 k3 h3 KT a3 hbl
  go_wp2_with fail
  refine KV.out.mono ?_
  rintro e w4 ⟨rfl, h4⟩
  obtain ⟨hp, b4, v4, W4, k4⟩ := WC.step H3.out.1 H3.out.2.1 H3.out.2.2.1 H3.out.2.2.2 h4
  have KD := wDone p v4 _ _ w4 W4 (by simp [wadd, wbad])
  have KD : Hid (Calls Try.prog 12 #[.pointer (some ⟨p, 0, none⟩)] w4 (DonePostW [172, 2, 2, 97, 98, 3, 1, 0, 2] false w4)) := Lib.hid KD
  have B4 := Lib.hid b4
  clear hp b4 W4 k4 h4 KV
  go_wp2_with fail
  refine KD.out.mono ?_
  rintro e w5 ⟨v5, rfl, ho5, hb5⟩
  have B5 := Lib.hid (cb_under B4.out hb5)
  have R5 := Rdv.of_owns (enc := u8v) (xs := [172, 2, 2, 97, 98, 3, 1, 0, 2]) ho5
  have KR := Lib.hid (rNew v5 _ w5 R5 (by intro q hq; simp at hq; omega) (by simp))
  have R5 := Lib.hid R5
  obtain ⟨a5, c5, rfl, _⟩ := own_shape ho5
  clear ho5 hb5 B4 KD
  go_wp2_with fail
  refine KR.out.mono ?_
  rintro e w6 ⟨r, B, v6, rfl, hr, hB, hBl, h6, hb6⟩
  have B6 := Lib.hid (cb_under B5.out hb6)
  have R6 := Lib.hid (R5.out.below hb6)
  have KN := rNum r B v6 _ w6 h6
  unfold NumPost at KN
  rw [cbg3] at KN
  have KN := Lib.hid KN
  have h5r : ∀ b o n c, Value.slice a5 9 c5 = .slice (some ⟨b, o, none⟩) n c → ¬ b = r := fun b o n c e hbr => by
    rw [Value.slice.injEq] at e
    obtain ⟨rfl, _⟩ := e
    have := World.block_lt_of_cell? w5 _ ((R5.out).cell0)
    simp at this
    omega
  have H5R := Lib.hid h5r
  have hrw : w.heap.size ≤ r := by have := B5.out.size; omega
  clear h6 hb6 KR h5r
  go_wp2_with fail
  refine KN.out.mono ?_
  rintro e w7 ⟨rfl, v7, h7, g7⟩
  have KT := rText r B v7 _ w7 h7
  unfold RTextPost at KT
  rw [cbg4, show strOfNums ([97, 98], some [3, 1, 0, 2]).1 = ⟨#[97, 98]⟩ from rfl] at KT
  have KT := Lib.hid KT
  have B7 := Lib.hid (chg_b B6.out hrw g7)
  have R7 := Lib.hid (R6.out.chg g7 H5R.out)
  have hs7 := g7.size
  clear h7 g7 KN
  go_wp2_with fail
  refine KT.out.mono ?_
  rintro e w8 ⟨rfl, v8, h8, g8⟩
  have hs8 := g8.size
  have KV := rVector r B v8 _ w8 h8 (by omega)
  unfold RVecPost at KV
  rw [cbg5] at KV
  have KV := Lib.hid KV
  have B8 := Lib.hid (chg_b B7.out hrw g8)
  have R8 := Lib.hid (R7.out.chg g8 H5R.out)
  clear h8 g8 KT
  go_wp2_with fail
  refine KV.out.mono ?_
  rintro e w9 ⟨v9, rfl, ho9, v10, h9, g9⟩
  have B9 := Lib.hid (chg_b B8.out hrw g9)
  have R9 := R8.out.chg g9 H5R.out
  obtain ⟨a9, c9, rfl, _⟩ := own_shape ho9
  have hcv : (convert 24 9 (.slice a5 9 c5)).run Try.prog w9 = .ok (.string ⟨#[172, 2, 2, 97, 98, 3, 1, 0, 2]⟩) w9 := conv_rdv (P := Try.prog) 24 5 Try.underlying24 Try.underlying5 R9 9 Try.underlying9
  have KD := Lib.hid (rDone r B v10 _ w9 h9)
  clear ho9 h9 g9 R9 KV
  go_wp2_with fail
  refine KD.out.mono ?_
  rintro e w11 ⟨rfl, rfl⟩
  go_wp2
  go_ret
  exact ⟨rfl, B9.out⟩
theorem made_rdv (w : World) (n : Nat) (hn : n ≤ maxLen) : Rdv u8v (w.alloc (.cells (madeCells #[.int .u8 0] n) 5)) (.slice (some ⟨w.heap.size, 0, none⟩) n n) (List.replicate n 0) := by
  have h0 := Blk.new w (madeCells #[.int .u8 0] n) 5
  have e : madeCells #[Value.int .u8 0] n = ((List.replicate n (0 : Int)).map u8v).toArray := by
    apply Array.toList_inj.1; rw [toList_madeCells_one]; simp
  rw [e] at h0
  have := Rdv.of_blk (enc := u8v) h0 (by rw [List.length_replicate]; exact hn)
  rw [List.length_replicate, ← e] at this
  exact this
theorem bytesW_long (n : Nat) (h : 65536 < n) : bytesW (List.replicate n 0) = none := by
  unfold bytesW; rw [List.length_replicate, if_neg (by omega)]
theorem bytesW_fits : ∃ L : List Int, bytesW (List.replicate 65536 0) = some L ∧ L.length = 65539 := by
  refine ⟨numL 65536 ++ List.replicate 65536 0, ?_, ?_⟩
  · unfold bytesW; rw [List.length_replicate, if_pos (Nat.le_refl _)]
  · rw [List.length_append, List.length_replicate, show (numL 65536).length = 3 by decide +kernel]
theorem sl_blk {g m c b o n c' : Nat} (e : Value.slice (some ⟨g, 0, none⟩) m c = .slice (some ⟨b, o, none⟩) n c') : b = g := by
  rw [Value.slice.injEq] at e; obtain ⟨e, _⟩ := e; injection e with e; injection e with e _; exact e.symm
theorem apt_new {w : World} {p m c : Nat} (hp : p < w.heap.size) : Apt (.slice (some ⟨w.heap.size, 0, none⟩) m c) p (.slice none 0 0) := fun b o n c' e _ => by
  have := sl_blk e; subst this
  exact ⟨by omega, fun e2 => by simp [Value.ownBlock] at e2⟩
theorem mk65537 (w : World) : (Instr.makeSlice 24 (.int .i64 65537) (.int .i64 65537)).run Try.prog w = .ok (.slice (some ⟨w.heap.size, 0, none⟩) 65537 65537) (w.alloc (.cells (madeCells #[.int .u8 0] 65537) 5)) :=
  run_make_row' (P := Try.prog) 24 5 (.int .u8 0) 1 Try.underlying24 Try.info5 rfl .i64 .i64 65537 (by omega) (by omega) w
theorem mk65536 (w : World) : (Instr.makeSlice 24 (.int .i64 65536) (.int .i64 65536)).run Try.prog w = .ok (.slice (some ⟨w.heap.size, 0, none⟩) 65536 65536) (w.alloc (.cells (madeCells #[.int .u8 0] 65536) 5)) :=
  run_make_row' (P := Try.prog) 24 5 (.int .u8 0) 1 Try.underlying24 Try.info5 rfl .i64 .i64 65536 (by omega) (by omega) w
set_option maxHeartbeats 4000000 in
set_option maxRecDepth 100000 in
theorem codecNone_walk (w : World) : Calls Try.prog 3 #[] w (CdTrue w) := by
  have B0 : Hid (Below w.heap.size w w) := Lib.hid (Below.refl _ _)
  obtain ⟨L, hL, hLl⟩ := bytesW_fits
  have HL := Lib.hid hL
  have HLl := Lib.hid hLl
  clear hL hLl
  go_enter Try.func3, Try.ntmps3
  go_wp2_with fail
  refine (wNumNil _).mono ?_
  rintro e w' ⟨rfl, rfl⟩
  go_wp2_with fail
  refine (wDoneNil _).mono ?_
  rintro e w' ⟨rfl, rfl⟩
  go_wp2_with fail
  refine (rNumNil _).mono ?_
  rintro e w' ⟨rfl, rfl⟩
  go_wp2_with fail
  refine (wNew _).mono ?_
  rintro e w1 ⟨p1, rfl, hp1, hW1, hb1⟩
  have B1 := Lib.hid (cb_under B0.out hb1)
  have hm1 := mk65537 w1
  have a1 : Below w1.heap.size w1 (w1.alloc (.cells (madeCells #[.int .u8 0] 65537) 5)) := (Below.refl _ _).alloc (Nat.le_refl _) _
  have BA1 := Lib.hid (cb_under B1.out a1)
  have KB1 := wBytes p1 _ [] false (.slice (some ⟨w1.heap.size, 0, none⟩) 65537 65537) _ _ (hW1.below a1) (made_rdv w1 65537 (by unfold maxLen; omega)) (apt_new hW1.lt) (fun b o n c e _ => by rw [sl_blk e]; simp) (by simp)
  have hp01 : w.heap.size ≤ p1 := Nat.le_trans B0.out.size hp1
  have W1 := Lib.hid (hW1.below a1)
  rw [bytesW_long 65537 (by omega)] at KB1
  have KB1 := Lib.hid KB1
  clear hW1 hb1 a1 hp1
  go_wp2_with fail
  refine KB1.out.mono ?_
  rintro e w2 ⟨rfl, h2⟩
  obtain ⟨_, b2, v2, W2, k2⟩ := WC.step hp01 BA1.out W1.out (fun k hk => by simp [Value.ownBlock] at hk) h2
  have KD := Lib.hid (wDone p1 v2 _ _ w2 W2 (by simp [wadd, wbad]))
  have B2 := Lib.hid b2
  clear b2 W2 k2 h2 hm1
  go_wp2_with fail
  refine KD.out.mono ?_
  rintro e w3 h3
  obtain ⟨rfl, rfl⟩ : e = .returned (.tuple #[.slice none 0 0, .int .i64 22]) ∧ w2 = w3 := h3
  go_wp2_with fail
  refine (wNew _).mono ?_
  rintro e w4 ⟨p4, rfl, hp4, hW4, hb4⟩
  have B4 := Lib.hid (cb_under B2.out hb4)
  have hm4 := mk65536 w4
  have a4 : Below w4.heap.size w4 (w4.alloc (.cells (madeCells #[.int .u8 0] 65536) 5)) := (Below.refl _ _).alloc (Nat.le_refl _) _
  have BA4 := Lib.hid (cb_under B4.out a4)
  have KB4 := wBytes p4 _ [] false (.slice (some ⟨w4.heap.size, 0, none⟩) 65536 65536) _ _ (hW4.below a4) (made_rdv w4 65536 (by unfold maxLen; omega)) (apt_new hW4.lt) (fun b o n c e _ => by rw [sl_blk e]; simp) (by simp)
  have hp04 : w.heap.size ≤ p4 := Nat.le_trans B2.out.size hp4
  have W4 := Lib.hid (hW4.below a4)
  rw [HL.out] at KB4
  have KB4 := Lib.hid KB4
  clear hW4 hb4 a4 hp4
  go_wp2_with fail
  refine KB4.out.mono ?_
  rintro e w5 ⟨rfl, h5⟩
  obtain ⟨_, b5, v5, W5, k5⟩ := WC.step hp04 BA4.out W4.out (fun k hk => by simp [Value.ownBlock] at hk) h5
  have KD5 : Hid (Calls Try.prog 12 #[.pointer (some ⟨p4, 0, none⟩)] w5 (DonePostW L false w5)) := Lib.hid (wDone p4 v5 L false w5 W5 (by rw [HLl.out]; omega))
  have B5 := Lib.hid b5
  clear b5 W5 k5 h5 hm4
  go_wp2_with fail
  refine KD5.out.mono ?_
  rintro e w6 ⟨v6, rfl, ho6, hb6⟩
  have B6 := Lib.hid (cb_under B5.out hb6)
  rw [HLl.out] at ho6
  obtain ⟨a6, c6, rfl, _⟩ := own_shape ho6
  clear ho6 hb6
  go_wp2_with (first | (go_at_call 16; refine (cdBegun _).mono ?_; rintro e w7 ⟨rfl, hb7⟩; have B7 := Lib.hid (cb_under B6.out hb7); clear hb7) | (go_at_call 17; refine (rErrNil _).mono ?_; rintro e w' ⟨rfl, rfl⟩) | (go_at_call 18; refine (rLeftNil _).mono ?_; rintro e w' ⟨rfl, rfl⟩))
  go_ret
  exact ⟨rfl, B7.out⟩
end Go.Proofs.Ythbalmoafpggdaa
