/- The laws of layer 22: FrameDecode. The laws of layer 22: FrameCode. A frame, as an argument reads. -/
import Derived.Test.YthbalmoafpggdaaGreatChecked
import Derived.WalkKit
import Derived.Outline
import Derived.WalkSpells
import Derived.WalkLawsBesides
import Derived.Deep.QuietTactic
import Derived.Deep.RegionWith
import Derived.Deep.DeepMust
import Derived.BigQuiet
import Derived.RegionTactic
import Derived.ChangeAlike
import Derived.StillTailTactics
import Derived.Deep.LoopGhost
import Derived.Laws.BitsAllLaws
import Derived.Deep.Slices
import Derived.ChangeSame
import Derived.OpenShut
import Derived.ChangeMaps
import Derived.Test.YthbalmoafpggdaaGreatM1
import Derived.Test.YthbalmoafpggdaaGreatM22
import Derived.Test.YthbalmoafpggdaaGreatM14
namespace Go.Proofs.YthbalmoafpggdaaGreat
open Go.RowKit
set_option linter.unusedVariables false
set_option linter.unusedSimpArgs false
def zF : Frm := ⟨0, 0, 0, 0, 0, false, [], []⟩
theorem zOps (w : World) : OpsRd w (.slice none 0 0) ([] : List Opr) := ⟨none, 0, rfl, Nat.le_refl _, Nat.zero_le _, fun i q hq => by simp at hq⟩
/- behind the byte that was turned: O5, LB, B5; the bytes: #1, their slice's address and capacity: #3 #4 -/
set_option maxHeartbeats 8000000 in
set_option maxRecDepth 100000 in
/-- What the law does behind the bytes: both read them, and alike. -/
theorem frameDecode_walk (f : Frm) (v o r : Value) (at_ x : Int) (k0 : List Int) (w : World) (hv : Rdv i64v w v f.vec) (ho : OpsRd w o f.ops) (hob : ∀ q ∈ f.ops, Byt q.data) (hr : Rdv u8v w r k0) (hkb : Byt k0) (ha : -9223372036854775808 ≤ at_ ∧ at_ ≤ 9223372036854775807) (hx : 0 ≤ x ∧ x < 256) :
    Calls Tryz.prog 4 #[.agg #[.int .i64 (f).kind, .int .i64 (f).src, .int .i64 (f).dst, .int .i64 (f).sess, .int .i64 (f).seq, .bool (f).last, v, o], .int .i64 at_, .int .u8 x, r] w (OTrue22 w) := by
  obtain ⟨i0, hi, hz0, hz1, hz2⟩ := info_parts Tryz.info5
  have KC := Lib.hid (fun w' hw => frCut f v o w' (hv.below hw) (ho.below hw) : ∀ w', Below w.heap.size w w' → _)
  have KE := Lib.hid (fun v o w' hv ho => refFEncode (cutF f) v o w' hv ho (cutF_name f) (cutF_byt f hob) (cutF_len f))
  have hLf := encL_fine f (cutF_byt f hob)
  unfold FCutPost at KC
  unfold RFEncPost at KE
  simp only [show (if fMayB (cutF f) = true then frameL (bodyL (cutF f)) else []) = encL (cutF f) from rfl] at KE
  generalize encL (cutF f) = E at *
  generalize cutF f = f' at *
  have LB0 := Lib.hid hLf.1
  have hL2 := hLf.2
  clear hLf
  have HR := Lib.hid hr
  obtain ⟨ra, rn, rc, rfl⟩ := hr.shape
  obtain ⟨rfl, r1, r2, _⟩ := hr.cap
  unfold maxLen at r2
  obtain ⟨va, vn, vc, rfl⟩ := hv.shape
  obtain ⟨oa, oc, rfl, _, _, _⟩ := id ho
  clear hr hv ho hob
  have hk30 : (k0.take 30).length ≤ 30 := by simp; omega
  have KS := Lib.hid (fun w' => shortC4 ra k0 rc 30 w' (by omega) r1 (by omega))
  go_enter Tryz.func4, Tryz.ntmps4
  go_wp2_with fail
  have AL := (Below.refl w.heap.size w).alloc (Nat.le_refl _) (.cells #[.int .i64 (f).kind, .int .i64 (f).src, .int .i64 (f).dst, .int .i64 (f).sess, .int .i64 (f).seq, .bool (f).last, .slice va vn vc, .slice oa (f.ops).length oc] 26)
  refine (frBegun _).mono ?_
  rintro e w1 ⟨rfl, hb1⟩
  have X1 := Lib.hid (blkBelow hb1 (Blk.new w #[.int .i64 (f).kind, .int .i64 (f).src, .int .i64 (f).dst, .int .i64 (f).sess, .int .i64 (f).seq, .bool (f).last, .slice va vn vc, .slice oa (f.ops).length oc] 26) (Blk.new _ _ _).lt)
  have B1 := Lib.hid (AL.trans (hb1.mono (by simp)))
  clear hb1 AL
  have a0 : w.heap.size < w1.heap.size := X1.out.lt
  have p_0 : w1.cell? ⟨w.heap.size, 0, none⟩ = some (.int .i64 (f).kind) := (X1.out).cell (o := 0) rfl
  have p_1 : w1.cell? ⟨w.heap.size, 1, none⟩ = some (.int .i64 (f).src) := (X1.out).cell (o := 1) rfl
  have p_2 : w1.cell? ⟨w.heap.size, 2, none⟩ = some (.int .i64 (f).dst) := (X1.out).cell (o := 2) rfl
  have p_3 : w1.cell? ⟨w.heap.size, 3, none⟩ = some (.int .i64 (f).sess) := (X1.out).cell (o := 3) rfl
  have p_4 : w1.cell? ⟨w.heap.size, 4, none⟩ = some (.int .i64 (f).seq) := (X1.out).cell (o := 4) rfl
  have p_5 : w1.cell? ⟨w.heap.size, 5, none⟩ = some (.bool (f).last) := (X1.out).cell (o := 5) rfl
  have p_6 : w1.cell? ⟨w.heap.size, 6, none⟩ = some (.slice va vn vc) := (X1.out).cell (o := 6) rfl
  have p_7 : w1.cell? ⟨w.heap.size, 7, none⟩ = some (.slice oa (f.ops).length oc) := (X1.out).cell (o := 7) rfl
  go_wp2_with fail
  refine (KC.out _ B1.out).mono ?_
  rintro e w2 ⟨v2, o2, rfl, hv2, ho2, hb2⟩
  have V2 := Lib.hid hv2
  have O2 := Lib.hid ho2
  have B2 := Lib.hid (B1.out.trans (hb2.mono B1.out.size))
  obtain ⟨v2a, v2n, v2c, rfl⟩ := hv2.shape
  obtain ⟨o2a, o2c, rfl, _, _, _⟩ := id ho2
  clear hv2 ho2 hb2 p_0 p_1 p_2 p_3 p_4 p_5 p_6 p_7
  go_wp2_with fail
  refine (KE.out _ _ _ V2.out O2.out).mono ?_
  rintro e w4 ⟨v4, rfl, ho4, hb4⟩
  have B4 := Lib.hid (B2.out.trans (hb4.mono B2.out.size))
  have O4 := Lib.hid (own_down ho4 B2.out.size)
  obtain ⟨ea, ec, rfl, _, _, _⟩ := own_shape ho4
  clear ho4 hb4 V2 O2
  have a1 := B4.out.size
  go_wp2_with fail
  refine (KS.out _).mono ?_
  rintro e wS ⟨⟨kn, kc, rfl, hk⟩, rfl⟩
  have HK := Lib.hid (hk _ (HR.out.below B4.out))
  clear hk
  go_wp2_with (at_builtin; refine wpList_append_rd rfl (.tmp 18) (.tmp 20) 30 rfl w.heap.size 5 i0 (.int .u8 0) 1 Tryz.underlying30 hi hz0 hz1 hz2 rfl (.slice ea E.length ec) E.length (E.map u8v) rfl O4.out (.slice ra kn kc) u8v (k0.take 30) rfl HK.out (fun _ => rfl) ?c1 ?c2 ?c3 ?_)
  case c1 => unfold maxLen; omega
  case c2 => omega
  case c3 => exact B4.out.size
  intro v6 w6 o6 g6 _
  have B6 := Lib.hid (B4.out.grown g6 B4.out.size (fun q hq => (O4.out.lt q hq).1))
  have O6 : Hid (w6.ownsRow w.heap.size 5 1 v6 (E ++ k0.take 30).length ((E ++ k0.take 30).map u8v)) := Lib.hid (by rw [List.map_append, List.length_append]; first | exact o6 | simpa using o6)
  have LB6 := Lib.hid (LB0.out.append (hkb.take 30))
  have BL6 : (E ++ k0.take 30).length ≤ 2000030 := by rw [List.length_append]; omega
  clear g6 o6 O4 HK KE KC KS
  generalize E ++ k0.take 30 = L at *
  obtain ⟨va6, vc6, rfl, _, _, _⟩ := own_shape O6.out
  have a6 := B6.out.size
  by_cases hpos : 0 < L.length
  · have hpos' : (0 : Int) < L.length := by omega
    have hstep : ∀ (A : Int), 0 ≤ A → ∃ j : Nat, A % (L.length : Int) = j ∧ j < L.length := fun A hA => by
      have h1 := Int.emod_nonneg A (show (L.length : Int) ≠ 0 by omega)
      have h2 := Int.emod_lt_of_pos A (show (0 : Int) < (L.length : Int) by omega)
      exact ⟨(A % (L.length : Int)).toNat, by omega, by omega⟩
    have HS := Lib.hid hstep
    clear hstep
    obtain ⟨xn, rfl⟩ := Int.eq_ofNat_of_zero_le hx.1
    by_cases hneg : at_ < 0
    · obtain ⟨j, hj, hjl⟩ := HS.out (-(at_ + 1)) (by omega)
      obtain ⟨g, c, hv5, c1, c2, hB, hg5, hcell, hfr, hset⟩ := own_store2 O6.out j hjl
      rw [Value.slice.injEq] at hv5
      obtain ⟨rfl, _, rfl⟩ := hv5
      obtain ⟨yq, hq, hq2⟩ := LB6.out.at_ j hjl
      rw [hq] at hcell
      obtain ⟨y, hy, hy2⟩ := xor_byt yq xn hq2 (by omega)
      have HSET := Lib.hid hset
      unfold maxLen at c2
      clear hset hq
      have q0 : at_ < 0 := hneg
      have q1 : 0 ≤ -(at_ + 1) := by omega
      have hj2 : (-(at_ + 1)).tmod (L.length : Int) = j := by rw [Int.tmod_eq_emod_of_nonneg q1]; exact hj
      clear hneg
      have B5 := Lib.hid (B6.out.setCell (show w.heap.size ≤ (⟨g, j, none⟩ : Addr).block from hB) (.int .u8 (y : Int)))
      have O5 := Lib.hid (HSET.out y)
      have LB := Lib.hid (LB6.out.set j y hy2)
      go_upto_region 7 with fail
      generalize w6.setCell ⟨g, j, none⟩ (.int .u8 (y : Int)) = w5 at *
      clear hcell hfr HSET O6 LB6 B6
      generalize ((L.set j (y : Int))) = l at *
      have H6 := Lib.hid (Rdv.of_owns (enc := u8v) (xs := l) O5.out)
      have KR := Lib.hid (fun w' hw => refFDecode _ l w' (H6.out.below hw) LB.out : ∀ w', Below w5.heap.size w5 w' → _)
      have KD5 := Lib.hid (framesDecode _ l w5 H6.out LB.out)
      have DBY := Lib.hid (fun F (h : decF l = some F) => decF_byt LB.out h)
      clear O5
      unfold FDecPost at KD5 KR
      cases hdec : decF l
      · rw [hdec] at KR KD5
        simp only at KR KD5
        have KQ := Lib.hid (fun w' => refFEq zF zF (.slice none 0 0) (.slice none 0 0) (.slice none 0 0) (.slice none 0 0) w' (Rdv.nil _ _) (zOps _) (Rdv.nil _ _) (zOps _) (by intro q hq; simp [zF] at hq) (by intro q hq; simp [zF] at hq))
        rw [frEqB_refl] at KQ
        simp only [zF] at KQ
        go_wp2_with fail
        refine KD5.out.mono ?_
        rintro e w7 ⟨rfl, hb7⟩
        have B7 := Lib.hid (B5.out.trans (hb7.mono B5.out.size))
        have C7 := Lib.hid hb7
        clear hb7
        have a5 := B5.out.size
        have a7 := B7.out.size
        go_wp2_with fail
        have AL := (Below.refl w7.heap.size w7).alloc (Nat.le_refl _) (.cells #[.int .i64 0, .int .i64 0, .int .i64 0, .int .i64 0, .int .i64 0, .bool false, .slice none 0 0, .slice none 0 0] 26)
        refine (KR.out _ (C7.out.trans (AL.mono C7.out.size))).mono ?_
        rintro e w8 ⟨rfl, hb8⟩
        have G8 := Lib.hid (AL.trans (hb8.mono (by simp)))
        have X8 := Lib.hid (blkBelow hb8 (Blk.new w7 #[.int .i64 0, .int .i64 0, .int .i64 0, .int .i64 0, .int .i64 0, .bool false, .slice none 0 0, .slice none 0 0] 26) (Blk.new _ _ _).lt)
        have B8 := Lib.hid (B7.out.trans (G8.out.mono B7.out.size))
        clear hb8 AL
        have a8 : w7.heap.size < w8.heap.size := X8.out.lt
        have x_0 : w8.cell? ⟨w7.heap.size, 0, none⟩ = some (.int .i64 0) := X8.out.cell (o := 0) rfl
        have x_1 : w8.cell? ⟨w7.heap.size, 1, none⟩ = some (.int .i64 0) := X8.out.cell (o := 1) rfl
        have x_2 : w8.cell? ⟨w7.heap.size, 2, none⟩ = some (.int .i64 0) := X8.out.cell (o := 2) rfl
        have x_3 : w8.cell? ⟨w7.heap.size, 3, none⟩ = some (.int .i64 0) := X8.out.cell (o := 3) rfl
        have x_4 : w8.cell? ⟨w7.heap.size, 4, none⟩ = some (.int .i64 0) := X8.out.cell (o := 4) rfl
        have x_5 : w8.cell? ⟨w7.heap.size, 5, none⟩ = some (.bool false) := X8.out.cell (o := 5) rfl
        have x_6 : w8.cell? ⟨w7.heap.size, 6, none⟩ = some (.slice none 0 0) := X8.out.cell (o := 6) rfl
        have x_7 : w8.cell? ⟨w7.heap.size, 7, none⟩ = some (.slice none 0 0) := X8.out.cell (o := 7) rfl
        go_wp2_with fail
        refine (KQ.out _).mono ?_
        have AL := (Below.refl w8.heap.size w8).alloc (Nat.le_refl _) (.cells #[.int .i64 0, .int .i64 0, .int .i64 0, .int .i64 0, .int .i64 0, .bool false, .slice none 0 0, .slice none 0 0] 26)
        rintro e w9 ⟨rfl, hb9⟩
        have G9 := Lib.hid (AL.trans (hb9.mono (by simp)))
        have B9 := Lib.hid (B8.out.trans (G9.out.mono B8.out.size))
        clear hb9 AL x_0 x_1 x_2 x_3 x_4 x_5 x_6 x_7
        go_wp2
        go_ret
        exact ⟨rfl, B9.out⟩
      · rename_i F
        rw [hdec] at KR KD5
        simp only at KR KD5
        have FBY := DBY.out F hdec
        have KQ := Lib.hid (fun v o v2 o2 w' hv ho hv2 ho2 => refFEq F F v o v2 o2 w' hv ho hv2 ho2 FBY FBY)
        rw [frEqB_refl] at KQ
        clear FBY
        go_wp2_with fail
        refine KD5.out.mono ?_
        rintro e w7 ⟨v7, o7, rfl, hv7, ho7, hb7⟩
        have B7 := Lib.hid (B5.out.trans (hb7.mono B5.out.size))
        have C7 := Lib.hid hb7
        have V7 := Lib.hid hv7
        have O7 := Lib.hid ho7
        obtain ⟨v7a, v7n, v7c, rfl⟩ := hv7.shape
        obtain ⟨o7a, o7c, rfl, _, _, _⟩ := id ho7
        clear hb7 hv7 ho7
        have a5 := B5.out.size
        have a7 := B7.out.size
        go_wp2_with fail
        have AL := (Below.refl w7.heap.size w7).alloc (Nat.le_refl _) (.cells #[.int .i64 (F).kind, .int .i64 (F).src, .int .i64 (F).dst, .int .i64 (F).sess, .int .i64 (F).seq, .bool (F).last, .slice v7a v7n v7c, .slice o7a (F.ops).length o7c] 26)
        refine (KR.out _ (C7.out.trans (AL.mono C7.out.size))).mono ?_
        rintro e w8 ⟨v8, o8, rfl, hv8, ho8, hb8⟩
        have G8 := Lib.hid (AL.trans (hb8.mono (by simp)))
        have X8 := Lib.hid (blkBelow hb8 (Blk.new w7 #[.int .i64 (F).kind, .int .i64 (F).src, .int .i64 (F).dst, .int .i64 (F).sess, .int .i64 (F).seq, .bool (F).last, .slice v7a v7n v7c, .slice o7a (F.ops).length o7c] 26) (Blk.new _ _ _).lt)
        have B8 := Lib.hid (B7.out.trans (G8.out.mono B7.out.size))
        have V8 := Lib.hid hv8
        have O8 := Lib.hid ho8
        obtain ⟨v8a, v8n, v8c, rfl⟩ := hv8.shape
        obtain ⟨o8a, o8c, rfl, _, _, _⟩ := id ho8
        clear hb8 AL hv8 ho8
        have a8 : w7.heap.size < w8.heap.size := X8.out.lt
        have x_0 : w8.cell? ⟨w7.heap.size, 0, none⟩ = some (.int .i64 (F).kind) := (X8.out).cell (o := 0) rfl
        have x_1 : w8.cell? ⟨w7.heap.size, 1, none⟩ = some (.int .i64 (F).src) := (X8.out).cell (o := 1) rfl
        have x_2 : w8.cell? ⟨w7.heap.size, 2, none⟩ = some (.int .i64 (F).dst) := (X8.out).cell (o := 2) rfl
        have x_3 : w8.cell? ⟨w7.heap.size, 3, none⟩ = some (.int .i64 (F).sess) := (X8.out).cell (o := 3) rfl
        have x_4 : w8.cell? ⟨w7.heap.size, 4, none⟩ = some (.int .i64 (F).seq) := (X8.out).cell (o := 4) rfl
        have x_5 : w8.cell? ⟨w7.heap.size, 5, none⟩ = some (.bool (F).last) := (X8.out).cell (o := 5) rfl
        have x_6 : w8.cell? ⟨w7.heap.size, 6, none⟩ = some (.slice v7a v7n v7c) := (X8.out).cell (o := 6) rfl
        have x_7 : w8.cell? ⟨w7.heap.size, 7, none⟩ = some (.slice o7a (F.ops).length o7c) := (X8.out).cell (o := 7) rfl
        go_wp2_with fail
        have AL := Lib.hid ((Below.refl w8.heap.size w8).alloc (Nat.le_refl _) (.cells #[.int .i64 (F).kind, .int .i64 (F).src, .int .i64 (F).dst, .int .i64 (F).sess, .int .i64 (F).seq, .bool (F).last, .slice v8a v8n v8c, .slice o8a (F.ops).length o8c] 26))
        refine (KQ.out _ _ _ _ _ ((V7.out.below G8.out).below AL.out) ((O7.out.below G8.out).below AL.out) (V8.out.below AL.out) (O8.out.below AL.out)).mono ?_
        rintro e w9 ⟨rfl, hb9⟩
        have G9 := Lib.hid (AL.out.trans (hb9.mono (by simp)))
        have B9 := Lib.hid (B8.out.trans (G9.out.mono B8.out.size))
        clear hb9 AL x_0 x_1 x_2 x_3 x_4 x_5 x_6 x_7
        go_wp2
        go_ret
        exact ⟨rfl, B9.out⟩
    · obtain ⟨j, hj, hjl⟩ := HS.out at_ (by omega)
      obtain ⟨g, c, hv5, c1, c2, hB, hg5, hcell, hfr, hset⟩ := own_store2 O6.out j hjl
      rw [Value.slice.injEq] at hv5
      obtain ⟨rfl, _, rfl⟩ := hv5
      obtain ⟨yq, hq, hq2⟩ := LB6.out.at_ j hjl
      rw [hq] at hcell
      obtain ⟨y, hy, hy2⟩ := xor_byt yq xn hq2 (by omega)
      have HSET := Lib.hid hset
      unfold maxLen at c2
      clear hset hq
      have q0 : 0 ≤ at_ := by omega
      have q1 : ¬ (at_ < 0) := by omega
      have hj2 : at_.tmod (L.length : Int) = j := by rw [Int.tmod_eq_emod_of_nonneg q0]; exact hj
      clear hneg
      have B5 := Lib.hid (B6.out.setCell (show w.heap.size ≤ (⟨g, j, none⟩ : Addr).block from hB) (.int .u8 (y : Int)))
      have O5 := Lib.hid (HSET.out y)
      have LB := Lib.hid (LB6.out.set j y hy2)
      go_upto_region 7 with fail
      generalize w6.setCell ⟨g, j, none⟩ (.int .u8 (y : Int)) = w5 at *
      clear hcell hfr HSET O6 LB6 B6
      generalize ((L.set j (y : Int))) = l at *
      have H6 := Lib.hid (Rdv.of_owns (enc := u8v) (xs := l) O5.out)
      have KR := Lib.hid (fun w' hw => refFDecode _ l w' (H6.out.below hw) LB.out : ∀ w', Below w5.heap.size w5 w' → _)
      have KD5 := Lib.hid (framesDecode _ l w5 H6.out LB.out)
      have DBY := Lib.hid (fun F (h : decF l = some F) => decF_byt LB.out h)
      clear O5
      unfold FDecPost at KD5 KR
      cases hdec : decF l
      · rw [hdec] at KR KD5
        simp only at KR KD5
        have KQ := Lib.hid (fun w' => refFEq zF zF (.slice none 0 0) (.slice none 0 0) (.slice none 0 0) (.slice none 0 0) w' (Rdv.nil _ _) (zOps _) (Rdv.nil _ _) (zOps _) (by intro q hq; simp [zF] at hq) (by intro q hq; simp [zF] at hq))
        rw [frEqB_refl] at KQ
        simp only [zF] at KQ
        go_wp2_with fail
        refine KD5.out.mono ?_
        rintro e w7 ⟨rfl, hb7⟩
        have B7 := Lib.hid (B5.out.trans (hb7.mono B5.out.size))
        have C7 := Lib.hid hb7
        clear hb7
        have a5 := B5.out.size
        have a7 := B7.out.size
        go_wp2_with fail
        have AL := (Below.refl w7.heap.size w7).alloc (Nat.le_refl _) (.cells #[.int .i64 0, .int .i64 0, .int .i64 0, .int .i64 0, .int .i64 0, .bool false, .slice none 0 0, .slice none 0 0] 26)
        refine (KR.out _ (C7.out.trans (AL.mono C7.out.size))).mono ?_
        rintro e w8 ⟨rfl, hb8⟩
        have G8 := Lib.hid (AL.trans (hb8.mono (by simp)))
        have X8 := Lib.hid (blkBelow hb8 (Blk.new w7 #[.int .i64 0, .int .i64 0, .int .i64 0, .int .i64 0, .int .i64 0, .bool false, .slice none 0 0, .slice none 0 0] 26) (Blk.new _ _ _).lt)
        have B8 := Lib.hid (B7.out.trans (G8.out.mono B7.out.size))
        clear hb8 AL
        have a8 : w7.heap.size < w8.heap.size := X8.out.lt
        have x_0 : w8.cell? ⟨w7.heap.size, 0, none⟩ = some (.int .i64 0) := X8.out.cell (o := 0) rfl
        have x_1 : w8.cell? ⟨w7.heap.size, 1, none⟩ = some (.int .i64 0) := X8.out.cell (o := 1) rfl
        have x_2 : w8.cell? ⟨w7.heap.size, 2, none⟩ = some (.int .i64 0) := X8.out.cell (o := 2) rfl
        have x_3 : w8.cell? ⟨w7.heap.size, 3, none⟩ = some (.int .i64 0) := X8.out.cell (o := 3) rfl
        have x_4 : w8.cell? ⟨w7.heap.size, 4, none⟩ = some (.int .i64 0) := X8.out.cell (o := 4) rfl
        have x_5 : w8.cell? ⟨w7.heap.size, 5, none⟩ = some (.bool false) := X8.out.cell (o := 5) rfl
        have x_6 : w8.cell? ⟨w7.heap.size, 6, none⟩ = some (.slice none 0 0) := X8.out.cell (o := 6) rfl
        have x_7 : w8.cell? ⟨w7.heap.size, 7, none⟩ = some (.slice none 0 0) := X8.out.cell (o := 7) rfl
        go_wp2_with fail
        refine (KQ.out _).mono ?_
        have AL := (Below.refl w8.heap.size w8).alloc (Nat.le_refl _) (.cells #[.int .i64 0, .int .i64 0, .int .i64 0, .int .i64 0, .int .i64 0, .bool false, .slice none 0 0, .slice none 0 0] 26)
        rintro e w9 ⟨rfl, hb9⟩
        have G9 := Lib.hid (AL.trans (hb9.mono (by simp)))
        have B9 := Lib.hid (B8.out.trans (G9.out.mono B8.out.size))
        clear hb9 AL x_0 x_1 x_2 x_3 x_4 x_5 x_6 x_7
        go_wp2
        go_ret
        exact ⟨rfl, B9.out⟩
      · rename_i F
        rw [hdec] at KR KD5
        simp only at KR KD5
        have FBY := DBY.out F hdec
        have KQ := Lib.hid (fun v o v2 o2 w' hv ho hv2 ho2 => refFEq F F v o v2 o2 w' hv ho hv2 ho2 FBY FBY)
        rw [frEqB_refl] at KQ
        clear FBY
        go_wp2_with fail
        refine KD5.out.mono ?_
        rintro e w7 ⟨v7, o7, rfl, hv7, ho7, hb7⟩
        have B7 := Lib.hid (B5.out.trans (hb7.mono B5.out.size))
        have C7 := Lib.hid hb7
        have V7 := Lib.hid hv7
        have O7 := Lib.hid ho7
        obtain ⟨v7a, v7n, v7c, rfl⟩ := hv7.shape
        obtain ⟨o7a, o7c, rfl, _, _, _⟩ := id ho7
        clear hb7 hv7 ho7
        have a5 := B5.out.size
        have a7 := B7.out.size
        go_wp2_with fail
        have AL := (Below.refl w7.heap.size w7).alloc (Nat.le_refl _) (.cells #[.int .i64 (F).kind, .int .i64 (F).src, .int .i64 (F).dst, .int .i64 (F).sess, .int .i64 (F).seq, .bool (F).last, .slice v7a v7n v7c, .slice o7a (F.ops).length o7c] 26)
        refine (KR.out _ (C7.out.trans (AL.mono C7.out.size))).mono ?_
        rintro e w8 ⟨v8, o8, rfl, hv8, ho8, hb8⟩
        have G8 := Lib.hid (AL.trans (hb8.mono (by simp)))
        have X8 := Lib.hid (blkBelow hb8 (Blk.new w7 #[.int .i64 (F).kind, .int .i64 (F).src, .int .i64 (F).dst, .int .i64 (F).sess, .int .i64 (F).seq, .bool (F).last, .slice v7a v7n v7c, .slice o7a (F.ops).length o7c] 26) (Blk.new _ _ _).lt)
        have B8 := Lib.hid (B7.out.trans (G8.out.mono B7.out.size))
        have V8 := Lib.hid hv8
        have O8 := Lib.hid ho8
        obtain ⟨v8a, v8n, v8c, rfl⟩ := hv8.shape
        obtain ⟨o8a, o8c, rfl, _, _, _⟩ := id ho8
        clear hb8 AL hv8 ho8
        have a8 : w7.heap.size < w8.heap.size := X8.out.lt
        have x_0 : w8.cell? ⟨w7.heap.size, 0, none⟩ = some (.int .i64 (F).kind) := (X8.out).cell (o := 0) rfl
        have x_1 : w8.cell? ⟨w7.heap.size, 1, none⟩ = some (.int .i64 (F).src) := (X8.out).cell (o := 1) rfl
        have x_2 : w8.cell? ⟨w7.heap.size, 2, none⟩ = some (.int .i64 (F).dst) := (X8.out).cell (o := 2) rfl
        have x_3 : w8.cell? ⟨w7.heap.size, 3, none⟩ = some (.int .i64 (F).sess) := (X8.out).cell (o := 3) rfl
        have x_4 : w8.cell? ⟨w7.heap.size, 4, none⟩ = some (.int .i64 (F).seq) := (X8.out).cell (o := 4) rfl
        have x_5 : w8.cell? ⟨w7.heap.size, 5, none⟩ = some (.bool (F).last) := (X8.out).cell (o := 5) rfl
        have x_6 : w8.cell? ⟨w7.heap.size, 6, none⟩ = some (.slice v7a v7n v7c) := (X8.out).cell (o := 6) rfl
        have x_7 : w8.cell? ⟨w7.heap.size, 7, none⟩ = some (.slice o7a (F.ops).length o7c) := (X8.out).cell (o := 7) rfl
        go_wp2_with fail
        have AL := Lib.hid ((Below.refl w8.heap.size w8).alloc (Nat.le_refl _) (.cells #[.int .i64 (F).kind, .int .i64 (F).src, .int .i64 (F).dst, .int .i64 (F).sess, .int .i64 (F).seq, .bool (F).last, .slice v8a v8n v8c, .slice o8a (F.ops).length o8c] 26))
        refine (KQ.out _ _ _ _ _ ((V7.out.below G8.out).below AL.out) ((O7.out.below G8.out).below AL.out) (V8.out.below AL.out) (O8.out.below AL.out)).mono ?_
        rintro e w9 ⟨rfl, hb9⟩
        have G9 := Lib.hid (AL.out.trans (hb9.mono (by simp)))
        have B9 := Lib.hid (B8.out.trans (G9.out.mono B8.out.size))
        clear hb9 AL x_0 x_1 x_2 x_3 x_4 x_5 x_6 x_7
        go_wp2
        go_ret
        exact ⟨rfl, B9.out⟩
  · have hpos' : ¬ ((0 : Int) < L.length) := by omega
    have O5 := O6
    have LB := LB6
    obtain ⟨w5, hw5⟩ : ∃ w5, w5 = w6 := ⟨_, rfl⟩
    subst hw5
    have B5 := B6
    clear O6 LB6 B6
    go_upto_region 7 with fail
    generalize (L) = l at *
    have H6 := Lib.hid (Rdv.of_owns (enc := u8v) (xs := l) O5.out)
    have KR := Lib.hid (fun w' hw => refFDecode _ l w' (H6.out.below hw) LB.out : ∀ w', Below w5.heap.size w5 w' → _)
    have KD5 := Lib.hid (framesDecode _ l w5 H6.out LB.out)
    have DBY := Lib.hid (fun F (h : decF l = some F) => decF_byt LB.out h)
    clear O5
    unfold FDecPost at KD5 KR
    cases hdec : decF l
    · rw [hdec] at KR KD5
      simp only at KR KD5
      have KQ := Lib.hid (fun w' => refFEq zF zF (.slice none 0 0) (.slice none 0 0) (.slice none 0 0) (.slice none 0 0) w' (Rdv.nil _ _) (zOps _) (Rdv.nil _ _) (zOps _) (by intro q hq; simp [zF] at hq) (by intro q hq; simp [zF] at hq))
      rw [frEqB_refl] at KQ
      simp only [zF] at KQ
      go_wp2_with fail
      refine KD5.out.mono ?_
      rintro e w7 ⟨rfl, hb7⟩
      have B7 := Lib.hid (B5.out.trans (hb7.mono B5.out.size))
      have C7 := Lib.hid hb7
      clear hb7
      have a5 := B5.out.size
      have a7 := B7.out.size
      go_wp2_with fail
      have AL := (Below.refl w7.heap.size w7).alloc (Nat.le_refl _) (.cells #[.int .i64 0, .int .i64 0, .int .i64 0, .int .i64 0, .int .i64 0, .bool false, .slice none 0 0, .slice none 0 0] 26)
      refine (KR.out _ (C7.out.trans (AL.mono C7.out.size))).mono ?_
      rintro e w8 ⟨rfl, hb8⟩
      have G8 := Lib.hid (AL.trans (hb8.mono (by simp)))
      have X8 := Lib.hid (blkBelow hb8 (Blk.new w7 #[.int .i64 0, .int .i64 0, .int .i64 0, .int .i64 0, .int .i64 0, .bool false, .slice none 0 0, .slice none 0 0] 26) (Blk.new _ _ _).lt)
      have B8 := Lib.hid (B7.out.trans (G8.out.mono B7.out.size))
      clear hb8 AL
      have a8 : w7.heap.size < w8.heap.size := X8.out.lt
      have x_0 : w8.cell? ⟨w7.heap.size, 0, none⟩ = some (.int .i64 0) := X8.out.cell (o := 0) rfl
      have x_1 : w8.cell? ⟨w7.heap.size, 1, none⟩ = some (.int .i64 0) := X8.out.cell (o := 1) rfl
      have x_2 : w8.cell? ⟨w7.heap.size, 2, none⟩ = some (.int .i64 0) := X8.out.cell (o := 2) rfl
      have x_3 : w8.cell? ⟨w7.heap.size, 3, none⟩ = some (.int .i64 0) := X8.out.cell (o := 3) rfl
      have x_4 : w8.cell? ⟨w7.heap.size, 4, none⟩ = some (.int .i64 0) := X8.out.cell (o := 4) rfl
      have x_5 : w8.cell? ⟨w7.heap.size, 5, none⟩ = some (.bool false) := X8.out.cell (o := 5) rfl
      have x_6 : w8.cell? ⟨w7.heap.size, 6, none⟩ = some (.slice none 0 0) := X8.out.cell (o := 6) rfl
      have x_7 : w8.cell? ⟨w7.heap.size, 7, none⟩ = some (.slice none 0 0) := X8.out.cell (o := 7) rfl
      go_wp2_with fail
      refine (KQ.out _).mono ?_
      have AL := (Below.refl w8.heap.size w8).alloc (Nat.le_refl _) (.cells #[.int .i64 0, .int .i64 0, .int .i64 0, .int .i64 0, .int .i64 0, .bool false, .slice none 0 0, .slice none 0 0] 26)
      rintro e w9 ⟨rfl, hb9⟩
      have G9 := Lib.hid (AL.trans (hb9.mono (by simp)))
      have B9 := Lib.hid (B8.out.trans (G9.out.mono B8.out.size))
      clear hb9 AL x_0 x_1 x_2 x_3 x_4 x_5 x_6 x_7
      go_wp2
      go_ret
      exact ⟨rfl, B9.out⟩
    · rename_i F
      rw [hdec] at KR KD5
      simp only at KR KD5
      have FBY := DBY.out F hdec
      have KQ := Lib.hid (fun v o v2 o2 w' hv ho hv2 ho2 => refFEq F F v o v2 o2 w' hv ho hv2 ho2 FBY FBY)
      rw [frEqB_refl] at KQ
      clear FBY
      go_wp2_with fail
      refine KD5.out.mono ?_
      rintro e w7 ⟨v7, o7, rfl, hv7, ho7, hb7⟩
      have B7 := Lib.hid (B5.out.trans (hb7.mono B5.out.size))
      have C7 := Lib.hid hb7
      have V7 := Lib.hid hv7
      have O7 := Lib.hid ho7
      obtain ⟨v7a, v7n, v7c, rfl⟩ := hv7.shape
      obtain ⟨o7a, o7c, rfl, _, _, _⟩ := id ho7
      clear hb7 hv7 ho7
      have a5 := B5.out.size
      have a7 := B7.out.size
      go_wp2_with fail
      have AL := (Below.refl w7.heap.size w7).alloc (Nat.le_refl _) (.cells #[.int .i64 (F).kind, .int .i64 (F).src, .int .i64 (F).dst, .int .i64 (F).sess, .int .i64 (F).seq, .bool (F).last, .slice v7a v7n v7c, .slice o7a (F.ops).length o7c] 26)
      refine (KR.out _ (C7.out.trans (AL.mono C7.out.size))).mono ?_
      rintro e w8 ⟨v8, o8, rfl, hv8, ho8, hb8⟩
      have G8 := Lib.hid (AL.trans (hb8.mono (by simp)))
      have X8 := Lib.hid (blkBelow hb8 (Blk.new w7 #[.int .i64 (F).kind, .int .i64 (F).src, .int .i64 (F).dst, .int .i64 (F).sess, .int .i64 (F).seq, .bool (F).last, .slice v7a v7n v7c, .slice o7a (F.ops).length o7c] 26) (Blk.new _ _ _).lt)
      have B8 := Lib.hid (B7.out.trans (G8.out.mono B7.out.size))
      have V8 := Lib.hid hv8
      have O8 := Lib.hid ho8
      obtain ⟨v8a, v8n, v8c, rfl⟩ := hv8.shape
      obtain ⟨o8a, o8c, rfl, _, _, _⟩ := id ho8
      clear hb8 AL hv8 ho8
      have a8 : w7.heap.size < w8.heap.size := X8.out.lt
      have x_0 : w8.cell? ⟨w7.heap.size, 0, none⟩ = some (.int .i64 (F).kind) := (X8.out).cell (o := 0) rfl
      have x_1 : w8.cell? ⟨w7.heap.size, 1, none⟩ = some (.int .i64 (F).src) := (X8.out).cell (o := 1) rfl
      have x_2 : w8.cell? ⟨w7.heap.size, 2, none⟩ = some (.int .i64 (F).dst) := (X8.out).cell (o := 2) rfl
      have x_3 : w8.cell? ⟨w7.heap.size, 3, none⟩ = some (.int .i64 (F).sess) := (X8.out).cell (o := 3) rfl
      have x_4 : w8.cell? ⟨w7.heap.size, 4, none⟩ = some (.int .i64 (F).seq) := (X8.out).cell (o := 4) rfl
      have x_5 : w8.cell? ⟨w7.heap.size, 5, none⟩ = some (.bool (F).last) := (X8.out).cell (o := 5) rfl
      have x_6 : w8.cell? ⟨w7.heap.size, 6, none⟩ = some (.slice v7a v7n v7c) := (X8.out).cell (o := 6) rfl
      have x_7 : w8.cell? ⟨w7.heap.size, 7, none⟩ = some (.slice o7a (F.ops).length o7c) := (X8.out).cell (o := 7) rfl
      go_wp2_with fail
      have AL := Lib.hid ((Below.refl w8.heap.size w8).alloc (Nat.le_refl _) (.cells #[.int .i64 (F).kind, .int .i64 (F).src, .int .i64 (F).dst, .int .i64 (F).sess, .int .i64 (F).seq, .bool (F).last, .slice v8a v8n v8c, .slice o8a (F.ops).length o8c] 26))
      refine (KQ.out _ _ _ _ _ ((V7.out.below G8.out).below AL.out) ((O7.out.below G8.out).below AL.out) (V8.out.below AL.out) (O8.out.below AL.out)).mono ?_
      rintro e w9 ⟨rfl, hb9⟩
      have G9 := Lib.hid (AL.out.trans (hb9.mono (by simp)))
      have B9 := Lib.hid (B8.out.trans (G9.out.mono B8.out.size))
      clear hb9 AL x_0 x_1 x_2 x_3 x_4 x_5 x_6 x_7
      go_wp2
      go_ret
      exact ⟨rfl, B9.out⟩
end Go.Proofs.YthbalmoafpggdaaGreat
namespace Go.Proofs.YthbalmoafpggdaaGreat
open Go.RowKit
set_option linter.unusedVariables false
set_option linter.unusedSimpArgs false
/-- The frame that was cut stands in its variable, its rows beside it. -/
structure CutS (w : World) (f : Frm) (v o : Value) (w' : World) : Prop where
  blk : Blk w' w.heap.size #[.int .i64 (f).kind, .int .i64 (f).src, .int .i64 (f).dst, .int .i64 (f).sess, .int .i64 (f).seq, .bool (f).last, v, o] 26
  vec : Rdv i64v w' v f.vec
  ops : OpsRd w' o f.ops
  bel : Below w.heap.size w w'
theorem CutS.below {w w1 w2 : World} {f : Frm} {v o : Value} (h : CutS w f v o w1) (hb : Below w1.heap.size w1 w2) : CutS w f v o w2 :=
  ⟨blkBelow hb h.blk h.blk.lt, h.vec.below hb, h.ops.below hb, h.bel.trans (hb.mono h.bel.size)⟩
set_option maxHeartbeats 8000000 in
set_option maxRecDepth 100000 in
theorem frameCode_walk (f : Frm) (v o : Value) (w : World) (hv : Rdv i64v w v f.vec) (ho : OpsRd w o f.ops) (hob : ∀ q ∈ f.ops, Byt q.data) :
    Calls Tryz.prog 3 #[.agg #[.int .i64 (f).kind, .int .i64 (f).src, .int .i64 (f).dst, .int .i64 (f).sess, .int .i64 (f).seq, .bool (f).last, v, o]] w (OTrue22 w) := by
  have KC := Lib.hid (fun w' hw => frCut2 f v o w w' hw hv ho : ∀ w', Below w.heap.size w w' → _)
  have KM := Lib.hid (fun v o w' hv ho => refFMay (cutF f) v o w' hv ho (cutF_name f))
  have KE := Lib.hid (fun v o w' hv ho => refFEncode (cutF f) v o w' hv ho (cutF_name f) (cutF_byt f hob) (cutF_len f))
  have KE2 := Lib.hid (fun v o w' hv ho => framesEncode (cutF f) v o w' hv ho (cutF_name f) (cutF_byt f hob) (cutF_len f))
  have KM2 := Lib.hid (fun v o w' hv ho => framesMay (cutF f) v o w' hv ho (cutF_name f))
  have hLf := encL_fine f (cutF_byt f hob)
  have hBY := cutF_byt f hob
  have hLN := cutF_len f
  unfold FCutPost2 at KC
  unfold RFEncPost at KE
  unfold FEncPost at KE2
  generalize cutF f = f' at *
  obtain ⟨va, vn, vc, rfl⟩ := hv.shape
  obtain ⟨oa, oc, rfl, _, _, _⟩ := id ho
  clear hv ho hob
  go_enter Tryz.func3, Tryz.ntmps3
  go_wp2_with fail
  have AL := (Below.refl w.heap.size w).alloc (Nat.le_refl _) (.cells #[.int .i64 (f).kind, .int .i64 (f).src, .int .i64 (f).dst, .int .i64 (f).sess, .int .i64 (f).seq, .bool (f).last, .slice va vn vc, .slice oa (f.ops).length oc] 26)
  refine (frBegun _).mono ?_
  rintro e w1 ⟨rfl, hb1⟩
  have X1 := Lib.hid (blkBelow hb1 (Blk.new w #[.int .i64 (f).kind, .int .i64 (f).src, .int .i64 (f).dst, .int .i64 (f).sess, .int .i64 (f).seq, .bool (f).last, .slice va vn vc, .slice oa (f.ops).length oc] 26) (Blk.new _ _ _).lt)
  have B1 := Lib.hid (AL.trans (hb1.mono (by simp)))
  clear hb1 AL
  have a0 : w.heap.size < w1.heap.size := X1.out.lt
  have p_0 : w1.cell? ⟨w.heap.size, 0, none⟩ = some (.int .i64 (f).kind) := (X1.out).cell (o := 0) rfl
  have p_1 : w1.cell? ⟨w.heap.size, 1, none⟩ = some (.int .i64 (f).src) := (X1.out).cell (o := 1) rfl
  have p_2 : w1.cell? ⟨w.heap.size, 2, none⟩ = some (.int .i64 (f).dst) := (X1.out).cell (o := 2) rfl
  have p_3 : w1.cell? ⟨w.heap.size, 3, none⟩ = some (.int .i64 (f).sess) := (X1.out).cell (o := 3) rfl
  have p_4 : w1.cell? ⟨w.heap.size, 4, none⟩ = some (.int .i64 (f).seq) := (X1.out).cell (o := 4) rfl
  have p_5 : w1.cell? ⟨w.heap.size, 5, none⟩ = some (.bool (f).last) := (X1.out).cell (o := 5) rfl
  have p_6 : w1.cell? ⟨w.heap.size, 6, none⟩ = some (.slice va vn vc) := (X1.out).cell (o := 6) rfl
  have p_7 : w1.cell? ⟨w.heap.size, 7, none⟩ = some (.slice oa (f.ops).length oc) := (X1.out).cell (o := 7) rfl
  go_wp2_with fail
  refine (KC.out _ B1.out).mono ?_
  rintro e w2 ⟨v2, o2, ps, rfl, hv2, ho2, hps, hb2⟩
  have X2 := Lib.hid (blkBelow hb2 X1.out X1.out.lt)
  have B2 := Lib.hid (B1.out.trans (hb2.mono B1.out.size))
  obtain ⟨v2a, v2n, v2c, rfl⟩ := hv2.rd.shape
  obtain ⟨o2a, o2c, rfl, _, _, _⟩ := own_shape ho2.own
  have FIN := Lib.hid (fun w' (hw : w' = ((((((((w2.setCell ⟨w.heap.size, 0, none⟩ (.int .i64 f'.kind)).setCell ⟨w.heap.size, 1, none⟩ (.int .i64 f'.src)).setCell ⟨w.heap.size, 2, none⟩ (.int .i64 f'.dst)).setCell ⟨w.heap.size, 3, none⟩ (.int .i64 f'.sess)).setCell ⟨w.heap.size, 4, none⟩ (.int .i64 f'.seq)).setCell ⟨w.heap.size, 5, none⟩ (.bool f'.last)).setCell ⟨w.heap.size, 6, none⟩ (.slice v2a v2n v2c)).setCell ⟨w.heap.size, 7, none⟩ (.slice o2a ps.length o2c))) => (by
    have g := chg8 w2 w.heap.size (.int .i64 f'.kind) (.int .i64 f'.src) (.int .i64 f'.dst) (.int .i64 f'.sess) (.int .i64 f'.seq) (.bool f'.last) (.slice v2a v2n v2c) (.slice o2a ps.length o2c)
    rw [← hw] at g
    have e8 : 5 ≠ 26 := by decide
    have e64 : 2 ≠ 26 := by decide
    have eo : 46 ≠ 26 := by decide
    have hK : ∀ k, k = w.heap.size → w.heap.size ≤ k ∧ (∀ cs, ¬ Blk w2 k cs 5) ∧ (∀ cs, ¬ Blk w2 k cs 2) ∧ ∀ cs, ¬ Blk w2 k cs 46 := by
      rintro k rfl
      exact ⟨Nat.le_refl _, fun _ => blk_ne X2.out (Ne.symm e8), fun _ => blk_ne X2.out (Ne.symm e64), fun _ => blk_ne X2.out (Ne.symm eo)⟩
    refine ⟨?_, (hv2.chg g (fun k hk => ⟨(hK k hk).1, (hK k hk).2.2.1⟩)).rd, by rw [← hps]; exact (ho2.chg g hK).rd, g.below_trans B2.out B2.out.size (fun i hi e => by omega)⟩
    rw [hw]
    exact blk8 X2.out _ _ _ _ _ _ _ _ : CutS w f' (.slice v2a v2n v2c) (.slice o2a ps.length o2c) w'))
  clear p_0 p_1 p_2 p_3 p_4 p_5 p_6 p_7
  clear hv2 ho2 hps hb2
  have p_0 : w2.cell? ⟨w.heap.size, 0, none⟩ = some (.int .i64 (f).kind) := (X2.out).cell (o := 0) rfl
  have p_1 : w2.cell? ⟨w.heap.size, 1, none⟩ = some (.int .i64 (f).src) := (X2.out).cell (o := 1) rfl
  have p_2 : w2.cell? ⟨w.heap.size, 2, none⟩ = some (.int .i64 (f).dst) := (X2.out).cell (o := 2) rfl
  have p_3 : w2.cell? ⟨w.heap.size, 3, none⟩ = some (.int .i64 (f).sess) := (X2.out).cell (o := 3) rfl
  have p_4 : w2.cell? ⟨w.heap.size, 4, none⟩ = some (.int .i64 (f).seq) := (X2.out).cell (o := 4) rfl
  have p_5 : w2.cell? ⟨w.heap.size, 5, none⟩ = some (.bool (f).last) := (X2.out).cell (o := 5) rfl
  have p_6 : w2.cell? ⟨w.heap.size, 6, none⟩ = some (.slice va vn vc) := (X2.out).cell (o := 6) rfl
  have p_7 : w2.cell? ⟨w.heap.size, 7, none⟩ = some (.slice oa (f.ops).length oc) := (X2.out).cell (o := 7) rfl
  have yp_0 := (X2.out).free 0
  have yp_1 := (X2.out).free 1
  have yp_2 := (X2.out).free 2
  have yp_3 := (X2.out).free 3
  have yp_4 := (X2.out).free 4
  have yp_5 := (X2.out).free 5
  have yp_6 := (X2.out).free 6
  have yp_7 := (X2.out).free 7
  go_upto_region 3 with fail
  obtain ⟨w3, hw3⟩ : ∃ w3, w3 = ((((((((w2.setCell ⟨w.heap.size, 0, none⟩ (.int .i64 f'.kind)).setCell ⟨w.heap.size, 1, none⟩ (.int .i64 f'.src)).setCell ⟨w.heap.size, 2, none⟩ (.int .i64 f'.dst)).setCell ⟨w.heap.size, 3, none⟩ (.int .i64 f'.sess)).setCell ⟨w.heap.size, 4, none⟩ (.int .i64 f'.seq)).setCell ⟨w.heap.size, 5, none⟩ (.bool f'.last)).setCell ⟨w.heap.size, 6, none⟩ (.slice v2a v2n v2c)).setCell ⟨w.heap.size, 7, none⟩ (.slice o2a ps.length o2c)) := ⟨_, rfl⟩
  have C3 := Lib.hid (FIN.out w3 hw3)
  rw [← hw3]
  clear hw3 FIN p_0 p_1 p_2 p_3 p_4 p_5 p_6 p_7 yp_0 yp_1 yp_2 yp_3 yp_4 yp_5 yp_6 yp_7 X1 X2 B1 B2 KC
  have p_0 : w3.cell? ⟨w.heap.size, 0, none⟩ = some (.int .i64 (f').kind) := (C3.out.blk).cell (o := 0) rfl
  have p_1 : w3.cell? ⟨w.heap.size, 1, none⟩ = some (.int .i64 (f').src) := (C3.out.blk).cell (o := 1) rfl
  have p_2 : w3.cell? ⟨w.heap.size, 2, none⟩ = some (.int .i64 (f').dst) := (C3.out.blk).cell (o := 2) rfl
  have p_3 : w3.cell? ⟨w.heap.size, 3, none⟩ = some (.int .i64 (f').sess) := (C3.out.blk).cell (o := 3) rfl
  have p_4 : w3.cell? ⟨w.heap.size, 4, none⟩ = some (.int .i64 (f').seq) := (C3.out.blk).cell (o := 4) rfl
  have p_5 : w3.cell? ⟨w.heap.size, 5, none⟩ = some (.bool (f').last) := (C3.out.blk).cell (o := 5) rfl
  have p_6 : w3.cell? ⟨w.heap.size, 6, none⟩ = some (.slice v2a v2n v2c) := (C3.out.blk).cell (o := 6) rfl
  have p_7 : w3.cell? ⟨w.heap.size, 7, none⟩ = some (.slice o2a ps.length o2c) := (C3.out.blk).cell (o := 7) rfl
  go_wp2_with fail
  refine (KM.out _ _ _ C3.out.vec C3.out.ops).mono ?_
  rintro e w4 ⟨rfl, hb4⟩
  have C4 := Lib.hid (C3.out.below hb4)
  clear p_0 p_1 p_2 p_3 p_4 p_5 p_6 p_7
  clear hb4 C3 KM
  have p_0 : w4.cell? ⟨w.heap.size, 0, none⟩ = some (.int .i64 (f').kind) := (C4.out.blk).cell (o := 0) rfl
  have p_1 : w4.cell? ⟨w.heap.size, 1, none⟩ = some (.int .i64 (f').src) := (C4.out.blk).cell (o := 1) rfl
  have p_2 : w4.cell? ⟨w.heap.size, 2, none⟩ = some (.int .i64 (f').dst) := (C4.out.blk).cell (o := 2) rfl
  have p_3 : w4.cell? ⟨w.heap.size, 3, none⟩ = some (.int .i64 (f').sess) := (C4.out.blk).cell (o := 3) rfl
  have p_4 : w4.cell? ⟨w.heap.size, 4, none⟩ = some (.int .i64 (f').seq) := (C4.out.blk).cell (o := 4) rfl
  have p_5 : w4.cell? ⟨w.heap.size, 5, none⟩ = some (.bool (f').last) := (C4.out.blk).cell (o := 5) rfl
  have p_6 : w4.cell? ⟨w.heap.size, 6, none⟩ = some (.slice v2a v2n v2c) := (C4.out.blk).cell (o := 6) rfl
  have p_7 : w4.cell? ⟨w.heap.size, 7, none⟩ = some (.slice o2a ps.length o2c) := (C4.out.blk).cell (o := 7) rfl
  cases hm : fMayB f'
  · rw [hm] at KE KE2 KM2
    simp only [Bool.false_eq_true, if_false] at KE KE2
    go_wp2_with fail
    refine (KE.out _ _ _ C4.out.vec C4.out.ops).mono ?_
    rintro e w5 ⟨v5, rfl, ho5, hb5⟩
    obtain ⟨a5, c5, rfl, _, _, _⟩ := own_shape ho5
    have R5 := Lib.hid (Rdv.of_owns (enc := u8v) (xs := []) ho5)
    have C5 := Lib.hid (C4.out.below hb5)
    clear p_0 p_1 p_2 p_3 p_4 p_5 p_6 p_7
    clear hb5 ho5 C4 KE
    have p_0 : w5.cell? ⟨w.heap.size, 0, none⟩ = some (.int .i64 (f').kind) := (C5.out.blk).cell (o := 0) rfl
    have p_1 : w5.cell? ⟨w.heap.size, 1, none⟩ = some (.int .i64 (f').src) := (C5.out.blk).cell (o := 1) rfl
    have p_2 : w5.cell? ⟨w.heap.size, 2, none⟩ = some (.int .i64 (f').dst) := (C5.out.blk).cell (o := 2) rfl
    have p_3 : w5.cell? ⟨w.heap.size, 3, none⟩ = some (.int .i64 (f').sess) := (C5.out.blk).cell (o := 3) rfl
    have p_4 : w5.cell? ⟨w.heap.size, 4, none⟩ = some (.int .i64 (f').seq) := (C5.out.blk).cell (o := 4) rfl
    have p_5 : w5.cell? ⟨w.heap.size, 5, none⟩ = some (.bool (f').last) := (C5.out.blk).cell (o := 5) rfl
    have p_6 : w5.cell? ⟨w.heap.size, 6, none⟩ = some (.slice v2a v2n v2c) := (C5.out.blk).cell (o := 6) rfl
    have p_7 : w5.cell? ⟨w.heap.size, 7, none⟩ = some (.slice o2a ps.length o2c) := (C5.out.blk).cell (o := 7) rfl
    go_wp2_with fail
    refine (KE2.out _ _ _ C5.out.vec C5.out.ops).mono ?_
    rintro e w6 ⟨rfl, hb6⟩
    have R6 := Lib.hid (R5.out.below hb6)
    have C6 := Lib.hid (C5.out.below hb6)
    clear p_0 p_1 p_2 p_3 p_4 p_5 p_6 p_7
    clear hb6 C5 KE2 R5
    have p_0 : w6.cell? ⟨w.heap.size, 0, none⟩ = some (.int .i64 (f').kind) := (C6.out.blk).cell (o := 0) rfl
    have p_1 : w6.cell? ⟨w.heap.size, 1, none⟩ = some (.int .i64 (f').src) := (C6.out.blk).cell (o := 1) rfl
    have p_2 : w6.cell? ⟨w.heap.size, 2, none⟩ = some (.int .i64 (f').dst) := (C6.out.blk).cell (o := 2) rfl
    have p_3 : w6.cell? ⟨w.heap.size, 3, none⟩ = some (.int .i64 (f').sess) := (C6.out.blk).cell (o := 3) rfl
    have p_4 : w6.cell? ⟨w.heap.size, 4, none⟩ = some (.int .i64 (f').seq) := (C6.out.blk).cell (o := 4) rfl
    have p_5 : w6.cell? ⟨w.heap.size, 5, none⟩ = some (.bool (f').last) := (C6.out.blk).cell (o := 5) rfl
    have p_6 : w6.cell? ⟨w.heap.size, 6, none⟩ = some (.slice v2a v2n v2c) := (C6.out.blk).cell (o := 6) rfl
    have p_7 : w6.cell? ⟨w.heap.size, 7, none⟩ = some (.slice o2a ps.length o2c) := (C6.out.blk).cell (o := 7) rfl
    go_wp2_with fail
    refine (KM2.out _ _ _ C6.out.vec C6.out.ops).mono ?_
    rintro e w7 ⟨rfl, hb7⟩
    have R7 := R6.out.below hb7
    have C7 := Lib.hid (C6.out.below hb7)
    clear p_0 p_1 p_2 p_3 p_4 p_5 p_6 p_7
    clear hb7 C6 KM2 R6
    have k7 := conv_rdv (P := Tryz.prog) 30 5 Tryz.underlying30 Tryz.underlying5 R7 9 Tryz.underlying9
    have k8 := conv_rdv (P := Tryz.prog) 30 5 Tryz.underlying30 Tryz.underlying5 (Rdv.nil u8v w7) 9 Tryz.underlying9
    clear R7
    simp only [List.length_nil] at k7
    go_wp2
    go_ret
    exact ⟨rfl, C7.out.bel⟩
  · rw [hm] at KE KE2 KM2
    simp only [if_true] at KE KE2
    have hl := hLN hm
    have hB := bodyL_byt f' hBY
    have hdf := decF_frame f' hm hB hl
    have FBY := frameL_byt hB
    have NBY := Lib.hid (decF_byt FBY hdf)
    have KD := Lib.hid (fun x w' hx => framesDecode x (frameL (bodyL f')) w' hx FBY)
    unfold FDecPost at KD
    rw [hdf] at KD
    have KQ := Lib.hid (fun v o v2 o2 w' hv ho hv2 ho2 => refFEq f' (normF f') v o v2 o2 w' hv ho hv2 ho2 hBY NBY.out)
    rw [frEqB_norm] at KQ
    clear hdf FBY hl hB
    generalize frameL (bodyL f') = L at *
    generalize normF f' = g' at *
    go_wp2_with fail
    refine (KE.out _ _ _ C4.out.vec C4.out.ops).mono ?_
    rintro e w5 ⟨v5, rfl, ho5, hb5⟩
    obtain ⟨a5, c5, rfl, _, _, _⟩ := own_shape ho5
    have R5 := Lib.hid (Rdv.of_owns (enc := u8v) (xs := L) ho5)
    have C5 := Lib.hid (C4.out.below hb5)
    clear p_0 p_1 p_2 p_3 p_4 p_5 p_6 p_7
    clear hb5 ho5 C4 KE
    have p_0 : w5.cell? ⟨w.heap.size, 0, none⟩ = some (.int .i64 (f').kind) := (C5.out.blk).cell (o := 0) rfl
    have p_1 : w5.cell? ⟨w.heap.size, 1, none⟩ = some (.int .i64 (f').src) := (C5.out.blk).cell (o := 1) rfl
    have p_2 : w5.cell? ⟨w.heap.size, 2, none⟩ = some (.int .i64 (f').dst) := (C5.out.blk).cell (o := 2) rfl
    have p_3 : w5.cell? ⟨w.heap.size, 3, none⟩ = some (.int .i64 (f').sess) := (C5.out.blk).cell (o := 3) rfl
    have p_4 : w5.cell? ⟨w.heap.size, 4, none⟩ = some (.int .i64 (f').seq) := (C5.out.blk).cell (o := 4) rfl
    have p_5 : w5.cell? ⟨w.heap.size, 5, none⟩ = some (.bool (f').last) := (C5.out.blk).cell (o := 5) rfl
    have p_6 : w5.cell? ⟨w.heap.size, 6, none⟩ = some (.slice v2a v2n v2c) := (C5.out.blk).cell (o := 6) rfl
    have p_7 : w5.cell? ⟨w.heap.size, 7, none⟩ = some (.slice o2a ps.length o2c) := (C5.out.blk).cell (o := 7) rfl
    go_wp2_with fail
    refine (KE2.out _ _ _ C5.out.vec C5.out.ops).mono ?_
    rintro e w6 ⟨v6, rfl, ho6, hb6⟩
    obtain ⟨a6, c6, rfl, _, _, _⟩ := own_shape ho6
    have S6 := Lib.hid (Rdv.of_owns (enc := u8v) (xs := L) ho6)
    have R6 := Lib.hid (R5.out.below hb6)
    have C6 := Lib.hid (C5.out.below hb6)
    clear p_0 p_1 p_2 p_3 p_4 p_5 p_6 p_7
    clear hb6 ho6 C5 KE2 R5
    have p_0 : w6.cell? ⟨w.heap.size, 0, none⟩ = some (.int .i64 (f').kind) := (C6.out.blk).cell (o := 0) rfl
    have p_1 : w6.cell? ⟨w.heap.size, 1, none⟩ = some (.int .i64 (f').src) := (C6.out.blk).cell (o := 1) rfl
    have p_2 : w6.cell? ⟨w.heap.size, 2, none⟩ = some (.int .i64 (f').dst) := (C6.out.blk).cell (o := 2) rfl
    have p_3 : w6.cell? ⟨w.heap.size, 3, none⟩ = some (.int .i64 (f').sess) := (C6.out.blk).cell (o := 3) rfl
    have p_4 : w6.cell? ⟨w.heap.size, 4, none⟩ = some (.int .i64 (f').seq) := (C6.out.blk).cell (o := 4) rfl
    have p_5 : w6.cell? ⟨w.heap.size, 5, none⟩ = some (.bool (f').last) := (C6.out.blk).cell (o := 5) rfl
    have p_6 : w6.cell? ⟨w.heap.size, 6, none⟩ = some (.slice v2a v2n v2c) := (C6.out.blk).cell (o := 6) rfl
    have p_7 : w6.cell? ⟨w.heap.size, 7, none⟩ = some (.slice o2a ps.length o2c) := (C6.out.blk).cell (o := 7) rfl
    go_wp2_with fail
    refine (KM2.out _ _ _ C6.out.vec C6.out.ops).mono ?_
    rintro e w7 ⟨rfl, hb7⟩
    have S7 := Lib.hid (S6.out.below hb7)
    have k7 := conv_rdv (P := Tryz.prog) 30 5 Tryz.underlying30 Tryz.underlying5 (R6.out.below hb7) 9 Tryz.underlying9
    have k8 := conv_rdv (P := Tryz.prog) 30 5 Tryz.underlying30 Tryz.underlying5 S7.out 9 Tryz.underlying9
    have C7 := Lib.hid (C6.out.below hb7)
    clear p_0 p_1 p_2 p_3 p_4 p_5 p_6 p_7
    clear hb7 C6 KM2 R6 S6
    go_wp2_with fail
    refine (KD.out _ _ S7.out).mono ?_
    rintro e w8 ⟨v8, o8, rfl, hv8, ho8, hb8⟩
    have V8 := Lib.hid hv8
    have O8 := Lib.hid ho8
    obtain ⟨v8a, v8n, v8c, rfl⟩ := hv8.shape
    obtain ⟨o8a, o8c, rfl, _, _, _⟩ := id ho8
    have C8 := Lib.hid (C7.out.below hb8)
    clear hb8 hv8 ho8 C7 KD S7 k7 k8
    have a8 : w.heap.size < w8.heap.size := C8.out.blk.lt
    have p_0 : w8.cell? ⟨w.heap.size, 0, none⟩ = some (.int .i64 (f').kind) := (C8.out.blk).cell (o := 0) rfl
    have p_1 : w8.cell? ⟨w.heap.size, 1, none⟩ = some (.int .i64 (f').src) := (C8.out.blk).cell (o := 1) rfl
    have p_2 : w8.cell? ⟨w.heap.size, 2, none⟩ = some (.int .i64 (f').dst) := (C8.out.blk).cell (o := 2) rfl
    have p_3 : w8.cell? ⟨w.heap.size, 3, none⟩ = some (.int .i64 (f').sess) := (C8.out.blk).cell (o := 3) rfl
    have p_4 : w8.cell? ⟨w.heap.size, 4, none⟩ = some (.int .i64 (f').seq) := (C8.out.blk).cell (o := 4) rfl
    have p_5 : w8.cell? ⟨w.heap.size, 5, none⟩ = some (.bool (f').last) := (C8.out.blk).cell (o := 5) rfl
    have p_6 : w8.cell? ⟨w.heap.size, 6, none⟩ = some (.slice v2a v2n v2c) := (C8.out.blk).cell (o := 6) rfl
    have p_7 : w8.cell? ⟨w.heap.size, 7, none⟩ = some (.slice o2a ps.length o2c) := (C8.out.blk).cell (o := 7) rfl
    go_wp2_with fail
    have AL := Lib.hid ((Below.refl w8.heap.size w8).alloc (Nat.le_refl _) (.cells #[.int .i64 (g').kind, .int .i64 (g').src, .int .i64 (g').dst, .int .i64 (g').sess, .int .i64 (g').seq, .bool (g').last, .slice v8a v8n v8c, .slice o8a (g'.ops).length o8c] 26))
    have C9 := Lib.hid (C8.out.below AL.out)
    refine (KQ.out _ _ _ _ _ C9.out.vec C9.out.ops (V8.out.below AL.out) (O8.out.below AL.out)).mono ?_
    rintro e w9 ⟨rfl, hb9⟩
    have C10 := Lib.hid (C9.out.below hb9)
    clear hb9
    clear p_0 p_1 p_2 p_3 p_4 p_5 p_6 p_7
    go_wp2
    go_ret
    exact ⟨rfl, C10.out.bel⟩
end Go.Proofs.YthbalmoafpggdaaGreat
namespace Go.Proofs.YthbalmoafpggdaaGreat
open Go.RowKit Go.ChangeShapes Go.WideShapes Go.Deep
set_option linter.unusedVariables false
set_option linter.unusedSimpArgs false
section
variable {H : Type} {enc : TypeId × Value → H} {w : World}
set_option maxRecDepth 100000 in
theorem ops_of_trod {fuel : Nat} {v : Value} {x : DataW H × List MemPlace} (h : DataW.trod enc Tryz.prog w 0 (fun _ => true) true fuel 24 [v] = some x) : ∃ qs : List Opr, OpsRd w v qs ∧ ∀ q ∈ qs, Byt q.data := by
  have hC : Tryz.prog.cellsOf 46 = 11 := by kernel_rfl
  rcases open_slice Tryz.underlying24 h with ⟨hcs, _⟩ | ⟨ad, len, cap, m, n, D, Pl, hcs, _, hl, hm, hmm, _, hi⟩
  · simp at hcs
    subst hcs
    exact ⟨[], ⟨none, 0, rfl, Nat.le_refl _, Nat.zero_le _, fun i q hq => by simp at hq⟩, fun q hq => by cases hq⟩
  · simp at hcs
    subst hcs
    rw [hC] at hi
    have hml : len ≤ m := by rw [hmm]; simpa using hl
    have key : ∀ i, i < len → ∃ q : Opr × Value × Value, (Rdv u8v w q.2.1 q.1.data ∧ Rdv i64v w q.2.2 q.1.seen ∧ Byt q.1.data) ∧ ∀ j u, (opC q.1 q.2.1 q.2.2)[j]? = some u → w.cell? ((ad.add (i * 11)).add j) = some u := by
      intro i hil
      obtain ⟨cs', hc, ht⟩ := hi i (by omega)
      obtain ⟨o, d, s, hq, h1, h2, h3⟩ := op_of_trod ht
      obtain ⟨_, hcl, hat⟩ := World.cells?_some hc
      refine ⟨(o, d, s), ⟨h1, h2, h3⟩, fun j u hu => ?_⟩
      have hu' : cs'[j]? = some u := by rw [hq]; exact hu
      have hj : j < 11 := by
        rcases Nat.lt_or_ge j 11 with h | h
        · exact h
        · rw [List.getElem?_eq_none (by omega)] at hu'; cases hu'
      rw [hat j hj, hu']
    have hex : ∃ f : Nat → Opr × Value × Value, ∀ i, i < len → (Rdv u8v w (f i).2.1 (f i).1.data ∧ Rdv i64v w (f i).2.2 (f i).1.seen ∧ Byt (f i).1.data) ∧ ∀ j u, (opC (f i).1 (f i).2.1 (f i).2.2)[j]? = some u → w.cell? ((ad.add (i * 11)).add j) = some u := by
      refine ⟨fun i => if h : i < len then (key i h).choose else (⟨0, 0, 0, 0, 0, 0, 0, 0, ByteArray.empty, [], []⟩, undef, undef), fun i h => ?_⟩
      simp only [h, dite_true]
      exact (key i h).choose_spec
    obtain ⟨f, hf⟩ := hex
    refine ⟨(List.range len).map fun i => (f i).1, ⟨some ad, cap, by simp, by simpa using hl, hm, fun i q hq => ?_⟩, fun q hq => ?_⟩
    · have hil : i < len := by
        rcases Nat.lt_or_ge i len with h | h
        · exact h
        · rw [List.getElem?_eq_none (by simpa using h)] at hq; cases hq
      have hqf : q = (f i).1 := by
        rw [List.getElem?_map, List.getElem?_range hil] at hq
        injection hq with hq
        exact hq.symm
      subst hqf
      obtain ⟨b, o, sp⟩ := ad
      have hsp : sp = none := by
        have c00 := (hf 0 (by omega)).2 0 _ rfl
        have e0 : ((⟨b, o, sp⟩ : Addr).add (0 * 11)).add 0 = ⟨b, o, sp⟩ := by unfold Addr.add; simp
        rw [e0] at c00
        exact World.cell?_spot c00
      subst hsp
      obtain ⟨⟨h1, h2, _⟩, hcell⟩ := hf i hil
      refine ⟨b, o, (f i).2.1, (f i).2.2, rfl, ⟨fun j u hu => ?_, h1, h2⟩⟩
      have := hcell j u hu
      rw [addr_add, addr_add] at this
      exact this
    · obtain ⟨i, hi2, rfl⟩ := List.mem_map.1 hq
      exact (hf i (List.mem_range.1 hi2)).1.2.2
set_option maxRecDepth 100000 in
theorem frm_of_trod {fuel : Nat} {cs : List Value} {x : DataW H × List MemPlace} (h : DataW.trod enc Tryz.prog w 0 (fun _ => true) true fuel 26 cs = some x) : ∃ (f : Frm) (v o : Value), cs = [.int .i64 f.kind, .int .i64 f.src, .int .i64 f.dst, .int .i64 f.sess, .int .i64 f.seq, .bool f.last, v, o] ∧ Rdv i64v w v f.vec ∧ OpsRd w o f.ops ∧ ∀ q ∈ f.ops, Byt q.data := by
  obtain ⟨xs, n, _, _, hl, hxl, hf⟩ := DataW.trod_struct Tryz.underlying26 h
  have hC : Tryz.prog.cellsOf 26 = 8 := by kernel_rfl
  have k3 : Tryz.prog.cellsOf 3 = 1 := by kernel_rfl
  have k2 : Tryz.prog.cellsOf 2 = 1 := by kernel_rfl
  have k4 : Tryz.prog.cellsOf 4 = 1 := by kernel_rfl
  have k23 : Tryz.prog.cellsOf 23 = 1 := by kernel_rfl
  have k24 : Tryz.prog.cellsOf 24 = 1 := by kernel_rfl
  rw [hC] at hl
  match cs, hl with
  | [c0, c1, c2, c3, c4, c5, c6, c7], _ =>
    match xs, hxl with
    | [x0, x1, x2, x3, x4, x5, x6, x7], _ =>
      have f0 : DataW.trod enc Tryz.prog w 0 (fun _ => true) true n 3 [c0] = some x0 := by have := hf 0 _ rfl; simpa [k3] using this
      have f1 : DataW.trod enc Tryz.prog w 0 (fun _ => true) true n 3 [c1] = some x1 := by have := hf 1 _ rfl; simpa [k3] using this
      have f2 : DataW.trod enc Tryz.prog w 0 (fun _ => true) true n 3 [c2] = some x2 := by have := hf 2 _ rfl; simpa [k3] using this
      have f3 : DataW.trod enc Tryz.prog w 0 (fun _ => true) true n 2 [c3] = some x3 := by have := hf 3 _ rfl; simpa [k3, k2] using this
      have f4 : DataW.trod enc Tryz.prog w 0 (fun _ => true) true n 3 [c4] = some x4 := by have := hf 4 _ rfl; simpa [k3, k2] using this
      have f5 : DataW.trod enc Tryz.prog w 0 (fun _ => true) true n 4 [c5] = some x5 := by have := hf 5 _ rfl; simpa [k3, k2, k4] using this
      have f6 : DataW.trod enc Tryz.prog w 0 (fun _ => true) true n 23 [c6] = some x6 := by have := hf 6 _ rfl; simpa [k3, k2, k4, k23] using this
      have f7 : DataW.trod enc Tryz.prog w 0 (fun _ => true) true n 24 [c7] = some x7 := by have := hf 7 _ rfl; simpa [k3, k2, k4, k23, k24] using this
      obtain ⟨a0, e0, _, _⟩ := DataW.trod_int Tryz.underlying3 f0
      obtain ⟨a1, e1, _, _⟩ := DataW.trod_int Tryz.underlying3 f1
      obtain ⟨a2, e2, _, _⟩ := DataW.trod_int Tryz.underlying3 f2
      obtain ⟨a3, e3, _, _⟩ := DataW.trod_int Tryz.underlying2 f3
      obtain ⟨a4, e4, _, _⟩ := DataW.trod_int Tryz.underlying3 f4
      obtain ⟨a5, e5, _⟩ := DataW.trod_bool Tryz.underlying4 f5
      obtain ⟨aV, lV, cV, zV, rfl, rV⟩ := row_of_trod Tryz.underlying23 Tryz.underlying2 k2 f6
      obtain ⟨qs, hq, hby⟩ := ops_of_trod f7
      simp only [List.cons.injEq, and_true] at e0 e1 e2 e3 e4 e5
      subst e0 e1 e2 e3 e4 e5
      exact ⟨⟨a0, a1, a2, a3, a4, a5, zV.take lV, qs⟩, _, _, rfl, rV.rdv, hq, hby⟩
end
end Go.Proofs.YthbalmoafpggdaaGreat
