/- The law OpDecode: its walk. -/
import Derived.Test.YthbalmoafpggdaaChecked
import Derived.WalkKit
import Derived.Outline
import Derived.WalkSpells
import Derived.WalkLawsBesides
import Derived.Deep.QuietTactic
import Derived.Deep.RegionWith
import Derived.Deep.DeepMust
import Derived.BigQuiet
import Derived.Test.YthbalmoafpggdaaMem
import Derived.RegionTactic
import Derived.ChangeAlike
import Derived.StillTailTactics
import Derived.Deep.LoopGhost
import Derived.Laws.Strings3
import Derived.Test.YthbalmoafpggdaaOpC
import Derived.Test.YthbalmoafpggdaaRw
namespace Go.Proofs.Ythbalmoafpggdaa
open Go.RowKit
set_option linter.unusedVariables false
set_option linter.unusedSimpArgs false
def outL (o : Opr) : List Int := if mayB o = true then opL o else []
theorem outL_fine (o : Opr) (hd : Byt o.data) : Byt (outL o) ∧ (outL o).length ≤ 200000 := by
  unfold outL
  split
  · next hm =>
    have F := may_fine hm
    have l12 := F.name
    have l13 := F.data
    have l14 := numsL_len (cutL o.seen)
    have l15 := F.seen.2
    have l1 := numL_len o.kind.toNat
    have l2 := numL_len o.time.toNat
    have l3 := numL_len o.node.toNat
    have l4 := numL_len o.seq.toNat
    have l5 := numL_len o.ot.toNat
    have l6 := numL_len o.on.toNat
    have l7 := numL_len o.pt.toNat
    have l8 := numL_len o.pn.toNat
    have l9 := numL_len (strL o.name).length
    have l10 := numL_len o.data.length
    have l11 := numL_len (cutL o.seen).length
    unfold opL
    constructor
    · have nb : ∀ n, Byt (numL n) := fun n => numL_byt n
      have sb : Byt (strL o.name) := strL_byt _
      have vb : Byt (numsL (cutL o.seen)) := numsL_byt _
      repeat' apply Byt.append
      all_goals first | exact nb _ | exact sb | exact vb | exact hd
    · simp only [List.length_append]
      omega
  · exact ⟨fun q h => by simp at h, by simp⟩
theorem own_hin {w : World} {B e s n : Nat} {v : Value} {xs : List Value} (h : w.ownsRow B e s v n xs) : v = .slice none 0 0 ∨ ∃ B o n c, v = .slice (some ⟨B, o, none⟩) n c ∧ B < w.heap.size := by
  rcases h.2 with ⟨rfl, rfl⟩ | ⟨g, c, cur, rfl, _, hh, _⟩
  · exact .inl rfl
  · have hb : Blk w g cur e := hh
    exact .inr ⟨g, 0, n, c, rfl, hb.lt⟩
theorem decB_may {l : List Int} (h : decB l = true) : mayB (decO l) = true := by
  unfold decB at h
  rw [Bool.and_eq_true] at h
  exact h.2
theorem may_size {o : Opr} (h : mayB o = true) : o.name.size < 4294967281 := by
  have := (may_fine h).name
  rw [strL_len] at this
  have e := Lib.size_eq o.name
  omega
def z0 : Opr := ⟨0, 0, 0, 0, 0, 0, 0, 0, ByteArray.empty, [], []⟩
set_option maxHeartbeats 8000000 in
set_option maxRecDepth 100000 in
theorem opDecode_walk (o : Opr) (d s r : Value) (at_ x : Int) (k0 : List Int) (w : World) (hd : Rdv u8v w d o.data) (hs : Rdv i64v w s o.seen) (hob : Byt o.data) (hr : Rdv u8v w r k0) (hkb : Byt k0) (ha : -9223372036854775808 ≤ at_ ∧ at_ ≤ 9223372036854775807) (hx : 0 ≤ x ∧ x < 256) :
    Calls Try.prog 9 #[.agg #[.int .i64 (o).time, .int .i64 (o).node, .int .i64 (o).seq, .int .i64 (o).kind, .int .i64 (o).ot, .int .i64 (o).on, .int .i64 (o).pt, .int .i64 (o).pn, .string (o).name, d, s], .int .i64 at_, .int .u8 x, r] w (OTrue w) := by
  obtain ⟨i0, hi, hz0, hz1, hz2⟩ := info_parts Try.info5
  have KC := Lib.hid (fun w' hw => opCut o d s w' (hd.below hw) (hs.below hw) : ∀ w', Below w.heap.size w w' → _)
  have KE := Lib.hid (fun d s w' hd hs => refEncode (cutO o) d s w' hd hs (by have := cutO_name o; omega))
  have hob' : Byt (cutO o).data := hob.take 3000
  have hLf := outL_fine (cutO o) hob'
  unfold CutPost at KC
  unfold REncPost at KE
  simp only [show (if mayB (cutO o) = true then opL (cutO o) else []) = outL (cutO o) from rfl] at KE
  generalize outL (cutO o) = L at *
  generalize cutO o = o' at *
  have LB0 := Lib.hid hLf.1
  have hL2 := hLf.2
  clear hLf hob'
  have HR := Lib.hid hr
  obtain ⟨ra, rn, rc, rfl⟩ := hr.shape
  obtain ⟨rfl, r1, r2, _⟩ := hr.cap
  unfold maxLen at r2
  obtain ⟨da, dn, dc, rfl⟩ := hd.shape
  obtain ⟨sa, sn, sc, rfl⟩ := hs.shape
  clear hr hd hs
  have hk30 : (k0.take 30).length ≤ 30 := by simp; omega
  have KS := Lib.hid (fun w' => shortC4 ra k0 rc 30 w' (by omega) r1 (by omega))
  go_enter Try.func9, Try.ntmps9
  go_wp2_with fail
  have AL := (Below.refl w.heap.size w).alloc (Nat.le_refl _) (.cells #[.int .i64 (o).time, .int .i64 (o).node, .int .i64 (o).seq, .int .i64 (o).kind, .int .i64 (o).ot, .int .i64 (o).on, .int .i64 (o).pt, .int .i64 (o).pn, .string (o).name, .slice da dn dc, .slice sa sn sc] 58)
  refine (opBegun _).mono ?_
  rintro e w1 ⟨rfl, hb1⟩
  have X1 := Lib.hid (blkBelow hb1 (Blk.new w #[.int .i64 (o).time, .int .i64 (o).node, .int .i64 (o).seq, .int .i64 (o).kind, .int .i64 (o).ot, .int .i64 (o).on, .int .i64 (o).pt, .int .i64 (o).pn, .string (o).name, .slice da dn dc, .slice sa sn sc] 58) (Blk.new _ _ _).lt)
  have B1 := Lib.hid (AL.trans (hb1.mono (by simp)))
  clear hb1 AL
  have a0 : w.heap.size < w1.heap.size := X1.out.lt
  have p_0 : w1.cell? ⟨w.heap.size, 0, none⟩ = some (.int .i64 (o).time) := (X1.out).cell (o := 0) rfl
  have p_1 : w1.cell? ⟨w.heap.size, 1, none⟩ = some (.int .i64 (o).node) := (X1.out).cell (o := 1) rfl
  have p_2 : w1.cell? ⟨w.heap.size, 2, none⟩ = some (.int .i64 (o).seq) := (X1.out).cell (o := 2) rfl
  have p_3 : w1.cell? ⟨w.heap.size, 3, none⟩ = some (.int .i64 (o).kind) := (X1.out).cell (o := 3) rfl
  have p_4 : w1.cell? ⟨w.heap.size, 4, none⟩ = some (.int .i64 (o).ot) := (X1.out).cell (o := 4) rfl
  have p_5 : w1.cell? ⟨w.heap.size, 5, none⟩ = some (.int .i64 (o).on) := (X1.out).cell (o := 5) rfl
  have p_6 : w1.cell? ⟨w.heap.size, 6, none⟩ = some (.int .i64 (o).pt) := (X1.out).cell (o := 6) rfl
  have p_7 : w1.cell? ⟨w.heap.size, 7, none⟩ = some (.int .i64 (o).pn) := (X1.out).cell (o := 7) rfl
  have p_8 : w1.cell? ⟨w.heap.size, 8, none⟩ = some (.string (o).name) := (X1.out).cell (o := 8) rfl
  have p_9 : w1.cell? ⟨w.heap.size, 9, none⟩ = some (.slice da dn dc) := (X1.out).cell (o := 9) rfl
  have p_10 : w1.cell? ⟨w.heap.size, 10, none⟩ = some (.slice sa sn sc) := (X1.out).cell (o := 10) rfl
  go_wp2_with fail
  refine (KC.out _ B1.out).mono ?_
  rintro e w2 ⟨d2, s2, rfl, hd2, hs2, hb2⟩
  have HD2 := Lib.hid hd2
  have HS2 := Lib.hid hs2
  have B2 := Lib.hid (B1.out.trans (hb2.mono B1.out.size))
  obtain ⟨d2a, d2n, d2c, rfl⟩ := hd2.shape
  obtain ⟨s2a, s2n, s2c, rfl⟩ := hs2.shape
  have D2 := Lib.hid (hd2.below hb2)
  have S2 := Lib.hid (hs2.below hb2)
  clear hd2 hs2 hb2 HD2 HS2
  clear p_0 p_1 p_2 p_3 p_4 p_5 p_6 p_7 p_8 p_9 p_10
  go_wp2_with fail
  refine (KE.out _ _ _ D2.out S2.out).mono ?_
  rintro e w4 ⟨v4, rfl, ho4, hb4⟩
  have B4 := Lib.hid (B2.out.trans (hb4.mono B2.out.size))
  have O4 := Lib.hid (own_down ho4 B2.out.size)
  obtain ⟨va, vc, rfl, _, _, _⟩ := own_shape ho4
  clear ho4 hb4
  have a1 := B4.out.size
  by_cases hpos : 0 < L.length
  · have hpos' : (0 : Int) < L.length := by omega
    have hstep : ∀ (A : Int), 0 ≤ A → ∃ j : Nat, A % (L.length : Int) = j ∧ j < L.length := fun A hA => by
      have h1 := Int.emod_nonneg A (show (L.length : Int) ≠ 0 by omega)
      have h2 := Int.emod_lt_of_pos A (show (0 : Int) < (L.length : Int) by omega)
      exact ⟨(A % (L.length : Int)).toNat, by omega, by omega⟩
    have HS := Lib.hid hstep
    clear hstep
    obtain ⟨xn, rfl⟩ := Int.eq_ofNat_of_zero_le hx.1
    by_cases hneg : at_ < 0
    · obtain ⟨j, hj, hjl⟩ := HS.out (-(at_ + 1)) (by omega)
      obtain ⟨g, c, hv5, c1, c2, hB, hg5, hcell, hfr, hset⟩ := own_store2 O4.out j hjl
      rw [Value.slice.injEq] at hv5
      obtain ⟨rfl, _, rfl⟩ := hv5
      obtain ⟨yq, hq, hq2⟩ := LB0.out.at_ j hjl
      rw [hq] at hcell
      obtain ⟨y, hy, hy2⟩ := xor_byt yq xn hq2 (by omega)
      have HSET := Lib.hid hset
      unfold maxLen at c2
      clear hset hq
      have q0 : at_ < 0 := hneg
      have q1 : 0 ≤ -(at_ + 1) := by omega
      have hj2 : (-(at_ + 1)).tmod (L.length : Int) = j := by rw [Int.tmod_eq_emod_of_nonneg q1]; exact hj
      clear hneg
      go_wp2_with fail
      have B5 := Lib.hid (B4.out.setCell (show w.heap.size ≤ (⟨g, j, none⟩ : Addr).block from hB) (.int .u8 (y : Int)))
      have O5 := Lib.hid (HSET.out y)
      have LB := Lib.hid (LB0.out.set j y hy2)
      generalize w4.setCell ⟨g, j, none⟩ (.int .u8 (y : Int)) = w5 at *
      clear hcell hfr HSET O4
      have a2 := B5.out.size
      refine (KS.out _).mono ?_
      rintro e wS ⟨⟨kn, kc, rfl, hk⟩, rfl⟩
      have HK := Lib.hid (hk _ (HR.out.below B5.out))
      clear hk
      go_wp2_with (at_builtin; refine wpList_append_rd rfl (.tmp 39) (.tmp 41) 24 rfl w.heap.size 5 i0 (.int .u8 0) 1 Try.underlying24 hi hz0 hz1 hz2 rfl (.slice (some ⟨g, 0, none⟩) L.length vc) L.length (((L.set j (y : Int))).map u8v) rfl O5.out (.slice ra kn kc) u8v (k0.take 30) rfl HK.out (fun _ => rfl) ?c1 ?c2 ?c3 ?_)
      case c1 => unfold maxLen; omega
      case c2 => omega
      case c3 => exact B5.out.size
      intro v6 w6 o6 g6 _
      have B6 := Lib.hid (B5.out.grown g6 B5.out.size (fun q hq => (O5.out.lt q hq).1))
      have O6 : Hid (w6.ownsRow w.heap.size 5 1 v6 (((L.set j (y : Int))) ++ k0.take 30).length ((((L.set j (y : Int))) ++ k0.take 30).map u8v)) := Lib.hid (by rw [List.map_append, List.length_append, List.length_set]; first | exact o6 | simpa using o6)
      have BB := Lib.hid (LB.out.append (hkb.take 30))
      have BL : Hid ((((L.set j (y : Int))) ++ k0.take 30).length ≤ 100000000000) := Lib.hid (by rw [List.length_append, List.length_set]; omega)
      clear g6 o6
      generalize ((L.set j (y : Int))) ++ k0.take 30 = l at *
      obtain ⟨v6a, v6c, rfl, _, _, _⟩ := own_shape O6.out
      have H6 := Lib.hid (Rdv.of_owns (enc := u8v) (xs := l) O6.out)
      have I6 := Lib.hid (own_hin O6.out)
      clear O5
      go_wp2_with fail
      refine (opsDecode _ l _ H6.out BB.out BL.out).mono ?_
      rintro e w7 hP
      unfold DecPost at hP
      have KR := Lib.hid (fun w' hw => refDecode _ l w' (H6.out.below hw) BB.out BL.out (I6.out.imp id (fun ⟨B, o, n, c, h1, h2⟩ => ⟨B, o, n, c, h1, Nat.lt_of_lt_of_le h2 hw.size⟩)) : ∀ w', Below w6.heap.size w6 w' → _)
      unfold RDecPost at KR
      by_cases hdec : decB l = true
      · have HL := Lib.hid (dec_canon BB.out hdec)
        have HM := Lib.hid (decB_may hdec)
        have HY := Lib.hid (dec_byt BB.out hdec)
        rw [if_pos hdec] at hP
        simp only [if_pos hdec] at KR
        generalize decO l = q at *
        have KE := Lib.hid (fun d s w' hd hs => opsEncode q d s w' hd hs (may_size HM.out))
        unfold EncPost at KE
        rw [HM.out, HL.out] at KE
        simp only [if_true] at KE
        have KQ := Lib.hid (fun d s d2 s2 w' hd hs hd2 hs2 => refOpEq q q d s d2 s2 w' hd hs hd2 hs2 HY.out HY.out)
        rw [eqB_refl] at KQ
        obtain ⟨d7, s7, rfl, hd7, hs7, hb7⟩ := hP
        obtain ⟨d7a, d7c, rfl, _, _, _⟩ := own_shape hd7
        obtain ⟨s7a, s7c, rfl, _, _, _⟩ := own_shape hs7
        have HD7 := Lib.hid (Rdv.of_owns (enc := u8v) hd7)
        have HS7 := Lib.hid (Rdv.of_owns (enc := i64v) hs7)
        have B7 := Lib.hid (B6.out.trans (hb7.mono B6.out.size))
        have C7 := Lib.hid hb7
        clear hd7 hs7 hb7
        have a1 := B6.out.size
        have a2 := B7.out.size
        go_wp2_with fail
        have AL := (Below.refl w7.heap.size w7).alloc (Nat.le_refl _) (.cells #[.int .i64 (q).time, .int .i64 (q).node, .int .i64 (q).seq, .int .i64 (q).kind, .int .i64 (q).ot, .int .i64 (q).on, .int .i64 (q).pt, .int .i64 (q).pn, .string (q).name, .slice d7a q.data.length d7c, .slice s7a q.seen.length s7c] 58)
        refine (KR.out _ (C7.out.trans (AL.mono C7.out.size))).mono ?_
        rintro e w8 ⟨d8, s8, rfl, hd8, hs8, hb8⟩
        obtain ⟨d8a, d8c, rfl, _, _, _⟩ := own_shape hd8
        obtain ⟨s8a, s8c, rfl, _, _, _⟩ := own_shape hs8
        have HD8 := Lib.hid (Rdv.of_owns (enc := u8v) hd8)
        have HS8 := Lib.hid (Rdv.of_owns (enc := i64v) hs8)
        have G8 := Lib.hid (AL.trans (hb8.mono (by simp)))
        have X8 := Lib.hid (blkBelow hb8 (Blk.new w7 #[.int .i64 (q).time, .int .i64 (q).node, .int .i64 (q).seq, .int .i64 (q).kind, .int .i64 (q).ot, .int .i64 (q).on, .int .i64 (q).pt, .int .i64 (q).pn, .string (q).name, .slice d7a q.data.length d7c, .slice s7a q.seen.length s7c] 58) (Blk.new _ _ _).lt)
        have B8 := Lib.hid (B7.out.trans (G8.out.mono B7.out.size))
        clear hd8 hs8 hb8 AL
        have a3 := G8.out.size
        have a4 : w7.heap.size < w8.heap.size := X8.out.lt
        have p_0 : w8.cell? ⟨w7.heap.size, 0, none⟩ = some (.int .i64 (q).time) := (X8.out).cell (o := 0) rfl
        have p_1 : w8.cell? ⟨w7.heap.size, 1, none⟩ = some (.int .i64 (q).node) := (X8.out).cell (o := 1) rfl
        have p_2 : w8.cell? ⟨w7.heap.size, 2, none⟩ = some (.int .i64 (q).seq) := (X8.out).cell (o := 2) rfl
        have p_3 : w8.cell? ⟨w7.heap.size, 3, none⟩ = some (.int .i64 (q).kind) := (X8.out).cell (o := 3) rfl
        have p_4 : w8.cell? ⟨w7.heap.size, 4, none⟩ = some (.int .i64 (q).ot) := (X8.out).cell (o := 4) rfl
        have p_5 : w8.cell? ⟨w7.heap.size, 5, none⟩ = some (.int .i64 (q).on) := (X8.out).cell (o := 5) rfl
        have p_6 : w8.cell? ⟨w7.heap.size, 6, none⟩ = some (.int .i64 (q).pt) := (X8.out).cell (o := 6) rfl
        have p_7 : w8.cell? ⟨w7.heap.size, 7, none⟩ = some (.int .i64 (q).pn) := (X8.out).cell (o := 7) rfl
        have p_8 : w8.cell? ⟨w7.heap.size, 8, none⟩ = some (.string (q).name) := (X8.out).cell (o := 8) rfl
        have p_9 : w8.cell? ⟨w7.heap.size, 9, none⟩ = some (.slice d7a q.data.length d7c) := (X8.out).cell (o := 9) rfl
        have p_10 : w8.cell? ⟨w7.heap.size, 10, none⟩ = some (.slice s7a q.seen.length s7c) := (X8.out).cell (o := 10) rfl
        go_wp2_with fail
        have AL := (Below.refl w8.heap.size w8).alloc (Nat.le_refl _) (.cells #[.int .i64 (q).time, .int .i64 (q).node, .int .i64 (q).seq, .int .i64 (q).kind, .int .i64 (q).ot, .int .i64 (q).on, .int .i64 (q).pt, .int .i64 (q).pn, .string (q).name, .slice d8a q.data.length d8c, .slice s8a q.seen.length s8c] 58)
        refine (KQ.out _ _ _ _ _ ((HD7.out.below G8.out).below AL) ((HS7.out.below G8.out).below AL) (HD8.out.below AL) (HS8.out.below AL)).mono ?_
        rintro e w9 ⟨rfl, hb9⟩
        have G9 := Lib.hid (AL.trans (hb9.mono (by simp)))
        have X9 := Lib.hid (blkBelow G9.out X8.out X8.out.lt)
        have B9 := Lib.hid (B8.out.trans (G9.out.mono B8.out.size))
        clear hb9 AL
        have a5 := G9.out.size
        have a6 : w7.heap.size < w9.heap.size := X9.out.lt
        clear p_0 p_1 p_2 p_3 p_4 p_5 p_6 p_7 p_8 p_9 p_10
        have p_0 : w9.cell? ⟨w7.heap.size, 0, none⟩ = some (.int .i64 (q).time) := (X9.out).cell (o := 0) rfl
        have p_1 : w9.cell? ⟨w7.heap.size, 1, none⟩ = some (.int .i64 (q).node) := (X9.out).cell (o := 1) rfl
        have p_2 : w9.cell? ⟨w7.heap.size, 2, none⟩ = some (.int .i64 (q).seq) := (X9.out).cell (o := 2) rfl
        have p_3 : w9.cell? ⟨w7.heap.size, 3, none⟩ = some (.int .i64 (q).kind) := (X9.out).cell (o := 3) rfl
        have p_4 : w9.cell? ⟨w7.heap.size, 4, none⟩ = some (.int .i64 (q).ot) := (X9.out).cell (o := 4) rfl
        have p_5 : w9.cell? ⟨w7.heap.size, 5, none⟩ = some (.int .i64 (q).on) := (X9.out).cell (o := 5) rfl
        have p_6 : w9.cell? ⟨w7.heap.size, 6, none⟩ = some (.int .i64 (q).pt) := (X9.out).cell (o := 6) rfl
        have p_7 : w9.cell? ⟨w7.heap.size, 7, none⟩ = some (.int .i64 (q).pn) := (X9.out).cell (o := 7) rfl
        have p_8 : w9.cell? ⟨w7.heap.size, 8, none⟩ = some (.string (q).name) := (X9.out).cell (o := 8) rfl
        have p_9 : w9.cell? ⟨w7.heap.size, 9, none⟩ = some (.slice d7a q.data.length d7c) := (X9.out).cell (o := 9) rfl
        have p_10 : w9.cell? ⟨w7.heap.size, 10, none⟩ = some (.slice s7a q.seen.length s7c) := (X9.out).cell (o := 10) rfl
        go_wp2_with fail
        refine (KE.out _ _ _ ((HD7.out.below G8.out).below G9.out) ((HS7.out.below G8.out).below G9.out)).mono ?_
        rintro e w10 ⟨v10, rfl, ho, hb10⟩
        obtain ⟨v10a, v10c, rfl, _, _, _⟩ := own_shape ho
        have k7 := conv_rdv (P := Try.prog) 24 5 Try.underlying24 Try.underlying5 (Rdv.of_owns (enc := u8v) ho) 9 Try.underlying9
        have k8 := conv_rdv (P := Try.prog) 24 5 Try.underlying24 Try.underlying5 ((((H6.out.below C7.out).below G8.out).below G9.out).below hb10) 9 Try.underlying9
        have B10 := Lib.hid (B9.out.trans (hb10.mono B9.out.size))
        clear ho hb10
        go_wp2
        go_ret
        exact ⟨rfl, B10.out⟩
      · rw [if_neg hdec] at hP
        simp only [if_neg hdec] at KR
        have KQ := Lib.hid (fun w' => refOpEq z0 z0 (.slice none 0 0) (.slice none 0 0) (.slice none 0 0) (.slice none 0 0) w' (Rdv.nil _ _) (Rdv.nil _ _) (Rdv.nil _ _) (Rdv.nil _ _) (by intro q hq; simp [z0] at hq) (by intro q hq; simp [z0] at hq))
        rw [eqB_refl] at KQ
        simp only [z0] at KQ
        obtain ⟨rfl, hb7⟩ := hP
        have B7 := Lib.hid (B6.out.trans (hb7.mono B6.out.size))
        have C7 := Lib.hid hb7
        clear hb7
        have a1 := B6.out.size
        have a2 := B7.out.size
        go_wp2_with fail
        have AL := (Below.refl w7.heap.size w7).alloc (Nat.le_refl _) (.cells #[.int .i64 0, .int .i64 0, .int .i64 0, .int .i64 0, .int .i64 0, .int .i64 0, .int .i64 0, .int .i64 0, .string ByteArray.empty, .slice none 0 0, .slice none 0 0] 58)
        refine (KR.out _ (C7.out.trans (AL.mono C7.out.size))).mono ?_
        rintro e w8 ⟨rfl, hb8⟩
        have G8 := Lib.hid (AL.trans (hb8.mono (by simp)))
        have X8 := Lib.hid (blkBelow hb8 (Blk.new w7 #[.int .i64 0, .int .i64 0, .int .i64 0, .int .i64 0, .int .i64 0, .int .i64 0, .int .i64 0, .int .i64 0, .string ByteArray.empty, .slice none 0 0, .slice none 0 0] 58) (Blk.new _ _ _).lt)
        have B8 := Lib.hid (B7.out.trans (G8.out.mono B7.out.size))
        clear hb8 AL
        have a3 := G8.out.size
        have a4 : w7.heap.size < w8.heap.size := X8.out.lt
        have p_0 : w8.cell? ⟨w7.heap.size, 0, none⟩ = some (.int .i64 (z0).time) := (X8.out).cell (o := 0) rfl
        have p_1 : w8.cell? ⟨w7.heap.size, 1, none⟩ = some (.int .i64 (z0).node) := (X8.out).cell (o := 1) rfl
        have p_2 : w8.cell? ⟨w7.heap.size, 2, none⟩ = some (.int .i64 (z0).seq) := (X8.out).cell (o := 2) rfl
        have p_3 : w8.cell? ⟨w7.heap.size, 3, none⟩ = some (.int .i64 (z0).kind) := (X8.out).cell (o := 3) rfl
        have p_4 : w8.cell? ⟨w7.heap.size, 4, none⟩ = some (.int .i64 (z0).ot) := (X8.out).cell (o := 4) rfl
        have p_5 : w8.cell? ⟨w7.heap.size, 5, none⟩ = some (.int .i64 (z0).on) := (X8.out).cell (o := 5) rfl
        have p_6 : w8.cell? ⟨w7.heap.size, 6, none⟩ = some (.int .i64 (z0).pt) := (X8.out).cell (o := 6) rfl
        have p_7 : w8.cell? ⟨w7.heap.size, 7, none⟩ = some (.int .i64 (z0).pn) := (X8.out).cell (o := 7) rfl
        have p_8 : w8.cell? ⟨w7.heap.size, 8, none⟩ = some (.string (z0).name) := (X8.out).cell (o := 8) rfl
        have p_9 : w8.cell? ⟨w7.heap.size, 9, none⟩ = some (.slice none 0 0) := (X8.out).cell (o := 9) rfl
        have p_10 : w8.cell? ⟨w7.heap.size, 10, none⟩ = some (.slice none 0 0) := (X8.out).cell (o := 10) rfl
        simp only [z0] at p_0 p_1 p_2 p_3 p_4 p_5 p_6 p_7 p_8
        go_wp2_with fail
        have AL := (Below.refl w8.heap.size w8).alloc (Nat.le_refl _) (.cells #[.int .i64 0, .int .i64 0, .int .i64 0, .int .i64 0, .int .i64 0, .int .i64 0, .int .i64 0, .int .i64 0, .string ByteArray.empty, .slice none 0 0, .slice none 0 0] 58)
        refine (KQ.out _).mono ?_
        rintro e w9 ⟨rfl, hb9⟩
        have G9 := Lib.hid (AL.trans (hb9.mono (by simp)))
        have B9 := Lib.hid (B8.out.trans (G9.out.mono B8.out.size))
        clear hb9 AL
        clear p_0 p_1 p_2 p_3 p_4 p_5 p_6 p_7 p_8 p_9 p_10
        go_wp2
        go_ret
        exact ⟨rfl, B9.out⟩
    · obtain ⟨j, hj, hjl⟩ := HS.out at_ (by omega)
      obtain ⟨g, c, hv5, c1, c2, hB, hg5, hcell, hfr, hset⟩ := own_store2 O4.out j hjl
      rw [Value.slice.injEq] at hv5
      obtain ⟨rfl, _, rfl⟩ := hv5
      obtain ⟨yq, hq, hq2⟩ := LB0.out.at_ j hjl
      rw [hq] at hcell
      obtain ⟨y, hy, hy2⟩ := xor_byt yq xn hq2 (by omega)
      have HSET := Lib.hid hset
      unfold maxLen at c2
      clear hset hq
      have q0 : 0 ≤ at_ := by omega
      have q1 : ¬ (at_ < 0) := by omega
      have hj2 : at_.tmod (L.length : Int) = j := by rw [Int.tmod_eq_emod_of_nonneg q0]; exact hj
      clear hneg
      go_wp2_with fail
      have B5 := Lib.hid (B4.out.setCell (show w.heap.size ≤ (⟨g, j, none⟩ : Addr).block from hB) (.int .u8 (y : Int)))
      have O5 := Lib.hid (HSET.out y)
      have LB := Lib.hid (LB0.out.set j y hy2)
      generalize w4.setCell ⟨g, j, none⟩ (.int .u8 (y : Int)) = w5 at *
      clear hcell hfr HSET O4
      have a2 := B5.out.size
      refine (KS.out _).mono ?_
      rintro e wS ⟨⟨kn, kc, rfl, hk⟩, rfl⟩
      have HK := Lib.hid (hk _ (HR.out.below B5.out))
      clear hk
      go_wp2_with (at_builtin; refine wpList_append_rd rfl (.tmp 39) (.tmp 41) 24 rfl w.heap.size 5 i0 (.int .u8 0) 1 Try.underlying24 hi hz0 hz1 hz2 rfl (.slice (some ⟨g, 0, none⟩) L.length vc) L.length (((L.set j (y : Int))).map u8v) rfl O5.out (.slice ra kn kc) u8v (k0.take 30) rfl HK.out (fun _ => rfl) ?c1 ?c2 ?c3 ?_)
      case c1 => unfold maxLen; omega
      case c2 => omega
      case c3 => exact B5.out.size
      intro v6 w6 o6 g6 _
      have B6 := Lib.hid (B5.out.grown g6 B5.out.size (fun q hq => (O5.out.lt q hq).1))
      have O6 : Hid (w6.ownsRow w.heap.size 5 1 v6 (((L.set j (y : Int))) ++ k0.take 30).length ((((L.set j (y : Int))) ++ k0.take 30).map u8v)) := Lib.hid (by rw [List.map_append, List.length_append, List.length_set]; first | exact o6 | simpa using o6)
      have BB := Lib.hid (LB.out.append (hkb.take 30))
      have BL : Hid ((((L.set j (y : Int))) ++ k0.take 30).length ≤ 100000000000) := Lib.hid (by rw [List.length_append, List.length_set]; omega)
      clear g6 o6
      generalize ((L.set j (y : Int))) ++ k0.take 30 = l at *
      obtain ⟨v6a, v6c, rfl, _, _, _⟩ := own_shape O6.out
      have H6 := Lib.hid (Rdv.of_owns (enc := u8v) (xs := l) O6.out)
      have I6 := Lib.hid (own_hin O6.out)
      clear O5
      go_wp2_with fail
      refine (opsDecode _ l _ H6.out BB.out BL.out).mono ?_
      rintro e w7 hP
      unfold DecPost at hP
      have KR := Lib.hid (fun w' hw => refDecode _ l w' (H6.out.below hw) BB.out BL.out (I6.out.imp id (fun ⟨B, o, n, c, h1, h2⟩ => ⟨B, o, n, c, h1, Nat.lt_of_lt_of_le h2 hw.size⟩)) : ∀ w', Below w6.heap.size w6 w' → _)
      unfold RDecPost at KR
      by_cases hdec : decB l = true
      · have HL := Lib.hid (dec_canon BB.out hdec)
        have HM := Lib.hid (decB_may hdec)
        have HY := Lib.hid (dec_byt BB.out hdec)
        rw [if_pos hdec] at hP
        simp only [if_pos hdec] at KR
        generalize decO l = q at *
        have KE := Lib.hid (fun d s w' hd hs => opsEncode q d s w' hd hs (may_size HM.out))
        unfold EncPost at KE
        rw [HM.out, HL.out] at KE
        simp only [if_true] at KE
        have KQ := Lib.hid (fun d s d2 s2 w' hd hs hd2 hs2 => refOpEq q q d s d2 s2 w' hd hs hd2 hs2 HY.out HY.out)
        rw [eqB_refl] at KQ
        obtain ⟨d7, s7, rfl, hd7, hs7, hb7⟩ := hP
        obtain ⟨d7a, d7c, rfl, _, _, _⟩ := own_shape hd7
        obtain ⟨s7a, s7c, rfl, _, _, _⟩ := own_shape hs7
        have HD7 := Lib.hid (Rdv.of_owns (enc := u8v) hd7)
        have HS7 := Lib.hid (Rdv.of_owns (enc := i64v) hs7)
        have B7 := Lib.hid (B6.out.trans (hb7.mono B6.out.size))
        have C7 := Lib.hid hb7
        clear hd7 hs7 hb7
        have a1 := B6.out.size
        have a2 := B7.out.size
        go_wp2_with fail
        have AL := (Below.refl w7.heap.size w7).alloc (Nat.le_refl _) (.cells #[.int .i64 (q).time, .int .i64 (q).node, .int .i64 (q).seq, .int .i64 (q).kind, .int .i64 (q).ot, .int .i64 (q).on, .int .i64 (q).pt, .int .i64 (q).pn, .string (q).name, .slice d7a q.data.length d7c, .slice s7a q.seen.length s7c] 58)
        refine (KR.out _ (C7.out.trans (AL.mono C7.out.size))).mono ?_
        rintro e w8 ⟨d8, s8, rfl, hd8, hs8, hb8⟩
        obtain ⟨d8a, d8c, rfl, _, _, _⟩ := own_shape hd8
        obtain ⟨s8a, s8c, rfl, _, _, _⟩ := own_shape hs8
        have HD8 := Lib.hid (Rdv.of_owns (enc := u8v) hd8)
        have HS8 := Lib.hid (Rdv.of_owns (enc := i64v) hs8)
        have G8 := Lib.hid (AL.trans (hb8.mono (by simp)))
        have X8 := Lib.hid (blkBelow hb8 (Blk.new w7 #[.int .i64 (q).time, .int .i64 (q).node, .int .i64 (q).seq, .int .i64 (q).kind, .int .i64 (q).ot, .int .i64 (q).on, .int .i64 (q).pt, .int .i64 (q).pn, .string (q).name, .slice d7a q.data.length d7c, .slice s7a q.seen.length s7c] 58) (Blk.new _ _ _).lt)
        have B8 := Lib.hid (B7.out.trans (G8.out.mono B7.out.size))
        clear hd8 hs8 hb8 AL
        have a3 := G8.out.size
        have a4 : w7.heap.size < w8.heap.size := X8.out.lt
        have p_0 : w8.cell? ⟨w7.heap.size, 0, none⟩ = some (.int .i64 (q).time) := (X8.out).cell (o := 0) rfl
        have p_1 : w8.cell? ⟨w7.heap.size, 1, none⟩ = some (.int .i64 (q).node) := (X8.out).cell (o := 1) rfl
        have p_2 : w8.cell? ⟨w7.heap.size, 2, none⟩ = some (.int .i64 (q).seq) := (X8.out).cell (o := 2) rfl
        have p_3 : w8.cell? ⟨w7.heap.size, 3, none⟩ = some (.int .i64 (q).kind) := (X8.out).cell (o := 3) rfl
        have p_4 : w8.cell? ⟨w7.heap.size, 4, none⟩ = some (.int .i64 (q).ot) := (X8.out).cell (o := 4) rfl
        have p_5 : w8.cell? ⟨w7.heap.size, 5, none⟩ = some (.int .i64 (q).on) := (X8.out).cell (o := 5) rfl
        have p_6 : w8.cell? ⟨w7.heap.size, 6, none⟩ = some (.int .i64 (q).pt) := (X8.out).cell (o := 6) rfl
        have p_7 : w8.cell? ⟨w7.heap.size, 7, none⟩ = some (.int .i64 (q).pn) := (X8.out).cell (o := 7) rfl
        have p_8 : w8.cell? ⟨w7.heap.size, 8, none⟩ = some (.string (q).name) := (X8.out).cell (o := 8) rfl
        have p_9 : w8.cell? ⟨w7.heap.size, 9, none⟩ = some (.slice d7a q.data.length d7c) := (X8.out).cell (o := 9) rfl
        have p_10 : w8.cell? ⟨w7.heap.size, 10, none⟩ = some (.slice s7a q.seen.length s7c) := (X8.out).cell (o := 10) rfl
        go_wp2_with fail
        have AL := (Below.refl w8.heap.size w8).alloc (Nat.le_refl _) (.cells #[.int .i64 (q).time, .int .i64 (q).node, .int .i64 (q).seq, .int .i64 (q).kind, .int .i64 (q).ot, .int .i64 (q).on, .int .i64 (q).pt, .int .i64 (q).pn, .string (q).name, .slice d8a q.data.length d8c, .slice s8a q.seen.length s8c] 58)
        refine (KQ.out _ _ _ _ _ ((HD7.out.below G8.out).below AL) ((HS7.out.below G8.out).below AL) (HD8.out.below AL) (HS8.out.below AL)).mono ?_
        rintro e w9 ⟨rfl, hb9⟩
        have G9 := Lib.hid (AL.trans (hb9.mono (by simp)))
        have X9 := Lib.hid (blkBelow G9.out X8.out X8.out.lt)
        have B9 := Lib.hid (B8.out.trans (G9.out.mono B8.out.size))
        clear hb9 AL
        have a5 := G9.out.size
        have a6 : w7.heap.size < w9.heap.size := X9.out.lt
        clear p_0 p_1 p_2 p_3 p_4 p_5 p_6 p_7 p_8 p_9 p_10
        have p_0 : w9.cell? ⟨w7.heap.size, 0, none⟩ = some (.int .i64 (q).time) := (X9.out).cell (o := 0) rfl
        have p_1 : w9.cell? ⟨w7.heap.size, 1, none⟩ = some (.int .i64 (q).node) := (X9.out).cell (o := 1) rfl
        have p_2 : w9.cell? ⟨w7.heap.size, 2, none⟩ = some (.int .i64 (q).seq) := (X9.out).cell (o := 2) rfl
        have p_3 : w9.cell? ⟨w7.heap.size, 3, none⟩ = some (.int .i64 (q).kind) := (X9.out).cell (o := 3) rfl
        have p_4 : w9.cell? ⟨w7.heap.size, 4, none⟩ = some (.int .i64 (q).ot) := (X9.out).cell (o := 4) rfl
        have p_5 : w9.cell? ⟨w7.heap.size, 5, none⟩ = some (.int .i64 (q).on) := (X9.out).cell (o := 5) rfl
        have p_6 : w9.cell? ⟨w7.heap.size, 6, none⟩ = some (.int .i64 (q).pt) := (X9.out).cell (o := 6) rfl
        have p_7 : w9.cell? ⟨w7.heap.size, 7, none⟩ = some (.int .i64 (q).pn) := (X9.out).cell (o := 7) rfl
        have p_8 : w9.cell? ⟨w7.heap.size, 8, none⟩ = some (.string (q).name) := (X9.out).cell (o := 8) rfl
        have p_9 : w9.cell? ⟨w7.heap.size, 9, none⟩ = some (.slice d7a q.data.length d7c) := (X9.out).cell (o := 9) rfl
        have p_10 : w9.cell? ⟨w7.heap.size, 10, none⟩ = some (.slice s7a q.seen.length s7c) := (X9.out).cell (o := 10) rfl
        go_wp2_with fail
        refine (KE.out _ _ _ ((HD7.out.below G8.out).below G9.out) ((HS7.out.below G8.out).below G9.out)).mono ?_
        rintro e w10 ⟨v10, rfl, ho, hb10⟩
        obtain ⟨v10a, v10c, rfl, _, _, _⟩ := own_shape ho
        have k7 := conv_rdv (P := Try.prog) 24 5 Try.underlying24 Try.underlying5 (Rdv.of_owns (enc := u8v) ho) 9 Try.underlying9
        have k8 := conv_rdv (P := Try.prog) 24 5 Try.underlying24 Try.underlying5 ((((H6.out.below C7.out).below G8.out).below G9.out).below hb10) 9 Try.underlying9
        have B10 := Lib.hid (B9.out.trans (hb10.mono B9.out.size))
        clear ho hb10
        go_wp2
        go_ret
        exact ⟨rfl, B10.out⟩
      · rw [if_neg hdec] at hP
        simp only [if_neg hdec] at KR
        have KQ := Lib.hid (fun w' => refOpEq z0 z0 (.slice none 0 0) (.slice none 0 0) (.slice none 0 0) (.slice none 0 0) w' (Rdv.nil _ _) (Rdv.nil _ _) (Rdv.nil _ _) (Rdv.nil _ _) (by intro q hq; simp [z0] at hq) (by intro q hq; simp [z0] at hq))
        rw [eqB_refl] at KQ
        simp only [z0] at KQ
        obtain ⟨rfl, hb7⟩ := hP
        have B7 := Lib.hid (B6.out.trans (hb7.mono B6.out.size))
        have C7 := Lib.hid hb7
        clear hb7
        have a1 := B6.out.size
        have a2 := B7.out.size
        go_wp2_with fail
        have AL := (Below.refl w7.heap.size w7).alloc (Nat.le_refl _) (.cells #[.int .i64 0, .int .i64 0, .int .i64 0, .int .i64 0, .int .i64 0, .int .i64 0, .int .i64 0, .int .i64 0, .string ByteArray.empty, .slice none 0 0, .slice none 0 0] 58)
        refine (KR.out _ (C7.out.trans (AL.mono C7.out.size))).mono ?_
        rintro e w8 ⟨rfl, hb8⟩
        have G8 := Lib.hid (AL.trans (hb8.mono (by simp)))
        have X8 := Lib.hid (blkBelow hb8 (Blk.new w7 #[.int .i64 0, .int .i64 0, .int .i64 0, .int .i64 0, .int .i64 0, .int .i64 0, .int .i64 0, .int .i64 0, .string ByteArray.empty, .slice none 0 0, .slice none 0 0] 58) (Blk.new _ _ _).lt)
        have B8 := Lib.hid (B7.out.trans (G8.out.mono B7.out.size))
        clear hb8 AL
        have a3 := G8.out.size
        have a4 : w7.heap.size < w8.heap.size := X8.out.lt
        have p_0 : w8.cell? ⟨w7.heap.size, 0, none⟩ = some (.int .i64 (z0).time) := (X8.out).cell (o := 0) rfl
        have p_1 : w8.cell? ⟨w7.heap.size, 1, none⟩ = some (.int .i64 (z0).node) := (X8.out).cell (o := 1) rfl
        have p_2 : w8.cell? ⟨w7.heap.size, 2, none⟩ = some (.int .i64 (z0).seq) := (X8.out).cell (o := 2) rfl
        have p_3 : w8.cell? ⟨w7.heap.size, 3, none⟩ = some (.int .i64 (z0).kind) := (X8.out).cell (o := 3) rfl
        have p_4 : w8.cell? ⟨w7.heap.size, 4, none⟩ = some (.int .i64 (z0).ot) := (X8.out).cell (o := 4) rfl
        have p_5 : w8.cell? ⟨w7.heap.size, 5, none⟩ = some (.int .i64 (z0).on) := (X8.out).cell (o := 5) rfl
        have p_6 : w8.cell? ⟨w7.heap.size, 6, none⟩ = some (.int .i64 (z0).pt) := (X8.out).cell (o := 6) rfl
        have p_7 : w8.cell? ⟨w7.heap.size, 7, none⟩ = some (.int .i64 (z0).pn) := (X8.out).cell (o := 7) rfl
        have p_8 : w8.cell? ⟨w7.heap.size, 8, none⟩ = some (.string (z0).name) := (X8.out).cell (o := 8) rfl
        have p_9 : w8.cell? ⟨w7.heap.size, 9, none⟩ = some (.slice none 0 0) := (X8.out).cell (o := 9) rfl
        have p_10 : w8.cell? ⟨w7.heap.size, 10, none⟩ = some (.slice none 0 0) := (X8.out).cell (o := 10) rfl
        simp only [z0] at p_0 p_1 p_2 p_3 p_4 p_5 p_6 p_7 p_8
        go_wp2_with fail
        have AL := (Below.refl w8.heap.size w8).alloc (Nat.le_refl _) (.cells #[.int .i64 0, .int .i64 0, .int .i64 0, .int .i64 0, .int .i64 0, .int .i64 0, .int .i64 0, .int .i64 0, .string ByteArray.empty, .slice none 0 0, .slice none 0 0] 58)
        refine (KQ.out _).mono ?_
        rintro e w9 ⟨rfl, hb9⟩
        have G9 := Lib.hid (AL.trans (hb9.mono (by simp)))
        have B9 := Lib.hid (B8.out.trans (G9.out.mono B8.out.size))
        clear hb9 AL
        clear p_0 p_1 p_2 p_3 p_4 p_5 p_6 p_7 p_8 p_9 p_10
        go_wp2
        go_ret
        exact ⟨rfl, B9.out⟩
  · have hpos' : ¬ ((0 : Int) < L.length) := by omega
    have B5 := Lib.hid B4.out
    have O5 := Lib.hid O4.out
    have LB := Lib.hid LB0.out
    clear O4 LB0
    go_wp2_with fail
    refine (KS.out _).mono ?_
    rintro e wS ⟨⟨kn, kc, rfl, hk⟩, rfl⟩
    have HK := Lib.hid (hk _ (HR.out.below B5.out))
    clear hk
    go_wp2_with (at_builtin; refine wpList_append_rd rfl (.tmp 39) (.tmp 41) 24 rfl w.heap.size 5 i0 (.int .u8 0) 1 Try.underlying24 hi hz0 hz1 hz2 rfl (.slice va L.length vc) L.length ((L).map u8v) rfl O5.out (.slice ra kn kc) u8v (k0.take 30) rfl HK.out (fun _ => rfl) ?c1 ?c2 ?c3 ?_)
    case c1 => unfold maxLen; omega
    case c2 => omega
    case c3 => exact B5.out.size
    intro v6 w6 o6 g6 _
    have B6 := Lib.hid (B5.out.grown g6 B5.out.size (fun q hq => (O5.out.lt q hq).1))
    have O6 : Hid (w6.ownsRow w.heap.size 5 1 v6 ((L) ++ k0.take 30).length (((L) ++ k0.take 30).map u8v)) := Lib.hid (by rw [List.map_append, List.length_append, (rfl : L.length = L.length)]; first | exact o6 | simpa using o6)
    have BB := Lib.hid (LB.out.append (hkb.take 30))
    have BL : Hid (((L) ++ k0.take 30).length ≤ 100000000000) := Lib.hid (by rw [List.length_append, (rfl : L.length = L.length)]; omega)
    clear g6 o6
    generalize (L) ++ k0.take 30 = l at *
    obtain ⟨v6a, v6c, rfl, _, _, _⟩ := own_shape O6.out
    have H6 := Lib.hid (Rdv.of_owns (enc := u8v) (xs := l) O6.out)
    have I6 := Lib.hid (own_hin O6.out)
    clear O5
    go_wp2_with fail
    refine (opsDecode _ l _ H6.out BB.out BL.out).mono ?_
    rintro e w7 hP
    unfold DecPost at hP
    have KR := Lib.hid (fun w' hw => refDecode _ l w' (H6.out.below hw) BB.out BL.out (I6.out.imp id (fun ⟨B, o, n, c, h1, h2⟩ => ⟨B, o, n, c, h1, Nat.lt_of_lt_of_le h2 hw.size⟩)) : ∀ w', Below w6.heap.size w6 w' → _)
    unfold RDecPost at KR
    by_cases hdec : decB l = true
    · have HL := Lib.hid (dec_canon BB.out hdec)
      have HM := Lib.hid (decB_may hdec)
      have HY := Lib.hid (dec_byt BB.out hdec)
      rw [if_pos hdec] at hP
      simp only [if_pos hdec] at KR
      generalize decO l = q at *
      have KE := Lib.hid (fun d s w' hd hs => opsEncode q d s w' hd hs (may_size HM.out))
      unfold EncPost at KE
      rw [HM.out, HL.out] at KE
      simp only [if_true] at KE
      have KQ := Lib.hid (fun d s d2 s2 w' hd hs hd2 hs2 => refOpEq q q d s d2 s2 w' hd hs hd2 hs2 HY.out HY.out)
      rw [eqB_refl] at KQ
      obtain ⟨d7, s7, rfl, hd7, hs7, hb7⟩ := hP
      obtain ⟨d7a, d7c, rfl, _, _, _⟩ := own_shape hd7
      obtain ⟨s7a, s7c, rfl, _, _, _⟩ := own_shape hs7
      have HD7 := Lib.hid (Rdv.of_owns (enc := u8v) hd7)
      have HS7 := Lib.hid (Rdv.of_owns (enc := i64v) hs7)
      have B7 := Lib.hid (B6.out.trans (hb7.mono B6.out.size))
      have C7 := Lib.hid hb7
      clear hd7 hs7 hb7
      have a1 := B6.out.size
      have a2 := B7.out.size
      go_wp2_with fail
      have AL := (Below.refl w7.heap.size w7).alloc (Nat.le_refl _) (.cells #[.int .i64 (q).time, .int .i64 (q).node, .int .i64 (q).seq, .int .i64 (q).kind, .int .i64 (q).ot, .int .i64 (q).on, .int .i64 (q).pt, .int .i64 (q).pn, .string (q).name, .slice d7a q.data.length d7c, .slice s7a q.seen.length s7c] 58)
      refine (KR.out _ (C7.out.trans (AL.mono C7.out.size))).mono ?_
      rintro e w8 ⟨d8, s8, rfl, hd8, hs8, hb8⟩
      obtain ⟨d8a, d8c, rfl, _, _, _⟩ := own_shape hd8
      obtain ⟨s8a, s8c, rfl, _, _, _⟩ := own_shape hs8
      have HD8 := Lib.hid (Rdv.of_owns (enc := u8v) hd8)
      have HS8 := Lib.hid (Rdv.of_owns (enc := i64v) hs8)
      have G8 := Lib.hid (AL.trans (hb8.mono (by simp)))
      have X8 := Lib.hid (blkBelow hb8 (Blk.new w7 #[.int .i64 (q).time, .int .i64 (q).node, .int .i64 (q).seq, .int .i64 (q).kind, .int .i64 (q).ot, .int .i64 (q).on, .int .i64 (q).pt, .int .i64 (q).pn, .string (q).name, .slice d7a q.data.length d7c, .slice s7a q.seen.length s7c] 58) (Blk.new _ _ _).lt)
      have B8 := Lib.hid (B7.out.trans (G8.out.mono B7.out.size))
      clear hd8 hs8 hb8 AL
      have a3 := G8.out.size
      have a4 : w7.heap.size < w8.heap.size := X8.out.lt
      have p_0 : w8.cell? ⟨w7.heap.size, 0, none⟩ = some (.int .i64 (q).time) := (X8.out).cell (o := 0) rfl
      have p_1 : w8.cell? ⟨w7.heap.size, 1, none⟩ = some (.int .i64 (q).node) := (X8.out).cell (o := 1) rfl
      have p_2 : w8.cell? ⟨w7.heap.size, 2, none⟩ = some (.int .i64 (q).seq) := (X8.out).cell (o := 2) rfl
      have p_3 : w8.cell? ⟨w7.heap.size, 3, none⟩ = some (.int .i64 (q).kind) := (X8.out).cell (o := 3) rfl
      have p_4 : w8.cell? ⟨w7.heap.size, 4, none⟩ = some (.int .i64 (q).ot) := (X8.out).cell (o := 4) rfl
      have p_5 : w8.cell? ⟨w7.heap.size, 5, none⟩ = some (.int .i64 (q).on) := (X8.out).cell (o := 5) rfl
      have p_6 : w8.cell? ⟨w7.heap.size, 6, none⟩ = some (.int .i64 (q).pt) := (X8.out).cell (o := 6) rfl
      have p_7 : w8.cell? ⟨w7.heap.size, 7, none⟩ = some (.int .i64 (q).pn) := (X8.out).cell (o := 7) rfl
      have p_8 : w8.cell? ⟨w7.heap.size, 8, none⟩ = some (.string (q).name) := (X8.out).cell (o := 8) rfl
      have p_9 : w8.cell? ⟨w7.heap.size, 9, none⟩ = some (.slice d7a q.data.length d7c) := (X8.out).cell (o := 9) rfl
      have p_10 : w8.cell? ⟨w7.heap.size, 10, none⟩ = some (.slice s7a q.seen.length s7c) := (X8.out).cell (o := 10) rfl
      go_wp2_with fail
      have AL := (Below.refl w8.heap.size w8).alloc (Nat.le_refl _) (.cells #[.int .i64 (q).time, .int .i64 (q).node, .int .i64 (q).seq, .int .i64 (q).kind, .int .i64 (q).ot, .int .i64 (q).on, .int .i64 (q).pt, .int .i64 (q).pn, .string (q).name, .slice d8a q.data.length d8c, .slice s8a q.seen.length s8c] 58)
      refine (KQ.out _ _ _ _ _ ((HD7.out.below G8.out).below AL) ((HS7.out.below G8.out).below AL) (HD8.out.below AL) (HS8.out.below AL)).mono ?_
      rintro e w9 ⟨rfl, hb9⟩
      have G9 := Lib.hid (AL.trans (hb9.mono (by simp)))
      have X9 := Lib.hid (blkBelow G9.out X8.out X8.out.lt)
      have B9 := Lib.hid (B8.out.trans (G9.out.mono B8.out.size))
      clear hb9 AL
      have a5 := G9.out.size
      have a6 : w7.heap.size < w9.heap.size := X9.out.lt
      clear p_0 p_1 p_2 p_3 p_4 p_5 p_6 p_7 p_8 p_9 p_10
      have p_0 : w9.cell? ⟨w7.heap.size, 0, none⟩ = some (.int .i64 (q).time) := (X9.out).cell (o := 0) rfl
      have p_1 : w9.cell? ⟨w7.heap.size, 1, none⟩ = some (.int .i64 (q).node) := (X9.out).cell (o := 1) rfl
      have p_2 : w9.cell? ⟨w7.heap.size, 2, none⟩ = some (.int .i64 (q).seq) := (X9.out).cell (o := 2) rfl
      have p_3 : w9.cell? ⟨w7.heap.size, 3, none⟩ = some (.int .i64 (q).kind) := (X9.out).cell (o := 3) rfl
      have p_4 : w9.cell? ⟨w7.heap.size, 4, none⟩ = some (.int .i64 (q).ot) := (X9.out).cell (o := 4) rfl
      have p_5 : w9.cell? ⟨w7.heap.size, 5, none⟩ = some (.int .i64 (q).on) := (X9.out).cell (o := 5) rfl
      have p_6 : w9.cell? ⟨w7.heap.size, 6, none⟩ = some (.int .i64 (q).pt) := (X9.out).cell (o := 6) rfl
      have p_7 : w9.cell? ⟨w7.heap.size, 7, none⟩ = some (.int .i64 (q).pn) := (X9.out).cell (o := 7) rfl
      have p_8 : w9.cell? ⟨w7.heap.size, 8, none⟩ = some (.string (q).name) := (X9.out).cell (o := 8) rfl
      have p_9 : w9.cell? ⟨w7.heap.size, 9, none⟩ = some (.slice d7a q.data.length d7c) := (X9.out).cell (o := 9) rfl
      have p_10 : w9.cell? ⟨w7.heap.size, 10, none⟩ = some (.slice s7a q.seen.length s7c) := (X9.out).cell (o := 10) rfl
      go_wp2_with fail
      refine (KE.out _ _ _ ((HD7.out.below G8.out).below G9.out) ((HS7.out.below G8.out).below G9.out)).mono ?_
      rintro e w10 ⟨v10, rfl, ho, hb10⟩
      obtain ⟨v10a, v10c, rfl, _, _, _⟩ := own_shape ho
      have k7 := conv_rdv (P := Try.prog) 24 5 Try.underlying24 Try.underlying5 (Rdv.of_owns (enc := u8v) ho) 9 Try.underlying9
      have k8 := conv_rdv (P := Try.prog) 24 5 Try.underlying24 Try.underlying5 ((((H6.out.below C7.out).below G8.out).below G9.out).below hb10) 9 Try.underlying9
      have B10 := Lib.hid (B9.out.trans (hb10.mono B9.out.size))
      clear ho hb10
      go_wp2
      go_ret
      exact ⟨rfl, B10.out⟩
    · rw [if_neg hdec] at hP
      simp only [if_neg hdec] at KR
      have KQ := Lib.hid (fun w' => refOpEq z0 z0 (.slice none 0 0) (.slice none 0 0) (.slice none 0 0) (.slice none 0 0) w' (Rdv.nil _ _) (Rdv.nil _ _) (Rdv.nil _ _) (Rdv.nil _ _) (by intro q hq; simp [z0] at hq) (by intro q hq; simp [z0] at hq))
      rw [eqB_refl] at KQ
      simp only [z0] at KQ
      obtain ⟨rfl, hb7⟩ := hP
      have B7 := Lib.hid (B6.out.trans (hb7.mono B6.out.size))
      have C7 := Lib.hid hb7
      clear hb7
      have a1 := B6.out.size
      have a2 := B7.out.size
      go_wp2_with fail
      have AL := (Below.refl w7.heap.size w7).alloc (Nat.le_refl _) (.cells #[.int .i64 0, .int .i64 0, .int .i64 0, .int .i64 0, .int .i64 0, .int .i64 0, .int .i64 0, .int .i64 0, .string ByteArray.empty, .slice none 0 0, .slice none 0 0] 58)
      refine (KR.out _ (C7.out.trans (AL.mono C7.out.size))).mono ?_
      rintro e w8 ⟨rfl, hb8⟩
      have G8 := Lib.hid (AL.trans (hb8.mono (by simp)))
      have X8 := Lib.hid (blkBelow hb8 (Blk.new w7 #[.int .i64 0, .int .i64 0, .int .i64 0, .int .i64 0, .int .i64 0, .int .i64 0, .int .i64 0, .int .i64 0, .string ByteArray.empty, .slice none 0 0, .slice none 0 0] 58) (Blk.new _ _ _).lt)
      have B8 := Lib.hid (B7.out.trans (G8.out.mono B7.out.size))
      clear hb8 AL
      have a3 := G8.out.size
      have a4 : w7.heap.size < w8.heap.size := X8.out.lt
      have p_0 : w8.cell? ⟨w7.heap.size, 0, none⟩ = some (.int .i64 (z0).time) := (X8.out).cell (o := 0) rfl
      have p_1 : w8.cell? ⟨w7.heap.size, 1, none⟩ = some (.int .i64 (z0).node) := (X8.out).cell (o := 1) rfl
      have p_2 : w8.cell? ⟨w7.heap.size, 2, none⟩ = some (.int .i64 (z0).seq) := (X8.out).cell (o := 2) rfl
      have p_3 : w8.cell? ⟨w7.heap.size, 3, none⟩ = some (.int .i64 (z0).kind) := (X8.out).cell (o := 3) rfl
      have p_4 : w8.cell? ⟨w7.heap.size, 4, none⟩ = some (.int .i64 (z0).ot) := (X8.out).cell (o := 4) rfl
      have p_5 : w8.cell? ⟨w7.heap.size, 5, none⟩ = some (.int .i64 (z0).on) := (X8.out).cell (o := 5) rfl
      have p_6 : w8.cell? ⟨w7.heap.size, 6, none⟩ = some (.int .i64 (z0).pt) := (X8.out).cell (o := 6) rfl
      have p_7 : w8.cell? ⟨w7.heap.size, 7, none⟩ = some (.int .i64 (z0).pn) := (X8.out).cell (o := 7) rfl
      have p_8 : w8.cell? ⟨w7.heap.size, 8, none⟩ = some (.string (z0).name) := (X8.out).cell (o := 8) rfl
      have p_9 : w8.cell? ⟨w7.heap.size, 9, none⟩ = some (.slice none 0 0) := (X8.out).cell (o := 9) rfl
      have p_10 : w8.cell? ⟨w7.heap.size, 10, none⟩ = some (.slice none 0 0) := (X8.out).cell (o := 10) rfl
      simp only [z0] at p_0 p_1 p_2 p_3 p_4 p_5 p_6 p_7 p_8
      go_wp2_with fail
      have AL := (Below.refl w8.heap.size w8).alloc (Nat.le_refl _) (.cells #[.int .i64 0, .int .i64 0, .int .i64 0, .int .i64 0, .int .i64 0, .int .i64 0, .int .i64 0, .int .i64 0, .string ByteArray.empty, .slice none 0 0, .slice none 0 0] 58)
      refine (KQ.out _).mono ?_
      rintro e w9 ⟨rfl, hb9⟩
      have G9 := Lib.hid (AL.trans (hb9.mono (by simp)))
      have B9 := Lib.hid (B8.out.trans (G9.out.mono B8.out.size))
      clear hb9 AL
      clear p_0 p_1 p_2 p_3 p_4 p_5 p_6 p_7 p_8 p_9 p_10
      go_wp2
      go_ret
      exact ⟨rfl, B9.out⟩
end Go.Proofs.Ythbalmoafpggdaa
