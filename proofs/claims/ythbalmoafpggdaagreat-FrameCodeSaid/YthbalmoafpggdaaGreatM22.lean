/- Frames: the reference's Encode. The laws of layer 22: what is begun, what is cut. -/
import Derived.Test.YthbalmoafpggdaaGreatChecked
import Derived.WalkKit
import Derived.Outline
import Derived.WalkSpells
import Derived.WalkLawsBesides
import Derived.Deep.QuietTactic
import Derived.Deep.RegionWith
import Derived.Deep.DeepMust
import Derived.BigQuiet
import Derived.RegionTactic
import Derived.ChangeAlike
import Derived.StillTailTactics
import Derived.Deep.LoopGhost
import Derived.Test.YthbalmoafpggdaaGreatM1
import Derived.Test.YthbalmoafpggdaaGreatM17
import Derived.Test.YthbalmoafpggdaaGreatM19
import Derived.Test.YthbalmoafpggdaaGreatM21
import Derived.Test.YthbalmoafpggdaaGreatM18
namespace Go.Proofs.YthbalmoafpggdaaGreat
open Go.RowKit
set_option linter.unusedVariables false
set_option linter.unusedSimpArgs false
theorem EncL.below {W wr wr' : World} {bv : Value} {L : List Int} (h : EncL W bv L wr) (hb : Below wr.heap.size wr wr') : EncL W bv L wr' := ⟨ownsRow_below h.own hb, h.bel.trans (hb.mono h.bel.size)⟩
theorem EncL.grown {W wr wr' : World} {bv bv' : Value} {L Y : List Int} (h : EncL W bv L wr) (ho : wr'.ownsRow W.heap.size 5 1 bv' (L.length + Y.length) (L.map u8v ++ Y.map u8v)) (g : wr.grownBy wr' bv.ownBlock) : EncL W bv' (L ++ Y) wr' :=
  ⟨by rw [List.map_append, List.length_append]; exact ho, h.bel.grown g h.bel.size (fun q hq => (h.own.lt q hq).1)⟩
theorem own_over {w w' : World} {base n : Nat} {t : TypeId} {s : Nat} {v x : Value} {xs : List Value} (h : w.ownsRow base t s v n xs) (g : w.grownBy w' x.ownBlock) (hx : ∀ b, x.ownBlock = some b → b < base) : w'.ownsRow base t s v n xs :=
  ownsRow_chg h ((Chg.refl (fun k => x.ownBlock = some k) w).grown g (fun _ e _ => e)) (fun b e1 e2 => by have := (h.lt b e1).1; have := hx b e2; omega)
def RFEncPost (f : Frm) (w : World) (e : Ending) (w' : World) : Prop := RowPost (if fMayB f = true then frameL (bodyL f) else []) w e w'
/- the row at hand: wr, its EncL: #1; the row appended: own at #2 (slice ya Y.length yc), #3 = Y; operands #4 #5; L: #6; new number #7 -/
set_option maxHeartbeats 4000000 in
set_option maxRecDepth 100000 in
theorem refFEncode (f : Frm) (v o : Value) (w : World) (hv : Rdv i64v w v f.vec) (ho : OpsRd w o f.ops) (hn : ∀ q ∈ f.ops, q.name.size < 4294967281) (hbt : ∀ q ∈ f.ops, Byt q.data) (hl : fMayB f = true → (bodyL f).length ≤ 1048576) :
    Calls Tryz.prog 8 #[.agg #[.int .i64 (f).kind, .int .i64 (f).src, .int .i64 (f).dst, .int .i64 (f).sess, .int .i64 (f).seq, .bool (f).last, v, o]] w (RFEncPost f w) := by
  obtain ⟨i0, hi, hz0, hz1, hz2⟩ := info_parts Tryz.info5
  have KM := Lib.hid (fun w' hw => refFMay f v o w' (hv.below hw) (ho.below hw) hn : ∀ w', Below w.heap.size w w' → _)
  have HV := Lib.hid hv
  obtain ⟨a, c, rfl, o1, o2, HO⟩ := ho
  have HO := Lib.hid HO
  have HN := Lib.hid hn
  clear hv hn
  obtain ⟨va, vn, vc, rfl⟩ := HV.out.shape
  obtain ⟨rfl, _, _, _⟩ := HV.out.cap
  unfold RFEncPost
  cases hm : fMayB f
  · rw [hm] at KM
    simp only [Bool.false_eq_true, if_false]
    clear hm hl
    obtain ⟨kind, src, dst, sess, seq, last, vec, ops⟩ := f
    simp only at *
    have AL := (Below.refl w.heap.size w).alloc (Nat.le_refl _) (.cells #[.int .i64 kind, .int .i64 src, .int .i64 dst, .int .i64 sess, .int .i64 seq, .bool last, .slice va vec.length vc, .slice a ops.length c] 26)
    go_enter Tryz.func8, Tryz.ntmps8
    go_wp2_with fail
    refine (KM.out _ AL).mono ?_
    rintro e w1 ⟨rfl, hb1⟩
    have B1 := Lib.hid (AL.trans (hb1.mono (by simp)))
    clear hb1 AL
    go_wp2
    go_ret
    exact ⟨_, rfl, World.ownsRow_nil _ _ _ _, B1.out⟩
  rw [hm] at KM
  have HL := Lib.hid (hl hm)
  obtain ⟨P1, P2, P3, P4⟩ := may_parts hm
  have K3 := Lib.hid P3
  have l8 : f.ops.length ≤ 8 := P2.2.2
  have KB := Lib.hid (bodyL_byt f hbt)
  have NS := Lib.hid (numsL_step f)
  have NK := Lib.hid (headN_ok f P1)
  have NC := Lib.hid (headN_cell f)
  have N45 := Lib.hid (numsL5 f)
  have hPre : Hid (numsL (headN f) ++ truthW f.last ++ (numL (cutL f.vec).length ++ numsL (cutL f.vec)) ++ numL f.ops.length = preL f) := rfl
  have hT5 : Hid (numsL ((headN f).take 5) = numsL (headN f)) := rfl
  have P5 : vecMayB (cutL f.vec) = true ∧ (cutL f.vec).length ≤ 64 := by
    unfold vokB at P4
    rw [Bool.and_eq_true, decide_eq_true_eq] at P4
    exact P4
  have hVL : (numL (cutL f.vec).length ++ numsL (cutL f.vec)).length ≤ 700 := by
    have h1 := numL_len (cutL f.vec).length
    have h2 := numsL_len (cutL f.vec)
    have := P5.2
    rw [List.length_append]; omega
  have hTL : (truthW f.last).length ≤ 1 := by unfold truthW; split <;> simp
  have KV := Lib.hid (fun w' hw => gVec (.slice va f.vec.length vc) f.vec w' (HV.out.below hw) P5 : ∀ w', Below w.heap.size w w' → _)
  unfold GoodPost at KV
  have KT := Lib.hid (fun w' => refTruth f.last w')
  simp only [if_true]
  clear hm hl P1 P2 P3 P4 P5
  generalize headN f = hd at *
  have hBody : Hid (bodyL f = preL f ++ opsL f.ops) := rfl
  generalize bodyL f = body at *
  generalize preL f = pre at *
  obtain ⟨kind, src, dst, sess, seq, last, vec, ops⟩ := f
  simp only at *
  have AL := (Below.refl w.heap.size w).alloc (Nat.le_refl _) (.cells #[.int .i64 kind, .int .i64 src, .int .i64 dst, .int .i64 sess, .int .i64 seq, .bool last, .slice va vec.length vc, .slice a ops.length c] 26)
  have FM : Hid (FMid w #[.int .i64 kind, .int .i64 src, .int .i64 dst, .int .i64 sess, .int .i64 seq, .bool last, .slice va vec.length vc, .slice a ops.length c] (w.alloc (.cells #[.int .i64 kind, .int .i64 src, .int .i64 dst, .int .i64 sess, .int .i64 seq, .bool last, .slice va vec.length vc, .slice a ops.length c] 26))) := Lib.hid ⟨Blk.new _ _ _, AL⟩
  go_enter Tryz.func8, Tryz.ntmps8
  go_wp2_with fail
  refine (KM.out _ AL).mono ?_
  rintro e w1 ⟨rfl, hb1⟩
  have M1 := Lib.hid (FM.out.below hb1)
  clear hb1 AL FM KM
  have hw1 : w.heap.size < w1.heap.size := M1.out.blk.lt
  have g_0 : w1.cell? ⟨w.heap.size, 0, none⟩ = some (.int .i64 kind) := (M1.out.blk).cell (o := 0) rfl
  have g_1 : w1.cell? ⟨w.heap.size, 1, none⟩ = some (.int .i64 src) := (M1.out.blk).cell (o := 1) rfl
  have g_2 : w1.cell? ⟨w.heap.size, 2, none⟩ = some (.int .i64 dst) := (M1.out.blk).cell (o := 2) rfl
  have g_3 : w1.cell? ⟨w.heap.size, 3, none⟩ = some (.int .i64 sess) := (M1.out.blk).cell (o := 3) rfl
  have g_4 : w1.cell? ⟨w.heap.size, 4, none⟩ = some (.int .i64 seq) := (M1.out.blk).cell (o := 4) rfl
  have g_5 : w1.cell? ⟨w.heap.size, 5, none⟩ = some (.bool last) := (M1.out.blk).cell (o := 5) rfl
  have g_6 : w1.cell? ⟨w.heap.size, 6, none⟩ = some (.slice va vec.length vc) := (M1.out.blk).cell (o := 6) rfl
  have g_7 : w1.cell? ⟨w.heap.size, 7, none⟩ = some (.slice a ops.length c) := (M1.out.blk).cell (o := 7) rfl
  obtain ⟨W, hW⟩ : ∃ W, W = w1.alloc (.cells #[.int .i64 kind, .int .i64 src, .int .i64 dst, .int .i64 sess, .int .i64 seq] 2) := ⟨_, rfl⟩
  have ALs := (Below.refl w1.heap.size w1).alloc (Nat.le_refl _) (.cells #[.int .i64 kind, .int .i64 src, .int .i64 dst, .int .i64 sess, .int .i64 seq] 2)
  have X0 : Hid (Blk W w1.heap.size #[.int .i64 kind, .int .i64 src, .int .i64 dst, .int .i64 sess, .int .i64 seq] 2) := Lib.hid (hW ▸ Blk.new w1 _ _)
  have M0 : Hid (FMid w #[.int .i64 kind, .int .i64 src, .int .i64 dst, .int .i64 sess, .int .i64 seq, .bool last, .slice va vec.length vc, .slice a ops.length c] W) := Lib.hid (hW ▸ M1.out.below ALs)
  have E0 : Hid (EncL W (.slice none 0 0) [] W) := Lib.hid ⟨World.ownsRow_nil _ _ _ _, Below.refl _ _⟩
  have hWz : w1.heap.size < W.heap.size := X0.out.lt
  clear ALs
  go_wp2
  go_loopw [3, 5] (fun bv iv wr => ∃ i : Nat, i ≤ 5 ∧ iv = .int .i64 i ∧ EncL W bv (numsL (hd.take i)) wr) (fun _ iv _ => 5 - (intOf iv).toNat)
  case atStart => exact ⟨0, by omega, rfl, by rw [← hW]; exact E0.out⟩
  case round =>
    obtain ⟨i, hi5, rfl, hE⟩ := hrel
    have EE := Lib.hid hE
    obtain ⟨ba, bc, rfl, _, _, _⟩ := own_shape hE.own
    clear hW hE g_0 g_1 g_2 g_3 g_4 g_5 g_6 g_7
    by_cases hlt : i < 5
    · have q0 : (0 : Int) ≤ i := by omega
      have q1 : (i : Int) < 5 := by omega
      have hc : wr.cell? ⟨w1.heap.size, i, none⟩ = some (.int .i64 (hd.getD i 0)) := (blkBelow EE.out.bel X0.out (by omega)).cell (NC.out i hlt)
      have hns := NS.out i hlt
      have hnk := NK.out i hlt
      have hLi := N45.out i
      generalize hd.getD i 0 = y at *
      generalize numsL (hd.take i) = L at *
      go_wp2_with fail
      refine (gNum y _ hnk).mono ?_
      rintro e w3 ⟨y3, rfl, ho3, hb3⟩
      have hY9 := numL_len y.toNat
      generalize numL y.toNat = Y at *
      obtain ⟨ya, yc, rfl, _, _, _⟩ := own_shape ho3
      have R3 := Lib.hid (Rdv.of_owns (enc := u8v) (xs := Y) ho3)
      have E3 := Lib.hid (EE.out.below hb3)
      clear ho3 hb3 hc
      go_wp2_with (at_builtin; refine wpList_append_rd rfl (.tmp 46) (.tmp 47) 30 rfl W.heap.size 5 i0 (.int .u8 0) 1 Tryz.underlying30 hi hz0 hz1 hz2 rfl (.slice ba (L).length bc) (L).length ((L).map u8v) rfl (E3).out.own (.slice ya (Y).length yc) u8v (Y) rfl (R3).out (fun _ => rfl) ?c1 ?c2 ?c3 ?_)
      case c1 => unfold maxLen; omega
      case c2 => omega
      case c3 => exact (E3).out.bel.size
      intro v4 w4 o4 g4 _
      have E4 := Lib.hid ((E3).out.grown o4 g4)
      obtain ⟨L4, q4⟩ : ∃ X, X = (L) ++ (Y) := ⟨_, rfl⟩
      rw [← q4] at E4
      have z4 : L4.length ≤ (L).length + (Y).length := by rw [q4, List.length_append]; omega
      replace q4 := Lib.hid q4
      obtain ⟨ba, bc, rfl, _, _, _⟩ := own_shape E4.out.own
      have G4 := Lib.hid g4
      clear o4 g4
      have E5 : Hid (EncL W (.slice ba L4.length bc) (numsL (hd.take (i + 1))) w4) := Lib.hid (by rw [hns, ← q4.out]; exact E4.out)
      clear hns q4
      go_wp2
      go_roundw
      case rel => exact ⟨i + 1, by omega, by go_num, E5.out⟩
      case measure => simp [intOf]; omega
    · obtain rfl : i = 5 := by omega
      have n50 := N45.out 5
      have EA := EE
      clear EE
      rw [hT5.out] at EA n50 ⊢
      have MM := Lib.hid (M0.out.below EA.out.bel)
      generalize numsL hd = L at *
      have g_0 : wr.cell? ⟨w.heap.size, 0, none⟩ = some (.int .i64 kind) := (MM.out.blk).cell (o := 0) rfl
      have g_1 : wr.cell? ⟨w.heap.size, 1, none⟩ = some (.int .i64 src) := (MM.out.blk).cell (o := 1) rfl
      have g_2 : wr.cell? ⟨w.heap.size, 2, none⟩ = some (.int .i64 dst) := (MM.out.blk).cell (o := 2) rfl
      have g_3 : wr.cell? ⟨w.heap.size, 3, none⟩ = some (.int .i64 sess) := (MM.out.blk).cell (o := 3) rfl
      have g_4 : wr.cell? ⟨w.heap.size, 4, none⟩ = some (.int .i64 seq) := (MM.out.blk).cell (o := 4) rfl
      have g_5 : wr.cell? ⟨w.heap.size, 5, none⟩ = some (.bool last) := (MM.out.blk).cell (o := 5) rfl
      have g_6 : wr.cell? ⟨w.heap.size, 6, none⟩ = some (.slice va vec.length vc) := (MM.out.blk).cell (o := 6) rfl
      have g_7 : wr.cell? ⟨w.heap.size, 7, none⟩ = some (.slice a ops.length c) := (MM.out.blk).cell (o := 7) rfl
      go_wp2_with fail
      refine (KT.out _).mono ?_
      rintro e w3 ⟨y3, rfl, ho3, hb3⟩
      obtain ⟨ya, yc, rfl, _, _, _⟩ := own_shape ho3
      have R3 := Lib.hid (Rdv.of_owns (enc := u8v) (xs := truthW last) ho3)
      have E3 := Lib.hid (EA.out.below hb3)
      clear ho3 hb3 g_0 g_1 g_2 g_3 g_4 g_5 g_6 g_7
      go_wp2_with (at_builtin; refine wpList_append_rd rfl (.tmp 49) (.tmp 52) 30 rfl W.heap.size 5 i0 (.int .u8 0) 1 Tryz.underlying30 hi hz0 hz1 hz2 rfl (.slice ba (L).length bc) (L).length ((L).map u8v) rfl (E3).out.own (.slice ya (truthW last).length yc) u8v (truthW last) rfl (R3).out (fun _ => rfl) ?c1 ?c2 ?c3 ?_)
      case c1 => unfold maxLen; omega
      case c2 => omega
      case c3 => exact (E3).out.bel.size
      intro v4 w4 o4 g4 _
      have E4 := Lib.hid ((E3).out.grown o4 g4)
      obtain ⟨L4, q4⟩ : ∃ X, X = (L) ++ (truthW last) := ⟨_, rfl⟩
      rw [← q4] at E4
      have z4 : L4.length ≤ (L).length + (truthW last).length := by rw [q4, List.length_append]; omega
      replace q4 := Lib.hid q4
      obtain ⟨ba, bc, rfl, _, _, _⟩ := own_shape E4.out.own
      have G4 := Lib.hid g4
      clear o4 g4
      have M4 := Lib.hid (M0.out.below E4.out.bel)
      have g_0 : w4.cell? ⟨w.heap.size, 0, none⟩ = some (.int .i64 kind) := (M4.out.blk).cell (o := 0) rfl
      have g_1 : w4.cell? ⟨w.heap.size, 1, none⟩ = some (.int .i64 src) := (M4.out.blk).cell (o := 1) rfl
      have g_2 : w4.cell? ⟨w.heap.size, 2, none⟩ = some (.int .i64 dst) := (M4.out.blk).cell (o := 2) rfl
      have g_3 : w4.cell? ⟨w.heap.size, 3, none⟩ = some (.int .i64 sess) := (M4.out.blk).cell (o := 3) rfl
      have g_4 : w4.cell? ⟨w.heap.size, 4, none⟩ = some (.int .i64 seq) := (M4.out.blk).cell (o := 4) rfl
      have g_5 : w4.cell? ⟨w.heap.size, 5, none⟩ = some (.bool last) := (M4.out.blk).cell (o := 5) rfl
      have g_6 : w4.cell? ⟨w.heap.size, 6, none⟩ = some (.slice va vec.length vc) := (M4.out.blk).cell (o := 6) rfl
      have g_7 : w4.cell? ⟨w.heap.size, 7, none⟩ = some (.slice a ops.length c) := (M4.out.blk).cell (o := 7) rfl
      clear E3 EA R3 MM
      go_wp2_with fail
      refine (KV.out _ M4.out.bel).mono ?_
      rintro e w5 ⟨y5, rfl, ho5, hb5⟩
      generalize hVq : numL (cutL vec).length ++ numsL (cutL vec) = VL at *
      obtain ⟨ya, yc, rfl, _, _, _⟩ := own_shape ho5
      have R5 := Lib.hid (Rdv.of_owns (enc := u8v) (xs := VL) ho5)
      have E5 := Lib.hid (E4.out.below hb5)
      clear ho5 hb5 g_0 g_1 g_2 g_3 g_4 g_5 g_6 g_7
      go_wp2_with (at_builtin; refine wpList_append_rd rfl (.tmp 60) (.tmp 61) 30 rfl W.heap.size 5 i0 (.int .u8 0) 1 Tryz.underlying30 hi hz0 hz1 hz2 rfl (.slice ba (L4).length bc) (L4).length ((L4).map u8v) rfl (E5).out.own (.slice ya (VL).length yc) u8v (VL) rfl (R5).out (fun _ => rfl) ?c1 ?c2 ?c3 ?_)
      case c1 => unfold maxLen; omega
      case c2 => omega
      case c3 => exact (E5).out.bel.size
      intro v6 w6 o6 g6 _
      have E6 := Lib.hid ((E5).out.grown o6 g6)
      obtain ⟨L6, q6⟩ : ∃ X, X = (L4) ++ (VL) := ⟨_, rfl⟩
      rw [← q6] at E6
      have z6 : L6.length ≤ (L4).length + (VL).length := by rw [q6, List.length_append]; omega
      replace q6 := Lib.hid q6
      obtain ⟨ba, bc, rfl, _, _, _⟩ := own_shape E6.out.own
      have G6 := Lib.hid g6
      clear o6 g6
      have M6 := Lib.hid (M0.out.below E6.out.bel)
      have g_0 : w6.cell? ⟨w.heap.size, 0, none⟩ = some (.int .i64 kind) := (M6.out.blk).cell (o := 0) rfl
      have g_1 : w6.cell? ⟨w.heap.size, 1, none⟩ = some (.int .i64 src) := (M6.out.blk).cell (o := 1) rfl
      have g_2 : w6.cell? ⟨w.heap.size, 2, none⟩ = some (.int .i64 dst) := (M6.out.blk).cell (o := 2) rfl
      have g_3 : w6.cell? ⟨w.heap.size, 3, none⟩ = some (.int .i64 sess) := (M6.out.blk).cell (o := 3) rfl
      have g_4 : w6.cell? ⟨w.heap.size, 4, none⟩ = some (.int .i64 seq) := (M6.out.blk).cell (o := 4) rfl
      have g_5 : w6.cell? ⟨w.heap.size, 5, none⟩ = some (.bool last) := (M6.out.blk).cell (o := 5) rfl
      have g_6 : w6.cell? ⟨w.heap.size, 6, none⟩ = some (.slice va vec.length vc) := (M6.out.blk).cell (o := 6) rfl
      have g_7 : w6.cell? ⟨w.heap.size, 7, none⟩ = some (.slice a ops.length c) := (M6.out.blk).cell (o := 7) rfl
      clear E5 E4 R5 M4
      go_wp2_with fail
      refine (gNum ops.length _ (by omega)).mono ?_
      rintro e w7 ⟨y7, rfl, ho7, hb7⟩
      simp only [Int.toNat_natCast] at ho7
      have hN9 := numL_len ops.length
      generalize hNq : numL ops.length = NL at *
      obtain ⟨ya, yc, rfl, _, _, _⟩ := own_shape ho7
      have R7 := Lib.hid (Rdv.of_owns (enc := u8v) (xs := NL) ho7)
      have E7 := Lib.hid (E6.out.below hb7)
      clear ho7 hb7 g_0 g_1 g_2 g_3 g_4 g_5 g_6 g_7
      go_wp2_with (at_builtin; refine wpList_append_rd rfl (.tmp 70) (.tmp 71) 30 rfl W.heap.size 5 i0 (.int .u8 0) 1 Tryz.underlying30 hi hz0 hz1 hz2 rfl (.slice ba (L6).length bc) (L6).length ((L6).map u8v) rfl (E7).out.own (.slice ya (NL).length yc) u8v (NL) rfl (R7).out (fun _ => rfl) ?c1 ?c2 ?c3 ?_)
      case c1 => unfold maxLen; omega
      case c2 => omega
      case c3 => exact (E7).out.bel.size
      intro v8 w8 o8 g8 _
      have E8 := Lib.hid ((E7).out.grown o8 g8)
      obtain ⟨L8, q8⟩ : ∃ X, X = (L6) ++ (NL) := ⟨_, rfl⟩
      rw [← q8] at E8
      have z8 : L8.length ≤ (L6).length + (NL).length := by rw [q8, List.length_append]; omega
      replace q8 := Lib.hid q8
      obtain ⟨ba, bc, rfl, _, _, _⟩ := own_shape E8.out.own
      have G8 := Lib.hid g8
      clear o8 g8
      have hP : pre = L8 := by rw [q8.out, q6.out, q4.out]; exact hPre.out.symm
      have pl : pre.length ≤ 1048576 := by have := HL.out; rw [hBody.out, List.length_append] at this; omega
      have EP : Hid (EncL W (.slice ba L8.length bc) (pre ++ opsL (ops.take 0)) w8) := Lib.hid (by rw [hP]; simpa [opsL] using E8.out)
      clear E7 E6 R7 M6 hP
      go_wp2
      go_loopw [3, 12] (fun bv iv wr => ∃ i : Nat, i ≤ ops.length ∧ iv = .int .i64 i ∧ EncL W bv (pre ++ opsL (ops.take i)) wr) (fun _ iv _ => ops.length - (intOf iv).toNat)
      case atStart => exact ⟨0, by omega, rfl, EP.out⟩
      case round =>
        obtain ⟨i, hil, rfl, hE⟩ := hrel
        have EE := Lib.hid hE
        obtain ⟨ba, bc, rfl, _, _, _⟩ := own_shape hE.own
        have MM := Lib.hid (M0.out.below hE.bel)
        clear hE EP E8
        have g_0 : wr.cell? ⟨w.heap.size, 0, none⟩ = some (.int .i64 kind) := (MM.out.blk).cell (o := 0) rfl
        have g_1 : wr.cell? ⟨w.heap.size, 1, none⟩ = some (.int .i64 src) := (MM.out.blk).cell (o := 1) rfl
        have g_2 : wr.cell? ⟨w.heap.size, 2, none⟩ = some (.int .i64 dst) := (MM.out.blk).cell (o := 2) rfl
        have g_3 : wr.cell? ⟨w.heap.size, 3, none⟩ = some (.int .i64 sess) := (MM.out.blk).cell (o := 3) rfl
        have g_4 : wr.cell? ⟨w.heap.size, 4, none⟩ = some (.int .i64 seq) := (MM.out.blk).cell (o := 4) rfl
        have g_5 : wr.cell? ⟨w.heap.size, 5, none⟩ = some (.bool last) := (MM.out.blk).cell (o := 5) rfl
        have g_6 : wr.cell? ⟨w.heap.size, 6, none⟩ = some (.slice va vec.length vc) := (MM.out.blk).cell (o := 6) rfl
        have g_7 : wr.cell? ⟨w.heap.size, 7, none⟩ = some (.slice a ops.length c) := (MM.out.blk).cell (o := 7) rfl
        by_cases hlt : i < ops.length
        · obtain ⟨q, hq⟩ : ∃ q, ops[i]? = some q := ⟨_, List.getElem?_eq_getElem hlt⟩
          obtain ⟨b, ob, d, s, rfl, hA⟩ := HO.out i q hq
          obtain ⟨da, dn, dc, rfl⟩ := hA.dat.shape
          obtain ⟨sa, sn, sc, rfl⟩ := hA.see.shape
          have OA := Lib.hid (hA.below MM.out.bel)
          have q0 : (0 : Int) ≤ i := by omega
          have q1 : (i : Int) < ops.length := by omega
          have c_0 : wr.cell? ⟨b, ob + i * 11, none⟩ = some (.int .i64 (q).time) := (OA.out).cell 0 _ rfl
          have c_1 : wr.cell? ⟨b, ob + i * 11 + 1, none⟩ = some (.int .i64 (q).node) := (OA.out).cell 1 _ rfl
          have c_2 : wr.cell? ⟨b, ob + i * 11 + 2, none⟩ = some (.int .i64 (q).seq) := (OA.out).cell 2 _ rfl
          have c_3 : wr.cell? ⟨b, ob + i * 11 + 3, none⟩ = some (.int .i64 (q).kind) := (OA.out).cell 3 _ rfl
          have c_4 : wr.cell? ⟨b, ob + i * 11 + 4, none⟩ = some (.int .i64 (q).ot) := (OA.out).cell 4 _ rfl
          have c_5 : wr.cell? ⟨b, ob + i * 11 + 5, none⟩ = some (.int .i64 (q).on) := (OA.out).cell 5 _ rfl
          have c_6 : wr.cell? ⟨b, ob + i * 11 + 6, none⟩ = some (.int .i64 (q).pt) := (OA.out).cell 6 _ rfl
          have c_7 : wr.cell? ⟨b, ob + i * 11 + 7, none⟩ = some (.int .i64 (q).pn) := (OA.out).cell 7 _ rfl
          have c_8 : wr.cell? ⟨b, ob + i * 11 + 8, none⟩ = some (.string (q).name) := (OA.out).cell 8 _ rfl
          have c_9 : wr.cell? ⟨b, ob + i * 11 + 9, none⟩ = some (.slice da dn dc) := (OA.out).cell 9 _ rfl
          have c_10 : wr.cell? ⟨b, ob + i * 11 + 10, none⟩ = some (.slice sa sn sc) := (OA.out).cell 10 _ rfl
          have bz : b < wr.heap.size := World.block_lt_of_cell? wr _ c_0
          have KE := Lib.hid (refEncode q (.slice da dn dc) (.slice sa sn sc) wr OA.out.dat OA.out.see (HN.out q (List.mem_of_getElem? hq)))
          have hmq : mayB q = true := List.all_eq_true.1 K3.out q (List.mem_of_getElem? hq)
          unfold REncPost at KE
          rw [hmq] at KE
          simp only [if_true] at KE
          have hsn : Hid (pre ++ opsL (ops.take (i + 1)) = pre ++ opsL (ops.take i) ++ numL (opL q).length ++ opL q) := Lib.hid (by rw [opsL_snoc hq]; simp [List.append_assoc])
          have hbig : (pre ++ opsL (ops.take i)).length + (numL (opL q).length).length + (opL q).length ≤ 1048576 := by
            have h1 := opsL_le ops (i + 1)
            have h2 := HL.out
            rw [hBody.out, List.length_append] at h2
            have h3 := congrArg List.length hsn.out
            simp only [List.length_append] at h3 ⊢
            omega
          clear hA hq hmq
          generalize opL q = Q at *
          generalize pre ++ opsL (ops.take i) = L at *
          go_wp2_with fail
          refine KE.out.mono ?_
          rintro e w9 ⟨y9, rfl, ho9, hb9⟩
          obtain ⟨y9a, y9c, rfl, _, _, _⟩ := own_shape ho9
          have R9 := Lib.hid (Rdv.of_owns (enc := u8v) (xs := Q) ho9)
          have E9 := Lib.hid (EE.out.below hb9)
          have O9 := Lib.hid ho9
          clear ho9 hb9 c_0 c_1 c_2 c_3 c_4 c_5 c_6 c_7 c_8 c_9 c_10 g_0 g_1 g_2 g_3 g_4 g_5 g_6 g_7
          go_wp2_with fail
          refine (gNum Q.length _ (by omega)).mono ?_
          rintro e w10 ⟨y10, rfl, ho10, hb10⟩
          simp only [Int.toNat_natCast] at ho10
          generalize numL Q.length = NQ at *
          obtain ⟨ya, yc, rfl, _, _, _⟩ := own_shape ho10
          have R10 := Lib.hid (Rdv.of_owns (enc := u8v) (xs := NQ) ho10)
          have O10 := Lib.hid (ownsRow_below O9.out hb10)
          have E10 := Lib.hid (E9.out.below hb10)
          clear ho10 hb10
          go_wp2_with (at_builtin; refine wpList_append_rd rfl (.tmp 92) (.tmp 93) 30 rfl W.heap.size 5 i0 (.int .u8 0) 1 Tryz.underlying30 hi hz0 hz1 hz2 rfl (.slice ba (L).length bc) (L).length ((L).map u8v) rfl (E10).out.own (.slice ya (NQ).length yc) u8v (NQ) rfl (R10).out (fun _ => rfl) ?c1 ?c2 ?c3 ?_)
          case c1 => unfold maxLen; omega
          case c2 => omega
          case c3 => exact (E10).out.bel.size
          intro v11 w11 o11 g11 _
          have E11 := Lib.hid ((E10).out.grown o11 g11)
          obtain ⟨L11, q11⟩ : ∃ X, X = (L) ++ (NQ) := ⟨_, rfl⟩
          rw [← q11] at E11
          have z11 : L11.length ≤ (L).length + (NQ).length := by rw [q11, List.length_append]; omega
          replace q11 := Lib.hid q11
          obtain ⟨ba, bc, rfl, _, _, _⟩ := own_shape E11.out.own
          have G11 := Lib.hid g11
          clear o11 g11
          have O11 := Lib.hid (own_over O10.out G11.out (fun b e => (EE.out.own.lt b e).2))
          have R11 := Lib.hid (Rdv.of_owns (enc := u8v) (xs := Q) O11.out)
          go_wp2_with (at_builtin; refine wpList_append_rd rfl (.tmp 95) (.tmp 96) 30 rfl W.heap.size 5 i0 (.int .u8 0) 1 Tryz.underlying30 hi hz0 hz1 hz2 rfl (.slice ba (L11).length bc) (L11).length ((L11).map u8v) rfl (E11).out.own (.slice y9a (Q).length y9c) u8v (Q) rfl (R11).out (fun _ => rfl) ?c1 ?c2 ?c3 ?_)
          case c1 => unfold maxLen; omega
          case c2 => omega
          case c3 => exact (E11).out.bel.size
          intro v12 w12 o12 g12 _
          have E12 := Lib.hid ((E11).out.grown o12 g12)
          obtain ⟨L12, q12⟩ : ∃ X, X = (L11) ++ (Q) := ⟨_, rfl⟩
          rw [← q12] at E12
          have z12 : L12.length ≤ (L11).length + (Q).length := by rw [q12, List.length_append]; omega
          replace q12 := Lib.hid q12
          obtain ⟨ba, bc, rfl, _, _, _⟩ := own_shape E12.out.own
          have G12 := Lib.hid g12
          clear o12 g12
          have EF : Hid (EncL W (.slice ba L12.length bc) (pre ++ opsL (ops.take (i + 1))) w12) := Lib.hid (by rw [hsn.out, ← q11.out, ← q12.out]; exact E12.out)
          clear hsn q11 q12
          go_wp2
          go_roundw
          case rel => exact ⟨i + 1, by omega, by go_num, EF.out⟩
          case measure => simp [intOf]; omega
        · have hi' : i = ops.length := by omega
          have hBE : pre ++ opsL (ops.take i) = body := by rw [hi', List.take_length, ← hBody.out]
          clear hBody
          generalize pre ++ opsL (ops.take i) = L at *
          subst hBE
          subst hi'
          have RB := Lib.hid (Rdv.of_owns (enc := u8v) (xs := L) EE.out.own)
          go_wp2_with fail
          refine (refFrameOk _ L _ RB.out KB.out HL.out).mono ?_
          rintro e w8 ⟨v8, rfl, ho8, hb8⟩
          have hsz := MM.out.bel.size
          have O8 := Lib.hid (own_down ho8 hsz)
          have B8 := Lib.hid (MM.out.bel.trans (hb8.mono hsz))
          clear ho8 hb8
          go_wp2
          go_ret
          exact ⟨_, rfl, O8.out, B8.out⟩
end Go.Proofs.YthbalmoafpggdaaGreat
namespace Go.Proofs.YthbalmoafpggdaaGreat
open Go.RowKit
set_option linter.unusedVariables false
set_option linter.unusedSimpArgs false
theorem opL_len (o : Opr) (h : mayB o = true) (hn : o.name.size ≤ 100) (hd : o.data.length ≤ 3000) : (opL o).length ≤ 4000 := by
  have hf := may_fine h
  have h1 := hf.seen.2
  have h2 := numsL_len (cutL o.seen)
  have h3 : (strL o.name).length = o.name.size := by rw [strL_len]
  have a1 := numL_len o.kind.toNat
  have a2 := numL_len o.time.toNat
  have a3 := numL_len o.node.toNat
  have a4 := numL_len o.seq.toNat
  have a5 := numL_len o.ot.toNat
  have a6 := numL_len o.on.toNat
  have a7 := numL_len o.pt.toNat
  have a8 := numL_len o.pn.toNat
  have a9 := numL_len (strL o.name).length
  have b1 := numL_len o.data.length
  have b2 := numL_len (cutL o.seen).length
  unfold opL
  simp only [List.length_append]
  omega
theorem opsL_len : ∀ qs : List Opr, (∀ q ∈ qs, (opL q).length ≤ 4000) → (opsL qs).length ≤ 4010 * qs.length
  | [], _ => by simp [opsL]
  | q :: qs, h => by
    have h1 := opsL_len qs (fun z hz => h z (List.mem_cons_of_mem _ hz))
    have h2 := h q List.mem_cons_self
    have h3 := numL_len (opL q).length
    unfold opsL at *
    simp only [List.flatMap_cons, List.length_append, List.length_cons] at *
    omega
theorem cutF_name (f : Frm) : ∀ q ∈ (cutF f).ops, q.name.size < 4294967281 := by
  intro q hq
  obtain ⟨z, _, rfl⟩ := List.mem_map.1 hq
  have := cutO_name z
  omega
theorem cutF_byt (f : Frm) (hb : ∀ q ∈ f.ops, Byt q.data) : ∀ q ∈ (cutF f).ops, Byt q.data := by
  intro q hq
  obtain ⟨z, hz, rfl⟩ := List.mem_map.1 hq
  exact (hb z (List.mem_of_mem_take hz)).take 3000
theorem cutF_len (f : Frm) (h : fMayB (cutF f) = true) : (bodyL (cutF f)).length ≤ 1048576 := by
  obtain ⟨h1, h2, h3, h4⟩ := may_parts h
  have h8 := h2.2.2
  have h5 := opsL_len (cutF f).ops (fun q hq => by
    refine opL_len q (List.all_eq_true.1 h3 q hq) ?_ ?_
    · obtain ⟨z, _, rfl⟩ := List.mem_map.1 hq
      exact cutO_name z
    · obtain ⟨z, _, rfl⟩ := List.mem_map.1 hq
      show (z.data.take 3000).length ≤ 3000
      rw [List.length_take]; omega)
  have h6 : vecMayB (cutL (cutF f).vec) = true ∧ (cutL (cutF f).vec).length ≤ 64 := by unfold vokB at h4; rw [Bool.and_eq_true, decide_eq_true_eq] at h4; exact h4
  have a1 := numsL_len (headN (cutF f))
  have a2 : (headN (cutF f)).length = 5 := rfl
  have a3 := numL_len (cutL (cutF f).vec).length
  have a4 := numsL_len (cutL (cutF f).vec)
  have a5 := numL_len (cutF f).ops.length
  have a6 : (truthW (cutF f).last).length ≤ 1 := by unfold truthW; split <;> simp
  unfold bodyL preL
  simp only [List.length_append]
  omega
/-- The bytes that the law looks at. -/
def encL (f : Frm) : List Int := if fMayB f = true then frameL (bodyL f) else []
theorem encL_fine (f : Frm) (hb : ∀ q ∈ (cutF f).ops, Byt q.data) : Byt (encL (cutF f)) ∧ (encL (cutF f)).length ≤ 2000000 := by
  unfold encL
  split
  · next h =>
    have hB := bodyL_byt (cutF f) hb
    have hl := cutF_len f h
    exact ⟨frameL_byt hB, by rw [(unf_frame _ hB hl).2]; omega⟩
  · exact ⟨fun q hq => (by cases hq), by simp⟩
def f0 : Frm := ⟨1, 1, 2, 5, 0, false, [1], []⟩
theorem f0_may : fMayB f0 = true := by kernel_rfl
theorem f0_norm : normF f0 = f0 := by kernel_rfl
theorem f0_len9 : (bodyL f0).length = 9 := by kernel_rfl
theorem f0_len : (bodyL f0).length ≤ 1048576 := by rw [f0_len9]; omega
theorem f0_byt : Byt (bodyL f0) := bodyL_byt f0 (fun q hq => by cases hq)
def OTrue22 (w : World) (e : Ending) (w' : World) : Prop := e = .returned (.bool true) ∧ Below w.heap.size w w'
set_option maxHeartbeats 4000000 in
set_option maxRecDepth 100000 in
theorem frBegun (w : World) : Calls Tryz.prog 5 #[] w (OTrue22 w) := by
  have KE := Lib.hid (fun v w hv => framesEncode f0 v (.slice none 0 0) w hv ⟨none, 0, rfl, Nat.le_refl _, Nat.zero_le _, fun i q hq => by simp [f0] at hq⟩ (fun q hq => by cases hq) (fun q hq => by cases hq) (fun _ => f0_len))
  unfold FEncPost at KE
  rw [f0_may] at KE
  have hdf := decF_frame f0 f0_may f0_byt f0_len
  rw [f0_norm] at hdf
  have hlb := (unf_frame _ f0_byt f0_len).2
  have hlb2 : 1 ≤ (bodyL f0).length := by rw [f0_len9]; omega
  have hl3 := f0_len
  have FBY := frameL_byt f0_byt
  have KD := Lib.hid (fun x w' hx => framesDecode x (frameL (bodyL f0)) w' hx FBY)
  unfold FDecPost at KD
  rw [hdf] at KD
  have KM := Lib.hid (fun v w hv => framesMay f0 v (.slice none 0 0) w hv ⟨none, 0, rfl, Nat.le_refl _, Nat.zero_le _, fun i q hq => by simp [f0] at hq⟩ (fun q hq => by cases hq))
  rw [f0_may] at KM
  have KQ := Lib.hid (fun v v2 o2 w' hv hv2 ho2 => refFEq f0 f0 v (.slice none 0 0) v2 o2 w' hv ⟨none, 0, rfl, Nat.le_refl _, Nat.zero_le _, fun i q hq => by simp [f0] at hq⟩ hv2 ho2 (fun q hq => by cases hq) (fun q hq => by cases hq))
  rw [frEqB_refl] at KQ
  clear hdf FBY
  generalize frameL (bodyL f0) = L at *
  generalize bodyL f0 = bd at *
  simp only [f0, if_true] at KE KD KM KQ
  have hL : Hid ((8 : Int) < (L.length : Int)) := Lib.hid (by omega)
  clear hlb hlb2 hl3
  have A1 := (Below.refl w.heap.size w).alloc (Nat.le_refl _) (.cells #[.int .i64 1] 2)
  have A2 := Lib.hid (A1.alloc (by simp) (.cells #[.int .i64 1, .int .i64 1, .int .i64 2, .int .i64 5, .int .i64 0, .bool false, .slice (some ⟨w.heap.size, 0, none⟩) 1 1, .slice none 0 0] 26))
  have BF : Hid (Blk ((w.alloc (.cells #[.int .i64 1] 2)).alloc (.cells #[.int .i64 1, .int .i64 1, .int .i64 2, .int .i64 5, .int .i64 0, .bool false, .slice (some ⟨w.heap.size, 0, none⟩) 1 1, .slice none 0 0] 26)) (w.heap.size + 1) #[.int .i64 1, .int .i64 1, .int .i64 2, .int .i64 5, .int .i64 0, .bool false, .slice (some ⟨w.heap.size, 0, none⟩) 1 1, .slice none 0 0] 26) := Lib.hid (by have := Blk.new (w.alloc (.cells #[.int .i64 1] 2)) #[.int .i64 1, .int .i64 1, .int .i64 2, .int .i64 5, .int .i64 0, .bool false, .slice (some ⟨w.heap.size, 0, none⟩) 1 1, .slice none 0 0] 26; simpa using this)
  have HV : Hid (Rdv i64v ((w.alloc (.cells #[.int .i64 1] 2)).alloc (.cells #[.int .i64 1, .int .i64 1, .int .i64 2, .int .i64 5, .int .i64 0, .bool false, .slice (some ⟨w.heap.size, 0, none⟩) 1 1, .slice none 0 0] 26)) (.slice (some ⟨w.heap.size, 0, none⟩) 1 1) [1]) := Lib.hid ((Rdv.of_blk (enc := i64v) (xs := [1]) (Blk.new w #[.int .i64 1] 2) (by decide)).alloc _)
  clear A1
  go_enter Tryz.func5, Tryz.ntmps5
  go_wp2_with fail
  refine (KE.out _ _ HV.out).mono ?_
  rintro e w1 ⟨v1, rfl, ho1, hb1⟩
  obtain ⟨a1, c1, rfl, _, _, _⟩ := own_shape ho1
  have R1 := Lib.hid (Rdv.of_owns (enc := u8v) (xs := L) ho1)
  have BF1 := Lib.hid (blkBelow hb1 BF.out BF.out.lt)
  have HV1 := Lib.hid (HV.out.below hb1)
  have B1 := Lib.hid (A2.out.trans (hb1.mono A2.out.size))
  clear ho1 hb1 BF HV A2
  go_wp2_with fail
  refine (KD.out _ _ R1.out).mono ?_
  rintro e w2 ⟨v2, o2, rfl, hv2, ho2, hb2⟩
  obtain ⟨v2a, v2n, v2c, rfl⟩ := hv2.shape
  obtain ⟨o2a, o2c, rfl, _, _, _⟩ := id ho2
  have V2 := Lib.hid hv2
  have O2 := Lib.hid ho2
  have BF2 := Lib.hid (blkBelow hb2 BF1.out BF1.out.lt)
  have HV2 := Lib.hid (HV1.out.below hb2)
  have B2 := Lib.hid (B1.out.trans (hb2.mono B1.out.size))
  clear hv2 ho2 hb2 BF1 HV1 R1
  have hz2 : w.heap.size + 1 < w2.heap.size := BF2.out.lt
  have c_0 : w2.cell? ⟨w.heap.size + 1, 0, none⟩ = some (.int .i64 1) := BF2.out.cell (o := 0) rfl
  have c_1 : w2.cell? ⟨w.heap.size + 1, 1, none⟩ = some (.int .i64 1) := BF2.out.cell (o := 1) rfl
  have c_2 : w2.cell? ⟨w.heap.size + 1, 2, none⟩ = some (.int .i64 2) := BF2.out.cell (o := 2) rfl
  have c_3 : w2.cell? ⟨w.heap.size + 1, 3, none⟩ = some (.int .i64 5) := BF2.out.cell (o := 3) rfl
  have c_4 : w2.cell? ⟨w.heap.size + 1, 4, none⟩ = some (.int .i64 0) := BF2.out.cell (o := 4) rfl
  have c_5 : w2.cell? ⟨w.heap.size + 1, 5, none⟩ = some (.bool false) := BF2.out.cell (o := 5) rfl
  have c_6 : w2.cell? ⟨w.heap.size + 1, 6, none⟩ = some (.slice (some ⟨w.heap.size, 0, none⟩) 1 1) := BF2.out.cell (o := 6) rfl
  have c_7 : w2.cell? ⟨w.heap.size + 1, 7, none⟩ = some (.slice none 0 0) := BF2.out.cell (o := 7) rfl
  go_wp2_with fail
  have AL2 := Lib.hid ((Below.refl w2.heap.size w2).alloc (Nat.le_refl _) (.cells #[.int .i64 1, .int .i64 1, .int .i64 2, .int .i64 5, .int .i64 0, .bool false, .slice v2a v2n v2c, .slice o2a 0 o2c] 26))
  refine (KM.out _ _ (HV2.out.below AL2.out)).mono ?_
  rintro e w3 ⟨rfl, hb3⟩
  have G3 := Lib.hid (AL2.out.trans (hb3.mono AL2.out.size))
  have BX3 := Lib.hid (blkBelow hb3 (Blk.new w2 #[.int .i64 1, .int .i64 1, .int .i64 2, .int .i64 5, .int .i64 0, .bool false, .slice v2a v2n v2c, .slice o2a 0 o2c] 26) (Blk.new _ _ _).lt)
  have BF3 := Lib.hid (blkBelow G3.out BF2.out BF2.out.lt)
  have HV3 := Lib.hid (HV2.out.below G3.out)
  have V3 := Lib.hid (V2.out.below G3.out)
  have O3 := Lib.hid (O2.out.below G3.out)
  have B3 := Lib.hid (B2.out.trans (G3.out.mono B2.out.size))
  clear hb3 c_0 c_1 c_2 c_3 c_4 c_5 c_6 c_7 BF2 HV2 V2 O2 AL2
  have c_0 : w3.cell? ⟨w.heap.size + 1, 0, none⟩ = some (.int .i64 1) := BF3.out.cell (o := 0) rfl
  have c_1 : w3.cell? ⟨w.heap.size + 1, 1, none⟩ = some (.int .i64 1) := BF3.out.cell (o := 1) rfl
  have c_2 : w3.cell? ⟨w.heap.size + 1, 2, none⟩ = some (.int .i64 2) := BF3.out.cell (o := 2) rfl
  have c_3 : w3.cell? ⟨w.heap.size + 1, 3, none⟩ = some (.int .i64 5) := BF3.out.cell (o := 3) rfl
  have c_4 : w3.cell? ⟨w.heap.size + 1, 4, none⟩ = some (.int .i64 0) := BF3.out.cell (o := 4) rfl
  have c_5 : w3.cell? ⟨w.heap.size + 1, 5, none⟩ = some (.bool false) := BF3.out.cell (o := 5) rfl
  have c_6 : w3.cell? ⟨w.heap.size + 1, 6, none⟩ = some (.slice (some ⟨w.heap.size, 0, none⟩) 1 1) := BF3.out.cell (o := 6) rfl
  have c_7 : w3.cell? ⟨w.heap.size + 1, 7, none⟩ = some (.slice none 0 0) := BF3.out.cell (o := 7) rfl
  have x_0 : w3.cell? ⟨w2.heap.size, 0, none⟩ = some (.int .i64 1) := BX3.out.cell (o := 0) rfl
  have x_1 : w3.cell? ⟨w2.heap.size, 1, none⟩ = some (.int .i64 1) := BX3.out.cell (o := 1) rfl
  have x_2 : w3.cell? ⟨w2.heap.size, 2, none⟩ = some (.int .i64 2) := BX3.out.cell (o := 2) rfl
  have x_3 : w3.cell? ⟨w2.heap.size, 3, none⟩ = some (.int .i64 5) := BX3.out.cell (o := 3) rfl
  have x_4 : w3.cell? ⟨w2.heap.size, 4, none⟩ = some (.int .i64 0) := BX3.out.cell (o := 4) rfl
  have x_5 : w3.cell? ⟨w2.heap.size, 5, none⟩ = some (.bool false) := BX3.out.cell (o := 5) rfl
  have x_6 : w3.cell? ⟨w2.heap.size, 6, none⟩ = some (.slice v2a v2n v2c) := BX3.out.cell (o := 6) rfl
  have x_7 : w3.cell? ⟨w2.heap.size, 7, none⟩ = some (.slice o2a 0 o2c) := BX3.out.cell (o := 7) rfl
  go_wp2_with fail
  refine (KQ.out _ _ _ _ HV3.out V3.out O3.out).mono ?_
  rintro e w4 ⟨rfl, hb4⟩
  have B4 := Lib.hid (B3.out.trans (hb4.mono B3.out.size))
  have hL8 := hL.out
  clear hb4 c_0 c_1 c_2 c_3 c_4 c_5 c_6 c_7 x_0 x_1 x_2 x_3 x_4 x_5 x_6 x_7
  go_wp2
  go_ret
  exact ⟨rfl, B4.out⟩
end Go.Proofs.YthbalmoafpggdaaGreat
