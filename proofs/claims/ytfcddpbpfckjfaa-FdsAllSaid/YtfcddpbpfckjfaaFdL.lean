/- FdsAll: the walk. -/
import Derived.Test.YtfcddpbpfckjfaaChecked
import Derived.WalkKit
import Derived.Outline
import Derived.WalkSpells
import Derived.WalkLawsBesides
import Derived.Deep.QuietTactic
import Derived.Deep.RegionWith
import Derived.Deep.DeepMust
import Derived.BigQuiet
import Derived.Test.YtfcddpbpfckjfaaMem
import Derived.RegionTactic
import Derived.ChangeAlike
import Derived.StillTailTactics
import Derived.BigRegion
import Derived.BigGuardPart
import Derived.Deep.RegionHeld3
import Derived.Deep.RegionLaw
import Derived.Deep.DeepCutAuto
import Derived.Deep.CutBlock
import Derived.Test.YtfcddpbpfckjfaaFdM
namespace Go.Proofs.Ytfcddpbpfckjfaa
open Go.RowKit
set_option linter.unusedVariables false
set_option linter.unusedSimpArgs false
def CutR (w : World) (p g : Nat) (cs : Array Value) (s5 : Value) (wx : World) : Prop := ∃ q fs xs rs, s5 = .pointer (some ⟨q, 0, none⟩) ∧ CSt w p q g cs fs xs rs wx
set_option maxHeartbeats 4000000 in
set_option maxRecDepth 100000 in
theorem fdsAll_walk (a : Option Addr) (cap : Nat) (w : World) (os : List DOp) (g0 : os.length ≤ cap) (g1 : cap ≤ maxLen) (hx : DopsRd w a os) : Calls Try.prog 4 #[.slice a os.length cap] w (FTrue w) := by
  have HX := Lib.hid hx
  unfold maxLen at g1
  clear hx
  go_enter Try.func4, Try.ntmps4
  go_wp2_with fail
  refine (fdBegun _).mono ?_
  rintro e w1 ⟨rfl, b1⟩
  have B1 := Lib.hid b1
  clear b1
  go_wp2_with fail
  refine (fdNew _).mono ?_
  rintro e w2 ⟨p, rfl, hp, h2, b2⟩
  have G2 : FdG w2 p (.slice none 0 0) (.slice none 0 0) [] #[] := ⟨h2.blk, World.ownsRow_nil _ _ _ _, World.ownsRow_nil _ _ _ _⟩
  have B2 := Lib.hid (fd_under B1.out B1.out.size b2)
  have hp1 : w.heap.size ≤ p := by have := B1.out.size; omega
  have hR : ∀ k : Nat, RTab (w2.alloc (.cells (rrow (List.replicate 32 zFil)).toArray 41)) w2.heap.size (List.replicate 32 zFil) := fun _ => ⟨Blk.new _ _ _, by simp⟩
  have hL : LRel w p (.pointer (some ⟨w2.heap.size, 0, none⟩)) (w2.alloc (.cells (rrow (List.replicate 32 zFil)).toArray 41)) :=
    ⟨_, [], #[], _, rfl, ⟨⟨_, _, G2.below ((Below.refl _ _).alloc (Nat.le_refl _) _)⟩, hR 0, FRL.zero, by have := B2.out.size; omega, Below.alloc B2.out (by have := B2.out.size; omega) _⟩⟩
  have HL := Lib.hid hL
  clear h2 G2 b2 hp hR hL
  go_wp2_with fail
  go_loopw [5, 6] (fun r i wr => ∃ k : Nat, k ≤ os.length ∧ k ≤ 120 ∧ i = .int .i64 k ∧ LRel w p r wr) (fun _ i _ => os.length - (intOf i).toNat)
  case atStart => exact ⟨0, by omega, by omega, rfl, HL.out⟩
  case round =>
    clear HL B2 B1
    obtain ⟨k, hk, hk120, rfl, q, fs, xs, rs, rfl, hL⟩ := hrel
    have HL := Lib.hid hL
    clear hL
    by_cases hlt : k < os.length
    · by_cases h120 : k < 120
      · obtain ⟨o, ho⟩ : ∃ o, os[k]? = some o := ⟨os[k], List.getElem?_eq_getElem hlt⟩
        obtain ⟨i1, i2, i3, b, off, rfl, hbw, hcell⟩ := HX.out k o ho
        have rd := fun j u (hu : (dopC o)[j]? = some u) => (HL.out.bel.cell (p := ⟨b, off + k * 5 + j, none⟩) hbw).trans (hcell j u hu)
        obtain ⟨kd, fd, n, t, nd⟩ := o
        have d0 : wr.cell? ⟨b, off + k * 5, none⟩ = some (.int .i64 kd) := rd 0 _ rfl
        have d1 : wr.cell? ⟨b, off + k * 5 + 1, none⟩ = some (.int .i64 fd) := rd 1 _ rfl
        have d2 : wr.cell? ⟨b, off + k * 5 + 2, none⟩ = some (.int .i64 n) := rd 2 _ rfl
        have d3 : wr.cell? ⟨b, off + k * 5 + 3, none⟩ = some (.int .i64 t) := rd 3 _ rfl
        have d4 : wr.cell? ⟨b, off + k * 5 + 4, none⟩ = some (.int .i64 nd) := rd 4 _ rfl
        simp only at i1 i2 i3
        clear rd hcell ho
        obtain ⟨j1, j2⟩ := i1
        obtain ⟨j3, j4⟩ := i2
        obtain ⟨j5, j6⟩ := i3
        go_wp2_with fail
        refine (rIs q rs fd _ (HL.out.ref.below ((Below.refl _ _).alloc (Nat.le_refl _) _)) ⟨j3, j4⟩).mono ?_
        rintro e w3 ⟨rfl, hD⟩
        have c3 : CSt w p q wr.heap.size #[.int .i64 kd, .int .i64 fd, .int .i64 n, .int .i64 t, .int .i64 nd] fs xs rs w3 :=
          ⟨(HL.out.below ((Below.refl _ _).alloc (Nat.le_refl _) _)).below hD.below, blkBelow hD.below (Blk.new _ _ _) (Blk.new _ _ _).lt, HL.out.bel.size⟩
        obtain ⟨g, hg⟩ : ∃ g, g = wr.heap.size := ⟨_, rfl⟩
        rw [← hg] at c3 ⊢
        clear hg hD d0 d1 d2 d3 d4 HL
        obtain ⟨cs, hcs⟩ : ∃ cs, cs = #[Value.int .i64 kd, .int .i64 fd, .int .i64 n, .int .i64 t, .int .i64 nd] := ⟨_, rfl⟩
        have C3 : Hid (CSt w p q g cs fs xs rs w3) := Lib.hid (by rw [hcs]; exact c3)
        have e0 : w3.cell? ⟨g, 0, none⟩ = some (.int .i64 kd) := c3.op.cell (o := 0) rfl
        have e1 : w3.cell? ⟨g, 1, none⟩ = some (.int .i64 fd) := c3.op.cell (o := 1) rfl
        have e2 : w3.cell? ⟨g, 2, none⟩ = some (.int .i64 n) := c3.op.cell (o := 2) rfl
        have e3 : w3.cell? ⟨g, 3, none⟩ = some (.int .i64 t) := c3.op.cell (o := 3) rfl
        have e4 : w3.cell? ⟨g, 4, none⟩ = some (.int .i64 nd) := c3.op.cell (o := 4) rfl
        have gz := c3.op.lt
        have HCS := Lib.hid hcs
        clear c3 hcs
        go_upto_block 2 with fail
        go_cut [5, 8, 9, 10, 11, 12, 13, 14, 15] (fun s5 _ _ _ _ _ _ _ _ wx => CutR w p g cs s5 wx)
        case first =>
          by_cases k0 : kd = 0
          · subst k0
            obtain ⟨k1, r1, fs', rs', KO, KR⟩ := openBoth C3.out hp1 t nd n
            have KO := Lib.hid KO
            have KR := Lib.hid KR
            go_wp2_with fail
            refine KO.out.mono ?_
            rintro e w4 ⟨rfl, xs', h4, hf4⟩
            have f2 : w4.cell? ⟨g, 2, none⟩ = some (.int .i64 n) := h4.op.cell (o := 2) (by rw [HCS.out]; rfl)
            have f3 : w4.cell? ⟨g, 3, none⟩ = some (.int .i64 t) := h4.op.cell (o := 3) (by rw [HCS.out]; rfl)
            have f4 : w4.cell? ⟨g, 4, none⟩ = some (.int .i64 nd) := h4.op.cell (o := 4) (by rw [HCS.out]; rfl)
            have gz4 := h4.op.lt
            have KR2 := Lib.hid (KR.out w4 xs' h4 hf4)
            clear h4 hf4 KR KO
            go_wp2_with fail
            refine KR2.out.mono ?_
            rintro e w5 ⟨rfl, fs5, xs5, rs5, h5⟩
            have H5 := Lib.hid h5
            clear h5 KR2
            go_wp2
            go_meet
            exact ⟨q, fs5, xs5, rs5, rfl, H5.out⟩
          · by_cases k1 : kd = 1
            · subst k1
              cases ho : rOpB rs fd
              · have KO := Lib.hid (closeNo C3.out fd ⟨j3, j4⟩ ho)
                clear ho
                go_wp2_with fail
                refine KO.out.mono ?_
                rintro e w4 ⟨rfl, h4⟩
                have H4 := Lib.hid h4
                clear h4 KO
                go_wp2
                go_meet
                exact ⟨q, fs, xs, rs, rfl, H4.out⟩
              · obtain ⟨k2, hk2, rfl, h32, ho2, _⟩ := C3.out.st.rel.is ho
                have KO := Lib.hid (closeYes C3.out hp1 k2 hk2 ho2)
                clear ho ho2
                go_wp2_with fail
                refine KO.out.mono ?_
                rintro e w4 ⟨rfl, xs', h4, hf4⟩
                have f1 : w4.cell? ⟨g, 1, none⟩ = some (.int .i64 k2) := h4.op.cell (o := 1) (by rw [HCS.out]; rfl)
                have gz4 := h4.op.lt
                have qz4 := h4.ref.blk.lt
                obtain ⟨q0, _⟩ := h4.ref.cells k2 h32
                have qf := h4.ref.blk.free (k2 * 5)
                have n0 : (0 : Int) ≤ k2 := by omega
                have n1 : (k2 : Int) < 32 := by omega
                have H4 := Lib.hid (h4.opOff h32 hf4)
                clear h4 hf4 KO
                go_wp2_with fail
                go_region
                all_goals go_wp2
                all_goals go_meet
                all_goals exact ⟨q, _, xs', _, rfl, H4.out⟩
            · by_cases k2 : kd = 2
              · subst k2
                cases ho : rOpB rs fd
                · have KO := Lib.hid (seekNo C3.out fd n ⟨j3, j4⟩ ho)
                  clear ho
                  go_wp2_with fail
                  refine KO.out.mono ?_
                  rintro e w4 ⟨rfl, h4⟩
                  have H4 := Lib.hid h4
                  clear h4 KO
                  go_wp2
                  go_meet
                  exact ⟨q, fs, xs, rs, rfl, H4.out⟩
                · obtain ⟨k3, hk3, rfl, h32, ho2, _⟩ := C3.out.st.rel.is ho
                  clear ho
                  by_cases n0 : n < 0
                  · have KO := Lib.hid (seekBad C3.out k3 hk3 ho2 n 22 (.inl ⟨n0, rfl⟩))
                    clear ho2
                    go_wp2_with fail
                    refine KO.out.mono ?_
                    rintro e w4 ⟨rfl, h4⟩
                    have f2 : w4.cell? ⟨g, 2, none⟩ = some (.int .i64 n) := h4.op.cell (o := 2) (by rw [HCS.out]; rfl)
                    have gz4 := h4.op.lt
                    have H4 := Lib.hid h4
                    clear h4 KO
                    go_wp2
                    go_meet
                    exact ⟨q, fs, xs, rs, rfl, H4.out⟩
                  · by_cases n1 : 1073741824 < n
                    · have KO := Lib.hid (seekBad C3.out k3 hk3 ho2 n 75 (.inr ⟨n1, rfl⟩))
                      clear ho2
                      go_wp2_with fail
                      refine KO.out.mono ?_
                      rintro e w4 ⟨rfl, h4⟩
                      have f2 : w4.cell? ⟨g, 2, none⟩ = some (.int .i64 n) := h4.op.cell (o := 2) (by rw [HCS.out]; rfl)
                      have gz4 := h4.op.lt
                      have H4 := Lib.hid h4
                      clear h4 KO
                      go_wp2
                      go_meet
                      exact ⟨q, fs, xs, rs, rfl, H4.out⟩
                    · have KO := Lib.hid (seekYes C3.out hp1 k3 hk3 ho2 n (by omega) (by omega))
                      clear ho2
                      go_wp2_with fail
                      refine KO.out.mono ?_
                      rintro e w4 ⟨rfl, xs', h4, hf4⟩
                      have f1 : w4.cell? ⟨g, 1, none⟩ = some (.int .i64 k3) := h4.op.cell (o := 1) (by rw [HCS.out]; rfl)
                      have f2 : w4.cell? ⟨g, 2, none⟩ = some (.int .i64 n) := h4.op.cell (o := 2) (by rw [HCS.out]; rfl)
                      have gz4 := h4.op.lt
                      have qz4 := h4.ref.blk.lt
                      obtain ⟨_, _, _, _, q4⟩ := h4.ref.cells k3 h32
                      have qf := h4.ref.blk.free (k3 * 5 + 4)
                      have m0 : (0 : Int) ≤ k3 := by omega
                      have m1 : (k3 : Int) < 32 := by omega
                      have H4 := Lib.hid (h4.seekTo h32 hf4)
                      clear h4 hf4 KO
                      go_wp2_with fail
                      go_region
                      all_goals go_wp2
                      all_goals go_meet
                      all_goals exact ⟨q, _, xs', _, rfl, H4.out⟩
              · have b0 : (kd == 0) = false := by simp [k0]
                have b1 : (kd == 1) = false := by simp [k1]
                have b2 : (kd == 2) = false := by simp [k2]
                have KO := Lib.hid (clearC C3.out hp1)
                clear k0 k1 k2
                go_wp2_with fail
                refine KO.out.mono ?_
                rintro e w4 ⟨rfl, h4⟩
                have H4 := Lib.hid h4.fresh
                clear h4 KO
                go_wp2
                go_meet
                exact ⟨_, [], #[], _, rfl, H4.out⟩
        case rest =>
          obtain ⟨q', fs', xs', rs', rfl, h4⟩ := hcut
          obtain ⟨w4, rfl⟩ : ∃ w4, w4 = wc := ⟨_, rfl⟩
          have C4 := Lib.hid h4
          have f1 : w4.cell? ⟨g, 1, none⟩ = some (.int .i64 fd) := h4.op.cell (o := 1) (by rw [HCS.out]; rfl)
          have gz4 := h4.op.lt
          clear h4 C3 e0 e1 e2 e3 e4 gz
          cases ho : rOpB rs' fd
          · have KG := Lib.hid (getNo C4.out fd ⟨j3, j4⟩ ho)
            have HO := Lib.hid ho
            clear ho
            go_wp2_with fail
            refine KG.out.mono ?_
            rintro e w5 ⟨rfl, h5⟩
            have h6 := h5.below ((Below.refl _ _).alloc (Nat.le_refl _) (.cells #[.int .i64 0, .int .i64 0] 27))
            have f1 : (w5.alloc (.cells #[.int .i64 0, .int .i64 0] 27)).cell? ⟨g, 1, none⟩ = some (.int .i64 fd) := h6.op.cell (o := 1) (by rw [HCS.out]; rfl)
            have gz5 := h5.op.lt
            have KI := Lib.hid (rIs q' rs' fd _ h6.st.ref ⟨j3, j4⟩)
            have H6 := Lib.hid h6
            have f1' : w5.cell? ⟨g, 1, none⟩ = some (.int .i64 fd) := h5.op.cell (o := 1) (by rw [HCS.out]; rfl)
            clear h5 h6 KG C4 f1
            go_wp2_with fail
            refine KI.out.mono ?_
            rintro e w6 ⟨rfl, hD⟩
            rw [HO.out]
            have h7 := H6.out.below hD.below
            have B7 : Blk w6 w5.heap.size #[.int .i64 0, .int .i64 0] 27 := blkBelow hD.below (Blk.new _ _ _) (Blk.new _ _ _).lt
            have i0 := B7.cell (o := 0) rfl
            have iz := B7.lt
            have KL := Lib.hid (tLen h7)
            have KRL := Lib.hid (fun w' (hw : Below w6.heap.size w6 w') => rLen q' rs' w' (h7.st.ref.below hw))
            have KRoom := Lib.hid (fun w' (hw : Below w6.heap.size w6 w') => tRoom (h7.below hw))
            have H7 := Lib.hid h7
            have HCN := Lib.hid h7.st.rel.count
            clear h7 B7 hD KI H6
            have hm32 : fs'.countP (·.op) ≤ 32 := by have h1 := H7.out.st.rel.size; have h2 := H7.out.st.rel.le; omega
            generalize fs'.countP (·.op) = m at KL KRoom HCN hm32
            go_wp2_with fail
            refine KL.out.mono ?_
            rintro e w7 ⟨rfl, n7, rfl⟩
            go_wp2_with fail
            refine (KRL.out _ ((Below.refl _ _).trans (Drw.below ⟨_, rfl⟩))).mono ?_
            rintro e w8 ⟨rfl, n8, rfl⟩
            rw [HCN.out]
            go_wp2_with fail
            refine (KRoom.out _ (Drw.below ⟨n7 + n8, by simp⟩)).mono ?_
            rintro e w9 ⟨rfl, n9, rfl⟩
            go_wp2_with fail
            refine (KRL.out _ (Drw.below ⟨n7 + n8 + n9, by simp⟩)).mono ?_
            rintro e w10 ⟨rfl, n10, rfl⟩
            rw [HCN.out]
            have he : decide (m < 32) = decide ((m : Int) < 32) := decide_eq_decide.2 (by omega)
            have hd : (decide (m < 32) == decide ((m : Int) < 32)) = true := by rw [he]; simp
            have hd2 : (decide (m < 32) != decide ((m : Int) < 32)) = false := by rw [he]; simp
            clear he
            have H8 := Lib.hid (H7.out.below (Drw.below ⟨n7 + n8 + n9 + n10, rfl⟩))
            clear H7 KL KRL KRoom HCN
            go_wp2
            go_roundw
            case rel => exact ⟨k + 1, by omega, by omega, by go_num, _, _, _, _, rfl, H8.out.st⟩
            case measure => simp [intOf]; omega
          · obtain ⟨k3, hk3, rfl, h32, ho2, hs2⟩ := C4.out.st.rel.is ho
            have KG := Lib.hid (getYes C4.out k3 hk3 ho2)
            have HO := Lib.hid ho
            have HS2 := Lib.hid hs2
            clear ho ho2 hs2
            generalize fs'[k3] = f at KG HS2
            go_wp2_with fail
            refine KG.out.mono ?_
            rintro e w5 ⟨rfl, h5⟩
            have h6 := h5.below ((Below.refl _ _).alloc (Nat.le_refl _) (.cells #[.int .i64 f.time, .int .i64 f.node] 27))
            have gz5 := h5.op.lt
            have KI := Lib.hid (rIs q' rs' k3 _ h6.st.ref ⟨j3, j4⟩)
            have H6 := Lib.hid h6
            have f1' : w5.cell? ⟨g, 1, none⟩ = some (.int .i64 k3) := h5.op.cell (o := 1) (by rw [HCS.out]; rfl)
            clear h5 h6 KG C4 f1
            go_wp2_with fail
            refine KI.out.mono ?_
            rintro e w6 ⟨rfl, hD⟩
            rw [HO.out]
            have h7 := H6.out.below hD.below
            have B7 : Blk w6 w5.heap.size #[.int .i64 f.time, .int .i64 f.node] 27 := blkBelow hD.below (Blk.new _ _ _) (Blk.new _ _ _).lt
            have i0 : w6.cell? ⟨w5.heap.size, 0, none⟩ = some (.int .i64 f.time) := B7.cell (o := 0) rfl
            have i1 : w6.cell? ⟨w5.heap.size, 1, none⟩ = some (.int .i64 f.node) := B7.cell (o := 1) rfl
            have iz := B7.lt
            have f1 : w6.cell? ⟨g, 1, none⟩ = some (.int .i64 k3) := h7.op.cell (o := 1) (by rw [HCS.out]; rfl)
            have gz6 := h7.op.lt
            obtain ⟨q0, q1, q2, q3, q4⟩ := h7.st.ref.cells k3 h32
            rw [HS2.out] at q0 q1 q2 q3 q4
            have qz := h7.st.ref.blk.lt
            have m0 : (0 : Int) ≤ k3 := by omega
            have m1 : (k3 : Int) < 32 := by omega
            have H7 := Lib.hid h7
            clear h7 B7 hD KI H6 f1'
            obtain ⟨gi, hgi⟩ : ∃ gi, gi = w5.heap.size := ⟨_, rfl⟩
            rw [← hgi] at i0 i1 iz ⊢
            clear hgi
            go_wp2_with fail
            go_region
            all_goals go_wp2_with fail
            all_goals refine (fSame f.time f.node _).mono ?_
            all_goals rintro e w7 ⟨rfl, hb7⟩
            have b67 : Below w6.heap.size w6 w7 := ((Below.refl _ _).alloc (Nat.le_refl _) (.cells #[.bool f.op, .int .i64 f.time, .int .i64 f.node, .int .i64 f.flags, .int .i64 f.at_] 38)).drew.trans (hb7.mono (by simp))
            have B20 : Blk w7 w6.heap.size #[.bool f.op, .int .i64 f.time, .int .i64 f.node, .int .i64 f.flags, .int .i64 f.at_] 38 := blkBelow hb7 (Blk.new _ _ _).drew (Blk.new _ _ _).drew.lt
            have x2 : w7.cell? ⟨w6.heap.size, 3, none⟩ = some (.int .i64 f.flags) := B20.cell (o := 3) rfl
            have x3 : w7.cell? ⟨w6.heap.size, 4, none⟩ = some (.int .i64 f.at_) := B20.cell (o := 4) rfl
            have xz := B20.lt
            have h7 := H7.out.below b67
            clear B20 b67 hb7 q0 q1 q2 q3 q4 i0 i1 f1 H7
            obtain ⟨w60, hw60⟩ : ∃ w60 : Nat, w60 = w6.heap.size := ⟨_, rfl⟩
            rw [← hw60] at x2 x3 xz ⊢
            clear hw60
            clear iz gz6 qz
            obtain ⟨w6, rfl⟩ : ∃ w6, w6 = w7 := ⟨_, rfl⟩
            have KL := Lib.hid (tLen h7)
            have KRL := Lib.hid (fun w' (hw : Below w6.heap.size w6 w') => rLen q' rs' w' (h7.st.ref.below hw))
            have KRoom := Lib.hid (fun w' (hw : Below w6.heap.size w6 w') => tRoom (h7.below hw))
            have H7 := Lib.hid h7
            have HCN := Lib.hid h7.st.rel.count
            clear h7
            have hm32 : fs'.countP (·.op) ≤ 32 := by have h1 := H7.out.st.rel.size; have h2 := H7.out.st.rel.le; omega
            generalize fs'.countP (·.op) = m at KL KRoom HCN hm32
            go_wp2_with fail
            refine KL.out.mono ?_
            rintro e w7 ⟨rfl, n7, rfl⟩
            go_wp2_with fail
            refine (KRL.out _ ((Below.refl _ _).trans (Drw.below ⟨_, rfl⟩))).mono ?_
            rintro e w8 ⟨rfl, n8, rfl⟩
            rw [HCN.out]
            go_wp2_with fail
            refine (KRoom.out _ (Drw.below ⟨n7 + n8, by simp⟩)).mono ?_
            rintro e w9 ⟨rfl, n9, rfl⟩
            go_wp2_with fail
            refine (KRL.out _ (Drw.below ⟨n7 + n8 + n9, by simp⟩)).mono ?_
            rintro e w10 ⟨rfl, n10, rfl⟩
            rw [HCN.out]
            have he : decide (m < 32) = decide ((m : Int) < 32) := decide_eq_decide.2 (by omega)
            have hd : (decide (m < 32) == decide ((m : Int) < 32)) = true := by rw [he]; simp
            have hd2 : (decide (m < 32) != decide ((m : Int) < 32)) = false := by rw [he]; simp
            clear he
            have H8 := Lib.hid (H7.out.below (Drw.below ⟨n7 + n8 + n9 + n10, rfl⟩))
            clear H7 KL KRL KRoom HCN
            go_wp2
            go_roundw
            case rel => exact ⟨k + 1, by omega, by omega, by go_num, _, _, _, _, rfl, H8.out.st⟩
            case measure => simp [intOf]; omega
      · obtain rfl : k = 120 := by omega
        have h120' : (120 : Int) < os.length := by omega
        have h121 : ¬ ((os.length : Int) ≤ 120) := by omega
        have HB := Lib.hid HL.out.bel
        clear HL
        go_wp2
        go_ret
        exact ⟨rfl, HB.out⟩
    · obtain rfl : k = os.length := by omega
      have HB := Lib.hid HL.out.bel
      clear HL
      go_wp2
      go_ret
      exact ⟨rfl, HB.out⟩
end Go.Proofs.Ytfcddpbpfckjfaa
