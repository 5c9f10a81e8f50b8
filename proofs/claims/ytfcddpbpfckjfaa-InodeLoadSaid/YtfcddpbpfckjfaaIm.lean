/- An inode is written. -/
import Derived.Test.YtfcddpbpfckjfaaChecked
import Derived.WalkKit
import Derived.Outline
import Derived.WalkSpells
import Derived.WalkLawsBesides
import Derived.Deep.QuietTactic
import Derived.Deep.RegionWith
import Derived.Deep.DeepMust
import Derived.BigQuiet
import Derived.Test.YtfcddpbpfckjfaaMem
import Derived.RegionTactic
import Derived.ChangeAlike
import Derived.StillTailTactics
import Derived.BigRegion
import Derived.Deep.LoopGhost
import Derived.Deep.RegionHeld3
import Derived.Deep.OwnRows
import Derived.Test.YtfcddpbpfckjfaaIl
namespace Go.Proofs.Ytfcddpbpfckjfaa
open Go.RowKit
set_option linter.unusedVariables false
set_option linter.unusedSimpArgs false
theorem us_free : ∀ n, freeTo (us1 n) (us1 n).length = n := by
  intro n
  have h : ∀ k, k ≤ n → freeTo (us1 n) (k + 1) = k := by
    intro k
    induction k with
    | zero => intro _; rfl
    | succ k ih =>
      intro hk
      rw [freeTo, ih (by omega)]
      have e : (us1 n).getD (k + 1) false = false := by
        unfold us1
        rw [List.getD_cons_succ, List.getD_eq_getElem?_getD, List.getElem?_replicate, if_pos (by omega)]
        rfl
      rw [e]
      rfl
  have e : (us1 n).length = n + 1 := by unfold us1; simp
  rw [e]
  exact h n (Nat.le_refl _)
theorem putCall (args : Array Value) (w : World) : (callFunc 71 args).run Try.prog w = .ok (.enter 71 args) w := by kernel_rfl
theorem DiskA.stay {S : Nat → Prop} {w w' : World} {vb b g cb mb hb : Nat} {ls : List (List Int)} {l : List Int} {t hits used : Int} {d : Bool} (h : DiskA w vb b g cb mb hb ls l t hits used d) (hc : Chg S w w') (hs : ∀ k, S k → Plain w k ∧ k ≠ cb ∧ k ≠ mb ∧ k ≠ hb ∧ k ≠ vb ∧ k ≠ g) : DiskA w' vb b g cb mb hb ls l t hits used d :=
  ⟨h.cch.stay hc (fun e => (hs _ e).2.1 rfl) (fun e => (hs _ e).2.2.1 rfl), h.held.stay hc (fun k hk => ⟨(hs k hk).1, (hs k hk).2.2.2.1⟩), h.vol.stay hc (fun k hk => ⟨(hs k hk).1, (hs k hk).2.2.2.2⟩), h.len, h.blk⟩
theorem WorkAt.ne {w : World} {wb s x0 x1 x2 x3 x4 x5 x6 x7 t1 z1 t2 z2 t3 z3 rb rc : Nat} {cv mv taken back : Value} (h : WorkAt w wb s x0 x1 x2 x3 x4 x5 x6 x7 cv mv t1 z1 t2 z2 t3 z3 rb rc taken back) : wb ≠ t1 ∧ wb ≠ t2 ∧ wb ≠ t3 ∧ wb ≠ rb := by
  obtain ⟨cs, hr⟩ := h.row.2.1
  exact ⟨fun e => blk_ne h.blk (by decide) (e ▸ h.one.1), fun e => blk_ne h.blk (by decide) (e ▸ h.two.1), fun e => blk_ne h.blk (by decide) (e ▸ h.tre.1), fun e => blk_ne h.blk (by decide) (e ▸ hr)⟩
theorem inoC_plain {w : World} {nb y0 y1 y2 y3 y4 y5 y6 y7 y8 y9 y10 : Nat} (h : Blk w nb (inoC y0 y1 y2 y3 y4 y5 y6 y7 y8 y9 y10) 110) : Plain w nb := ⟨_, _, h, fun i n e => by
  rcases i with _ | _ | _ | _ | _ | _ | _ | _ | _ | _ | _ | i <;> simp [inoC] at e⟩
def IWritePost (nb mu mp n vb b g cb mb : Nat) (ls : List (List Int)) (w : World) (e : Ending) (w' : World) : Prop :=
  e = .returned (.int .i64 0) ∧ ∃ hb : Nat, w.heap.size ≤ hb ∧ Blk w' nb (inoC 703 0 1 0 0 0 0 0 0 0 0) 110 ∧ MapAt w' mp mu (us2 n) ∧ DiskA w' vb b g cb mb hb ls abcB 3 1 3 true ∧ Chg (fun k => k = nb ∨ k = mu ∨ k = cb ∨ k = mb) w w'
set_option maxHeartbeats 2000000 in
set_option maxRecDepth 100000 in
theorem inoWrite {w : World} {nb mu mp n vb b g cb mb : Nat} {ls : List (List Int)} {dv : Value} (h : Blk w nb (inoC 0 0 0 0 0 0 0 0 0 0 0) 110) (hM : MapAt w mp mu (us1 n)) (hn : 1 ≤ n ∧ n ≤ 1000) (hne : mu ≠ mp) (hD : DiskE w vb b g cb mb ls) (hd : Rdv u8v w dv abcL)
    (hcg : cb ≠ vb ∧ cb ≠ g ∧ mb ≠ vb ∧ mb ≠ g) (hmu : mu ≠ cb ∧ mu ≠ mb ∧ mu ≠ vb ∧ mu ≠ g ∧ mp ≠ cb ∧ mp ≠ mb) (hnn : nb ≠ cb ∧ nb ≠ mb ∧ nb ≠ vb ∧ nb ≠ g ∧ nb ≠ mu ∧ nb ≠ mp) :
    Calls Try.prog 47 #[.pointer (some ⟨nb, 0, none⟩), .pointer (some ⟨cb, 0, none⟩), .pointer (some ⟨mp, 0, none⟩), .int .i64 700, dv] w (IWritePost nb mu mp n vb b g cb mb ls w) := by
  have KB := Lib.hid (inoBegin h (.pointer (some ⟨cb, 0, none⟩)) (.pointer (some ⟨mp, 0, none⟩)) _ _ rfl rfl)
  have KN : Hid (∀ w, Calls Try.prog 59 #[.int .i64 703] w fun e w' => e = .returned (.int .i64 2) ∧ w = w') := Lib.hid (fun w => inoBlocks 703 w (by omega) (by omega))
  obtain ⟨da, dn, dc, rfl⟩ := hd.shape
  obtain ⟨hdn, _, _, hda⟩ := hd.cap
  obtain rfl : dn = 3 := hdn
  have H := Lib.hid h
  have HM := Lib.hid hM
  have HD := Lib.hid hD
  have HR := Lib.hid hd
  have hmf : ∀ (fn : Fn) (first cap : Array Value) (w : World), (Instr.makeFunc fn first cap).run Try.prog w = .ok (.func fn first cap) w := fun _ _ _ _ => rfl
  have lc := Blk.lt hD.cch.1
  have lv := Blk.lt hD.vol.1
  have lg : g < w.heap.size := by obtain ⟨vs, h1, _⟩ := hD.vol.2; exact h1.lt
  have lmb : mb < w.heap.size := World.ownsMap.lt (show MapC w mb none from hD.cch.2)
  have lm := Blk.lt hM.1
  have lmu := Blk.lt hM.2.1
  have ln := h.lt
  clear h hM hD hd hda
  go_enter Try.func47, Try.ntmps47
  go_wp2_with fail
  refine KB.out.mono ?_
  rintro e w1 ⟨wb, t1, z1, t2, z2, t3, z3, rb, rc, rfl, hs, hW, hb1⟩
  have hz1 := hb1.size
  have W1 := Lib.hid hW
  have B1 := Lib.hid hb1
  have M1 := Lib.hid (HM.out.of_below hb1)
  have KL := Lib.hid (inoLacks hW.blk)
  clear hW hb1 KB
  go_wp2_with fail
  refine (KN.out _).mono ?_
  rintro e w2 ⟨rfl, rfl⟩
  go_wp2_with fail
  refine KL.out.mono ?_
  rintro e w2 ⟨rfl, hb2⟩
  have hz2 := hb2.size
  have M2 := Lib.hid (M1.out.of_below hb2)
  have KF := bmFree mp mu (us1 n) w2 M2.out
  rw [us_free] at KF
  have KF2 := Lib.hid KF
  have W2 := Lib.hid (W1.out.mk2 (blkBelow hb2 W1.out.blk W1.out.blk.lt) (S := fun _ => False) (Chg.of_below hb2 (fun i h1 h2 => absurd h1 (Nat.not_lt.2 h2))) (fun k hk => hk.elim))
  have B2 := Lib.hid (B1.out.trans (hb2.mono hz1))
  clear hb2 KF KL W1 M1 B1 KN
  have n1 : (1 : Int) ≤ n := by omega
  have n2 : (n : Int) ≤ 1000 := by omega
  go_wp2_with fail
  refine KF2.out.mono ?_
  rintro e w3 ⟨rfl, rfl⟩
  have c0 : w2.cell? ⟨nb, 0, none⟩ = some (.int .i64 0) := below_cell B2.out _ _ (H.out.cell (o := 0) rfl)
  have d0 : w2.cell? ⟨wb, 0, none⟩ = some (.int .i64 0) := W2.out.blk.cell (o := 0) rfl
  have f0 := W2.out.blk.free 0
  have hwl := W2.out.blk.lt
  clear KF2
  go_wp2_with fail
  have hc3 : Chg (· = wb) w2 ((w2.setCell ⟨wb, 0, none⟩ (.int .i64 703)).alloc (.cells #[.pointer (some ⟨wb, 0, none⟩), .int .i64 700, .slice da 3 dc] 131)) := (Chg.set (S := (· = wb)) (Chg.refl _ _) (p := ⟨wb, 0, none⟩) (fun _ => rfl) _).alloc _
  have hb3 : Blk ((w2.setCell ⟨wb, 0, none⟩ (.int .i64 703)).alloc (.cells #[.pointer (some ⟨wb, 0, none⟩), .int .i64 700, .slice da 3 dc] 131)) wb (workC 703 0 0 0 0 0 0 0 0 0 0 (.pointer (some ⟨cb, 0, none⟩)) (.pointer (some ⟨mp, 0, none⟩)) (.pointer (some ⟨t1, 0, none⟩)) (.pointer (some ⟨t2, 0, none⟩)) (.slice (some ⟨rb, 0, none⟩) 1 rc) (.slice none 0 0) (.slice none 0 0)) 128 := (W2.out.blk.set 0 _).alloc _
  have hpw : Plain w2 wb := workPlain W2.out.blk
  have hne2 := W2.out.ne
  have W3 := Lib.hid (W2.out.mk2 hb3 hc3 (fun k hk => by subst hk; exact ⟨hpw.noB, hne2⟩))
  have X3 := Blk.new (w2.setCell ⟨wb, 0, none⟩ (.int .i64 703)) #[.pointer (some ⟨wb, 0, none⟩), .int .i64 700, .slice da 3 dc] 131
  rw [size_setCell] at X3
  have X3 := Lib.hid X3
  have M3 := Lib.hid (M2.out.stay hc3 (by omega) (by omega))
  have D3 := Lib.hid ((HD.out.below B2.out).stay hc3 (fun k hk => by subst hk; exact ⟨hpw, by omega⟩))
  have R3 := Lib.hid ((HR.out.below B2.out).stayN hc3 (fun k hk => by subst hk; exact hpw.noB))
  have N3 := Lib.hid (hc3.blk (blkBelow B2.out H.out ln) (by omega))
  have G3 := Lib.hid ((Chg.of_below (S := fun k => k = nb ∨ k = mu ∨ k = cb ∨ k = mb) B2.out (fun i h1 h2 => absurd h1 (Nat.not_lt.2 h2))).trans' hc3 (fun i h1 h2 => by omega))
  have z3 := hc3.size
  obtain ⟨xb, hxb⟩ : ∃ xb : Nat, w2.heap.size = xb := ⟨_, rfl⟩
  rw [hxb] at X3
  (try rw [hxb])
  generalize (w2.setCell ⟨wb, 0, none⟩ (.int .i64 703)).alloc (.cells #[.pointer (some ⟨wb, 0, none⟩), .int .i64 700, .slice da 3 dc] 131) = w3 at *
  clear hc3 hb3 hpw c0 d0 f0 M2
  have KP := Lib.hid (eachStep 71 #[.pointer (some ⟨xb, 0, none⟩)] (fun w' => PutPost xb wb mu mp n 703 0 0 0 0 0 0 0 0 0 vb b g cb mb ls (some ⟨t1, 0, none⟩) (some ⟨t2, 0, none⟩) (some ⟨rb, 0, none⟩) 1 rc w3 (.returned (.int .i64 0)) w') putCall ((inoPut X3.out R3.out W3.out.blk M3.out hn.1 hne (by omega) D3.out (by omega) hcg hmu (by omega)).mono fun e w' h => by
    obtain ⟨hb, tk, tc, h1, h2⟩ := h
    exact ⟨h1, hb, tk, tc, rfl, h2⟩))
  refine KP.out.mono ?_
  rintro e w4 ⟨rfl, hb, tk, tc, _, hhb, hW4, hM4, hD4, hg4⟩
  have hp3 : Plain w3 wb := workPlain W3.out.blk
  have hc3p := D3.out.cch.plainC
  have hm3p := D3.out.cch.noM
  have W4 := Lib.hid (W3.out.mk2 hW4 hg4 (fun k hk => by
    rcases hk with rfl | rfl | rfl | rfl
    · exact ⟨hp3.noB, W3.out.ne⟩
    · exact ⟨M3.out.plain.2.noB, by omega⟩
    · exact ⟨hc3p.noB, by omega⟩
    · exact ⟨hm3p, by omega⟩))
  have N4 := Lib.hid (hg4.blk N3.out (by rintro (e | e | e | e) <;> omega))
  have KD := Lib.hid (inoDone W4.out W4.out.ne N4.out (by omega))
  have M4 := Lib.hid hM4
  have D4 := Lib.hid hD4
  have G4 := Lib.hid (G3.out.trans' hg4 (fun i h1 h2 => by
    rcases h2 with rfl | rfl | rfl | rfl
    · omega
    · exact .inr (.inl rfl)
    · exact .inr (.inr (.inl rfl))
    · exact .inr (.inr (.inr rfl))))
  have z4 := hg4.size
  clear hW4 hM4 hD4 hg4 KP
  go_wp2_with fail
  refine KD.out.mono ?_
  rintro e w5 ⟨rfl, hN5, hg5⟩
  have hpw4 : Plain w4 wb := workPlain W4.out.blk
  have hpn4 : Plain w4 nb := inoC_plain N4.out
  have D5 := Lib.hid (D4.out.stay hg5 (fun k hk => by
    rcases hk with rfl | rfl
    · exact ⟨hpw4, by omega⟩
    · exact ⟨hpn4, by omega⟩))
  have M5 := Lib.hid (M4.out.stay hg5 (by rintro (e | e) <;> omega) (by rintro (e | e) <;> omega))
  have G5 := Lib.hid (G4.out.trans' hg5 (fun i h1 h2 => by
    rcases h2 with rfl | rfl
    · omega
    · exact .inl rfl))
  have N5 := Lib.hid hN5
  clear hN5 hg5 KD
  go_wp2
  go_ret
  exact ⟨rfl, hb, by omega, N5.out, M5.out, D5.out, G5.out⟩
end Go.Proofs.Ytfcddpbpfckjfaa
