/- A directory of names: it is loaded. -/
import Derived.Test.YtfcddpbpfckjfaaChecked
import Derived.WalkKit
import Derived.Outline
import Derived.WalkSpells
import Derived.WalkLawsBesides
import Derived.Deep.QuietTactic
import Derived.Deep.RegionWith
import Derived.Deep.DeepMust
import Derived.BigQuiet
import Derived.Test.YtfcddpbpfckjfaaMem
import Derived.RegionTactic
import Derived.ChangeAlike
import Derived.StillTailTactics
import Derived.BigRegion
import Derived.Deep.LoopGhost
import Derived.Deep.RegionHeld3
import Derived.Deep.DeepCutAuto
import Derived.Test.YtfcddpbpfckjfaaBEq
import Derived.Test.YtfcddpbpfckjfaaDr
import Derived.Test.YtfcddpbpfckjfaaDs
namespace Go.Proofs.Ytfcddpbpfckjfaa
open Go.RowKit
open Go.Maps
set_option linter.unusedVariables false
set_option linter.unusedSimpArgs false
def LoadPost (b : List Int) (w : World) (e : Ending) (w' : World) : Prop :=
  Below w.heap.size w w' ∧ match dirR b with
    | none => e = .returned (.tuple #[.pointer none, .int .i64 74])
    | some L => ∃ d dm, e = .returned (.tuple #[.pointer (some ⟨d, 0, none⟩), .int .i64 0]) ∧ DirM w' d dm L ∧ OkL L ∧ w.heap.size ≤ d ∧ w.heap.size ≤ dm
theorem load_no {b : List Int} {w w' : World} (h : dirR b = none) (hb : Below w.heap.size w w') : LoadPost b w (.returned (.tuple #[.pointer none, .int .i64 74])) w' := by
  refine ⟨hb, ?_⟩
  rw [h]
theorem load_yes {b : List Int} {L : List Ent} {w w' : World} {d dm : Nat} (h : dirR b = some L) (hb : Below w.heap.size w w') (hd : DirM w' d dm L) (ho : OkL L) (h1 : w.heap.size ≤ d) (h2 : w.heap.size ≤ dm) : LoadPost b w (.returned (.tuple #[.pointer (some ⟨d, 0, none⟩), .int .i64 0])) w' := by
  refine ⟨hb, ?_⟩
  rw [h]
  exact ⟨d, dm, rfl, hd, ho, h1, h2⟩
/-- Between blocks. -/
def LoadRel (l : List Int) (w : World) (d dm : Nat) (v : Value) (wr : World) : Prop :=
  ∃ (i a : Nat) (L : List Ent), a ≤ l.length ∧ a = 512 * i ∧ v = .int .i64 a ∧ loadR l i = some L ∧ DirM wr d dm L ∧ OkL L ∧ Below w.heap.size w wr
/-- Between entries. -/
def BlkRel (w : World) (d dm : Nat) (R : Option (List Ent)) (v : Value) (wr : World) : Prop :=
  ∃ (f : Nat) (r : List Int) (L : List Ent) (ra : Option Addr) (rc : Nat), v = .slice ra r.length rc ∧ Rdv u8v w (.slice ra r.length rc) r ∧ Byt r ∧ r.length ≤ f ∧ blkR f r L = R ∧ DirM wr d dm L ∧ OkL L ∧ Below w.heap.size w wr
theorem load_next {l : List Int} {w wr : World} {i a d dm : Nat} {L L2 : List Ent} {R : Option (List Ent)} (hq : R = some L2) (hR : blkR 512 (chunkR l i) L = R) (hl : loadR l i = some L) (ha : a = 512 * i) (hle : a + 512 ≤ l.length)
    (hB : Below w.heap.size w wr) (hD : DirM wr d dm L2) (hO : OkL L2) : LoadRel l w d dm (.int .i64 ((a : Int) + 512)) wr :=
  ⟨i + 1, a + 512, L2, hle, by omega, rfl, by rw [loadR, hl, ← hq, ← hR]; rfl, hD, hO, hB⟩
theorem load_bad {l : List Int} {i a m : Nat} {L : List Ent} {R : Option (List Ent)} (hq : R = none) (hR : blkR 512 (chunkR l i) L = R) (hl : loadR l i = some L) (ha : a = 512 * i) (hle : a + 512 ≤ l.length) (hm : l.length = 512 * m) : dirR l = none := by
  have h1 : loadR l (i + 1) = none := by rw [loadR, hl, ← hq, ← hR]; rfl
  unfold dirR
  rw [if_neg (by omega), load_none h1 (l.length / 512) (by omega)]
theorem Rdv.cell0' {w : World} {b o n c : Nat} {xs : List Int} (h : Rdv u8v w (.slice (some ⟨b, o, none⟩) n c) xs) (hl : 0 < xs.length) : w.cell? ⟨b, o, none⟩ = some (u8v (xs.getD 0 0)) := by
  cases xs with
  | nil => simp at hl
  | cons x r => exact h.cell0
set_option maxRecDepth 100000 in
set_option maxHeartbeats 2000000 in
theorem dirLoad (v : Value) (l : List Int) (w : World) (h : Rdv u8v w v l) (hby : Byt l) (hl : l.length ≤ 1000000) : Calls Try.prog 30 #[v] w (LoadPost l w) := by
  obtain ⟨va, vn, vc, rfl⟩ := h.shape
  obtain ⟨rfl, hc1, hc2, hc3⟩ := h.cap
  unfold maxLen at hc2
  have H := Lib.hid h
  have HB := Lib.hid hby
  have HC3 := Lib.hid hc3
  have KN := Lib.hid (dirNew w)
  clear h hby hc3
  by_cases hm : l.length % 512 = 0
  rotate_left 1
  · have hR : Hid (dirR l = none) := Lib.hid (by unfold dirR; rw [if_pos hm])
    have hm2 : ((l.length : Int) % 512 != 0) = true := by rw [bne_iff_ne]; omega
    clear hm
    go_enter Try.func30, Try.ntmps30
    go_wp2
    go_ret2
    exact load_no hR.out (Below.refl _ _)
  · obtain ⟨m, hm'⟩ : ∃ m, l.length = 512 * m := ⟨l.length / 512, by omega⟩
    have hm2 : ((l.length : Int) % 512 != 0) = false := by rw [bne_eq_false_iff_eq]; omega
    have HM := Lib.hid hm'
    clear hm hm'
    go_enter Try.func30, Try.ntmps30
    go_wp2_with fail
    refine KN.out.mono ?_
    rintro e w1 ⟨d, dm, rfl, hd, hb1, hd1, hd2⟩
    have B1 := Lib.hid hb1
    have D1 := Lib.hid hd
    clear hd hb1
    go_wp2
    have R0 := Lib.hid (show LoadRel l w d dm (.int .i64 0) w1 from ⟨0, 0, [], Nat.zero_le _, rfl, rfl, rfl, D1.out, OkL.nil, B1.out⟩)
    go_loopw [5] (fun a wr => LoadRel l w d dm a wr) (fun a _ => l.length - (intOf a).toNat)
    case atStart => exact R0.out
    case round =>
      obtain ⟨i, a, L, hi, ha, rfl, hld, hD, hO, hB⟩ := hrel
      have HA := Lib.hid ha
      have HLD := Lib.hid hld
      have HD := Lib.hid hD
      have HO := Lib.hid hO
      have HBl := Lib.hid hB
      clear ha hld hD hO hB
      by_cases hlt : a < l.length
      · obtain ⟨bb, o, rfl⟩ := HC3.out (by rintro rfl; simp at hlt)
        have hle : a + 512 ≤ l.length := by have := HM.out; have := HA.out; omega
        have k1 : (0 : Int) ≤ a := by omega
        have k2 : (a : Int) < l.length := by omega
        have k3 : (a : Int) + 512 ≤ l.length := by omega
        have k4 : ¬ a = vc := by omega
        have hch := ((H.out).drop a (by omega)).take 512 (vc - a) (by omega) (by omega) (Nat.le_refl _)
        have hcl : (chunkR l i).length = 512 := by unfold chunkR; rw [← HA.out]; simp; omega
        have hch' : Rdv u8v w (.slice (some ⟨bb, o + a, none⟩) (chunkR l i).length (vc - a)) (chunkR l i) := by
          rw [hcl]
          unfold chunkR
          rw [← HA.out]
          exact hch
        have hcb : Byt (chunkR l i) := (HB.out.drop _).take _
        obtain ⟨R, hR⟩ : ∃ R, blkR 512 (chunkR l i) L = R := ⟨_, rfl⟩
        have R1 := Lib.hid (show BlkRel w d dm R (.slice (some ⟨bb, o + a, none⟩) 512 (vc - a)) wr from ⟨512, chunkR l i, L, _, _, by rw [hcl], hch', hcb, by rw [hcl]; exact Nat.le_refl _, hR, HD.out, HO.out, HBl.out⟩)
        have HR := Lib.hid hR
        clear hch hcl hch' hcb hR HD HO HBl
        have HSZ := Lib.hid (show a + 512 - a = 512 by omega)
        go_wp2
        rw [HSZ.out]
        go_loopw [6] (fun rv wr => BlkRel w d dm R rv wr) (fun rv _ => lenOf rv)
        case atStart => exact R1.out
        case round =>
          obtain ⟨f, r, L2, ra, rc, rfl, hr, hrb, hrf, hbk, hD2, hO2, hB2⟩ := hrel
          obtain ⟨_, hrc1, hrc2, hrc3⟩ := hr.cap
          unfold maxLen at hrc2
          have HR2 := Lib.hid hr
          have HRB := Lib.hid hrb
          have HBK := Lib.hid hbk
          have HD2 := Lib.hid hD2
          have HO2 := Lib.hid hO2
          have HB2 := Lib.hid hB2
          clear hr hrb hbk hD2 hO2 hB2
          by_cases hr0 : r = []
          · have hq : Hid (R = some L2) := Lib.hid (by rw [← HBK.out]; exact blk_end f r L2 (.inl hr0))
            subst hr0
            clear HBK HR2
            simp only [List.length_nil] at *
            have HNX := Lib.hid (load_next hq.out HR.out HLD.out HA.out hle HB2.out HD2.out HO2.out)
            clear hq
            go_wp2
            go_roundw
            case rel => exact HNX.out
            case measure => simp [intOf]; omega
          · obtain ⟨rb, ro, rfl⟩ := hrc3 hr0
            have hrl : 0 < r.length := List.length_pos_iff.2 hr0
            obtain ⟨x0, hx0, hx1⟩ := HRB.out.at_ 0 hrl
            have cx := below_cell (HB2.out) _ _ (HR2.out.cell0' hrl)
            rw [hx0] at cx
            have HX0 := Lib.hid hx0
            clear hx0
            have hrl1 : (0 : Int) < r.length := by omega
            have hx2 : (x0 : Int) < 256 := by omega
            by_cases hz : x0 = 0
            · have hq : Hid (R = some L2) := Lib.hid (by rw [← HBK.out]; exact blk_end f r L2 (.inr (by rw [HX0.out, hz]; rfl)))
              subst hz
              have HNX := Lib.hid (load_next hq.out HR.out HLD.out HA.out hle HB2.out HD2.out HO2.out)
              clear hq
              go_wp2
              go_roundw
              case rel => exact HNX.out
              case measure => simp [intOf]; omega
            · have hx3 : (0 : Int) < x0 := by omega
              have hne : Hid (¬ (r = [] ∨ r.getD 0 0 = 0)) := Lib.hid (by rintro (e | e); exact hr0 e; rw [HX0.out] at e; omega)
              have hnx : Hid (nextN r = 1 + x0) := Lib.hid (by unfold nextN; rw [HX0.out]; simp)
              obtain ⟨f, rfl⟩ : ∃ f', f = f' + 1 := ⟨f - 1, by omega⟩
              by_cases hlen : r.length < 1 + x0 + 4
              · have hq : Hid (R = none) := Lib.hid (by rw [← HBK.out, blkR, if_neg hne.out, entR, if_pos (by rw [hnx.out]; exact hlen)]; rfl)
                have hdr : Hid (dirR l = none) := Lib.hid (load_bad hq.out HR.out HLD.out HA.out hle HM.out)
                have hl2 : (r.length : Int) < 1 + x0 + 4 := by omega
                clear hlen
                go_wp2
                go_ret2
                exact load_no hdr.out HB2.out
              · have hl2 : 1 + (x0 : Int) + 4 ≤ r.length := by omega
                have hl4 : decide ((r.length : Int) < 1 + x0 + 4) = false := by rw [decide_eq_false_iff_not]; omega
                have hl3 : (r.length : Int) ≤ rc := by omega
                have k5 : ¬ 1 = rc := by omega
                have k6 : ¬ 1 + x0 = rc := by omega
                clear hlen
                have hx0r : x0 ≤ r.length - 1 := by omega
                have hr1 := ((HR2.out).drop 1 (by omega)).take x0 (rc - 1) (by omega) (by omega) (Nat.le_refl _)
                have CV := Lib.hid (fun w' (hb : Below w.heap.size w w') => conv_rdv (P := Try.prog) 48 5 Try.underlying48 Try.underlying5 (hr1.below hb) 9 Try.underlying9)
                have hnm : strOfNums ((r.drop 1).take x0) = nameR r := by unfold nameR; rw [hnx.out, Nat.add_sub_cancel_left]
                rw [hnm] at CV
                have hns : (nameR r).size ≤ 255 := by
                  rw [← hnm, ← strL_len, strL_of ((HRB.out.drop 1).take x0)]
                  simp
                  omega
                have hr2 := (HR2.out).drop (1 + x0) (by omega)
                have hrd : ((r.drop (1 + x0))).length = r.length - (1 + x0) := by simp
                have hg4 := get4_lt (HRB.out.drop (1 + x0))
                have KG := Lib.hid (fun w' (hb : Below w.heap.size w w') => get32 _ (r.drop (1 + x0)) w' (hr2.below hb) (HRB.out.drop (1 + x0)) (by rw [hrd]; omega))
                have hen : Hid (R = if putE L2 (nameR r) (get4 (r.drop (1 + x0)) : Nat) = 0 then blkR f (r.drop (1 + x0 + 4)) (putL L2 (nameR r) (get4 (r.drop (1 + x0)))) else none) := Lib.hid (by
                  rw [← HBK.out, blkR, if_neg hne.out, entR, if_neg (by rw [hnx.out]; omega), hnx.out]
                  split <;> rfl)
                generalize get4 (r.drop (1 + x0)) = g4 at *
                have hg5 : (g4 : Int) ≤ 4294967295 := by omega
                have hg6 : (0 : Int) ≤ g4 := by omega
                have hgw : IntKind.i64.wrap (g4 : Int) = g4 := by rw [IntKind.wrap_i64]; omega
                have HLE := HO2.out.len
                have KP := Lib.hid (fun w' (hd : DirM w' d dm L2) => dirPut d dm L2 (nameR r) (g4 : Int) w' hd (by omega) (by omega) (by omega) HLE)
                have hpo := fun h => HO2.out.put (s := nameR r) (n := (g4 : Int)) h
                have HPO := Lib.hid hpo
                clear hr1 hr2 hrd hg4 hnm hpo
                generalize nameR r = nm at *
                go_upto_region 12 with fail
                go_cut [54] (fun s54 w5 => s54 = .bool (putE L2 nm (g4 : Int) != 0) ∧ Below w.heap.size w w5 ∧ DirM w5 d dm (if putE L2 nm (g4 : Int) = 0 then putL L2 nm g4 else L2))
                case first =>
                  go_region_held (fun w' => (convert 48 9 (.slice (some ⟨rb, ro + 1, none⟩) x0 (rc - 1))).run Try.prog w' = .ok (.string nm) w') ((first | exact CV.out _ HB2.out | exact CV.out _ (HB2.out.drew) | exact CV.out _ (belowDN HB2.out _) | exact CV.out _ (belowDN HB2.out _).drew | exact CV.out _ B8.out | (with_reducible assumption))) (first | (go_at_call 54; refine (KG.out _ (by first | exact HB2.out | exact HB2.out.drew)).mono ?_; rintro e w7 ⟨rfl, kd, rfl⟩) | (go_at_call 26; refine (KP.out _ (by first | exact HD2.out | exact HD2.out.below (belowDN (Below.refl _ _) _) | exact HD2.out.below (belowDN (Below.refl _ _) _).drew)).mono ?_; rintro e w8 ⟨rfl, hd8, hc8⟩; (have D8 := Lib.hid hd8); (have B8 := Lib.hid (Below.trans (by first | exact HB2.out | exact belowDN HB2.out _ | exact (belowDN HB2.out _).drew) (hc8.below (by have := HB2.out.size; simpa using this) (fun i hi e => by omega)))); clear hd8 hc8))
                  all_goals go_wp2
                  all_goals go_meet
                  all_goals exact ⟨rfl, B8.out, D8.out⟩
                case rest =>
                  obtain ⟨rfl, hB5, hD5⟩ := hcut
                  have B5 := Lib.hid hB5
                  clear hB5 hgw KG KP CV
                  generalize putE L2 nm (g4 : Int) = E at *
                  by_cases hE : E = 0
                  · subst hE
                    rw [if_pos rfl] at hD5
                    have hq : Hid (blkR f (r.drop (1 + x0 + 4)) (putL L2 nm g4) = R) := Lib.hid (by rw [hen.out, if_pos rfl])
                    have O5 := Lib.hid (HPO.out rfl)
                    have D5 := Lib.hid hD5
                    clear hD5 hen HPO
                    have k9 : 1 + (x0 : Int) + 4 ≤ rc := by omega
                    have hxl : 1 + x0 + 4 ≤ r.length := by omega
                    have hdl : (r.drop (1 + x0 + 4)).length = r.length - (1 + x0 + 4) := List.length_drop
                    have RC := Lib.hid (fun a c h => rdv_cutF (a := a) (c := c) HR2.out hxl rfl h)
                    rw [hdl] at RC
                    have BL := Lib.hid (fun a c (hv : Rdv u8v w (.slice a (r.length - (1 + x0 + 4)) c) (r.drop (1 + x0 + 4))) => show BlkRel w d dm R (.slice a (r.length - (1 + x0 + 4)) c) _ from ⟨f, r.drop (1 + x0 + 4), putL L2 nm g4, a, c, by rw [hdl], by rw [hdl]; exact hv, HRB.out.drop _, by omega, hq.out, D5.out, O5.out, B5.out⟩)
                    clear hdl hq D5 O5 HBK HR2 cx
                    by_cases hpk : rc = 1 + x0 + 4
                    · subst hpk
                      have k10 : Hid (r.length - (1 + x0 + 4) = 0) := Lib.hid (by omega)
                      have BL2 := Lib.hid (BL.out _ _ (RC.out (some ⟨rb, ro, none⟩) 0 (.inr ⟨rfl, by omega⟩)))
                      rw [k10.out] at BL2
                      clear BL RC
                      go_wp2
                      go_roundw
                      case rel => rw [Nat.sub_self, k10.out]; exact BL2.out
                      case measure => simp only [lenOf]; omega
                    · have BL2 := Lib.hid (BL.out _ _ (RC.out _ _ (.inl ⟨rfl, rfl⟩)))
                      clear BL RC
                      go_wp2
                      go_roundw
                      case rel => exact BL2.out
                      case measure => simp only [lenOf]; omega
                  · have hq : Hid (R = none) := Lib.hid (by rw [hen.out, if_neg hE])
                    have hdr : Hid (dirR l = none) := Lib.hid (load_bad hq.out HR.out HLD.out HA.out hle HM.out)
                    have hE2 : (E != 0) = true := by rw [bne_iff_ne]; exact hE
                    clear hq hen HPO hD5
                    go_wp2
                    go_ret2
                    exact load_no hdr.out B5.out
      · have ham : a = l.length := by omega
        have him : i = l.length / 512 := by have := HA.out; omega
        have hne : ¬ (a : Int) < l.length := by omega
        have KBy := Lib.hid (dirBytes d dm L wr HD.out HO.out)
        have hbb := dirB_byt HO.out
        have hdr : Hid (dirR l = if dirB L = l then some L else none) := Lib.hid (by
          unfold dirR
          rw [if_neg (by have := HM.out; omega), ← him, HLD.out])
        clear ham him
        go_wp2_with fail
        refine KBy.out.mono ?_
        rintro e w5 ⟨v5, rfl, ho5, hb5⟩
        have B5 := Lib.hid (HBl.out.trans (hb5.mono HBl.out.size))
        have D5 := Lib.hid (HD.out.below hb5)
        have KE := Lib.hid (bytesEqual v5 _ (dirB L) l w5 (Rdv.of_owns ho5) (H.out.below B5.out) hbb HB.out)
        clear ho5 hb5 KBy hbb
        go_wp2_with fail
        refine KE.out.mono ?_
        rintro e w6 ⟨rfl, rfl⟩
        by_cases he : dirB L = l
        · have hd6 : Hid (dirR l = some L) := Lib.hid (by rw [hdr.out, if_pos he])
          have hde : decide (dirB L = l) = true := decide_eq_true he
          clear he hdr
          go_wp2
          go_ret2
          exact load_yes hd6.out B5.out D5.out HO.out hd1 hd2
        · have hd6 : Hid (dirR l = none) := Lib.hid (by rw [hdr.out, if_neg he])
          have hde : decide (dirB L = l) = false := decide_eq_false he
          clear he hdr
          go_wp2
          go_ret2
          exact load_no hd6.out B5.out
end Go.Proofs.Ytfcddpbpfckjfaa
