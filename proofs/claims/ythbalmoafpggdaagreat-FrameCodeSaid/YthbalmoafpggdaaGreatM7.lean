/- Operations: ops.May at a move. -/
import Derived.Test.YthbalmoafpggdaaGreatChecked
import Derived.WalkKit
import Derived.Outline
import Derived.WalkSpells
import Derived.WalkLawsBesides
import Derived.Deep.QuietTactic
import Derived.Deep.RegionWith
import Derived.Deep.DeepMust
import Derived.BigQuiet
import Derived.RegionTactic
import Derived.ChangeAlike
import Derived.StillTailTactics
import Derived.Deep.LoopGhost
import Derived.BigRegion
import Derived.Deep.RegionHeld3
import Derived.Deep.DeepCutAuto
import Derived.Deep.CutBlock
import Derived.Test.YthbalmoafpggdaaGreatM1
import Derived.Test.YthbalmoafpggdaaGreatM6
namespace Go.Proofs.YthbalmoafpggdaaGreat
open Go.RowKit
set_option linter.unusedVariables false
set_option linter.unusedSimpArgs false
set_option maxHeartbeats 4000000 in
set_option maxRecDepth 100000 in
theorem opsMay3 (o : Opr) (d s : Value) (w : World) (hd : Rdv u8v w d o.data) (hs : Rdv i64v w s o.seen) (hn : o.name.size < 4294967281) (hkk : o.kind = 3) :
    Calls Tryz.prog 33 #[.agg #[.int .i64 (o).time, .int .i64 (o).node, .int .i64 (o).seq, .int .i64 (o).kind, .int .i64 (o).ot, .int .i64 (o).on, .int .i64 (o).pt, .int .i64 (o).pn, .string (o).name, d, s]] w fun e w' => e = .returned (.bool (mayB o)) ∧ Below w.heap.size w w' := by
  obtain ⟨O, hO⟩ : ∃ O, O = o := ⟨_, rfl⟩
  obtain ⟨time, node, seq, kind, ot, on, pt, pn, name, data, xs⟩ := o
  simp only at *
  have HKK := Lib.hid hkk
  clear hkk
  have KV := Lib.hid (fun w' => clkValid time node w')
  have KN := Lib.hid (fun w' => opsName name w' hn)
  have KS := Lib.hid (fun h1 h2 w' hb => opsSeen O d s w' (by rw [hO]; exact hs.below (w' := w') hb) (by rw [hO]; exact h1) (by rw [hO]; exact h2))
  have KE := Lib.hid (fun t n w' => opsEarlier t n O d s w')
  rw [hO] at KS KE
  simp only at KS KE
  have HO := Lib.hid hO
  obtain ⟨da, dn, dc, rfl⟩ := hd.shape
  obtain ⟨rfl, _, _, _⟩ := hd.cap
  have HM : Hid (mayB O = (validID time node && decide (1 ≤ seq) && decide (seq ≤ 1152921504606846976) && seenB xs node seq && kindB O)) := Lib.hid (by rw [hO]; rfl)
  clear hd hs hO
  have HB0 := (Below.refl w.heap.size w).alloc (Nat.le_refl _) (.cells #[.int .i64 time, .int .i64 node, .int .i64 seq, .int .i64 kind, .int .i64 ot, .int .i64 on, .int .i64 pt, .int .i64 pn, .string name, .slice da data.length dc, s] 46)
  have bk0 := Blk.new w #[.int .i64 time, .int .i64 node, .int .i64 seq, .int .i64 kind, .int .i64 ot, .int .i64 on, .int .i64 pt, .int .i64 pn, .string name, .slice da data.length dc, s] 46
  have OM0 := Lib.hid (OMid.mk bk0 HB0)
  clear bk0 HB0
  cases hv : validID time node
  · rw [hv] at KV
    have HV := Lib.hid hv
    clear hv
    go_enter Tryz.func33, Tryz.ntmps33
    go_wp2_with fail
    refine (KV.out _).mono ?_
    rintro e w1 ⟨rfl, hb1⟩
    have OM1 := Lib.hid (OM0.out.below hb1)
    clear hb1
    go_wp2
    go_ret
    exact ⟨ret_b (by rw [← HO.out, HM.out, HV.out]; rfl), OM1.out.bel⟩
  · rw [hv] at KV
    have HV := Lib.hid hv
    clear hv
    go_enter Tryz.func33, Tryz.ntmps33
    go_wp2_with fail
    refine (KV.out _).mono ?_
    rintro e w1 ⟨rfl, hb1⟩
    have OM1 := Lib.hid (OM0.out.below hb1)
    clear hb1
    have c_0 : w1.cell? ⟨w.heap.size, 0, none⟩ = some (.int .i64 time) := (OM1.out.blk).cell (o := 0) rfl
    have c_1 : w1.cell? ⟨w.heap.size, 1, none⟩ = some (.int .i64 node) := (OM1.out.blk).cell (o := 1) rfl
    have c_2 : w1.cell? ⟨w.heap.size, 2, none⟩ = some (.int .i64 seq) := (OM1.out.blk).cell (o := 2) rfl
    have c_3 : w1.cell? ⟨w.heap.size, 3, none⟩ = some (.int .i64 kind) := (OM1.out.blk).cell (o := 3) rfl
    have c_4 : w1.cell? ⟨w.heap.size, 4, none⟩ = some (.int .i64 ot) := (OM1.out.blk).cell (o := 4) rfl
    have c_5 : w1.cell? ⟨w.heap.size, 5, none⟩ = some (.int .i64 on) := (OM1.out.blk).cell (o := 5) rfl
    have c_6 : w1.cell? ⟨w.heap.size, 6, none⟩ = some (.int .i64 pt) := (OM1.out.blk).cell (o := 6) rfl
    have c_7 : w1.cell? ⟨w.heap.size, 7, none⟩ = some (.int .i64 pn) := (OM1.out.blk).cell (o := 7) rfl
    have c_8 : w1.cell? ⟨w.heap.size, 8, none⟩ = some (.string name) := (OM1.out.blk).cell (o := 8) rfl
    have c_9 : w1.cell? ⟨w.heap.size, 9, none⟩ = some (.slice da data.length dc) := (OM1.out.blk).cell (o := 9) rfl
    have c_10 : w1.cell? ⟨w.heap.size, 10, none⟩ = some (s) := (OM1.out.blk).cell (o := 10) rfl
    by_cases hq : 1 ≤ seq ∧ seq ≤ 1152921504606846976
    · obtain ⟨hq1, hq2⟩ := hq
      have KS1 := Lib.hid (KS.out hq1 hq2)
      cases hsn : seenB xs node seq
      · rw [hsn] at KS1
        have HSN := Lib.hid hsn
        clear hsn
        go_wp2_with fail
        refine (KS1.out _ OM1.out.bel).mono ?_
        rintro e w2 ⟨rfl, hb2⟩
        have OM2 := Lib.hid (OM1.out.below hb2)
        clear hb2 c_0 c_1 c_2 c_3 c_4 c_5 c_6 c_7 c_8 c_9 c_10
        go_wp2
        go_ret
        exact ⟨ret_b (by rw [← HO.out, HM.out, HSN.out]; simp), OM2.out.bel⟩
      · rw [hsn] at KS1
        have HM2 : Hid (mayB O = kindB O) := Lib.hid (by rw [HM.out, HV.out, hsn, decide_eq_true hq1, decide_eq_true hq2]; rfl)
        clear hsn
        go_wp2_with fail
        refine (KS1.out _ OM1.out.bel).mono ?_
        rintro e w2 ⟨rfl, hb2⟩
        have OM2 := Lib.hid (OM1.out.below hb2)
        clear hb2 c_0 c_1 c_2 c_3 c_4 c_5 c_6 c_7 c_8 c_9 c_10 OM1 OM0 HM KV KS KS1
        have c_0 : w2.cell? ⟨w.heap.size, 0, none⟩ = some (.int .i64 time) := (OM2.out.blk).cell (o := 0) rfl
        have c_1 : w2.cell? ⟨w.heap.size, 1, none⟩ = some (.int .i64 node) := (OM2.out.blk).cell (o := 1) rfl
        have c_2 : w2.cell? ⟨w.heap.size, 2, none⟩ = some (.int .i64 seq) := (OM2.out.blk).cell (o := 2) rfl
        have c_3 : w2.cell? ⟨w.heap.size, 3, none⟩ = some (.int .i64 kind) := (OM2.out.blk).cell (o := 3) rfl
        have c_4 : w2.cell? ⟨w.heap.size, 4, none⟩ = some (.int .i64 ot) := (OM2.out.blk).cell (o := 4) rfl
        have c_5 : w2.cell? ⟨w.heap.size, 5, none⟩ = some (.int .i64 on) := (OM2.out.blk).cell (o := 5) rfl
        have c_6 : w2.cell? ⟨w.heap.size, 6, none⟩ = some (.int .i64 pt) := (OM2.out.blk).cell (o := 6) rfl
        have c_7 : w2.cell? ⟨w.heap.size, 7, none⟩ = some (.int .i64 pn) := (OM2.out.blk).cell (o := 7) rfl
        have c_8 : w2.cell? ⟨w.heap.size, 8, none⟩ = some (.string name) := (OM2.out.blk).cell (o := 8) rfl
        have c_9 : w2.cell? ⟨w.heap.size, 9, none⟩ = some (.slice da data.length dc) := (OM2.out.blk).cell (o := 9) rfl
        have c_10 : w2.cell? ⟨w.heap.size, 10, none⟩ = some (s) := (OM2.out.blk).cell (o := 10) rfl
        go_upto_region 3 with fail
        go_cut [3] (fun s3 wx => s3 = .bool (namedB O) ∧ OMid w w.heap.size #[.int .i64 time, .int .i64 node, .int .i64 seq, .int .i64 kind, .int .i64 ot, .int .i64 on, .int .i64 pt, .int .i64 pn, .string name, .slice da data.length dc, s] wx)
        case first =>
          have HNM : Hid (namedB O = (decide (nameE name.data.toList = 0) && decide (data.length = 0))) := Lib.hid (by rw [HO.out]; rfl)
          go_wp2_with fail
          refine (KN.out _).mono ?_
          rintro e w3 ⟨rfl, hb3⟩
          have OM3 := Lib.hid (OM2.out.below hb3)
          clear hb3 c_0 c_1 c_2 c_3 c_4 c_5 c_6 c_7 c_8 c_9 c_10 OM2 KN
          have c_0 : w3.cell? ⟨w.heap.size, 0, none⟩ = some (.int .i64 time) := (OM3.out.blk).cell (o := 0) rfl
          have c_1 : w3.cell? ⟨w.heap.size, 1, none⟩ = some (.int .i64 node) := (OM3.out.blk).cell (o := 1) rfl
          have c_2 : w3.cell? ⟨w.heap.size, 2, none⟩ = some (.int .i64 seq) := (OM3.out.blk).cell (o := 2) rfl
          have c_3 : w3.cell? ⟨w.heap.size, 3, none⟩ = some (.int .i64 kind) := (OM3.out.blk).cell (o := 3) rfl
          have c_4 : w3.cell? ⟨w.heap.size, 4, none⟩ = some (.int .i64 ot) := (OM3.out.blk).cell (o := 4) rfl
          have c_5 : w3.cell? ⟨w.heap.size, 5, none⟩ = some (.int .i64 on) := (OM3.out.blk).cell (o := 5) rfl
          have c_6 : w3.cell? ⟨w.heap.size, 6, none⟩ = some (.int .i64 pt) := (OM3.out.blk).cell (o := 6) rfl
          have c_7 : w3.cell? ⟨w.heap.size, 7, none⟩ = some (.int .i64 pn) := (OM3.out.blk).cell (o := 7) rfl
          have c_8 : w3.cell? ⟨w.heap.size, 8, none⟩ = some (.string name) := (OM3.out.blk).cell (o := 8) rfl
          have c_9 : w3.cell? ⟨w.heap.size, 9, none⟩ = some (.slice da data.length dc) := (OM3.out.blk).cell (o := 9) rfl
          have c_10 : w3.cell? ⟨w.heap.size, 10, none⟩ = some (s) := (OM3.out.blk).cell (o := 10) rfl
          generalize nameE name.data.toList = ne at *
          by_cases h0 : ne = 0
          · subst h0
            by_cases h1 : data.length = 0
            · have h2 : ((data.length : Int) == 0) = true := by rw [h1]; rfl
              have HN1 : Hid (namedB O = true) := Lib.hid (by rw [HNM.out, h1]; rfl)
              clear h1
              go_wp2
              go_meet
              exact ⟨by rw [HN1.out], OM3.out⟩
            · have h2 : ((data.length : Int) == 0) = false := beq_eq_false_iff_ne.2 (by omega)
              have HN1 : Hid (namedB O = false) := Lib.hid (by rw [HNM.out, decide_eq_false h1]; rfl)
              clear h1
              go_wp2
              go_meet
              exact ⟨by rw [HN1.out], OM3.out⟩
          · have h2 : (ne == 0) = false := beq_eq_false_iff_ne.2 h0
            have HN1 : Hid (namedB O = false) := Lib.hid (by rw [HNM.out, decide_eq_false h0]; rfl)
            clear h0
            go_wp2
            go_meet
            exact ⟨by rw [HN1.out], OM3.out⟩
        case rest =>
          obtain ⟨rfl, hOM⟩ := hcut
          have OM3 := Lib.hid hOM
          clear hOM c_0 c_1 c_2 c_3 c_4 c_5 c_6 c_7 c_8 c_9 c_10 OM2 KN
          go_wp2
          go_cut [4] (fun s4 wx => s4 = .bool (parB O) ∧ OMid w w.heap.size #[.int .i64 time, .int .i64 node, .int .i64 seq, .int .i64 kind, .int .i64 ot, .int .i64 on, .int .i64 pt, .int .i64 pn, .string name, .slice da data.length dc, s] wx)
          case first =>
            obtain ⟨w4, rfl⟩ : ∃ w4, w4 = wc := ⟨_, rfl⟩
            have hws := OM3.out.bel.size
            have hwl := OM3.out.blk.lt
            have c_0 : w4.cell? ⟨w.heap.size, 0, none⟩ = some (.int .i64 time) := (OM3.out.blk).cell (o := 0) rfl
            have c_1 : w4.cell? ⟨w.heap.size, 1, none⟩ = some (.int .i64 node) := (OM3.out.blk).cell (o := 1) rfl
            have c_2 : w4.cell? ⟨w.heap.size, 2, none⟩ = some (.int .i64 seq) := (OM3.out.blk).cell (o := 2) rfl
            have c_3 : w4.cell? ⟨w.heap.size, 3, none⟩ = some (.int .i64 kind) := (OM3.out.blk).cell (o := 3) rfl
            have c_4 : w4.cell? ⟨w.heap.size, 4, none⟩ = some (.int .i64 ot) := (OM3.out.blk).cell (o := 4) rfl
            have c_5 : w4.cell? ⟨w.heap.size, 5, none⟩ = some (.int .i64 on) := (OM3.out.blk).cell (o := 5) rfl
            have c_6 : w4.cell? ⟨w.heap.size, 6, none⟩ = some (.int .i64 pt) := (OM3.out.blk).cell (o := 6) rfl
            have c_7 : w4.cell? ⟨w.heap.size, 7, none⟩ = some (.int .i64 pn) := (OM3.out.blk).cell (o := 7) rfl
            have c_8 : w4.cell? ⟨w.heap.size, 8, none⟩ = some (.string name) := (OM3.out.blk).cell (o := 8) rfl
            have c_9 : w4.cell? ⟨w.heap.size, 9, none⟩ = some (.slice da data.length dc) := (OM3.out.blk).cell (o := 9) rfl
            have c_10 : w4.cell? ⟨w.heap.size, 10, none⟩ = some (s) := (OM3.out.blk).cell (o := 10) rfl
            have HP : Hid (parB O = (decide (pt = 0 ∧ pn = 0) || earlyB pt pn time node)) := Lib.hid (by rw [HO.out]; rfl)
            by_cases hr : pt = 0 ∧ pn = 0
            · have HP1 : Hid (parB O = true) := Lib.hid (by rw [HP.out, decide_eq_true hr]; rfl)
              have hE : ∀ w, (binOp .eql 44 (.agg #[.int .i64 pt, .int .i64 pn]) (.agg #[.int .i64 0, .int .i64 0])).run Tryz.prog w = .ok (.bool true) w := fun w => by rw [eqID, hr.1, hr.2]; rfl
              clear hr
              first | (go_region_with ((go_at_call 75; (with_reducible refine (opsRoot _).mono ?_); rintro e w5 ⟨rfl, hb5⟩; (try replace hb5 := undrew hb5); (try replace hb5 := undrewN hb5); have z5 := hb5.size; (try simp at z5); skip; obtain ⟨c5, f5⟩ := bcell hb5))) | fail
              all_goals
                go_wp2
                go_meet
                exact ⟨by rw [HP1.out], OM3.out.below hb5⟩
            · have hE : ∀ w, (binOp .eql 44 (.agg #[.int .i64 pt, .int .i64 pn]) (.agg #[.int .i64 0, .int .i64 0])).run Tryz.prog w = .ok (.bool false) w := fun w => by
                rw [eqID]
                have e : (decide (pt = 0) && decide (pn = 0)) = false := by rw [Bool.and_eq_false_iff]; by_cases h : pt = 0 <;> simp [h] <;> omega
                rw [e]
              have HP1 : Hid (parB O = earlyB pt pn time node) := Lib.hid (by rw [HP.out, decide_eq_false hr]; rfl)
              clear hr
              clear c_0 c_1 c_2 c_3 c_4 c_5 c_6 c_7 c_8 c_9 c_10
              go_region_held3 (fun w' => (w'.cell? ⟨w.heap.size, 0, none⟩ = some (.int .i64 time) ∧ w'.cell? ⟨w.heap.size, 1, none⟩ = some (.int .i64 node) ∧ w'.cell? ⟨w.heap.size, 2, none⟩ = some (.int .i64 seq) ∧ w'.cell? ⟨w.heap.size, 3, none⟩ = some (.int .i64 kind) ∧ w'.cell? ⟨w.heap.size, 4, none⟩ = some (.int .i64 ot) ∧ w'.cell? ⟨w.heap.size, 5, none⟩ = some (.int .i64 on) ∧ w'.cell? ⟨w.heap.size, 6, none⟩ = some (.int .i64 pt) ∧ w'.cell? ⟨w.heap.size, 7, none⟩ = some (.int .i64 pn) ∧ w'.cell? ⟨w.heap.size, 8, none⟩ = some (.string name) ∧ w'.cell? ⟨w.heap.size, 9, none⟩ = some (.slice da data.length dc) ∧ w'.cell? ⟨w.heap.size, 10, none⟩ = some (s)) ∧ OMid w w.heap.size #[.int .i64 time, .int .i64 node, .int .i64 seq, .int .i64 kind, .int .i64 ot, .int .i64 on, .int .i64 pt, .int .i64 pn, .string name, .slice da data.length dc, s] w') ((refine om_S ?_; first | (with_reducible assumption) | exact OM3.out | exact OM3.out.drew | exact OMid.drew (And.right (by assumption)) | exact And.right (by assumption))) (first | (go_at_call 75; (with_reducible refine (opsRoot _).mono ?_); rintro e w9 ⟨rfl, hb⟩; have g9 := OMid.below (by first | assumption | exact OM3.out.drew | exact And.right (by assumption)) hb; clear hb) | (go_at_call 76; (with_reducible refine (KE.out _ _ _).mono ?_); rintro e w9 ⟨rfl, hb⟩; have g9 := OMid.below (by first | assumption | exact OM3.out.drew | exact And.right (by assumption)) hb; clear hb))
              go_wp2
              go_meet
              exact ⟨by rw [HP1.out], by first | assumption | exact And.right (by assumption)⟩
          case rest =>
            obtain ⟨rfl, hOM⟩ := hcut
            clear OM3
            have OM3 := Lib.hid hOM
            clear hOM
            obtain ⟨w4, rfl⟩ : ∃ w4, w4 = wc := ⟨_, rfl⟩
            obtain ⟨pb, hpb⟩ : ∃ pb, parB O = pb := ⟨_, rfl⟩
            obtain ⟨nb, hnb⟩ : ∃ nb, namedB O = nb := ⟨_, rfl⟩
            have HK : Hid (mayB O = if kind = 1 ∨ kind = 2 then decide (ot = time ∧ on = node) && pb && nb
              else if kind = 3 then earlyB ot on time node && (pb || decide (pt = 0 ∧ pn = 1)) && nb
              else if kind = 4 then earlyB ot on time node && decide (pt = 0 ∧ pn = 0) && decide (name.data.toList = []) && decide (data.length ≤ 65536)
              else false) := Lib.hid (by rw [HM2.out, ← hpb, ← hnb, HO.out]; rfl)
            rw [hpb, hnb]
            clear hpb hnb HM2
            have hws := OM3.out.bel.size
            have hwl := OM3.out.blk.lt
            have c_0 : w4.cell? ⟨w.heap.size, 0, none⟩ = some (.int .i64 time) := (OM3.out.blk).cell (o := 0) rfl
            have c_1 : w4.cell? ⟨w.heap.size, 1, none⟩ = some (.int .i64 node) := (OM3.out.blk).cell (o := 1) rfl
            have c_2 : w4.cell? ⟨w.heap.size, 2, none⟩ = some (.int .i64 seq) := (OM3.out.blk).cell (o := 2) rfl
            have c_3 : w4.cell? ⟨w.heap.size, 3, none⟩ = some (.int .i64 kind) := (OM3.out.blk).cell (o := 3) rfl
            have c_4 : w4.cell? ⟨w.heap.size, 4, none⟩ = some (.int .i64 ot) := (OM3.out.blk).cell (o := 4) rfl
            have c_5 : w4.cell? ⟨w.heap.size, 5, none⟩ = some (.int .i64 on) := (OM3.out.blk).cell (o := 5) rfl
            have c_6 : w4.cell? ⟨w.heap.size, 6, none⟩ = some (.int .i64 pt) := (OM3.out.blk).cell (o := 6) rfl
            have c_7 : w4.cell? ⟨w.heap.size, 7, none⟩ = some (.int .i64 pn) := (OM3.out.blk).cell (o := 7) rfl
            have c_8 : w4.cell? ⟨w.heap.size, 8, none⟩ = some (.string name) := (OM3.out.blk).cell (o := 8) rfl
            have c_9 : w4.cell? ⟨w.heap.size, 9, none⟩ = some (.slice da data.length dc) := (OM3.out.blk).cell (o := 9) rfl
            have c_10 : w4.cell? ⟨w.heap.size, 10, none⟩ = some (s) := (OM3.out.blk).cell (o := 10) rfl
            have hk3 : kind = 3 := HKK.out
            have hk1 : ¬ (kind = 1 ∨ kind = 2) := by omega
            have k1 : (kind == 1) = false := beq_eq_false_iff_ne.2 (fun e => hk1 (.inl e))
            have k2 : (kind == 2) = false := beq_eq_false_iff_ne.2 (fun e => hk1 (.inr e))
            have k3 : (kind == 3) = true := beq_iff_eq.2 hk3
            have HK3 : Hid (mayB O = (earlyB ot on time node && (pb || decide (pt = 0 ∧ pn = 1)) && nb)) := Lib.hid (by rw [HK.out, if_neg hk1, if_pos hk3])
            clear HK hk1 hk3
            have KE3 := Lib.hid (KE.out ot on)
            have hE : ∀ w, (binOp .eql 44 (.agg #[.int .i64 pt, .int .i64 pn]) (.agg #[.int .i64 0, .int .i64 1])).run Tryz.prog w = .ok (.bool (decide (pt = 0 ∧ pn = 1))) w := fun w => by rw [eqID, Bool.decide_and]
            generalize earlyB ot on time node = be at *
            generalize decide (pt = 0 ∧ pn = 1) = tb at *
            cases be
            · go_wp2
              clear c_0 c_1 c_2 c_3 c_4 c_5 c_6 c_7 c_8 c_9 c_10
              refine wp_region_held_drew (S := fun w' => (w'.cell? ⟨w.heap.size, 0, none⟩ = some (.int .i64 time) ∧ w'.cell? ⟨w.heap.size, 1, none⟩ = some (.int .i64 node) ∧ w'.cell? ⟨w.heap.size, 2, none⟩ = some (.int .i64 seq) ∧ w'.cell? ⟨w.heap.size, 3, none⟩ = some (.int .i64 kind) ∧ w'.cell? ⟨w.heap.size, 4, none⟩ = some (.int .i64 ot) ∧ w'.cell? ⟨w.heap.size, 5, none⟩ = some (.int .i64 on) ∧ w'.cell? ⟨w.heap.size, 6, none⟩ = some (.int .i64 pt) ∧ w'.cell? ⟨w.heap.size, 7, none⟩ = some (.int .i64 pn) ∧ w'.cell? ⟨w.heap.size, 8, none⟩ = some (.string name) ∧ w'.cell? ⟨w.heap.size, 9, none⟩ = some (.slice da data.length dc) ∧ w'.cell? ⟨w.heap.size, 10, none⟩ = some (s)) ∧ OMid w w.heap.size #[.int .i64 time, .int .i64 node, .int .i64 seq, .int .i64 kind, .int .i64 ot, .int .i64 on, .int .i64 pt, .int .i64 pn, .string name, .slice da data.length dc, s] w') (by kernel_rfl) ?_ (fun hHeld => ?_)
              · refine om_S ?_
                first | (with_reducible assumption) | exact OM3.out.drew | exact OMid.drew (And.right (by assumption)) | exact And.right (by assumption)
              refine wpAnyH_take (i := 0) (v := ?_) rfl (by kernel_rfl) (by kernel_rfl) (by kernel_rfl) (fun _ _ _ h => h) (Or.inl ⟨by kernel_rfl, ?_⟩) (by assumption) ?_
              rotate_left 1
              · (intro w hSw; (try dsimp only at hSw); go_simp; (try (with_reducible rfl)))
              (try simp only [List.getElem_toArray, List.getElem_cons_succ, List.getElem_cons_zero, Act.put, List.setIfInBounds_toArray, List.set_cons_zero, List.set_cons_succ])
              refine wpAnyH_take (i := 1) (v := ?_) rfl (by kernel_rfl) (by kernel_rfl) (by kernel_rfl) (fun _ _ _ h => h) (Or.inl ⟨by kernel_rfl, ?_⟩) (by assumption) ?_
              rotate_left 1
              · (intro w hSw; (try dsimp only at hSw); go_simp; (try (with_reducible rfl)))
              (try simp only [List.getElem_toArray, List.getElem_cons_succ, List.getElem_cons_zero, Act.put, List.setIfInBounds_toArray, List.set_cons_zero, List.set_cons_succ])
              refine wpAnyH_take (i := 2) (v := ?_) rfl (by kernel_rfl) (by kernel_rfl) (by kernel_rfl) (fun _ _ _ h => h) (Or.inl ⟨by kernel_rfl, ?_⟩) (by assumption) ?_
              rotate_left 1
              · (intro w hSw; (try dsimp only at hSw); go_simp; (try (with_reducible rfl)))
              (try simp only [List.getElem_toArray, List.getElem_cons_succ, List.getElem_cons_zero, Act.put, List.setIfInBounds_toArray, List.set_cons_zero, List.set_cons_succ])
              refine wpAnyH_ready (rs := [3]) (by kernel_rfl) (by simp) ?_
              refine AllReadyH.cons rfl (fun K hK => ?_) AllReadyH.nil
              go_simp
              go_wp2_with (go_at_call 76; (with_reducible refine (KE3.out _).mono ?_); rintro e w9 ⟨rfl, hb⟩; have g9 := OMid.below (And.right (by assumption)) hb; clear hb)
              refine hK.out _ _ ?_ (fun hHeld => ?_)
              · (try dsimp only)
                refine om_S ?_
                first | (with_reducible assumption) | exact OM3.out.drew | exact OMid.drew (And.right (by assumption)) | exact And.right (by assumption)
              clear hK K
              (try simp only [List.getElem_toArray, List.getElem_cons_succ, List.getElem_cons_zero, Act.put, List.setIfInBounds_toArray, List.set_cons_zero, List.set_cons_succ])
              refine wpAnyH_take (i := 4) (v := ?_) rfl (by kernel_rfl) (by kernel_rfl) (by kernel_rfl) (fun _ _ _ h => h) (Or.inl ⟨by kernel_rfl, ?_⟩) (by assumption) ?_
              rotate_left 1
              · (intro w hSw; (try dsimp only at hSw); go_simp; (try (with_reducible rfl)))
              (try simp only [List.getElem_toArray, List.getElem_cons_succ, List.getElem_cons_zero, Act.put, List.setIfInBounds_toArray, List.set_cons_zero, List.set_cons_succ])
              refine wpAnyH_take (i := 5) (v := undef) rfl (by kernel_rfl) (by kernel_rfl) (by kernel_rfl) (fun _ _ _ h => h) (Or.inr ⟨by kernel_rfl, rfl⟩) (by assumption) ?_
              (try simp only [List.getElem_toArray, List.getElem_cons_succ, List.getElem_cons_zero, Act.put, List.setIfInBounds_toArray, List.set_cons_zero, List.set_cons_succ])
              refine wpAnyH_take (i := 6) (v := undef) rfl (by kernel_rfl) (by kernel_rfl) (by kernel_rfl) (fun _ _ _ h => h) (Or.inr ⟨by kernel_rfl, rfl⟩) (by assumption) ?_
              (try simp only [List.getElem_toArray, List.getElem_cons_succ, List.getElem_cons_zero, Act.put, List.setIfInBounds_toArray, List.set_cons_zero, List.set_cons_succ])
              refine wpAnyH_take (i := 7) (v := undef) rfl (by kernel_rfl) (by kernel_rfl) (by kernel_rfl) (fun _ _ _ h => h) (Or.inr ⟨by kernel_rfl, rfl⟩) (by assumption) ?_
              (try simp only [List.getElem_toArray, List.getElem_cons_succ, List.getElem_cons_zero, Act.put, List.setIfInBounds_toArray, List.set_cons_zero, List.set_cons_succ])
              refine wpAnyH_take (i := 8) (v := undef) rfl (by kernel_rfl) (by kernel_rfl) (by kernel_rfl) (fun _ _ _ h => h) (Or.inr ⟨by kernel_rfl, rfl⟩) (by assumption) ?_
              (try simp only [List.getElem_toArray, List.getElem_cons_succ, List.getElem_cons_zero, Act.put, List.setIfInBounds_toArray, List.set_cons_zero, List.set_cons_succ])
              refine wpAnyH_take (i := 9) (v := undef) rfl (by kernel_rfl) (by kernel_rfl) (by kernel_rfl) (fun _ _ _ h => h) (Or.inr ⟨by kernel_rfl, rfl⟩) (by assumption) ?_
              (try simp only [List.getElem_toArray, List.getElem_cons_succ, List.getElem_cons_zero, Act.put, List.setIfInBounds_toArray, List.set_cons_zero, List.set_cons_succ])
              refine wpAnyH_take (i := 10) (v := undef) rfl (by kernel_rfl) (by kernel_rfl) (by kernel_rfl) (fun _ _ _ h => h) (Or.inr ⟨by kernel_rfl, rfl⟩) (by assumption) ?_
              (try simp only [List.getElem_toArray, List.getElem_cons_succ, List.getElem_cons_zero, Act.put, List.setIfInBounds_toArray, List.set_cons_zero, List.set_cons_succ])
              refine wpAnyH_take (i := 11) (v := undef) rfl (by kernel_rfl) (by kernel_rfl) (by kernel_rfl) (fun _ _ _ h => h) (Or.inr ⟨by kernel_rfl, rfl⟩) (by assumption) ?_
              (try simp only [List.getElem_toArray, List.getElem_cons_succ, List.getElem_cons_zero, Act.put, List.setIfInBounds_toArray, List.set_cons_zero, List.set_cons_succ])
              refine wpAnyH_take (i := 12) (v := ?_) rfl (by kernel_rfl) (by kernel_rfl) (by kernel_rfl) (fun _ _ _ h => h) (Or.inl ⟨by kernel_rfl, ?_⟩) (by assumption) ?_
              rotate_left 1
              · (intro w hSw; (try dsimp only at hSw); go_simp; (try (with_reducible rfl)))
              (try simp only [List.getElem_toArray, List.getElem_cons_succ, List.getElem_cons_zero, Act.put, List.setIfInBounds_toArray, List.set_cons_zero, List.set_cons_succ])
              refine wpAnyH_take (i := 13) (v := ?_) rfl (by kernel_rfl) (by kernel_rfl) (by kernel_rfl) (fun _ _ _ h => h) (Or.inl ⟨by kernel_rfl, ?_⟩) (by assumption) ?_
              rotate_left 1
              · (intro w hSw; (try dsimp only at hSw); go_simp; (try (with_reducible rfl)))
              (try simp only [List.getElem_toArray, List.getElem_cons_succ, List.getElem_cons_zero, Act.put, List.setIfInBounds_toArray, List.set_cons_zero, List.set_cons_succ])
              refine wpAnyH_take (i := 14) (v := undef) rfl (by kernel_rfl) (by kernel_rfl) (by kernel_rfl) (fun _ _ _ h => h) (Or.inr ⟨by kernel_rfl, rfl⟩) (by assumption) ?_
              (try simp only [List.getElem_toArray, List.getElem_cons_succ, List.getElem_cons_zero, Act.put, List.setIfInBounds_toArray, List.set_cons_zero, List.set_cons_succ])
              refine wpAnyH_take (i := 15) (v := ?_) rfl (by kernel_rfl) (by kernel_rfl) (by kernel_rfl) (fun _ _ _ h => h) (Or.inl ⟨by kernel_rfl, ?_⟩) (by assumption) ?_
              rotate_left 1
              · (intro w hSw; (try dsimp only at hSw); go_simp; (try (with_reducible rfl)))
              (try simp only [List.getElem_toArray, List.getElem_cons_succ, List.getElem_cons_zero, Act.put, List.setIfInBounds_toArray, List.set_cons_zero, List.set_cons_succ])
              refine wpAnyH_take (i := 16) (v := ?_) rfl (by kernel_rfl) (by kernel_rfl) (by kernel_rfl) (fun _ _ _ h => h) (Or.inl ⟨by kernel_rfl, ?_⟩) (by assumption) ?_
              rotate_left 1
              · (intro w hSw; (try dsimp only at hSw); go_simp; (try (with_reducible rfl)))
              (try simp only [List.getElem_toArray, List.getElem_cons_succ, List.getElem_cons_zero, Act.put, List.setIfInBounds_toArray, List.set_cons_zero, List.set_cons_succ])
              refine wpAnyH_done (by kernel_rfl) ?_ _
              have OM1 := Lib.hid (And.right hHeld)
              clear hHeld
              go_wp2
              go_ret
              exact ⟨ret_b (by rw [← HO.out, HK3.out]; rfl), OM1.out.bel⟩
            · cases pb
              · cases tb
                · go_wp2
                  clear c_0 c_1 c_2 c_3 c_4 c_5 c_6 c_7 c_8 c_9 c_10
                  refine wp_region_held_drew (S := fun w' => (w'.cell? ⟨w.heap.size, 0, none⟩ = some (.int .i64 time) ∧ w'.cell? ⟨w.heap.size, 1, none⟩ = some (.int .i64 node) ∧ w'.cell? ⟨w.heap.size, 2, none⟩ = some (.int .i64 seq) ∧ w'.cell? ⟨w.heap.size, 3, none⟩ = some (.int .i64 kind) ∧ w'.cell? ⟨w.heap.size, 4, none⟩ = some (.int .i64 ot) ∧ w'.cell? ⟨w.heap.size, 5, none⟩ = some (.int .i64 on) ∧ w'.cell? ⟨w.heap.size, 6, none⟩ = some (.int .i64 pt) ∧ w'.cell? ⟨w.heap.size, 7, none⟩ = some (.int .i64 pn) ∧ w'.cell? ⟨w.heap.size, 8, none⟩ = some (.string name) ∧ w'.cell? ⟨w.heap.size, 9, none⟩ = some (.slice da data.length dc) ∧ w'.cell? ⟨w.heap.size, 10, none⟩ = some (s)) ∧ OMid w w.heap.size #[.int .i64 time, .int .i64 node, .int .i64 seq, .int .i64 kind, .int .i64 ot, .int .i64 on, .int .i64 pt, .int .i64 pn, .string name, .slice da data.length dc, s] w') (by kernel_rfl) ?_ (fun hHeld => ?_)
                  · refine om_S ?_
                    first | (with_reducible assumption) | exact OM3.out.drew | exact OMid.drew (And.right (by assumption)) | exact And.right (by assumption)
                  refine wpAnyH_take (i := 0) (v := ?_) rfl (by kernel_rfl) (by kernel_rfl) (by kernel_rfl) (fun _ _ _ h => h) (Or.inl ⟨by kernel_rfl, ?_⟩) (by assumption) ?_
                  rotate_left 1
                  · (intro w hSw; (try dsimp only at hSw); go_simp; (try (with_reducible rfl)))
                  (try simp only [List.getElem_toArray, List.getElem_cons_succ, List.getElem_cons_zero, Act.put, List.setIfInBounds_toArray, List.set_cons_zero, List.set_cons_succ])
                  refine wpAnyH_take (i := 1) (v := ?_) rfl (by kernel_rfl) (by kernel_rfl) (by kernel_rfl) (fun _ _ _ h => h) (Or.inl ⟨by kernel_rfl, ?_⟩) (by assumption) ?_
                  rotate_left 1
                  · (intro w hSw; (try dsimp only at hSw); go_simp; (try (with_reducible rfl)))
                  (try simp only [List.getElem_toArray, List.getElem_cons_succ, List.getElem_cons_zero, Act.put, List.setIfInBounds_toArray, List.set_cons_zero, List.set_cons_succ])
                  refine wpAnyH_take (i := 2) (v := ?_) rfl (by kernel_rfl) (by kernel_rfl) (by kernel_rfl) (fun _ _ _ h => h) (Or.inl ⟨by kernel_rfl, ?_⟩) (by assumption) ?_
                  rotate_left 1
                  · (intro w hSw; (try dsimp only at hSw); go_simp; (try (with_reducible rfl)))
                  (try simp only [List.getElem_toArray, List.getElem_cons_succ, List.getElem_cons_zero, Act.put, List.setIfInBounds_toArray, List.set_cons_zero, List.set_cons_succ])
                  refine wpAnyH_ready (rs := [3]) (by kernel_rfl) (by simp) ?_
                  refine AllReadyH.cons rfl (fun K hK => ?_) AllReadyH.nil
                  go_simp
                  go_wp2_with (go_at_call 76; (with_reducible refine (KE3.out _).mono ?_); rintro e w9 ⟨rfl, hb⟩; have g9 := OMid.below (And.right (by assumption)) hb; clear hb)
                  refine hK.out _ _ ?_ (fun hHeld => ?_)
                  · (try dsimp only)
                    refine om_S ?_
                    first | (with_reducible assumption) | exact OM3.out.drew | exact OMid.drew (And.right (by assumption)) | exact And.right (by assumption)
                  clear hK K
                  (try simp only [List.getElem_toArray, List.getElem_cons_succ, List.getElem_cons_zero, Act.put, List.setIfInBounds_toArray, List.set_cons_zero, List.set_cons_succ])
                  refine wpAnyH_take (i := 4) (v := ?_) rfl (by kernel_rfl) (by kernel_rfl) (by kernel_rfl) (fun _ _ _ h => h) (Or.inl ⟨by kernel_rfl, ?_⟩) (by assumption) ?_
                  rotate_left 1
                  · (intro w hSw; (try dsimp only at hSw); go_simp; (try (with_reducible rfl)))
                  (try simp only [List.getElem_toArray, List.getElem_cons_succ, List.getElem_cons_zero, Act.put, List.setIfInBounds_toArray, List.set_cons_zero, List.set_cons_succ])
                  refine wpAnyH_take (i := 5) (v := ?_) rfl (by kernel_rfl) (by kernel_rfl) (by kernel_rfl) (fun _ _ _ h => h) (Or.inl ⟨by kernel_rfl, ?_⟩) (by assumption) ?_
                  rotate_left 1
                  · (intro w hSw; (try dsimp only at hSw); go_simp; (try (with_reducible rfl)))
                  (try simp only [List.getElem_toArray, List.getElem_cons_succ, List.getElem_cons_zero, Act.put, List.setIfInBounds_toArray, List.set_cons_zero, List.set_cons_succ])
                  refine wpAnyH_take (i := 6) (v := ?_) rfl (by kernel_rfl) (by kernel_rfl) (by kernel_rfl) (fun _ _ _ h => h) (Or.inl ⟨by kernel_rfl, ?_⟩) (by assumption) ?_
                  rotate_left 1
                  · (intro w hSw; (try dsimp only at hSw); go_simp; (try (with_reducible rfl)))
                  (try simp only [List.getElem_toArray, List.getElem_cons_succ, List.getElem_cons_zero, Act.put, List.setIfInBounds_toArray, List.set_cons_zero, List.set_cons_succ])
                  refine wpAnyH_take (i := 7) (v := ?_) rfl (by kernel_rfl) (by kernel_rfl) (by kernel_rfl) (fun _ _ _ h => h) (Or.inl ⟨by kernel_rfl, ?_⟩) (by assumption) ?_
                  rotate_left 1
                  · (intro w hSw; (try dsimp only at hSw); go_simp; (try (with_reducible rfl)))
                  (try simp only [List.getElem_toArray, List.getElem_cons_succ, List.getElem_cons_zero, Act.put, List.setIfInBounds_toArray, List.set_cons_zero, List.set_cons_succ])
                  refine wpAnyH_take (i := 8) (v := ?_) rfl (by kernel_rfl) (by kernel_rfl) (by kernel_rfl) (fun _ _ _ h => h) (Or.inl ⟨by kernel_rfl, ?_⟩) (by assumption) ?_
                  rotate_left 1
                  · (intro w hSw; (try dsimp only at hSw); go_simp; (try (with_reducible rfl)))
                  (try simp only [List.getElem_toArray, List.getElem_cons_succ, List.getElem_cons_zero, Act.put, List.setIfInBounds_toArray, List.set_cons_zero, List.set_cons_succ])
                  refine wpAnyH_ready (rs := [9]) (by kernel_rfl) (by simp) ?_
                  refine AllReadyH.cons rfl (fun K hK => ?_) AllReadyH.nil
                  go_simp
                  go_wp2_with (go_at_call 77; (with_reducible refine (opsTrash _).mono ?_); rintro e w9 ⟨rfl, hb⟩; have g9 := OMid.below (And.right (by assumption)) hb; clear hb)
                  refine hK.out _ _ ?_ (fun hHeld => ?_)
                  · (try dsimp only)
                    refine om_S ?_
                    first | (with_reducible assumption) | exact OM3.out.drew | exact OMid.drew (And.right (by assumption)) | exact And.right (by assumption)
                  clear hK K
                  (try simp only [List.getElem_toArray, List.getElem_cons_succ, List.getElem_cons_zero, Act.put, List.setIfInBounds_toArray, List.set_cons_zero, List.set_cons_succ])
                  refine wpAnyH_take (i := 10) (v := ?_) rfl (by kernel_rfl) (by kernel_rfl) (by kernel_rfl) (fun _ _ _ h => h) (Or.inl ⟨by kernel_rfl, ?_⟩) (by assumption) ?_
                  rotate_left 1
                  · (intro w hSw; (try dsimp only at hSw); go_simp; (try (with_reducible rfl)))
                  (try simp only [List.getElem_toArray, List.getElem_cons_succ, List.getElem_cons_zero, Act.put, List.setIfInBounds_toArray, List.set_cons_zero, List.set_cons_succ])
                  refine wpAnyH_take (i := 11) (v := ?_) rfl (by kernel_rfl) (by kernel_rfl) (by kernel_rfl) (fun _ _ _ h => h) (Or.inl ⟨by kernel_rfl, ?_⟩) (by assumption) ?_
                  rotate_left 1
                  · (intro w hSw; (try dsimp only at hSw); go_simp; (try (with_reducible rfl)))
                  (try simp only [List.getElem_toArray, List.getElem_cons_succ, List.getElem_cons_zero, Act.put, List.setIfInBounds_toArray, List.set_cons_zero, List.set_cons_succ])
                  refine wpAnyH_take (i := 12) (v := ?_) rfl (by kernel_rfl) (by kernel_rfl) (by kernel_rfl) (fun _ _ _ h => h) (Or.inl ⟨by kernel_rfl, ?_⟩) (by assumption) ?_
                  rotate_left 1
                  · (intro w hSw; (try dsimp only at hSw); go_simp; (try (with_reducible rfl)))
                  (try simp only [List.getElem_toArray, List.getElem_cons_succ, List.getElem_cons_zero, Act.put, List.setIfInBounds_toArray, List.set_cons_zero, List.set_cons_succ])
                  refine wpAnyH_take (i := 13) (v := ?_) rfl (by kernel_rfl) (by kernel_rfl) (by kernel_rfl) (fun _ _ _ h => h) (Or.inl ⟨by kernel_rfl, ?_⟩) (by assumption) ?_
                  rotate_left 1
                  · (intro w hSw; (try dsimp only at hSw); go_simp; (try (with_reducible rfl)))
                  (try simp only [List.getElem_toArray, List.getElem_cons_succ, List.getElem_cons_zero, Act.put, List.setIfInBounds_toArray, List.set_cons_zero, List.set_cons_succ])
                  refine wpAnyH_take (i := 14) (v := undef) rfl (by kernel_rfl) (by kernel_rfl) (by kernel_rfl) (fun _ _ _ h => h) (Or.inr ⟨by kernel_rfl, rfl⟩) (by assumption) ?_
                  (try simp only [List.getElem_toArray, List.getElem_cons_succ, List.getElem_cons_zero, Act.put, List.setIfInBounds_toArray, List.set_cons_zero, List.set_cons_succ])
                  refine wpAnyH_take (i := 15) (v := ?_) rfl (by kernel_rfl) (by kernel_rfl) (by kernel_rfl) (fun _ _ _ h => h) (Or.inl ⟨by kernel_rfl, ?_⟩) (by assumption) ?_
                  rotate_left 1
                  · (intro w hSw; (try dsimp only at hSw); go_simp; (try (with_reducible rfl)))
                  (try simp only [List.getElem_toArray, List.getElem_cons_succ, List.getElem_cons_zero, Act.put, List.setIfInBounds_toArray, List.set_cons_zero, List.set_cons_succ])
                  refine wpAnyH_take (i := 16) (v := ?_) rfl (by kernel_rfl) (by kernel_rfl) (by kernel_rfl) (fun _ _ _ h => h) (Or.inl ⟨by kernel_rfl, ?_⟩) (by assumption) ?_
                  rotate_left 1
                  · (intro w hSw; (try dsimp only at hSw); go_simp; (try (with_reducible rfl)))
                  (try simp only [List.getElem_toArray, List.getElem_cons_succ, List.getElem_cons_zero, Act.put, List.setIfInBounds_toArray, List.set_cons_zero, List.set_cons_succ])
                  refine wpAnyH_done (by kernel_rfl) ?_ _
                  have OM1 := Lib.hid (And.right hHeld)
                  clear hHeld
                  go_wp2
                  go_ret
                  exact ⟨ret_b (by rw [← HO.out, HK3.out]; rfl), OM1.out.bel⟩
                · go_wp2
                  clear c_0 c_1 c_2 c_3 c_4 c_5 c_6 c_7 c_8 c_9 c_10
                  refine wp_region_held_drew (S := fun w' => (w'.cell? ⟨w.heap.size, 0, none⟩ = some (.int .i64 time) ∧ w'.cell? ⟨w.heap.size, 1, none⟩ = some (.int .i64 node) ∧ w'.cell? ⟨w.heap.size, 2, none⟩ = some (.int .i64 seq) ∧ w'.cell? ⟨w.heap.size, 3, none⟩ = some (.int .i64 kind) ∧ w'.cell? ⟨w.heap.size, 4, none⟩ = some (.int .i64 ot) ∧ w'.cell? ⟨w.heap.size, 5, none⟩ = some (.int .i64 on) ∧ w'.cell? ⟨w.heap.size, 6, none⟩ = some (.int .i64 pt) ∧ w'.cell? ⟨w.heap.size, 7, none⟩ = some (.int .i64 pn) ∧ w'.cell? ⟨w.heap.size, 8, none⟩ = some (.string name) ∧ w'.cell? ⟨w.heap.size, 9, none⟩ = some (.slice da data.length dc) ∧ w'.cell? ⟨w.heap.size, 10, none⟩ = some (s)) ∧ OMid w w.heap.size #[.int .i64 time, .int .i64 node, .int .i64 seq, .int .i64 kind, .int .i64 ot, .int .i64 on, .int .i64 pt, .int .i64 pn, .string name, .slice da data.length dc, s] w') (by kernel_rfl) ?_ (fun hHeld => ?_)
                  · refine om_S ?_
                    first | (with_reducible assumption) | exact OM3.out.drew | exact OMid.drew (And.right (by assumption)) | exact And.right (by assumption)
                  refine wpAnyH_take (i := 0) (v := ?_) rfl (by kernel_rfl) (by kernel_rfl) (by kernel_rfl) (fun _ _ _ h => h) (Or.inl ⟨by kernel_rfl, ?_⟩) (by assumption) ?_
                  rotate_left 1
                  · (intro w hSw; (try dsimp only at hSw); go_simp; (try (with_reducible rfl)))
                  (try simp only [List.getElem_toArray, List.getElem_cons_succ, List.getElem_cons_zero, Act.put, List.setIfInBounds_toArray, List.set_cons_zero, List.set_cons_succ])
                  refine wpAnyH_take (i := 1) (v := ?_) rfl (by kernel_rfl) (by kernel_rfl) (by kernel_rfl) (fun _ _ _ h => h) (Or.inl ⟨by kernel_rfl, ?_⟩) (by assumption) ?_
                  rotate_left 1
                  · (intro w hSw; (try dsimp only at hSw); go_simp; (try (with_reducible rfl)))
                  (try simp only [List.getElem_toArray, List.getElem_cons_succ, List.getElem_cons_zero, Act.put, List.setIfInBounds_toArray, List.set_cons_zero, List.set_cons_succ])
                  refine wpAnyH_take (i := 2) (v := ?_) rfl (by kernel_rfl) (by kernel_rfl) (by kernel_rfl) (fun _ _ _ h => h) (Or.inl ⟨by kernel_rfl, ?_⟩) (by assumption) ?_
                  rotate_left 1
                  · (intro w hSw; (try dsimp only at hSw); go_simp; (try (with_reducible rfl)))
                  (try simp only [List.getElem_toArray, List.getElem_cons_succ, List.getElem_cons_zero, Act.put, List.setIfInBounds_toArray, List.set_cons_zero, List.set_cons_succ])
                  refine wpAnyH_ready (rs := [3]) (by kernel_rfl) (by simp) ?_
                  refine AllReadyH.cons rfl (fun K hK => ?_) AllReadyH.nil
                  go_simp
                  go_wp2_with (go_at_call 76; (with_reducible refine (KE3.out _).mono ?_); rintro e w9 ⟨rfl, hb⟩; have g9 := OMid.below (And.right (by assumption)) hb; clear hb)
                  refine hK.out _ _ ?_ (fun hHeld => ?_)
                  · (try dsimp only)
                    refine om_S ?_
                    first | (with_reducible assumption) | exact OM3.out.drew | exact OMid.drew (And.right (by assumption)) | exact And.right (by assumption)
                  clear hK K
                  (try simp only [List.getElem_toArray, List.getElem_cons_succ, List.getElem_cons_zero, Act.put, List.setIfInBounds_toArray, List.set_cons_zero, List.set_cons_succ])
                  refine wpAnyH_take (i := 4) (v := ?_) rfl (by kernel_rfl) (by kernel_rfl) (by kernel_rfl) (fun _ _ _ h => h) (Or.inl ⟨by kernel_rfl, ?_⟩) (by assumption) ?_
                  rotate_left 1
                  · (intro w hSw; (try dsimp only at hSw); go_simp; (try (with_reducible rfl)))
                  (try simp only [List.getElem_toArray, List.getElem_cons_succ, List.getElem_cons_zero, Act.put, List.setIfInBounds_toArray, List.set_cons_zero, List.set_cons_succ])
                  refine wpAnyH_take (i := 5) (v := ?_) rfl (by kernel_rfl) (by kernel_rfl) (by kernel_rfl) (fun _ _ _ h => h) (Or.inl ⟨by kernel_rfl, ?_⟩) (by assumption) ?_
                  rotate_left 1
                  · (intro w hSw; (try dsimp only at hSw); go_simp; (try (with_reducible rfl)))
                  (try simp only [List.getElem_toArray, List.getElem_cons_succ, List.getElem_cons_zero, Act.put, List.setIfInBounds_toArray, List.set_cons_zero, List.set_cons_succ])
                  refine wpAnyH_take (i := 6) (v := ?_) rfl (by kernel_rfl) (by kernel_rfl) (by kernel_rfl) (fun _ _ _ h => h) (Or.inl ⟨by kernel_rfl, ?_⟩) (by assumption) ?_
                  rotate_left 1
                  · (intro w hSw; (try dsimp only at hSw); go_simp; (try (with_reducible rfl)))
                  (try simp only [List.getElem_toArray, List.getElem_cons_succ, List.getElem_cons_zero, Act.put, List.setIfInBounds_toArray, List.set_cons_zero, List.set_cons_succ])
                  refine wpAnyH_take (i := 7) (v := ?_) rfl (by kernel_rfl) (by kernel_rfl) (by kernel_rfl) (fun _ _ _ h => h) (Or.inl ⟨by kernel_rfl, ?_⟩) (by assumption) ?_
                  rotate_left 1
                  · (intro w hSw; (try dsimp only at hSw); go_simp; (try (with_reducible rfl)))
                  (try simp only [List.getElem_toArray, List.getElem_cons_succ, List.getElem_cons_zero, Act.put, List.setIfInBounds_toArray, List.set_cons_zero, List.set_cons_succ])
                  refine wpAnyH_take (i := 8) (v := ?_) rfl (by kernel_rfl) (by kernel_rfl) (by kernel_rfl) (fun _ _ _ h => h) (Or.inl ⟨by kernel_rfl, ?_⟩) (by assumption) ?_
                  rotate_left 1
                  · (intro w hSw; (try dsimp only at hSw); go_simp; (try (with_reducible rfl)))
                  (try simp only [List.getElem_toArray, List.getElem_cons_succ, List.getElem_cons_zero, Act.put, List.setIfInBounds_toArray, List.set_cons_zero, List.set_cons_succ])
                  refine wpAnyH_ready (rs := [9]) (by kernel_rfl) (by simp) ?_
                  refine AllReadyH.cons rfl (fun K hK => ?_) AllReadyH.nil
                  go_simp
                  go_wp2_with (go_at_call 77; (with_reducible refine (opsTrash _).mono ?_); rintro e w9 ⟨rfl, hb⟩; have g9 := OMid.below (And.right (by assumption)) hb; clear hb)
                  refine hK.out _ _ ?_ (fun hHeld => ?_)
                  · (try dsimp only)
                    refine om_S ?_
                    first | (with_reducible assumption) | exact OM3.out.drew | exact OMid.drew (And.right (by assumption)) | exact And.right (by assumption)
                  clear hK K
                  (try simp only [List.getElem_toArray, List.getElem_cons_succ, List.getElem_cons_zero, Act.put, List.setIfInBounds_toArray, List.set_cons_zero, List.set_cons_succ])
                  refine wpAnyH_take (i := 10) (v := ?_) rfl (by kernel_rfl) (by kernel_rfl) (by kernel_rfl) (fun _ _ _ h => h) (Or.inl ⟨by kernel_rfl, ?_⟩) (by assumption) ?_
                  rotate_left 1
                  · (intro w hSw; (try dsimp only at hSw); go_simp; (try (with_reducible rfl)))
                  (try simp only [List.getElem_toArray, List.getElem_cons_succ, List.getElem_cons_zero, Act.put, List.setIfInBounds_toArray, List.set_cons_zero, List.set_cons_succ])
                  refine wpAnyH_take (i := 11) (v := ?_) rfl (by kernel_rfl) (by kernel_rfl) (by kernel_rfl) (fun _ _ _ h => h) (Or.inl ⟨by kernel_rfl, ?_⟩) (by assumption) ?_
                  rotate_left 1
                  · (intro w hSw; (try dsimp only at hSw); go_simp; (try (with_reducible rfl)))
                  (try simp only [List.getElem_toArray, List.getElem_cons_succ, List.getElem_cons_zero, Act.put, List.setIfInBounds_toArray, List.set_cons_zero, List.set_cons_succ])
                  refine wpAnyH_take (i := 12) (v := ?_) rfl (by kernel_rfl) (by kernel_rfl) (by kernel_rfl) (fun _ _ _ h => h) (Or.inl ⟨by kernel_rfl, ?_⟩) (by assumption) ?_
                  rotate_left 1
                  · (intro w hSw; (try dsimp only at hSw); go_simp; (try (with_reducible rfl)))
                  (try simp only [List.getElem_toArray, List.getElem_cons_succ, List.getElem_cons_zero, Act.put, List.setIfInBounds_toArray, List.set_cons_zero, List.set_cons_succ])
                  refine wpAnyH_take (i := 13) (v := ?_) rfl (by kernel_rfl) (by kernel_rfl) (by kernel_rfl) (fun _ _ _ h => h) (Or.inl ⟨by kernel_rfl, ?_⟩) (by assumption) ?_
                  rotate_left 1
                  · (intro w hSw; (try dsimp only at hSw); go_simp; (try (with_reducible rfl)))
                  (try simp only [List.getElem_toArray, List.getElem_cons_succ, List.getElem_cons_zero, Act.put, List.setIfInBounds_toArray, List.set_cons_zero, List.set_cons_succ])
                  refine wpAnyH_take (i := 14) (v := ?_) rfl (by kernel_rfl) (by kernel_rfl) (by kernel_rfl) (fun _ _ _ h => h) (Or.inl ⟨by kernel_rfl, ?_⟩) (by assumption) ?_
                  rotate_left 1
                  · (intro w hSw; (try dsimp only at hSw); go_simp; (try (with_reducible rfl)))
                  (try simp only [List.getElem_toArray, List.getElem_cons_succ, List.getElem_cons_zero, Act.put, List.setIfInBounds_toArray, List.set_cons_zero, List.set_cons_succ])
                  refine wpAnyH_take (i := 15) (v := ?_) rfl (by kernel_rfl) (by kernel_rfl) (by kernel_rfl) (fun _ _ _ h => h) (Or.inl ⟨by kernel_rfl, ?_⟩) (by assumption) ?_
                  rotate_left 1
                  · (intro w hSw; (try dsimp only at hSw); go_simp; (try (with_reducible rfl)))
                  (try simp only [List.getElem_toArray, List.getElem_cons_succ, List.getElem_cons_zero, Act.put, List.setIfInBounds_toArray, List.set_cons_zero, List.set_cons_succ])
                  refine wpAnyH_take (i := 16) (v := ?_) rfl (by kernel_rfl) (by kernel_rfl) (by kernel_rfl) (fun _ _ _ h => h) (Or.inl ⟨by kernel_rfl, ?_⟩) (by assumption) ?_
                  rotate_left 1
                  · (intro w hSw; (try dsimp only at hSw); go_simp; (try (with_reducible rfl)))
                  (try simp only [List.getElem_toArray, List.getElem_cons_succ, List.getElem_cons_zero, Act.put, List.setIfInBounds_toArray, List.set_cons_zero, List.set_cons_succ])
                  refine wpAnyH_done (by kernel_rfl) ?_ _
                  have OM1 := Lib.hid (And.right hHeld)
                  clear hHeld
                  go_wp2
                  go_ret
                  exact ⟨ret_b (by rw [← HO.out, HK3.out]; rfl), OM1.out.bel⟩
              · go_wp2
                clear c_0 c_1 c_2 c_3 c_4 c_5 c_6 c_7 c_8 c_9 c_10
                refine wp_region_held_drew (S := fun w' => (w'.cell? ⟨w.heap.size, 0, none⟩ = some (.int .i64 time) ∧ w'.cell? ⟨w.heap.size, 1, none⟩ = some (.int .i64 node) ∧ w'.cell? ⟨w.heap.size, 2, none⟩ = some (.int .i64 seq) ∧ w'.cell? ⟨w.heap.size, 3, none⟩ = some (.int .i64 kind) ∧ w'.cell? ⟨w.heap.size, 4, none⟩ = some (.int .i64 ot) ∧ w'.cell? ⟨w.heap.size, 5, none⟩ = some (.int .i64 on) ∧ w'.cell? ⟨w.heap.size, 6, none⟩ = some (.int .i64 pt) ∧ w'.cell? ⟨w.heap.size, 7, none⟩ = some (.int .i64 pn) ∧ w'.cell? ⟨w.heap.size, 8, none⟩ = some (.string name) ∧ w'.cell? ⟨w.heap.size, 9, none⟩ = some (.slice da data.length dc) ∧ w'.cell? ⟨w.heap.size, 10, none⟩ = some (s)) ∧ OMid w w.heap.size #[.int .i64 time, .int .i64 node, .int .i64 seq, .int .i64 kind, .int .i64 ot, .int .i64 on, .int .i64 pt, .int .i64 pn, .string name, .slice da data.length dc, s] w') (by kernel_rfl) ?_ (fun hHeld => ?_)
                · refine om_S ?_
                  first | (with_reducible assumption) | exact OM3.out.drew | exact OMid.drew (And.right (by assumption)) | exact And.right (by assumption)
                refine wpAnyH_take (i := 0) (v := ?_) rfl (by kernel_rfl) (by kernel_rfl) (by kernel_rfl) (fun _ _ _ h => h) (Or.inl ⟨by kernel_rfl, ?_⟩) (by assumption) ?_
                rotate_left 1
                · (intro w hSw; (try dsimp only at hSw); go_simp; (try (with_reducible rfl)))
                (try simp only [List.getElem_toArray, List.getElem_cons_succ, List.getElem_cons_zero, Act.put, List.setIfInBounds_toArray, List.set_cons_zero, List.set_cons_succ])
                refine wpAnyH_take (i := 1) (v := ?_) rfl (by kernel_rfl) (by kernel_rfl) (by kernel_rfl) (fun _ _ _ h => h) (Or.inl ⟨by kernel_rfl, ?_⟩) (by assumption) ?_
                rotate_left 1
                · (intro w hSw; (try dsimp only at hSw); go_simp; (try (with_reducible rfl)))
                (try simp only [List.getElem_toArray, List.getElem_cons_succ, List.getElem_cons_zero, Act.put, List.setIfInBounds_toArray, List.set_cons_zero, List.set_cons_succ])
                refine wpAnyH_take (i := 2) (v := ?_) rfl (by kernel_rfl) (by kernel_rfl) (by kernel_rfl) (fun _ _ _ h => h) (Or.inl ⟨by kernel_rfl, ?_⟩) (by assumption) ?_
                rotate_left 1
                · (intro w hSw; (try dsimp only at hSw); go_simp; (try (with_reducible rfl)))
                (try simp only [List.getElem_toArray, List.getElem_cons_succ, List.getElem_cons_zero, Act.put, List.setIfInBounds_toArray, List.set_cons_zero, List.set_cons_succ])
                refine wpAnyH_ready (rs := [3]) (by kernel_rfl) (by simp) ?_
                refine AllReadyH.cons rfl (fun K hK => ?_) AllReadyH.nil
                go_simp
                go_wp2_with (go_at_call 76; (with_reducible refine (KE3.out _).mono ?_); rintro e w9 ⟨rfl, hb⟩; have g9 := OMid.below (And.right (by assumption)) hb; clear hb)
                refine hK.out _ _ ?_ (fun hHeld => ?_)
                · (try dsimp only)
                  refine om_S ?_
                  first | (with_reducible assumption) | exact OM3.out.drew | exact OMid.drew (And.right (by assumption)) | exact And.right (by assumption)
                clear hK K
                (try simp only [List.getElem_toArray, List.getElem_cons_succ, List.getElem_cons_zero, Act.put, List.setIfInBounds_toArray, List.set_cons_zero, List.set_cons_succ])
                refine wpAnyH_take (i := 4) (v := ?_) rfl (by kernel_rfl) (by kernel_rfl) (by kernel_rfl) (fun _ _ _ h => h) (Or.inl ⟨by kernel_rfl, ?_⟩) (by assumption) ?_
                rotate_left 1
                · (intro w hSw; (try dsimp only at hSw); go_simp; (try (with_reducible rfl)))
                (try simp only [List.getElem_toArray, List.getElem_cons_succ, List.getElem_cons_zero, Act.put, List.setIfInBounds_toArray, List.set_cons_zero, List.set_cons_succ])
                refine wpAnyH_take (i := 5) (v := ?_) rfl (by kernel_rfl) (by kernel_rfl) (by kernel_rfl) (fun _ _ _ h => h) (Or.inl ⟨by kernel_rfl, ?_⟩) (by assumption) ?_
                rotate_left 1
                · (intro w hSw; (try dsimp only at hSw); go_simp; (try (with_reducible rfl)))
                (try simp only [List.getElem_toArray, List.getElem_cons_succ, List.getElem_cons_zero, Act.put, List.setIfInBounds_toArray, List.set_cons_zero, List.set_cons_succ])
                refine wpAnyH_take (i := 6) (v := ?_) rfl (by kernel_rfl) (by kernel_rfl) (by kernel_rfl) (fun _ _ _ h => h) (Or.inl ⟨by kernel_rfl, ?_⟩) (by assumption) ?_
                rotate_left 1
                · (intro w hSw; (try dsimp only at hSw); go_simp; (try (with_reducible rfl)))
                (try simp only [List.getElem_toArray, List.getElem_cons_succ, List.getElem_cons_zero, Act.put, List.setIfInBounds_toArray, List.set_cons_zero, List.set_cons_succ])
                refine wpAnyH_take (i := 7) (v := undef) rfl (by kernel_rfl) (by kernel_rfl) (by kernel_rfl) (fun _ _ _ h => h) (Or.inr ⟨by kernel_rfl, rfl⟩) (by assumption) ?_
                (try simp only [List.getElem_toArray, List.getElem_cons_succ, List.getElem_cons_zero, Act.put, List.setIfInBounds_toArray, List.set_cons_zero, List.set_cons_succ])
                refine wpAnyH_take (i := 8) (v := undef) rfl (by kernel_rfl) (by kernel_rfl) (by kernel_rfl) (fun _ _ _ h => h) (Or.inr ⟨by kernel_rfl, rfl⟩) (by assumption) ?_
                (try simp only [List.getElem_toArray, List.getElem_cons_succ, List.getElem_cons_zero, Act.put, List.setIfInBounds_toArray, List.set_cons_zero, List.set_cons_succ])
                refine wpAnyH_take (i := 9) (v := undef) rfl (by kernel_rfl) (by kernel_rfl) (by kernel_rfl) (fun _ _ _ h => h) (Or.inr ⟨by kernel_rfl, rfl⟩) (by assumption) ?_
                (try simp only [List.getElem_toArray, List.getElem_cons_succ, List.getElem_cons_zero, Act.put, List.setIfInBounds_toArray, List.set_cons_zero, List.set_cons_succ])
                refine wpAnyH_take (i := 10) (v := undef) rfl (by kernel_rfl) (by kernel_rfl) (by kernel_rfl) (fun _ _ _ h => h) (Or.inr ⟨by kernel_rfl, rfl⟩) (by assumption) ?_
                (try simp only [List.getElem_toArray, List.getElem_cons_succ, List.getElem_cons_zero, Act.put, List.setIfInBounds_toArray, List.set_cons_zero, List.set_cons_succ])
                refine wpAnyH_take (i := 11) (v := ?_) rfl (by kernel_rfl) (by kernel_rfl) (by kernel_rfl) (fun _ _ _ h => h) (Or.inl ⟨by kernel_rfl, ?_⟩) (by assumption) ?_
                rotate_left 1
                · (intro w hSw; (try dsimp only at hSw); go_simp; (try (with_reducible rfl)))
                (try simp only [List.getElem_toArray, List.getElem_cons_succ, List.getElem_cons_zero, Act.put, List.setIfInBounds_toArray, List.set_cons_zero, List.set_cons_succ])
                refine wpAnyH_take (i := 12) (v := ?_) rfl (by kernel_rfl) (by kernel_rfl) (by kernel_rfl) (fun _ _ _ h => h) (Or.inl ⟨by kernel_rfl, ?_⟩) (by assumption) ?_
                rotate_left 1
                · (intro w hSw; (try dsimp only at hSw); go_simp; (try (with_reducible rfl)))
                (try simp only [List.getElem_toArray, List.getElem_cons_succ, List.getElem_cons_zero, Act.put, List.setIfInBounds_toArray, List.set_cons_zero, List.set_cons_succ])
                refine wpAnyH_take (i := 13) (v := ?_) rfl (by kernel_rfl) (by kernel_rfl) (by kernel_rfl) (fun _ _ _ h => h) (Or.inl ⟨by kernel_rfl, ?_⟩) (by assumption) ?_
                rotate_left 1
                · (intro w hSw; (try dsimp only at hSw); go_simp; (try (with_reducible rfl)))
                (try simp only [List.getElem_toArray, List.getElem_cons_succ, List.getElem_cons_zero, Act.put, List.setIfInBounds_toArray, List.set_cons_zero, List.set_cons_succ])
                refine wpAnyH_take (i := 14) (v := ?_) rfl (by kernel_rfl) (by kernel_rfl) (by kernel_rfl) (fun _ _ _ h => h) (Or.inl ⟨by kernel_rfl, ?_⟩) (by assumption) ?_
                rotate_left 1
                · (intro w hSw; (try dsimp only at hSw); go_simp; (try (with_reducible rfl)))
                (try simp only [List.getElem_toArray, List.getElem_cons_succ, List.getElem_cons_zero, Act.put, List.setIfInBounds_toArray, List.set_cons_zero, List.set_cons_succ])
                refine wpAnyH_take (i := 15) (v := ?_) rfl (by kernel_rfl) (by kernel_rfl) (by kernel_rfl) (fun _ _ _ h => h) (Or.inl ⟨by kernel_rfl, ?_⟩) (by assumption) ?_
                rotate_left 1
                · (intro w hSw; (try dsimp only at hSw); go_simp; (try (with_reducible rfl)))
                (try simp only [List.getElem_toArray, List.getElem_cons_succ, List.getElem_cons_zero, Act.put, List.setIfInBounds_toArray, List.set_cons_zero, List.set_cons_succ])
                refine wpAnyH_take (i := 16) (v := ?_) rfl (by kernel_rfl) (by kernel_rfl) (by kernel_rfl) (fun _ _ _ h => h) (Or.inl ⟨by kernel_rfl, ?_⟩) (by assumption) ?_
                rotate_left 1
                · (intro w hSw; (try dsimp only at hSw); go_simp; (try (with_reducible rfl)))
                (try simp only [List.getElem_toArray, List.getElem_cons_succ, List.getElem_cons_zero, Act.put, List.setIfInBounds_toArray, List.set_cons_zero, List.set_cons_succ])
                refine wpAnyH_done (by kernel_rfl) ?_ _
                have OM1 := Lib.hid (And.right hHeld)
                clear hHeld
                go_wp2
                go_ret
                exact ⟨ret_b (by rw [← HO.out, HK3.out]; rfl), OM1.out.bel⟩
    · have HQ : Hid (mayB O = false) := Lib.hid (by rw [HM.out]; simp; intros; omega)
      by_cases hq1 : seq < 1
      · clear hq
        go_wp2
        go_ret
        exact ⟨ret_b (by rw [← HO.out, HQ.out]), OM1.out.bel⟩
      · have hq2 : 1152921504606846976 < seq := by omega
        clear hq
        go_wp2
        go_ret
        exact ⟨ret_b (by rw [← HO.out, HQ.out]), OM1.out.bel⟩
theorem opsMay (o : Opr) (d s : Value) (w : World) (hd : Rdv u8v w d o.data) (hs : Rdv i64v w s o.seen) (hn : o.name.size < 4294967281) :
    Calls Tryz.prog 33 #[.agg #[.int .i64 (o).time, .int .i64 (o).node, .int .i64 (o).seq, .int .i64 (o).kind, .int .i64 (o).ot, .int .i64 (o).on, .int .i64 (o).pt, .int .i64 (o).pn, .string (o).name, d, s]] w fun e w' => e = .returned (.bool (mayB o)) ∧ Below w.heap.size w w' := by
  by_cases h : o.kind = 3
  · exact opsMay3 o d s w hd hs hn h
  · exact opsMayN o d s w hd hs hn h
end Go.Proofs.YthbalmoafpggdaaGreat
