/- Laws of the directory of names: bytes that were changed. -/
import Derived.Test.YtfcddpbpfckjfaaChecked
import Derived.WalkKit
import Derived.Outline
import Derived.WalkSpells
import Derived.WalkLawsBesides
import Derived.Deep.QuietTactic
import Derived.Deep.RegionWith
import Derived.Deep.DeepMust
import Derived.BigQuiet
import Derived.Test.YtfcddpbpfckjfaaMem
import Derived.RegionTactic
import Derived.ChangeAlike
import Derived.StillTailTactics
import Derived.BigRegion
import Derived.Deep.LoopGhost
import Derived.Deep.RegionHeld3
import Derived.Deep.DeepCutAuto
import Derived.Deep.CutBlock
import Derived.Test.YtfcddpbpfckjfaaDv
import Derived.Test.YtfcddpbpfckjfaaSho
import Derived.Test.YtfcddpbpfckjfaaOwS
import Derived.Test.YtfcddpbpfckjfaaFrN
import Derived.Test.YtfcddpbpfckjfaaFrW
namespace Go.Proofs.Ytfcddpbpfckjfaa
open Go.RowKit
open Go.Maps
set_option linter.unusedVariables false
set_option linter.unusedSimpArgs false
/-- What stands of a name that is too long. -/
def shorN (s : ByteArray) : ByteArray := if 90 < s.size then s.extract 0 90 else s
theorem shorN_size (s : ByteArray) : (shorN s).size ≤ 90 := by
  unfold shorN
  split
  · simp; omega
  · omega
theorem dirShort (s : ByteArray) (w : World) (h : s.size ≤ maxLen) : Calls Try.prog 27 #[.string s] w fun e w' => e = .returned (.string (shorN s)) ∧ w = w' := by
  unfold maxLen at h
  by_cases hc : 90 < s.size
  · have e : Hid (shorN s = s.extract 0 90) := Lib.hid (by unfold shorN; rw [if_pos hc])
    go_enter Try.func27, Try.ntmps27
    go_wp2
    go_ret
    exact ⟨ret_v (by rw [e.out]; rfl), rfl⟩
  · have e : Hid (shorN s = s) := Lib.hid (by unfold shorN; rw [if_neg hc])
    go_enter Try.func27, Try.ntmps27
    go_wp2
    go_ret
    exact ⟨ret_v (by rw [e.out]; rfl), rfl⟩
def DlRel (w : World) (d dm : Nat) (v : Value) (wr : World) : Prop :=
  ∃ (i : Nat) (L : List Ent), i ≤ 12 ∧ v = .int .i64 i ∧ DirM wr d dm L ∧ OkL L ∧ Below w.heap.size w wr
theorem dl_step {w wr w2 : World} {d dm i : Nat} {L : List Ent} {s : ByteArray} {e : Ending} (hi : i < 12) (hO : OkL L) (hB : Below w.heap.size w wr) (hd : w.heap.size ≤ dm) (h : PutPost d dm L s (1 + (i : Int)) wr e w2) : DlRel w d dm (.int .i64 ((i : Int) + 1)) w2 := by
  obtain ⟨_, h2, h3⟩ := h
  refine ⟨i + 1, _, by omega, rfl, h2, ?_, h3.below_trans hB hB.size (fun k hk e => by omega)⟩
  split
  · next h => exact hO.put h
  · exact hO
theorem dirB_mod {L : List Ent} (h : OkL L) : (dirB L).length ≤ 300000 := by
  have := dirB_len h
  have := h.len
  unfold rowsB at *
  omega
theorem below_trans2 {a b c : World} (h : Below a.heap.size a b) (k : Below b.heap.size b c) : Below a.heap.size a c := h.trans (k.mono h.size)
theorem str_after {a b : ByteArray} (h : slt a b = true) : Op.bytesLess b.toList a.toList = false ∧ (b.toList == a.toList) = false := by
  have h1 := slt_ord.asymm a b h
  refine ⟨h1, beq_eq_false_iff_ne.2 fun e => ?_⟩
  unfold slt at h h1
  rw [e] at h1
  rw [e] at h
  rw [h] at h1
  cases h1
theorem keep1 {wr w' : World} {a : Addr} {v : Value} (h : wr.cell? a = some v) (hb : Below wr.heap.size wr w') : w'.cell? a = some v ∧ Below wr.heap.size wr w' := ⟨below_cell hb _ _ h, hb⟩
theorem keep2 {wr w' : World} {a b : Addr} {u v : Value} (h : wr.cell? a = some u) (k : wr.cell? b = some v) (hb : Below wr.heap.size wr w') : (w'.cell? a = some u ∧ w'.cell? b = some v) ∧ Below wr.heap.size wr w' := ⟨⟨below_cell hb _ _ h, below_cell hb _ _ k⟩, hb⟩
set_option maxRecDepth 100000 in
set_option maxHeartbeats 2000000 in
theorem dirLoad_walk (v r : Value) (ss : List ByteArray) (at_ x : Int) (k0 : List Int) (w : World) (hv : StrsRd w v ss) (hr : Rdv u8v w r k0) (hkb : Byt k0) (ha : -9223372036854775808 ≤ at_ ∧ at_ ≤ 9223372036854775807) (hx : 0 ≤ x ∧ x < 256) :
    Calls Try.prog 5 #[v, .int .i64 at_, .int .u8 x, r] w fun e w' => e = .returned (.bool true) ∧ Below w.heap.size w w' := by
  obtain ⟨i0, hi, hz0, hz1, hz2⟩ := info_parts Try.info5
  have hv0 := hv
  obtain ⟨va, vc, rfl, hv1, hv2, hv3, hv4⟩ := hv
  unfold maxLen at hv2
  obtain ⟨ra, rn, rc, rfl⟩ := hr.shape
  obtain ⟨rfl, hr1, hr2, _⟩ := hr.cap
  unfold maxLen at hr2
  have KS := Lib.hid (fun w' => shortC3 ra k0 rc 40 w' (by omega) hr1 (by omega))
  have HR := Lib.hid hr
  have HKB := Lib.hid hkb
  have HV := Lib.hid hv0
  have HV3 := Lib.hid hv3
  have HV4 := Lib.hid hv4
  clear hr hkb hv0 hv3 hv4
  obtain ⟨xn, rfl⟩ := Int.eq_ofNat_of_zero_le hx.1
  have hxn : xn < 256 := by omega
  clear hx
  go_enter Try.func5, Try.ntmps5
  go_wp2_with fail
  refine (dirBegun _).mono ?_
  rintro e w1 ⟨rfl, hb1⟩
  have B1 := Lib.hid hb1
  go_wp2_with fail
  refine (dirNew _).mono ?_
  rintro e w2 ⟨d, dm, rfl, hd, hb2, hd1, hd2⟩
  have hs1 := B1.out.size
  have B2 := Lib.hid (B1.out.trans (hb2.mono hs1))
  have hdm : w.heap.size ≤ dm := by omega
  have R0 := Lib.hid (show DlRel w d dm (.int .i64 0) w2 from ⟨0, [], by omega, rfl, hd, OkL.nil, B2.out⟩)
  clear hb1 hb2 hd B1 B2
  go_upto_block 0 with fail
  go_cut [11] (fun _ wx => ∃ L, DirM wx d dm L ∧ OkL L ∧ Below w.heap.size w wx)
  case first =>
    go_wp2_with fail
    go_loopw [11] (fun v wr => DlRel w d dm v wr) (fun v _ => 12 - (intOf v).toNat)
    case atStart => exact R0.out
    case round =>
      obtain ⟨i, L, hi12, rfl, hD, hO, hB⟩ := hrel
      have HD := Lib.hid hD
      have HO := Lib.hid hO
      have HB := Lib.hid hB
      clear hD hO hB
      by_cases hlt : i < ss.length ∧ i < 12
      · obtain ⟨hl1, hl2⟩ := hlt
        have hc : ∃ b o, va = some ⟨b, o, none⟩ ∧ wr.cell? ⟨b, o + i, none⟩ = some (.string ss[i]) := by
          rcases HV4.out with e | ⟨b, o, e, h⟩
          · rw [e] at hl1; simp at hl1
          · exact ⟨b, o, e, below_cell HB.out _ _ (h i hl1)⟩
        obtain ⟨vb, vo, rfl, hc⟩ := hc
        have hsz := HV3.out ss[i] (List.getElem_mem hl1)
        generalize ss[i] = s at *
        have k1 : (0 : Int) ≤ i := by omega
        have k2 : (i : Int) < ss.length := by omega
        have k3 : (i : Int) < 12 := by omega
        have k4 : decide ((i : Int) < ss.length) = true := decide_eq_true k2
        have KSh := Lib.hid (dirShort s wr hsz)
        have KP := Lib.hid (dirPut d dm L (shorN s) (1 + (i : Int)) wr HD.out (by have := shorN_size s; omega) (by omega) (by omega) HO.out.len)
        clear hsz
        go_wp2_with fail
        refine KSh.out.mono ?_
        rintro e w3 ⟨rfl, rfl⟩
        go_wp2_with fail
        refine KP.out.mono ?_
        intro e w4 hp
        have HS := Lib.hid (dl_step hl2 HO.out HB.out hdm hp)
        obtain ⟨rfl, _⟩ := hp
        go_wp2
        go_roundw
        case rel => exact HS.out
        case measure => simp [intOf]; omega
      · by_cases hl1 : i < ss.length
        · have k2 : (i : Int) < ss.length := by omega
          have k3 : ¬ (i : Int) < 12 := by omega
          go_wp2
          go_meet
          exact ⟨L, HD.out, HO.out, HB.out⟩
        · have k3 : ¬ (i : Int) < ss.length := by omega
          go_wp2
          go_meet
          exact ⟨L, HD.out, HO.out, HB.out⟩
  case rest =>
    obtain ⟨L, hD, hO, hB⟩ := hcut
    obtain ⟨wd, rfl⟩ : ∃ wd : World, wd = wc := ⟨_, rfl⟩
    have HD := Lib.hid hD
    have HO := Lib.hid hO
    have HB := Lib.hid hB
    clear hD hO hB
    have KB := Lib.hid (dirBytes d dm L wd HD.out HO.out)
    have hbl := dirB_mod HO.out
    have LB : Hid (Byt (dirB L)) := Lib.hid (dirB_byt HO.out)
    generalize dirB L = bl at *
    clear HD HO
    have hs2 := HB.out.size
    go_wp2_with fail
    refine KB.out.mono ?_
    rintro e w3 ⟨v3, rfl, ho3, hb3⟩
    obtain ⟨ba, bc, rfl, hb31, hb32, _⟩ := own_shape ho3
    have B3 := Lib.hid (HB.out.trans (hb3.mono hs2))
    have O3 := Lib.hid ho3
    have hz3 := hb3.size
    clear ho3 hb3 KB HB
    go_upto_if 46 with fail
    go_cut [1] (fun _ wx => ∃ l2, l2.length = bl.length ∧ Byt l2 ∧ wx.ownsRow wd.heap.size 5 1 (.slice ba bl.length bc) l2.length (l2.map u8v) ∧ Below w.heap.size w wx ∧ wd.heap.size ≤ wx.heap.size)
    case first =>
      by_cases hpos : 0 < bl.length
      · have hpos' : (0 : Int) < bl.length := by omega
        have hstep : ∀ (A : Int), 0 ≤ A → ∃ j : Nat, A % (bl.length : Int) = j ∧ j < bl.length := fun A hA => by
          have h1 := Int.emod_nonneg A (show (bl.length : Int) ≠ 0 by omega)
          have h2 := Int.emod_lt_of_pos A (show (0 : Int) < (bl.length : Int) by omega)
          exact ⟨(A % (bl.length : Int)).toNat, by omega, by omega⟩
        have HS := Lib.hid hstep
        clear hstep
        have hl0 : ¬ bl.length = 0 := by omega
        have hl1 : ¬ bl = [] := by rintro rfl; simp at hpos
        by_cases hneg : at_ < 0
        · obtain ⟨j, hj, hjl⟩ := HS.out (-(at_ + 1)) (by omega)
          obtain ⟨g, c, hv5, c1, c2, hBg, hg5, hcell, hfr, hset⟩ := own_store2 O3.out j hjl
          rw [Value.slice.injEq] at hv5
          obtain ⟨rfl, _, rfl⟩ := hv5
          obtain ⟨yq, hq, hq2⟩ := LB.out.at_ j hjl
          rw [hq] at hcell
          obtain ⟨y, hy, hy2⟩ := xor_byt yq xn hq2 hxn
          have HSET := Lib.hid (show ∃ l2 : List Int, l2.length = bl.length ∧ Byt l2 ∧ (w3.setCell ⟨g, j, none⟩ (.int .u8 (y : Int))).ownsRow wd.heap.size 5 1 (.slice (some ⟨g, 0, none⟩) bl.length bc) l2.length (l2.map u8v) ∧ Below w.heap.size w (w3.setCell ⟨g, j, none⟩ (.int .u8 (y : Int))) ∧ wd.heap.size ≤ (w3.setCell ⟨g, j, none⟩ (.int .u8 (y : Int))).heap.size from ⟨bl.set j (y : Int), by simp, LB.out.set j y hy2, by rw [List.length_set]; exact hset y, B3.out.setCell (show w.heap.size ≤ g by omega) _, by simp; exact hz3⟩)
          unfold maxLen at c2
          clear hset hq
          have q0 : at_ < 0 := hneg
          have q1 : 0 ≤ -(at_ + 1) := by omega
          have hj2 : (-(at_ + 1)).tmod (bl.length : Int) = j := by rw [Int.tmod_eq_emod_of_nonneg q1]; exact hj
          clear hneg
          go_wp2
          go_meet
          exact HSET.out
        · obtain ⟨j, hj, hjl⟩ := HS.out at_ (by omega)
          obtain ⟨g, c, hv5, c1, c2, hBg, hg5, hcell, hfr, hset⟩ := own_store2 O3.out j hjl
          rw [Value.slice.injEq] at hv5
          obtain ⟨rfl, _, rfl⟩ := hv5
          obtain ⟨yq, hq, hq2⟩ := LB.out.at_ j hjl
          rw [hq] at hcell
          obtain ⟨y, hy, hy2⟩ := xor_byt yq xn hq2 hxn
          have HSET := Lib.hid (show ∃ l2 : List Int, l2.length = bl.length ∧ Byt l2 ∧ (w3.setCell ⟨g, j, none⟩ (.int .u8 (y : Int))).ownsRow wd.heap.size 5 1 (.slice (some ⟨g, 0, none⟩) bl.length bc) l2.length (l2.map u8v) ∧ Below w.heap.size w (w3.setCell ⟨g, j, none⟩ (.int .u8 (y : Int))) ∧ wd.heap.size ≤ (w3.setCell ⟨g, j, none⟩ (.int .u8 (y : Int))).heap.size from ⟨bl.set j (y : Int), by simp, LB.out.set j y hy2, by rw [List.length_set]; exact hset y, B3.out.setCell (show w.heap.size ≤ g by omega) _, by simp; exact hz3⟩)
          unfold maxLen at c2
          clear hset hq
          have q0 : 0 ≤ at_ := by omega
          have q1 : ¬ (at_ < 0) := by omega
          have hj2 : at_.tmod (bl.length : Int) = j := by rw [Int.tmod_eq_emod_of_nonneg q0]; exact hj
          clear hneg
          go_wp2
          go_meet
          exact HSET.out
      · have hpos' : ¬ ((0 : Int) < bl.length) := by omega
        go_wp2
        go_meet
        exact ⟨bl, rfl, LB.out, O3.out, B3.out, hz3⟩
    case rest =>
      obtain ⟨l2, hl2, hby, ho, hB, hzz⟩ := hcut
      have HL2 := Lib.hid hl2
      have HBY := Lib.hid hby
      have HO4 := Lib.hid ho
      have HB4 := Lib.hid hB
      have hlb : l2.length ≤ 300000 := by omega
      clear hl2 hby ho hB O3 B3 LB
      go_wp2_with fail
      refine (KS.out _).mono ?_
      rintro e w5 ⟨⟨v5, rfl, h5⟩, rfl⟩
      have R5 := Lib.hid (h5 _ (HR.out.below HB4.out))
      have hk5 : (k0.take 40).length ≤ 40 := by simp; omega
      have HKT : Hid (Byt (k0.take 40)) := Lib.hid (HKB.out.take 40)
      generalize k0.take 40 = kt at *
      have hlb2 : bl.length ≤ 300000 := by have := HL2.out; omega
      have HO5 : Hid (wc.ownsRow wd.heap.size 5 1 (.slice ba bl.length bc) bl.length (l2.map u8v)) := Lib.hid (by have := HO4.out; rwa [HL2.out] at this)
      clear h5 HO4
      go_wp2_with (at_builtin; refine wpList_append_rd rfl _ _ 48 rfl wd.heap.size 5 i0 (.int .u8 0) 1 Try.underlying48 hi hz0 hz1 hz2 rfl _ _ _ rfl HO5.out v5 u8v (kt) rfl R5.out (fun _ => rfl) ?c1 ?c2 ?c3 ?_)
      case c1 => unfold maxLen; omega
      case c2 => omega
      case c3 => exact hzz
      intro v6 w6 ho6 hg6 _
      have B6 := Lib.hid (show Below w.heap.size w w6 from HB4.out.grown hg6 HB4.out.size (fun k hk => by have := (HO5.out.lt k hk).1; omega))
      have ho6' : w6.ownsRow wd.heap.size 5 1 v6 (l2 ++ kt).length ((l2 ++ kt).map u8v) := by
        rw [List.length_append, HL2.out, List.map_append]
        exact ho6
      have KL := Lib.hid (dirLoad v6 (l2 ++ kt) w6 (Rdv.of_owns ho6') (HBY.out.append HKT.out) (by simp; omega))
      obtain ⟨v6a, v6c, rfl, h61, h62, _⟩ := own_shape ho6'
      clear ho6 hg6 ho6' R5 HO5
      generalize l2 ++ kt = q at *
      go_wp2_with fail
      refine KL.out.mono ?_
      rintro e w7 ⟨hb7, hq⟩
      have B7 := Lib.hid (B6.out.trans (hb7.mono B6.out.size))
      clear KL hb7
      cases hR : dirR q with
      | none =>
        rw [hR] at hq
        subst hq
        clear hR
        go_wp2
        go_ret
        exact ⟨rfl, B7.out⟩
      | some L5 =>
        rw [hR] at hq
        obtain ⟨d5, dm5, rfl, hD5, hO5, hd5, hdm5⟩ := hq
        have hqm : q.length % 512 = 0 := by
          unfold dirR at hR
          by_cases h : q.length % 512 = 0
          · exact h
          · rw [if_pos h] at hR; cases hR
        have hqm2 : ((q.length : Int) % 512 != 0) = false := by rw [bne_eq_false_iff_eq]; omega
        clear hR hqm
        go_wp2_with fail
        have KL := Lib.hid (dirList d5 dm5 L5 w7 hD5 hO5.len)
        have D5 := Lib.hid hD5
        have S5 := Lib.hid hD5.sorted
        have O5 := Lib.hid hO5
        clear hD5 hO5
        refine KL.out.mono ?_
        rintro e w8 ⟨v8, rfl, ho8, hb8⟩
        obtain ⟨v8a, v8c, rfl, h81, h82, _⟩ := own_shape ho8
        have B8 := Lib.hid (B7.out.trans (hb8.mono B7.out.size))
        have D8 := Lib.hid (D5.out.below hb8)
        have O8 := Lib.hid ho8
        have hlen5 := O5.out.len
        clear KL ho8 hb8 D5 B7 B6
        go_wp2
        go_loopw [16, 17, 18] (fun i _ _ wr => ∃ k n : Nat, k ≤ L5.length ∧ i = .int .i64 k ∧ Below w8.heap.size w8 wr) (fun i _ _ _ => L5.length - (intOf i).toNat)
        case atStart => exact ⟨0, 0, by omega, rfl, Below.refl _ _⟩
        case round =>
          obtain ⟨k, n, hk, rfl, hB9⟩ := hrel
          have HB9 := Lib.hid hB9
          clear hB9
          by_cases hlt : k < L5.length
          · have hcell : ∃ g, v8a = some ⟨g, 0, none⟩ ∧ ∀ j (hj : j < L5.length), wr.cell? ⟨g, j, none⟩ = some (.string L5[j].1) := by
              rcases O8.out.2 with ⟨e, _⟩ | ⟨g, c, cur, e, h1, h2, h3, h4, h5, h6⟩
              · injection e with _ e; omega
              · injection e with e1 e2 e3
                refine ⟨g, e1, fun j hj => below_cell HB9.out _ _ ?_⟩
                have hb : Blk w8 g cur 9 := h2
                refine hb.cell ?_
                have hk : (cur.toList.take (L5.length * 1))[j]? = ((namesL L5).map strv)[j]? := by rw [h6]
                rw [List.getElem?_take_of_lt (by omega)] at hk
                rw [← Array.getElem?_toList, hk]
                unfold namesL
                simp [hj]
            obtain ⟨g, rfl, hcell⟩ := hcell
            have hck := hcell k hlt
            have hm := List.getElem_mem hlt
            have hfi := O5.out.fine _ hm
            have hnu := O5.out.num _ hm
            have hsz := (O5.out.size hm).2
            have hlk := lookL_at S5.out k hlt
            have KG := dirGet d5 dm5 L5 L5[k].1 wr (D8.out.below HB9.out) (by unfold maxLen; omega)
            rw [hlk] at KG
            have KL := fun w' => refLocal L5[k].1 w' (by omega)
            rw [hfi] at KL
            have hso : 0 < k → ∃ j, ∃ hj : j < L5.length, j + 1 = k ∧ slt L5[j].1 L5[k].1 = true := fun h0 => ⟨k - 1, by omega, by omega, List.pairwise_iff_getElem.1 S5.out (k - 1) k (by omega) hlt (by omega)⟩
            have HCE := Lib.hid hcell
            have HSO := Lib.hid hso
            clear hcell hso
            generalize L5[k].1 = nm at *
            have KG2 : Hid (Calls Try.prog 32 #[.pointer (some ⟨d5, 0, none⟩), .string nm] wr fun e w' => e = .returned (.tuple #[.int .i64 (L5[k].2 : Nat), .bool true]) ∧ Drw wr w') := Lib.hid KG
            have KL2 := Lib.hid KL
            clear KG KL hlk hfi hm
            generalize L5[k].2 = nu at *
            have k1 : (0 : Int) ≤ k := by omega
            have k2 : (k : Int) < L5.length := by omega
            have n1 : ¬ ((nu : Int) < 1) := by omega
            have n2 : ¬ (2147483647 < (nu : Int)) := by omega
            have n3 : decide ((nu : Int) < 1) = false := decide_eq_false n1
            have n4 : decide (2147483647 < (nu : Int)) = false := decide_eq_false n2
            go_wp2_with fail
            refine KG2.out.mono ?_
            rintro e w9 ⟨rfl, n9, rfl⟩
            rcases Nat.eq_zero_or_pos k with rfl | hk0
            · clear HCE HSO
              have B9 := Lib.hid (B8.out.trans (HB9.out.mono B8.out.size))
              have HCK := Lib.hid hck
              go_wp2
              refine wp_region_held_drew (S := fun w' => w'.cell? ⟨g, 0, none⟩ = some (.string nm) ∧ Below wr.heap.size wr w') (by kernel_rfl) ?_ (fun hHeld => ?_)
              · exact keep1 HCK.out (by first | (with_reducible assumption) | exact And.right (by assumption) | exact (belowDN (Below.refl _ _) _).drew | exact belowDN (Below.refl _ _) _)
              refine wpAnyH_take (i := 0) (v := ?_) rfl (by kernel_rfl) (by kernel_rfl) (by kernel_rfl) (fun _ _ _ h => h) (Or.inl ⟨by kernel_rfl, ?_⟩) (by assumption) ?_
              rotate_left 1
              · (intro w hSw; (try dsimp only at hSw); go_simp; (try (with_reducible rfl)))
              (try simp only [List.getElem_toArray, List.getElem_cons_succ, List.getElem_cons_zero, Act.put, List.setIfInBounds_toArray, List.set_cons_zero, List.set_cons_succ])
              refine wpAnyH_take (i := 1) (v := ?_) rfl (by kernel_rfl) (by kernel_rfl) (by kernel_rfl) (fun _ _ _ h => h) (Or.inl ⟨by kernel_rfl, ?_⟩) (by assumption) ?_
              rotate_left 1
              · (intro w hSw; (try dsimp only at hSw); go_simp; (try (with_reducible rfl)))
              (try simp only [List.getElem_toArray, List.getElem_cons_succ, List.getElem_cons_zero, Act.put, List.setIfInBounds_toArray, List.set_cons_zero, List.set_cons_succ])
              refine wpAnyH_take (i := 2) (v := ?_) rfl (by kernel_rfl) (by kernel_rfl) (by kernel_rfl) (fun _ _ _ h => h) (Or.inl ⟨by kernel_rfl, ?_⟩) (by assumption) ?_
              rotate_left 1
              · (intro w hSw; (try dsimp only at hSw); go_simp; (try (with_reducible rfl)))
              (try simp only [List.getElem_toArray, List.getElem_cons_succ, List.getElem_cons_zero, Act.put, List.setIfInBounds_toArray, List.set_cons_zero, List.set_cons_succ])
              refine wpAnyH_take (i := 3) (v := ?_) rfl (by kernel_rfl) (by kernel_rfl) (by kernel_rfl) (fun _ _ _ h => h) (Or.inl ⟨by kernel_rfl, ?_⟩) (by assumption) ?_
              rotate_left 1
              · (intro w hSw; (try dsimp only at hSw); go_simp; (try (with_reducible rfl)))
              (try simp only [List.getElem_toArray, List.getElem_cons_succ, List.getElem_cons_zero, Act.put, List.setIfInBounds_toArray, List.set_cons_zero, List.set_cons_succ])
              refine wpAnyH_ready (rs := [4]) (by kernel_rfl) (by simp) ?_
              refine AllReadyH.cons rfl (fun K hK => ?_) AllReadyH.nil
              go_simp
              go_wp2_with (go_at_call 33; (with_reducible refine (KL2.out _).mono ?_); rintro e w10 ⟨rfl, hb10⟩; have g10 := below_trans2 (And.right (by assumption)) hb10; clear hb10)
              refine hK.out _ _ ?_ (fun hHeld => ?_)
              · (try dsimp only)
                exact keep1 HCK.out (by first | (with_reducible assumption) | exact And.right (by assumption) | exact (belowDN (Below.refl _ _) _).drew | exact belowDN (Below.refl _ _) _)
              clear hK K
              (try simp only [List.getElem_toArray, List.getElem_cons_succ, List.getElem_cons_zero, Act.put, List.setIfInBounds_toArray, List.set_cons_zero, List.set_cons_succ])
              refine wpAnyH_take (i := 5) (v := ?_) rfl (by kernel_rfl) (by kernel_rfl) (by kernel_rfl) (fun _ _ _ h => h) (Or.inl ⟨by kernel_rfl, ?_⟩) (by assumption) ?_
              rotate_left 1
              · (intro w hSw; (try dsimp only at hSw); go_simp; (try (with_reducible rfl)))
              (try simp only [List.getElem_toArray, List.getElem_cons_succ, List.getElem_cons_zero, Act.put, List.setIfInBounds_toArray, List.set_cons_zero, List.set_cons_succ])
              refine wpAnyH_take (i := 6) (v := ?_) rfl (by kernel_rfl) (by kernel_rfl) (by kernel_rfl) (fun _ _ _ h => h) (Or.inl ⟨by kernel_rfl, ?_⟩) (by assumption) ?_
              rotate_left 1
              · (intro w hSw; (try dsimp only at hSw); go_simp; (try (with_reducible rfl)))
              (try simp only [List.getElem_toArray, List.getElem_cons_succ, List.getElem_cons_zero, Act.put, List.setIfInBounds_toArray, List.set_cons_zero, List.set_cons_succ])
              refine wpAnyH_take (i := 7) (v := ?_) rfl (by kernel_rfl) (by kernel_rfl) (by kernel_rfl) (fun _ _ _ h => h) (Or.inl ⟨by kernel_rfl, ?_⟩) (by assumption) ?_
              rotate_left 1
              · (intro w hSw; (try dsimp only at hSw); go_simp; (try (with_reducible rfl)))
              (try simp only [List.getElem_toArray, List.getElem_cons_succ, List.getElem_cons_zero, Act.put, List.setIfInBounds_toArray, List.set_cons_zero, List.set_cons_succ])
              refine wpAnyH_take (i := 8) (v := ?_) rfl (by kernel_rfl) (by kernel_rfl) (by kernel_rfl) (fun _ _ _ h => h) (Or.inl ⟨by kernel_rfl, ?_⟩) (by assumption) ?_
              rotate_left 1
              · (intro w hSw; (try dsimp only at hSw); go_simp; (try (with_reducible rfl)))
              (try simp only [List.getElem_toArray, List.getElem_cons_succ, List.getElem_cons_zero, Act.put, List.setIfInBounds_toArray, List.set_cons_zero, List.set_cons_succ])
              refine wpAnyH_take (i := 9) (v := ?_) rfl (by kernel_rfl) (by kernel_rfl) (by kernel_rfl) (fun _ _ _ h => h) (Or.inl ⟨by kernel_rfl, ?_⟩) (by assumption) ?_
              rotate_left 1
              · (intro w hSw; (try dsimp only at hSw); go_simp; (try (with_reducible rfl)))
              (try simp only [List.getElem_toArray, List.getElem_cons_succ, List.getElem_cons_zero, Act.put, List.setIfInBounds_toArray, List.set_cons_zero, List.set_cons_succ])
              refine wpAnyH_take (i := 10) (v := undef) rfl (by kernel_rfl) (by kernel_rfl) (by kernel_rfl) (fun _ _ _ h => h) (Or.inr ⟨by kernel_rfl, rfl⟩) (by assumption) ?_
              (try simp only [List.getElem_toArray, List.getElem_cons_succ, List.getElem_cons_zero, Act.put, List.setIfInBounds_toArray, List.set_cons_zero, List.set_cons_succ])
              refine wpAnyH_take (i := 11) (v := undef) rfl (by kernel_rfl) (by kernel_rfl) (by kernel_rfl) (fun _ _ _ h => h) (Or.inr ⟨by kernel_rfl, rfl⟩) (by assumption) ?_
              (try simp only [List.getElem_toArray, List.getElem_cons_succ, List.getElem_cons_zero, Act.put, List.setIfInBounds_toArray, List.set_cons_zero, List.set_cons_succ])
              refine wpAnyH_take (i := 12) (v := undef) rfl (by kernel_rfl) (by kernel_rfl) (by kernel_rfl) (fun _ _ _ h => h) (Or.inr ⟨by kernel_rfl, rfl⟩) (by assumption) ?_
              (try simp only [List.getElem_toArray, List.getElem_cons_succ, List.getElem_cons_zero, Act.put, List.setIfInBounds_toArray, List.set_cons_zero, List.set_cons_succ])
              refine wpAnyH_take (i := 13) (v := undef) rfl (by kernel_rfl) (by kernel_rfl) (by kernel_rfl) (fun _ _ _ h => h) (Or.inr ⟨by kernel_rfl, rfl⟩) (by assumption) ?_
              (try simp only [List.getElem_toArray, List.getElem_cons_succ, List.getElem_cons_zero, Act.put, List.setIfInBounds_toArray, List.set_cons_zero, List.set_cons_succ])
              refine wpAnyH_take (i := 14) (v := undef) rfl (by kernel_rfl) (by kernel_rfl) (by kernel_rfl) (fun _ _ _ h => h) (Or.inr ⟨by kernel_rfl, rfl⟩) (by assumption) ?_
              (try simp only [List.getElem_toArray, List.getElem_cons_succ, List.getElem_cons_zero, Act.put, List.setIfInBounds_toArray, List.set_cons_zero, List.set_cons_succ])
              refine wpAnyH_take (i := 15) (v := undef) rfl (by kernel_rfl) (by kernel_rfl) (by kernel_rfl) (fun _ _ _ h => h) (Or.inr ⟨by kernel_rfl, rfl⟩) (by assumption) ?_
              (try simp only [List.getElem_toArray, List.getElem_cons_succ, List.getElem_cons_zero, Act.put, List.setIfInBounds_toArray, List.set_cons_zero, List.set_cons_succ])
              refine wpAnyH_take (i := 16) (v := undef) rfl (by kernel_rfl) (by kernel_rfl) (by kernel_rfl) (fun _ _ _ h => h) (Or.inr ⟨by kernel_rfl, rfl⟩) (by assumption) ?_
              (try simp only [List.getElem_toArray, List.getElem_cons_succ, List.getElem_cons_zero, Act.put, List.setIfInBounds_toArray, List.set_cons_zero, List.set_cons_succ])
              refine wpAnyH_take (i := 17) (v := undef) rfl (by kernel_rfl) (by kernel_rfl) (by kernel_rfl) (fun _ _ _ h => h) (Or.inr ⟨by kernel_rfl, rfl⟩) (by assumption) ?_
              (try simp only [List.getElem_toArray, List.getElem_cons_succ, List.getElem_cons_zero, Act.put, List.setIfInBounds_toArray, List.set_cons_zero, List.set_cons_succ])
              refine wpAnyH_take (i := 18) (v := undef) rfl (by kernel_rfl) (by kernel_rfl) (by kernel_rfl) (fun _ _ _ h => h) (Or.inr ⟨by kernel_rfl, rfl⟩) (by assumption) ?_
              (try simp only [List.getElem_toArray, List.getElem_cons_succ, List.getElem_cons_zero, Act.put, List.setIfInBounds_toArray, List.set_cons_zero, List.set_cons_succ])
              refine wpAnyH_take (i := 19) (v := undef) rfl (by kernel_rfl) (by kernel_rfl) (by kernel_rfl) (fun _ _ _ h => h) (Or.inr ⟨by kernel_rfl, rfl⟩) (by assumption) ?_
              (try simp only [List.getElem_toArray, List.getElem_cons_succ, List.getElem_cons_zero, Act.put, List.setIfInBounds_toArray, List.set_cons_zero, List.set_cons_succ])
              refine wpAnyH_take (i := 20) (v := ?_) rfl (by kernel_rfl) (by kernel_rfl) (by kernel_rfl) (fun _ _ _ h => h) (Or.inl ⟨by kernel_rfl, ?_⟩) (by assumption) ?_
              rotate_left 1
              · (intro w hSw; (try dsimp only at hSw); go_simp; (try (with_reducible rfl)))
              (try simp only [List.getElem_toArray, List.getElem_cons_succ, List.getElem_cons_zero, Act.put, List.setIfInBounds_toArray, List.set_cons_zero, List.set_cons_succ])
              refine wpAnyH_take (i := 21) (v := ?_) rfl (by kernel_rfl) (by kernel_rfl) (by kernel_rfl) (fun _ _ _ h => h) (Or.inl ⟨by kernel_rfl, ?_⟩) (by assumption) ?_
              rotate_left 1
              · (intro w hSw; (try dsimp only at hSw); go_simp; (try (with_reducible rfl)))
              (try simp only [List.getElem_toArray, List.getElem_cons_succ, List.getElem_cons_zero, Act.put, List.setIfInBounds_toArray, List.set_cons_zero, List.set_cons_succ])
              refine wpAnyH_take (i := 22) (v := ?_) rfl (by kernel_rfl) (by kernel_rfl) (by kernel_rfl) (fun _ _ _ h => h) (Or.inl ⟨by kernel_rfl, ?_⟩) (by assumption) ?_
              rotate_left 1
              · (intro w hSw; (try dsimp only at hSw); go_simp; (try (with_reducible rfl)))
              (try simp only [List.getElem_toArray, List.getElem_cons_succ, List.getElem_cons_zero, Act.put, List.setIfInBounds_toArray, List.set_cons_zero, List.set_cons_succ])
              refine wpAnyH_take (i := 23) (v := ?_) rfl (by kernel_rfl) (by kernel_rfl) (by kernel_rfl) (fun _ _ _ h => h) (Or.inl ⟨by kernel_rfl, ?_⟩) (by assumption) ?_
              rotate_left 1
              · (intro w hSw; (try dsimp only at hSw); go_simp; (try (with_reducible rfl)))
              (try simp only [List.getElem_toArray, List.getElem_cons_succ, List.getElem_cons_zero, Act.put, List.setIfInBounds_toArray, List.set_cons_zero, List.set_cons_succ])
              refine wpAnyH_take (i := 24) (v := ?_) rfl (by kernel_rfl) (by kernel_rfl) (by kernel_rfl) (fun _ _ _ h => h) (Or.inl ⟨by kernel_rfl, ?_⟩) (by assumption) ?_
              rotate_left 1
              · (intro w hSw; (try dsimp only at hSw); go_simp; (try (with_reducible rfl)))
              (try simp only [List.getElem_toArray, List.getElem_cons_succ, List.getElem_cons_zero, Act.put, List.setIfInBounds_toArray, List.set_cons_zero, List.set_cons_succ])
              refine wpAnyH_take (i := 25) (v := ?_) rfl (by kernel_rfl) (by kernel_rfl) (by kernel_rfl) (fun _ _ _ h => h) (Or.inl ⟨by kernel_rfl, ?_⟩) (by assumption) ?_
              rotate_left 1
              · (intro w hSw; (try dsimp only at hSw); go_simp; (try (with_reducible rfl)))
              (try simp only [List.getElem_toArray, List.getElem_cons_succ, List.getElem_cons_zero, Act.put, List.setIfInBounds_toArray, List.set_cons_zero, List.set_cons_succ])
              refine wpAnyH_take (i := 26) (v := ?_) rfl (by kernel_rfl) (by kernel_rfl) (by kernel_rfl) (fun _ _ _ h => h) (Or.inl ⟨by kernel_rfl, ?_⟩) (by assumption) ?_
              rotate_left 1
              · (intro w hSw; (try dsimp only at hSw); go_simp; (try (with_reducible rfl)))
              (try simp only [List.getElem_toArray, List.getElem_cons_succ, List.getElem_cons_zero, Act.put, List.setIfInBounds_toArray, List.set_cons_zero, List.set_cons_succ])
              refine wpAnyH_take (i := 27) (v := ?_) rfl (by kernel_rfl) (by kernel_rfl) (by kernel_rfl) (fun _ _ _ h => h) (Or.inl ⟨by kernel_rfl, ?_⟩) (by assumption) ?_
              rotate_left 1
              · (intro w hSw; (try dsimp only at hSw); go_simp; (try (with_reducible rfl)))
              (try simp only [List.getElem_toArray, List.getElem_cons_succ, List.getElem_cons_zero, Act.put, List.setIfInBounds_toArray, List.set_cons_zero, List.set_cons_succ])
              refine wpAnyH_take (i := 28) (v := ?_) rfl (by kernel_rfl) (by kernel_rfl) (by kernel_rfl) (fun _ _ _ h => h) (Or.inl ⟨by kernel_rfl, ?_⟩) (by assumption) ?_
              rotate_left 1
              · (intro w hSw; (try dsimp only at hSw); go_simp; (try (with_reducible rfl)))
              (try simp only [List.getElem_toArray, List.getElem_cons_succ, List.getElem_cons_zero, Act.put, List.setIfInBounds_toArray, List.set_cons_zero, List.set_cons_succ])
              refine wpAnyH_take (i := 29) (v := ?_) rfl (by kernel_rfl) (by kernel_rfl) (by kernel_rfl) (fun _ _ _ h => h) (Or.inl ⟨by kernel_rfl, ?_⟩) (by assumption) ?_
              rotate_left 1
              · (intro w hSw; (try dsimp only at hSw); go_simp; (try (with_reducible rfl)))
              (try simp only [List.getElem_toArray, List.getElem_cons_succ, List.getElem_cons_zero, Act.put, List.setIfInBounds_toArray, List.set_cons_zero, List.set_cons_succ])
              refine wpAnyH_take (i := 30) (v := ?_) rfl (by kernel_rfl) (by kernel_rfl) (by kernel_rfl) (fun _ _ _ h => h) (Or.inl ⟨by kernel_rfl, ?_⟩) (by assumption) ?_
              rotate_left 1
              · (intro w hSw; (try dsimp only at hSw); go_simp; (try (with_reducible rfl)))
              (try simp only [List.getElem_toArray, List.getElem_cons_succ, List.getElem_cons_zero, Act.put, List.setIfInBounds_toArray, List.set_cons_zero, List.set_cons_succ])
              refine wpAnyH_take (i := 31) (v := ?_) rfl (by kernel_rfl) (by kernel_rfl) (by kernel_rfl) (fun _ _ _ h => h) (Or.inl ⟨by kernel_rfl, ?_⟩) (by assumption) ?_
              rotate_left 1
              · (intro w hSw; (try dsimp only at hSw); go_simp; (try (with_reducible rfl)))
              (try simp only [List.getElem_toArray, List.getElem_cons_succ, List.getElem_cons_zero, Act.put, List.setIfInBounds_toArray, List.set_cons_zero, List.set_cons_succ])
              refine wpAnyH_take (i := 32) (v := ?_) rfl (by kernel_rfl) (by kernel_rfl) (by kernel_rfl) (fun _ _ _ h => h) (Or.inl ⟨by kernel_rfl, ?_⟩) (by assumption) ?_
              rotate_left 1
              · (intro w hSw; (try dsimp only at hSw); go_simp; (try (with_reducible rfl)))
              (try simp only [List.getElem_toArray, List.getElem_cons_succ, List.getElem_cons_zero, Act.put, List.setIfInBounds_toArray, List.set_cons_zero, List.set_cons_succ])
              refine wpAnyH_take (i := 33) (v := ?_) rfl (by kernel_rfl) (by kernel_rfl) (by kernel_rfl) (fun _ _ _ h => h) (Or.inl ⟨by kernel_rfl, ?_⟩) (by assumption) ?_
              rotate_left 1
              · (intro w hSw; (try dsimp only at hSw); go_simp; (try (with_reducible rfl)))
              (try simp only [List.getElem_toArray, List.getElem_cons_succ, List.getElem_cons_zero, Act.put, List.setIfInBounds_toArray, List.set_cons_zero, List.set_cons_succ])
              refine wpAnyH_done (by kernel_rfl) ?_ _
              have B11 := Lib.hid (B9.out.trans ((And.right hHeld).mono B9.out.size))
              have B12 := Lib.hid (HB9.out.trans ((And.right hHeld).mono HB9.out.size))
              clear hHeld
              go_wp2
              go_roundw
              case rel => exact ⟨1, 0, by omega, rfl, B12.out⟩
              case measure => simp [intOf]; omega
            · obtain ⟨j, hj, hjk, hlt2⟩ := HSO.out hk0
              have hcj := HCE.out j hj
              generalize L5[j].1 = pm at *
              have hjs : (k : Int) - 1 = j := by omega
              have k3 : (0 : Int) < k := by omega
              obtain ⟨hle1, hle2⟩ := str_after hlt2
              have j1 : (0 : Int) ≤ j := by omega
              have hjw : IntKind.i64.wrap (j : Int) = j := by rw [IntKind.wrap_i64]; omega
              have j2 : (j : Int) < L5.length := by omega
              have HJK := Lib.hid hjk
              clear hjk HCE HSO
              have B9 := Lib.hid (B8.out.trans (HB9.out.mono B8.out.size))
              have HCK := Lib.hid hck
              have HCJ := Lib.hid hcj
              go_wp2
              refine wp_region_held_drew (S := fun w' => (w'.cell? ⟨g, k, none⟩ = some (.string nm) ∧ w'.cell? ⟨g, j, none⟩ = some (.string pm)) ∧ Below wr.heap.size wr w') (by kernel_rfl) ?_ (fun hHeld => ?_)
              · exact keep2 HCK.out HCJ.out (by first | (with_reducible assumption) | exact And.right (by assumption) | exact (belowDN (Below.refl _ _) _).drew | exact belowDN (Below.refl _ _) _)
              refine wpAnyH_take (i := 0) (v := ?_) rfl (by kernel_rfl) (by kernel_rfl) (by kernel_rfl) (fun _ _ _ h => h) (Or.inl ⟨by kernel_rfl, ?_⟩) (by assumption) ?_
              rotate_left 1
              · (intro w hSw; (try dsimp only at hSw); go_simp; (try (with_reducible rfl)))
              (try simp only [List.getElem_toArray, List.getElem_cons_succ, List.getElem_cons_zero, Act.put, List.setIfInBounds_toArray, List.set_cons_zero, List.set_cons_succ])
              refine wpAnyH_take (i := 1) (v := ?_) rfl (by kernel_rfl) (by kernel_rfl) (by kernel_rfl) (fun _ _ _ h => h) (Or.inl ⟨by kernel_rfl, ?_⟩) (by assumption) ?_
              rotate_left 1
              · (intro w hSw; (try dsimp only at hSw); go_simp; (try (with_reducible rfl)))
              (try simp only [List.getElem_toArray, List.getElem_cons_succ, List.getElem_cons_zero, Act.put, List.setIfInBounds_toArray, List.set_cons_zero, List.set_cons_succ])
              refine wpAnyH_take (i := 2) (v := ?_) rfl (by kernel_rfl) (by kernel_rfl) (by kernel_rfl) (fun _ _ _ h => h) (Or.inl ⟨by kernel_rfl, ?_⟩) (by assumption) ?_
              rotate_left 1
              · (intro w hSw; (try dsimp only at hSw); go_simp; (try (with_reducible rfl)))
              (try simp only [List.getElem_toArray, List.getElem_cons_succ, List.getElem_cons_zero, Act.put, List.setIfInBounds_toArray, List.set_cons_zero, List.set_cons_succ])
              refine wpAnyH_take (i := 3) (v := ?_) rfl (by kernel_rfl) (by kernel_rfl) (by kernel_rfl) (fun _ _ _ h => h) (Or.inl ⟨by kernel_rfl, ?_⟩) (by assumption) ?_
              rotate_left 1
              · (intro w hSw; (try dsimp only at hSw); go_simp; (try (with_reducible rfl)))
              (try simp only [List.getElem_toArray, List.getElem_cons_succ, List.getElem_cons_zero, Act.put, List.setIfInBounds_toArray, List.set_cons_zero, List.set_cons_succ])
              refine wpAnyH_ready (rs := [4]) (by kernel_rfl) (by simp) ?_
              refine AllReadyH.cons rfl (fun K hK => ?_) AllReadyH.nil
              go_simp
              go_wp2_with (go_at_call 33; (with_reducible refine (KL2.out _).mono ?_); rintro e w10 ⟨rfl, hb10⟩; have g10 := below_trans2 (And.right (by assumption)) hb10; clear hb10)
              refine hK.out _ _ ?_ (fun hHeld => ?_)
              · (try dsimp only)
                exact keep2 HCK.out HCJ.out (by first | (with_reducible assumption) | exact And.right (by assumption) | exact (belowDN (Below.refl _ _) _).drew | exact belowDN (Below.refl _ _) _)
              clear hK K
              (try simp only [List.getElem_toArray, List.getElem_cons_succ, List.getElem_cons_zero, Act.put, List.setIfInBounds_toArray, List.set_cons_zero, List.set_cons_succ])
              refine wpAnyH_take (i := 5) (v := ?_) rfl (by kernel_rfl) (by kernel_rfl) (by kernel_rfl) (fun _ _ _ h => h) (Or.inl ⟨by kernel_rfl, ?_⟩) (by assumption) ?_
              rotate_left 1
              · (intro w hSw; (try dsimp only at hSw); go_simp; (try (with_reducible rfl)))
              (try simp only [List.getElem_toArray, List.getElem_cons_succ, List.getElem_cons_zero, Act.put, List.setIfInBounds_toArray, List.set_cons_zero, List.set_cons_succ])
              refine wpAnyH_take (i := 6) (v := ?_) rfl (by kernel_rfl) (by kernel_rfl) (by kernel_rfl) (fun _ _ _ h => h) (Or.inl ⟨by kernel_rfl, ?_⟩) (by assumption) ?_
              rotate_left 1
              · (intro w hSw; (try dsimp only at hSw); go_simp; (try (with_reducible rfl)))
              (try simp only [List.getElem_toArray, List.getElem_cons_succ, List.getElem_cons_zero, Act.put, List.setIfInBounds_toArray, List.set_cons_zero, List.set_cons_succ])
              refine wpAnyH_take (i := 7) (v := ?_) rfl (by kernel_rfl) (by kernel_rfl) (by kernel_rfl) (fun _ _ _ h => h) (Or.inl ⟨by kernel_rfl, ?_⟩) (by assumption) ?_
              rotate_left 1
              · (intro w hSw; (try dsimp only at hSw); go_simp; (try (with_reducible rfl)))
              (try simp only [List.getElem_toArray, List.getElem_cons_succ, List.getElem_cons_zero, Act.put, List.setIfInBounds_toArray, List.set_cons_zero, List.set_cons_succ])
              refine wpAnyH_take (i := 8) (v := ?_) rfl (by kernel_rfl) (by kernel_rfl) (by kernel_rfl) (fun _ _ _ h => h) (Or.inl ⟨by kernel_rfl, ?_⟩) (by assumption) ?_
              rotate_left 1
              · (intro w hSw; (try dsimp only at hSw); go_simp; (try (with_reducible rfl)))
              (try simp only [List.getElem_toArray, List.getElem_cons_succ, List.getElem_cons_zero, Act.put, List.setIfInBounds_toArray, List.set_cons_zero, List.set_cons_succ])
              refine wpAnyH_take (i := 9) (v := ?_) rfl (by kernel_rfl) (by kernel_rfl) (by kernel_rfl) (fun _ _ _ h => h) (Or.inl ⟨by kernel_rfl, ?_⟩) (by assumption) ?_
              rotate_left 1
              · (intro w hSw; (try dsimp only at hSw); go_simp; (try (with_reducible rfl)))
              (try simp only [List.getElem_toArray, List.getElem_cons_succ, List.getElem_cons_zero, Act.put, List.setIfInBounds_toArray, List.set_cons_zero, List.set_cons_succ])
              refine wpAnyH_take (i := 10) (v := ?_) rfl (by kernel_rfl) (by kernel_rfl) (by kernel_rfl) (fun _ _ _ h => h) (Or.inl ⟨by kernel_rfl, ?_⟩) (by assumption) ?_
              rotate_left 1
              · (intro w hSw; (try dsimp only at hSw); go_simp; (try (with_reducible rfl)))
              (try simp only [List.getElem_toArray, List.getElem_cons_succ, List.getElem_cons_zero, Act.put, List.setIfInBounds_toArray, List.set_cons_zero, List.set_cons_succ])
              refine wpAnyH_take (i := 11) (v := ?_) rfl (by kernel_rfl) (by kernel_rfl) (by kernel_rfl) (fun _ _ _ h => h) (Or.inl ⟨by kernel_rfl, ?_⟩) (by assumption) ?_
              rotate_left 1
              · (intro w hSw; (try dsimp only at hSw); go_simp; (try (with_reducible rfl)))
              (try simp only [List.getElem_toArray, List.getElem_cons_succ, List.getElem_cons_zero, Act.put, List.setIfInBounds_toArray, List.set_cons_zero, List.set_cons_succ])
              refine wpAnyH_take (i := 12) (v := ?_) rfl (by kernel_rfl) (by kernel_rfl) (by kernel_rfl) (fun _ _ _ h => h) (Or.inl ⟨by kernel_rfl, ?_⟩) (by assumption) ?_
              rotate_left 1
              · (intro w hSw; (try dsimp only at hSw); go_simp; (try (with_reducible rfl)))
              (try simp only [List.getElem_toArray, List.getElem_cons_succ, List.getElem_cons_zero, Act.put, List.setIfInBounds_toArray, List.set_cons_zero, List.set_cons_succ])
              refine wpAnyH_take (i := 13) (v := ?_) rfl (by kernel_rfl) (by kernel_rfl) (by kernel_rfl) (fun _ _ _ h => h) (Or.inl ⟨by kernel_rfl, ?_⟩) (by assumption) ?_
              rotate_left 1
              · (intro w hSw; (try dsimp only at hSw); go_simp; (try (with_reducible rfl)))
              (try simp only [List.getElem_toArray, List.getElem_cons_succ, List.getElem_cons_zero, Act.put, List.setIfInBounds_toArray, List.set_cons_zero, List.set_cons_succ])
              refine wpAnyH_take (i := 14) (v := ?_) rfl (by kernel_rfl) (by kernel_rfl) (by kernel_rfl) (fun _ _ _ h => h) (Or.inl ⟨by kernel_rfl, ?_⟩) (by assumption) ?_
              rotate_left 1
              · (intro w hSw; (try dsimp only at hSw); go_simp; (try (with_reducible rfl)))
              (try simp only [List.getElem_toArray, List.getElem_cons_succ, List.getElem_cons_zero, Act.put, List.setIfInBounds_toArray, List.set_cons_zero, List.set_cons_succ])
              refine wpAnyH_take (i := 15) (v := ?_) rfl (by kernel_rfl) (by kernel_rfl) (by kernel_rfl) (fun _ _ _ h => h) (Or.inl ⟨by kernel_rfl, ?_⟩) (by assumption) ?_
              rotate_left 1
              · (intro w hSw; (try dsimp only at hSw); go_simp; (try (with_reducible rfl)))
              (try simp only [List.getElem_toArray, List.getElem_cons_succ, List.getElem_cons_zero, Act.put, List.setIfInBounds_toArray, List.set_cons_zero, List.set_cons_succ])
              refine wpAnyH_take (i := 16) (v := ?_) rfl (by kernel_rfl) (by kernel_rfl) (by kernel_rfl) (fun _ _ _ h => h) (Or.inl ⟨by kernel_rfl, ?_⟩) (by assumption) ?_
              rotate_left 1
              · (intro w hSw; (try dsimp only at hSw); go_simp; (try (with_reducible rfl)))
              (try simp only [List.getElem_toArray, List.getElem_cons_succ, List.getElem_cons_zero, Act.put, List.setIfInBounds_toArray, List.set_cons_zero, List.set_cons_succ])
              refine wpAnyH_take (i := 17) (v := ?_) rfl (by kernel_rfl) (by kernel_rfl) (by kernel_rfl) (fun _ _ _ h => h) (Or.inl ⟨by kernel_rfl, ?_⟩) (by assumption) ?_
              rotate_left 1
              · (intro w hSw; (try dsimp only at hSw); go_simp; (try (with_reducible rfl)))
              (try simp only [List.getElem_toArray, List.getElem_cons_succ, List.getElem_cons_zero, Act.put, List.setIfInBounds_toArray, List.set_cons_zero, List.set_cons_succ])
              refine wpAnyH_take (i := 18) (v := ?_) rfl (by kernel_rfl) (by kernel_rfl) (by kernel_rfl) (fun _ _ _ h => h) (Or.inl ⟨by kernel_rfl, ?_⟩) (by assumption) ?_
              rotate_left 1
              · (intro w hSw; (try dsimp only at hSw); go_simp; (try (with_reducible rfl)))
              (try simp only [List.getElem_toArray, List.getElem_cons_succ, List.getElem_cons_zero, Act.put, List.setIfInBounds_toArray, List.set_cons_zero, List.set_cons_succ])
              refine wpAnyH_take (i := 19) (v := ?_) rfl (by kernel_rfl) (by kernel_rfl) (by kernel_rfl) (fun _ _ _ h => h) (Or.inl ⟨by kernel_rfl, ?_⟩) (by assumption) ?_
              rotate_left 1
              · (intro w hSw; (try dsimp only at hSw); go_simp; (try (with_reducible rfl)))
              (try simp only [List.getElem_toArray, List.getElem_cons_succ, List.getElem_cons_zero, Act.put, List.setIfInBounds_toArray, List.set_cons_zero, List.set_cons_succ])
              refine wpAnyH_take (i := 20) (v := ?_) rfl (by kernel_rfl) (by kernel_rfl) (by kernel_rfl) (fun _ _ _ h => h) (Or.inl ⟨by kernel_rfl, ?_⟩) (by assumption) ?_
              rotate_left 1
              · (intro w hSw; (try dsimp only at hSw); go_simp; (try (with_reducible rfl)))
              (try simp only [List.getElem_toArray, List.getElem_cons_succ, List.getElem_cons_zero, Act.put, List.setIfInBounds_toArray, List.set_cons_zero, List.set_cons_succ])
              refine wpAnyH_take (i := 21) (v := ?_) rfl (by kernel_rfl) (by kernel_rfl) (by kernel_rfl) (fun _ _ _ h => h) (Or.inl ⟨by kernel_rfl, ?_⟩) (by assumption) ?_
              rotate_left 1
              · (intro w hSw; (try dsimp only at hSw); go_simp; (try (with_reducible rfl)))
              (try simp only [List.getElem_toArray, List.getElem_cons_succ, List.getElem_cons_zero, Act.put, List.setIfInBounds_toArray, List.set_cons_zero, List.set_cons_succ])
              refine wpAnyH_take (i := 22) (v := ?_) rfl (by kernel_rfl) (by kernel_rfl) (by kernel_rfl) (fun _ _ _ h => h) (Or.inl ⟨by kernel_rfl, ?_⟩) (by assumption) ?_
              rotate_left 1
              · (intro w hSw; (try dsimp only at hSw); go_simp; (try (with_reducible rfl)))
              (try simp only [List.getElem_toArray, List.getElem_cons_succ, List.getElem_cons_zero, Act.put, List.setIfInBounds_toArray, List.set_cons_zero, List.set_cons_succ])
              refine wpAnyH_take (i := 23) (v := ?_) rfl (by kernel_rfl) (by kernel_rfl) (by kernel_rfl) (fun _ _ _ h => h) (Or.inl ⟨by kernel_rfl, ?_⟩) (by assumption) ?_
              rotate_left 1
              · (intro w hSw; (try dsimp only at hSw); go_simp; (try (with_reducible rfl)))
              (try simp only [List.getElem_toArray, List.getElem_cons_succ, List.getElem_cons_zero, Act.put, List.setIfInBounds_toArray, List.set_cons_zero, List.set_cons_succ])
              refine wpAnyH_take (i := 24) (v := ?_) rfl (by kernel_rfl) (by kernel_rfl) (by kernel_rfl) (fun _ _ _ h => h) (Or.inl ⟨by kernel_rfl, ?_⟩) (by assumption) ?_
              rotate_left 1
              · (intro w hSw; (try dsimp only at hSw); go_simp; (try (with_reducible rfl)))
              (try simp only [List.getElem_toArray, List.getElem_cons_succ, List.getElem_cons_zero, Act.put, List.setIfInBounds_toArray, List.set_cons_zero, List.set_cons_succ])
              refine wpAnyH_take (i := 25) (v := ?_) rfl (by kernel_rfl) (by kernel_rfl) (by kernel_rfl) (fun _ _ _ h => h) (Or.inl ⟨by kernel_rfl, ?_⟩) (by assumption) ?_
              rotate_left 1
              · (intro w hSw; (try dsimp only at hSw); go_simp; (try (with_reducible rfl)))
              (try simp only [List.getElem_toArray, List.getElem_cons_succ, List.getElem_cons_zero, Act.put, List.setIfInBounds_toArray, List.set_cons_zero, List.set_cons_succ])
              refine wpAnyH_take (i := 26) (v := ?_) rfl (by kernel_rfl) (by kernel_rfl) (by kernel_rfl) (fun _ _ _ h => h) (Or.inl ⟨by kernel_rfl, ?_⟩) (by assumption) ?_
              rotate_left 1
              · (intro w hSw; (try dsimp only at hSw); go_simp; (try (with_reducible rfl)))
              (try simp only [List.getElem_toArray, List.getElem_cons_succ, List.getElem_cons_zero, Act.put, List.setIfInBounds_toArray, List.set_cons_zero, List.set_cons_succ])
              refine wpAnyH_take (i := 27) (v := ?_) rfl (by kernel_rfl) (by kernel_rfl) (by kernel_rfl) (fun _ _ _ h => h) (Or.inl ⟨by kernel_rfl, ?_⟩) (by assumption) ?_
              rotate_left 1
              · (intro w hSw; (try dsimp only at hSw); go_simp; (try (with_reducible rfl)))
              (try simp only [List.getElem_toArray, List.getElem_cons_succ, List.getElem_cons_zero, Act.put, List.setIfInBounds_toArray, List.set_cons_zero, List.set_cons_succ])
              refine wpAnyH_take (i := 28) (v := ?_) rfl (by kernel_rfl) (by kernel_rfl) (by kernel_rfl) (fun _ _ _ h => h) (Or.inl ⟨by kernel_rfl, ?_⟩) (by assumption) ?_
              rotate_left 1
              · (intro w hSw; (try dsimp only at hSw); go_simp; (try (with_reducible rfl)))
              (try simp only [List.getElem_toArray, List.getElem_cons_succ, List.getElem_cons_zero, Act.put, List.setIfInBounds_toArray, List.set_cons_zero, List.set_cons_succ])
              refine wpAnyH_take (i := 29) (v := ?_) rfl (by kernel_rfl) (by kernel_rfl) (by kernel_rfl) (fun _ _ _ h => h) (Or.inl ⟨by kernel_rfl, ?_⟩) (by assumption) ?_
              rotate_left 1
              · (intro w hSw; (try dsimp only at hSw); go_simp; (try (with_reducible rfl)))
              (try simp only [List.getElem_toArray, List.getElem_cons_succ, List.getElem_cons_zero, Act.put, List.setIfInBounds_toArray, List.set_cons_zero, List.set_cons_succ])
              refine wpAnyH_take (i := 30) (v := ?_) rfl (by kernel_rfl) (by kernel_rfl) (by kernel_rfl) (fun _ _ _ h => h) (Or.inl ⟨by kernel_rfl, ?_⟩) (by assumption) ?_
              rotate_left 1
              · (intro w hSw; (try dsimp only at hSw); go_simp; (try (with_reducible rfl)))
              (try simp only [List.getElem_toArray, List.getElem_cons_succ, List.getElem_cons_zero, Act.put, List.setIfInBounds_toArray, List.set_cons_zero, List.set_cons_succ])
              refine wpAnyH_take (i := 31) (v := ?_) rfl (by kernel_rfl) (by kernel_rfl) (by kernel_rfl) (fun _ _ _ h => h) (Or.inl ⟨by kernel_rfl, ?_⟩) (by assumption) ?_
              rotate_left 1
              · (intro w hSw; (try dsimp only at hSw); go_simp; (try (with_reducible rfl)))
              (try simp only [List.getElem_toArray, List.getElem_cons_succ, List.getElem_cons_zero, Act.put, List.setIfInBounds_toArray, List.set_cons_zero, List.set_cons_succ])
              refine wpAnyH_take (i := 32) (v := ?_) rfl (by kernel_rfl) (by kernel_rfl) (by kernel_rfl) (fun _ _ _ h => h) (Or.inl ⟨by kernel_rfl, ?_⟩) (by assumption) ?_
              rotate_left 1
              · (intro w hSw; (try dsimp only at hSw); go_simp; (try (with_reducible rfl)))
              (try simp only [List.getElem_toArray, List.getElem_cons_succ, List.getElem_cons_zero, Act.put, List.setIfInBounds_toArray, List.set_cons_zero, List.set_cons_succ])
              refine wpAnyH_take (i := 33) (v := ?_) rfl (by kernel_rfl) (by kernel_rfl) (by kernel_rfl) (fun _ _ _ h => h) (Or.inl ⟨by kernel_rfl, ?_⟩) (by assumption) ?_
              rotate_left 1
              · (intro w hSw; (try dsimp only at hSw); go_simp; (try (with_reducible rfl)))
              (try simp only [List.getElem_toArray, List.getElem_cons_succ, List.getElem_cons_zero, Act.put, List.setIfInBounds_toArray, List.set_cons_zero, List.set_cons_succ])
              refine wpAnyH_done (by kernel_rfl) ?_ _
              have B12 := Lib.hid (HB9.out.trans ((And.right hHeld).mono HB9.out.size))
              clear hHeld
              go_wp2
              exact ⟨⟨k + 1, 0, by omega, by go_num, B12.out⟩, by simp [intOf]; omega⟩
          · go_wp2
            go_ret
            exact ⟨rfl, B8.out.trans (HB9.out.mono B8.out.size)⟩
end Go.Proofs.Ytfcddpbpfckjfaa
