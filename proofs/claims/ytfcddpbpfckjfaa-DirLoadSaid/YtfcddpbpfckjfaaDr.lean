/- A directory of names: its bytes. -/
import Derived.Test.YtfcddpbpfckjfaaChecked
import Derived.WalkKit
import Derived.Outline
import Derived.WalkSpells
import Derived.WalkLawsBesides
import Derived.Deep.QuietTactic
import Derived.Deep.RegionWith
import Derived.Deep.DeepMust
import Derived.BigQuiet
import Derived.Test.YtfcddpbpfckjfaaMem
import Derived.RegionTactic
import Derived.ChangeAlike
import Derived.StillTailTactics
import Derived.BigRegion
import Derived.Deep.LoopGhost
import Derived.Deep.OwnRows
import Derived.Test.YtfcddpbpfckjfaaAppZ
import Derived.Test.YtfcddpbpfckjfaaDp2
import Derived.Test.YtfcddpbpfckjfaaDq
namespace Go.Proofs.Ytfcddpbpfckjfaa
open Go.RowKit
open Go.Maps
set_option linter.unusedVariables false
set_option linter.unusedSimpArgs false
theorem cfPut (args : Array Value) (w : World) : (callFunc 53 args).run Try.prog w = .ok (.enter 53 args) w := by kernel_rfl
theorem dir_eachF {w W : World} {b bm bb g : Nat} {L : List Ent} (hO : OkL L) (hb : Blk W bb #[.slice (some ⟨g, 0, none⟩) (rowsB L) (rowsB L)] 101) (hg : Blk W g (Array.replicate (rowsB L) (.slice none 0 0)) 48) (hne : bb ≠ b ∧ bb ≠ bm ∧ g ≠ b ∧ g ≠ bm) :
    EachF b bm L (fun k => k = g) 53 #[.pointer (some ⟨bb, 0, none⟩)] #[] W (fun z i w' => ∃ vs, BkS w' z bb g vs (fillB L i)) where
  start := fun w1 h1 => ⟨List.replicate (rowsB L) (.slice none 0 0), by
    have e0 : fillB L 0 = List.replicate (rowsB L) [] := rfl
    have el : (fillB L 0).length = rowsB L := by rw [e0]; simp
    refine ⟨by rw [el]; exact blkBelow h1 hb hb.lt, by simpa using blkBelow h1 hg hg.lt, by rw [el]; simp, fun i hi => ?_, fun i j k hi hj h2 _ => ?_⟩
    · rw [el] at hi
      rw [e0]
      simp only [List.getD_eq_getElem?_getD, List.getElem?_replicate, hi, if_true, Option.getD_some, List.length_nil, List.map_nil]
      exact World.ownsRow_nil _ _ _ _
    · rw [el] at hi
      simp only [List.getD_eq_getElem?_getD, List.getElem?_replicate, hi, if_true, Option.getD_some] at h2
      cases h2⟩
  cf := cfPut
  step := fun z i w1 hz hz2 hi hQ => by
    obtain ⟨vs, hQ⟩ := hQ
    have I := inv_fill hO i (by omega)
    have hs := hO.size (List.getElem_mem hi)
    have hn := hO.num _ (List.getElem_mem hi)
    have hlen := hO.len
    have := blkPut z bb g vs (fillB L i) L[i].1 L[i].2 w1 hQ hz hs.2 hn.2 (I.room (by omega) (by unfold rowsB; omega)) (fun j hj => I.each j (by rw [← I.len]; exact hj)) (by rw [I.len]; unfold rowsB; omega)
    refine this.mono fun e w2 ⟨he, vs', h2, h3⟩ => ⟨he, ⟨vs', by rw [fill_succ L i hi]; exact h2⟩, h3⟩
  old := fun k hk => by
    subst hk
    exact ⟨hg.lt, hne.2.2⟩
def flatB (xss : List (List Int)) (k : Nat) : List Int := ((xss.take k).map padB).flatten
/-- What has been written, when k of the blocks have been. -/
structure OutB (w2 : World) (vs : List Value) (xss : List (List Int)) (k : Nat) (v : Value) (wr : World) : Prop where
  own : wr.ownsRow w2.heap.size 5 1 v (flatB xss k).length ((flatB xss k).map u8v)
  chg : Chg (fun q => ∃ i : Nat, i < k ∧ i < xss.length ∧ (vs.getD i .nilIface).ownBlock = some q) w2 wr
theorem OutB.row {w2 wr : World} {z bb g k : Nat} {vs : List Value} {xss : List (List Int)} {v : Value} (h : OutB w2 vs xss k v wr) (hb : BkS w2 z bb g vs xss) (hk : k < xss.length) :
    wr.cell? ⟨g, k, none⟩ = some (vs.getD k .nilIface) ∧ wr.ownsRow z 5 1 (vs.getD k .nilIface) (xss.getD k []).length ((xss.getD k []).map u8v) := by
  refine ⟨?_, ownsRow_chg (hb.own k hk) h.chg fun q hq hi => ?_⟩
  · have h1 := h.chg.blk hb.row (fun ⟨i, _, h2, h3⟩ => (hb.ne.2 i g h2 h3).2 rfl)
    refine h1.cell ?_
    have : k < vs.length := by rw [hb.len]; exact hk
    simp [this, List.getD_eq_getElem?_getD]
  · obtain ⟨i, h1, h2, h3⟩ := hi
    have := hb.apart i k q h2 hk h3 hq
    omega
theorem flat_succ (xss : List (List Int)) (k : Nat) (hk : k < xss.length) : flatB xss (k + 1) = flatB xss k ++ padB (xss.getD k []) := by
  unfold flatB
  rw [List.take_succ_eq_append_getElem hk, List.map_append, List.flatten_append]
  simp [List.getD_eq_getElem?_getD, hk]
/-- A block's zeros and then the block go behind. -/
theorem OutB.mid {w2 wr w3 : World} {z bb g k : Nat} {vs : List Value} {xss : List (List Int)} {v v3 : Value} (h : OutB w2 vs xss k v wr) (hb : BkS w2 z bb g vs xss) (hk : k < xss.length)
    (hg : wr.grownBy w3 (vs.getD k .nilIface).ownBlock) (hv : (vs.getD k .nilIface).ownBlock = v3.ownBlock ∨ v3.ownBlock = some wr.heap.size) :
    w3.ownsRow w2.heap.size 5 1 v (flatB xss k).length ((flatB xss k).map u8v) ∧
    Chg (fun q => ∃ i : Nat, i < k + 1 ∧ i < xss.length ∧ (vs.getD i .nilIface).ownBlock = some q) w2 w3 ∧ w2.heap.size ≤ w3.heap.size := by
  have hc : Chg (fun q => (vs.getD k .nilIface).ownBlock = some q) wr w3 := (Chg.refl _ wr).grown hg (fun _ e _ => e)
  have hz := h.chg.size
  refine ⟨ownsRow_chg h.own hc fun q hq e => ?_, (h.chg.mono fun q _ ⟨i, h1, h2, h3⟩ => ⟨i, by omega, h2, h3⟩).trans (hc.mono fun q _ e => ⟨k, by omega, hk, e⟩), by have := hc.size; omega⟩
  have h1 := (h.own.lt q hq).1
  have h2 := ((hb.own k hk).lt q e).2
  omega
theorem OutB.last {w2 w3 w4 : World} {k : Nat} {vs : List Value} {xss : List (List Int)} {v v4 : Value} {x : List Int}
    (hc : Chg (fun q => ∃ i : Nat, i < k + 1 ∧ i < xss.length ∧ (vs.getD i .nilIface).ownBlock = some q) w2 w3) (ho : w3.ownsRow w2.heap.size 5 1 v (flatB xss k).length ((flatB xss k).map u8v)) (hk : k < xss.length) (hx : xss.getD k [] = x)
    (h4 : w4.ownsRow w2.heap.size 5 1 v4 ((flatB xss k).length + (padB x).length) ((flatB xss k).map u8v ++ (padB x).map u8v)) (hg : w3.grownBy w4 v.ownBlock) : OutB w2 vs xss (k + 1) v4 w4 := by
  subst hx
  refine ⟨?_, hc.grown hg fun q hq hl => ?_⟩
  · rw [flat_succ xss k hk, List.length_append, List.map_append]
    exact h4
  · have := (ho.lt q hq).1
    omega
theorem nilS.info : (Try.prog.info? 48).map (fun i => (i.zero, i.size, i.bytes)) = some (some (.slice none 0 0), 1, 24) := by kernel_rfl
theorem mk_rows (x : Int) (m : Nat) (hx : x / 4 = m) (hm : m ≤ 512) (w : World) : (Instr.makeSlice 99 (.int .i64 (x / 4)) (.int .i64 (x / 4))).run Try.prog w = .ok (.slice (some ⟨w.heap.size, 0, none⟩) m m) (w.alloc (.cells (madeCells #[.slice none 0 0] m) 48)) := by
  rw [hx]
  exact run_make_row' (P := Try.prog) 99 48 (.slice none 0 0) 24 Try.underlying99 nilS.info rfl .i64 .i64 m (by omega) (by omega) w
theorem made_nil (m : Nat) : madeCells #[Value.slice none 0 0] m = Array.replicate m (.slice none 0 0) := by
  apply Array.toList_inj.1
  rw [toList_madeCells_one]
  simp
set_option maxRecDepth 100000 in
set_option maxHeartbeats 1000000 in
theorem dirBytes (b bm : Nat) (L : List Ent) (w : World) (h : DirM w b bm L) (hO : OkL L) : Calls Try.prog 28 #[.pointer (some ⟨b, 0, none⟩)] w (ClonePost (dirB L) w) := by
  obtain ⟨i0, hi, hz0, hz1, hz2⟩ := info_parts Try.info5
  have hmf : ∀ (fn : Fn) (first cap : Array Value) (w : World), (Instr.makeFunc fn first cap).run Try.prog w = .ok (.func fn first cap) w := fun _ _ _ _ => rfl
  have H := Lib.hid h
  have hlen := hO.len
  have KL := Lib.hid (dirLen b bm L w h)
  have hm5 : rowsB L ≤ 512 := by unfold rowsB; omega
  have hmk := mk_rows ((L.length : Int) + 4 - 1) (rowsB L) (by unfold rowsB; omega) hm5
  have HF := Lib.hid (fun W bb g h1 h2 h3 => dir_eachF (w := w) (W := W) (b := b) (bm := bm) (bb := bb) (g := g) hO h1 h2 h3)
  have hz := h.1.lt
  have hzm := h.2.lt
  have HI := Lib.hid (inv_fill hO L.length (Nat.le_refl _))
  generalize hrm : rowsB L = m at *
  have HRM := Lib.hid hrm
  clear hrm
  clear h
  go_enter Try.func28, Try.ntmps28
  go_wp2_with fail
  refine KL.out.mono ?_
  rintro e w1 ⟨rfl, n1, rfl⟩
  go_wp2_with fail
  refine (dirEach b bm L (fun k => k = w.heap.size) _ _ _ _ _ (HF.out _ (w.heap.size + 1) w.heap.size (by have := Blk.new ((w.drewN n1).alloc (Obj.cells (madeCells #[Value.slice none 0 0] m) 48)) #[Value.slice (some ⟨w.heap.size, 0, none⟩) m m] 101; simpa using this) (by have := (Blk.new (w.drewN n1) (madeCells #[Value.slice none 0 0] m) 48).alloc (Obj.cells #[Value.slice (some ⟨w.heap.size, 0, none⟩) m m] 101); rw [made_nil] at this; simpa [made_nil] using this) (by omega)) (H.out.below (by (repeat (first | exact Below.refl _ _ | (with_reducible assumption) | apply Below.drew | apply belowDN | (refine Below.alloc ?_ (by first | exact Nat.le_refl _ | omega | (simp; done) | (simp; omega)) _) | (refine Below.setCell ?_ (by first | exact Nat.le_refl _ | omega | (simp; done) | (simp; omega)) _) | (refine Below.trans ?_ (Below.mono (by with_reducible assumption) (by first | omega | (simp; done) | (simp; omega)))))))) hO).mono ?_
  rintro e w2 ⟨rfl, z, hz2, hz4, ⟨vs, hbk⟩, hc⟩
  have hzz : w.heap.size + 2 ≤ z := by simpa using hz2
  have I := HI.out
  have hl : (fillB L L.length).length = m := I.len
  have BK := Lib.hid hbk
  have HL := Lib.hid hl
  have B2 := Lib.hid (hc.below_trans (show Below w.heap.size w _ by (repeat (first | exact Below.refl _ _ | (with_reducible assumption) | apply Below.drew | apply belowDN | (refine Below.alloc ?_ (by first | exact Nat.le_refl _ | omega | (simp; done) | (simp; omega)) _) | (refine Below.setCell ?_ (by first | exact Nat.le_refl _ | omega | (simp; done) | (simp; omega)) _) | (refine Below.trans ?_ (Below.mono (by with_reducible assumption) (by first | omega | (simp; done) | (simp; omega))))))) (by simp; omega) (fun i hi e => by omega))
  clear hbk hc hz2 hmk
  have hz3 := B2.out.size
  have c3 : w2.cell? ⟨w.heap.size + 1, 0, none⟩ = some (.slice (some ⟨w.heap.size, 0, none⟩) m m) := by have := BK.out.blk.cell (o := 0) rfl; rw [HL.out] at this; exact this
  have hlt := BK.out.blk.lt
  have E5 := Lib.hid (fun k (hk : k < m) => HI.out.each k hk)
  have hdb := Lib.hid (show dirB L = flatB (fillB L L.length) m by unfold dirB flatB; rw [← HL.out, List.take_length])
  clear I hl
  generalize fillB L L.length = xss at *
  have R0 := Lib.hid (show OutB w2 vs xss 0 (.slice none 0 0) w2 from ⟨World.ownsRow_nil _ _ _ _, Chg.refl _ _⟩)
  go_wp2
  go_loopw [4, 6, 24] (fun v _ i wr => ∃ k : Nat, k ≤ m ∧ i = .int .i64 k ∧ OutB w2 vs xss k v wr) (fun _ _ i _ => m - (intOf i).toNat)
  case atStart => exact ⟨0, by omega, rfl, R0.out⟩
  case round =>
    obtain ⟨k, hk, rfl, hout⟩ := hrel
    by_cases hlt : k < m
    · have hkl : k < xss.length := by rw [HL.out]; exact hlt
      obtain ⟨hc, ho⟩ := hout.row BK.out hkl
      obtain ⟨ra, rc, hv, hr1, hr2, hr3⟩ := own_shape ho
      rw [hv] at hc
      have hx5 := E5.out k hlt
      have HV := Lib.hid hv
      rw [hv] at ho
      have HO := Lib.hid ho
      have HT := Lib.hid hout
      clear ho hv hout
      generalize hxl : xss.getD k [] = x at *
      have HX := Lib.hid hxl
      clear hxl
      have hk0 : (0 : Int) ≤ k := by omega
      have hk1 : (k : Int) < m := by omega
      have HSUB := Lib.hid (show ((512 : Int) - x.length) = ((512 - x.length : Nat) : Int) by omega)
      have hgw := HT.out.chg.size
      go_wp2_with (at_builtin; refine wpList_append_own_zeros rfl _ _ 48 3 rfl z 5 i0 (.int .u8 0) 1 .i64 .i64 Try.underlying48 Try.underlying3 hi hz0 rfl rfl hz1 hz2 _ _ _ rfl HO.out (512 - x.length) (congrArg (Value.int .i64) HSUB.out) ?c1 ?c2 ?c3 ?_)
      case c1 => unfold maxLen; omega
      case c2 => omega
      case c3 => omega
      intro v3 w3 ho3 hg3 ha3
      rw [← HV.out] at hg3 ha3
      have hq := HT.out.mid BK.out hkl hg3 (by rcases ha3 with e | e; exact .inl e.symm; exact .inr e)
      have hp3 : w3.ownsRow z 5 1 v3 (padB x).length ((padB x).map u8v) := by
        unfold padB
        rw [List.length_append, List.length_replicate, List.map_append, List.map_replicate, show x.length + (512 - x.length) = 512 by omega]
        exact ho3
      have hpl := pad_len hx5
      have R3 := Lib.hid (Rdv.of_owns hp3)
      have C3 := Lib.hid hq.2.1
      have O3 := Lib.hid hq.1
      have hz5 := hq.2.2
      have hfl : (flatB xss k).length ≤ 512 * 512 := by
        unfold flatB
        rw [flat_len _ (fun y hy => ?_)]
        · simp; omega
        · obtain ⟨j, hj, rfl⟩ := List.getElem_of_mem hy
          simp at hj
          have := E5.out j (by omega)
          rw [List.getD_eq_getElem?_getD, List.getElem?_eq_getElem (by omega)] at this
          simpa using this
      have HPL := Lib.hid hpl
      clear hq hp3 hg3 ha3 hpl ho3
      go_wp2_with (at_builtin; refine wpList_append_rd rfl _ _ 48 rfl w2.heap.size 5 i0 (.int .u8 0) 1 Try.underlying48 hi hz0 hz1 hz2 rfl _ _ _ rfl O3.out v3 u8v (padB x) rfl R3.out (fun _ => rfl) ?c1 ?c2 ?c3 ?_)
      case c1 => rw [HPL.out]; unfold maxLen; omega
      case c2 => rw [HPL.out]; omega
      case c3 => exact hz5
      intro v4 w4 ho4 hg4 _
      have R4 := Lib.hid (OutB.last C3.out O3.out hkl HX.out ho4 hg4)
      clear ho4 hg4
      go_wp2
      go_roundw
      case rel => exact ⟨k + 1, by omega, by go_num, R4.out⟩
      case measure => simp [intOf]; omega
    · obtain rfl : k = m := by omega
      have HT := Lib.hid hout
      clear hout
      go_wp2
      go_ret
      refine ⟨_, rfl, ?_, ?_⟩
      · rw [hdb.out]
        exact own_mono HT.out.own hz3
      · exact HT.out.chg.below_trans B2.out hz3 (fun i hi ⟨j, h1, h2, h3⟩ => by
          have := ((BK.out.own j h2).lt i h3).1
          omega)
end Go.Proofs.Ytfcddpbpfckjfaa
