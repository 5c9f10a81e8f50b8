/- The law CrcParts: its walk. -/
import Derived.Test.YtgpfkdlnmifiiaaChecked
import Derived.WalkKit
import Derived.Outline
import Derived.WalkSpells
import Derived.WalkLawsBesides
import Derived.Deep.QuietTactic
import Derived.Deep.RegionWith
import Derived.Deep.DeepMust
import Derived.BigQuiet
import Derived.Test.YtgpfkdlnmifiiaaMem
import Derived.RegionTactic
import Derived.ChangeAlike
import Derived.StillTailTactics
import Derived.Deep.LoopGhost
import Derived.Test.YtgpfkdlnmifiiaaCrcL
namespace Go.Proofs.Ytgpfkdlnmifiiaa
open Go.RowKit
set_option linter.unusedVariables false
set_option linter.unusedSimpArgs false
theorem Try.info46 : (Try.prog.info? 46).map (fun i => (i.zero, i.size, i.bytes)) = some (some (.slice none 0 0), 1, 24) := by kernel_rfl
theorem own_blk_apart {w : World} {B e T : Nat} {v : Value} {n b : Nat} {xs : List Value} {cs : Array Value} (h : w.ownsRow B e 1 v n xs) (hb : Blk w b cs T) (hne : T ≠ e) : v.ownBlock ≠ some b := by
  rcases h.2 with ⟨rfl, _⟩ | ⟨g, cap, cur, rfl, _, hg, _⟩
  · simp [Value.ownBlock]
  · intro e'
    simp [Value.ownBlock] at e'
    subst e'
    unfold Blk at hb
    rw [hb] at hg
    injection hg with hg
    injection hg with _ h2 _
    exact hne h2
theorem own_own_apart {w : World} {B B' e e' : Nat} {v v' : Value} {n n' : Nat} {xs xs' : List Value} (h : w.ownsRow B e 1 v n xs) (h' : w.ownsRow B' e' 1 v' n' xs') (hne : e ≠ e') : v.ownBlock = none ∨ v.ownBlock ≠ v'.ownBlock := by
  rcases h'.2 with ⟨rfl, _⟩ | ⟨g, cap, cur, rfl, _, hg, _⟩
  · rcases h.2 with ⟨rfl, _⟩ | ⟨g, cap, cur, rfl, _, hg, _⟩
    · exact .inl rfl
    · exact .inr (by simp [Value.ownBlock])
  · exact .inr (own_blk_apart h (show Blk w g cur e' from hg) (Ne.symm hne))
theorem shortC2 (a : Option Addr) (l : List Int) (c n : Nat) (w : World) (hn : n ≤ 1000000) (h1 : l.length ≤ c) (h2 : c ≤ 9223372036854775807) :
    Calls Try.prog 44 #[.slice a l.length c, .int .i64 n] w fun e w' => (∃ v', e = .returned v' ∧ ∀ w0, Rdv u8v w0 (.slice a l.length c) l → Rdv u8v w0 v' (l.take n)) ∧ w = w' := by
  by_cases hc : n < l.length
  · have HT : Hid (∀ w0, Rdv u8v w0 (.slice a l.length c) l → Rdv u8v w0 (.slice a n c) (l.take n)) := fun w0 h => h.take n c (by omega) (by omega) (by omega)
    go_enter Try.func44, Try.ntmps44
    go_wp2
    have hT := HT.out
    go_ret
    exact ⟨⟨_, rfl, hT⟩, rfl⟩
  · have e : Hid (l.take n = l) := List.take_of_length_le (by omega)
    go_enter Try.func44, Try.ntmps44
    go_wp2
    go_ret
    exact ⟨⟨_, rfl, fun w0 h => by rw [e.out]; exact h⟩, rfl⟩
def allTo (yss : List (List Int)) (k : Nat) : List Int := ((yss.take k).map (List.take 60)).flatten
theorem allTo_succ (yss : List (List Int)) (k : Nat) (h : k < yss.length) : allTo yss (k + 1) = allTo yss k ++ (yss.getD k []).take 60 := by
  unfold allTo
  rw [List.take_succ_eq_append_getElem h, List.map_append, List.flatten_append]
  simp [List.getElem?_eq_getElem h]
theorem allTo_len (yss : List (List Int)) : ∀ k, (allTo yss k).length ≤ 60 * k
  | 0 => by simp [allTo]
  | k + 1 => by
    have ih := allTo_len yss k
    by_cases h : k < yss.length
    · rw [allTo_succ yss k h, List.length_append]
      simp; omega
    · have : allTo yss (k + 1) = allTo yss k := by unfold allTo; rw [List.take_of_length_le (by omega), List.take_of_length_le (by omega)]
      rw [this]; omega
theorem allTo_byt {yss : List (List Int)} (h : AllB yss) (k : Nat) : Byt (allTo yss k) := by
  intro q hq
  unfold allTo at hq
  obtain ⟨l, hl, hq⟩ := List.mem_flatten.1 hq
  obtain ⟨y, hy, rfl⟩ := List.mem_map.1 hl
  exact h y (List.mem_of_mem_take hy) q (List.mem_of_mem_take hq)
structure PS (w0 : World) (bs : Nat) (yss : List (List Int)) (k : Nat) (lv av : Value) (wr : World) : Prop where
  sum : SumAt wr bs (crcOf (allTo yss k))
  ls : ∃ us : List Value, us.length = k ∧ wr.ownsRow w0.heap.size 46 1 lv k us ∧ ∀ j, j < k → ∃ u, us[j]? = some u ∧ u.oneCell' = true ∧ Rdv u8v w0 u ((yss.getD j []).take 60)
  al : wr.ownsRow w0.heap.size 5 1 av (allTo yss k).length ((allTo yss k).map u8v)
  bel : Below w0.heap.size w0 wr
theorem RdBs.of_own {w0 w : World} {B k : Nat} {lv : Value} {us : List Value} {yss : List (List Int)} (hl : us.length = k) (ho : w.ownsRow B 46 1 lv k us) (hk : yss.length = k) (hr : ∀ j, j < k → ∃ u, us[j]? = some u ∧ u.oneCell' = true ∧ Rdv u8v w0 u (yss.getD j [])) (hb : Below w0.heap.size w0 w) : RdBs w lv yss := by
  rcases ho.2 with ⟨rfl, h0⟩ | ⟨g, cap, cur, rfl, _, hg, hn, hc, hs, ht⟩
  · subst h0
    obtain rfl := List.length_eq_zero_iff.1 hk
    exact ⟨none, 0, rfl, Nat.le_refl _, Nat.zero_le _, .inl rfl⟩
  · refine ⟨some ⟨g, 0, none⟩, cap, by rw [hk], by omega, hc, .inr ⟨g, 0, rfl, fun j hj => ?_⟩⟩
    obtain ⟨u, hu, _, hr'⟩ := hr j (by omega)
    refine ⟨u, ?_, hr'.below hb⟩
    have hx : cur[j]? = some u := by
      have h3 : (cur.toList.take (k * 1))[j]? = us[j]? := by rw [ht]
      rw [List.getElem?_take_of_lt (by omega), hu] at h3
      simpa using h3
    rw [Nat.zero_add]
    exact (show Blk w g cur 46 from hg).cell hx
theorem crc0 : crcOf [] = 0 := by decide +kernel
set_option maxHeartbeats 8000000 in
set_option maxRecDepth 100000 in
theorem crcParts_walk (v : Value) (yss : List (List Int)) (w : World) (hv : RdBs w v yss) (hby : AllB yss) : Calls Try.prog 7 #[v] w (CrcBegun w) := by
  obtain ⟨i0, hi, hz0, hz1, hz2⟩ := info_parts Try.info5
  obtain ⟨j0, ji, jz0, jz1, jz2⟩ := info_parts Try.info46
  have KV := Lib.hid hv
  obtain ⟨pa, pc, rfl, p1, p2, p3⟩ := hv
  unfold maxLen at p2
  have HP := Lib.hid p3
  clear p3
  go_enter Try.func7, Try.ntmps7
  go_wp2_with fail
  refine (crcBegun _).mono ?_
  rintro e w1 ⟨rfl, b1⟩
  go_wp2_with fail
  refine (crcNew w1).mono ?_
  rintro e w2 ⟨rfl, hs2, hw2⟩
  have b2 : Below w.heap.size w w2 := by rw [hw2]; exact b1.alloc b1.size _
  have hbs : w.heap.size ≤ w1.heap.size := b1.size
  generalize w1.heap.size = bs at *
  clear hw2 b1
  have hP : PS w bs yss 0 (.slice none 0 0) (.slice none 0 0) w2 := ⟨by show SumAt w2 bs (crcOf []); rw [crc0]; exact hs2, ⟨[], rfl, World.ownsRow_nil _ _ _ _, fun j hj => by omega⟩, World.ownsRow_nil _ _ _ _, b2⟩
  clear hs2 b2
  go_wp2
  go_loopw [5, 6, 7] (fun av lv i wr => ∃ k : Nat, k ≤ yss.length ∧ k ≤ 8 ∧ i = .int .i64 k ∧ PS w bs yss k lv av wr) (fun _ _ i _ => 8 - (intOf i).toNat)
  case atStart => exact ⟨0, by omega, by omega, rfl, hP⟩
  case round =>
    obtain ⟨k, hk, hk8, rfl, hP⟩ := hrel
    by_cases hlt : k < yss.length ∧ k < 8
    · obtain ⟨hlt, hlt8⟩ := hlt
      rcases HP.out with rfl | ⟨b1, o1, rfl, hc1⟩
      · exact absurd hlt (by simp)
      obtain ⟨u, hu, hr⟩ := hc1 k hlt
      have hu' := below_cell hP.bel _ _ hu
      have hmem : yss.getD k [] ∈ yss := by rw [List.getD_eq_getElem?_getD, List.getElem?_eq_getElem hlt]; exact List.getElem_mem hlt
      have hyb0 := hby _ hmem
      have hsucc0 := allTo_succ yss k hlt
      clear hmem hc1
      generalize hys : yss.getD k [] = ys at *
      have HYS := Lib.hid hys
      have hsucc := Lib.hid hsucc0
      have hyb : Byt (ys.take 60) := Byt.take hyb0 60
      clear hys hsucc0 hyb0
      have hal := allTo_len yss k
      have hpl : (ys.take 60).length ≤ 60 := by simp; omega
      obtain ⟨ua, un, uc, rfl⟩ := hr.shape
      obtain ⟨rfl, u1, u2, _⟩ := hr.cap
      unfold maxLen at u2
      go_wp2_with fail
      refine (shortC2 _ _ _ 60 _ (by omega) u1 u2).mono ?_
      rintro e w3 ⟨⟨q, rfl, hq⟩, rfl⟩
      replace hq := hq _ hr
      clear hr hu hu'
      obtain ⟨qa, qn, qc, rfl⟩ := hq.shape
      obtain ⟨hsum, ⟨us, hul, hls, hus⟩, hal1, hbel⟩ := hP
      have hz := hbel.size
      go_wp2_with (at_builtin; refine wpList_append_own_at _ rfl _ _ 43 rfl w.heap.size 46 j0 (.slice none 0 0) 1 24 Try.underlying43 ji jz0 jz1 jz2 rfl (by decide) _ k us rfl (hls.alloc _) ⟨wr.heap.size, 0, none⟩ 1 1 [.slice qa qn qc] rfl rfl ?c1 ?c2 ?c3 ?c4 ?c5 ?_)
      case c1 => exact cell_one_new _ _ _
      case c2 => intro u hu; simp at hu; subst hu; rfl
      case c3 => unfold maxLen; omega
      case c4 => omega
      case c5 => simp; omega
      intro lv' w4 hls4 hg4 _ hob4
      have ap1 := own_blk_apart hls hsum (by decide)
      have ap2 := own_own_apart hal1 hls (by decide)
      have hsum4 : SumAt w4 bs (crcOf (allTo yss k)) := (Blk.alloc hsum _).of_eq (hg4.block bs (Blk.alloc hsum _).lt (fun e => ap1 e.symm))
      have hal4 := (hal1.alloc (.cells #[.slice qa qn qc] 46)).kept hg4 ap2
      have hbel4 := (hbel.alloc hz (.cells #[.slice qa qn qc] 46)).grown hg4 (by simp; omega) (fun z hz' => (hls.lt z hz').1)
      have hz4 := hbel4.size
      have hus4 : ∀ j, j < k + 1 → ∃ u, (us ++ [.slice qa qn qc])[j]? = some u ∧ u.oneCell' = true ∧ Rdv u8v w u ((yss.getD j []).take 60) := by
        intro j hj
        rcases Nat.lt_succ_iff_lt_or_eq.1 hj with h | rfl
        · obtain ⟨u, h1, h2⟩ := hus j h
          exact ⟨u, by rw [List.getElem?_append_left (by omega)]; exact h1, h2⟩
        · exact ⟨_, by rw [List.getElem?_append_right (by omega), hul, Nat.sub_self]; rfl, rfl, by rw [HYS.out]; exact hq⟩
      have HL4 := Lib.hid hls4
      have HU4 := Lib.hid hus4
      have HUL := Lib.hid (show (us ++ [Value.slice qa qn qc]).length = k + 1 by simp [hul])
      clear hsum hls hus hal1 hbel hg4 hls4 hus4 hob4 ap1 ap2 hul
      go_wp2_with (at_builtin; refine wpList_append_rd rfl _ _ 46 rfl w.heap.size 5 i0 (.int .u8 0) 1 Try.underlying46 hi hz0 hz1 hz2 rfl _ _ _ rfl hal4 (.slice qa qn qc) u8v (ys.take 60) rfl (hq.below hbel4) (fun _ => rfl) ?c1 ?c2 ?c3 ?_)
      case c1 => unfold maxLen; omega
      case c2 => omega
      case c3 => exact hz4
      intro av' w5 hal5 hg5 _
      have ap1 := own_blk_apart hal4 hsum4 (by decide)
      have ap2 := own_own_apart HL4.out hal4 (by decide)
      have hsum5 : SumAt w5 bs (crcOf (allTo yss k)) := Blk.of_eq hsum4 (hg5.block bs (Blk.lt hsum4) (fun e => ap1 e.symm))
      have hls5 := HL4.out.kept hg5 ap2
      have hbel5 := hbel4.grown hg5 hz4 (fun z hz' => (hal4.lt z hz').1)
      have hal5' : w5.ownsRow w.heap.size 5 1 av' (allTo yss (k + 1)).length ((allTo yss (k + 1)).map u8v) := by
        rw [hsucc.out, List.length_append, List.map_append]; simpa using hal5
      have hz5 := hbel5.size
      have HA5 := Lib.hid hal5'
      have HL5 := Lib.hid hls5
      clear hsum4 hal4 hbel4 hg5 hal5 hal5' hls5 HL4 ap1 ap2
      go_wp2_with fail
      refine (crcAdd bs _ _ _ w5 (crcOf_lt (allTo_byt hby k)) hsum5 (hq.below hbel5) hyb).mono ?_
      rintro e w6 ⟨rfl, hs6, hg6⟩
      have e6 : flip32 (crcR (flip32 (crcOf (allTo yss k))) (ys.take 60)) = crcOf (allTo yss (k + 1)) := by
        unfold crcOf
        rw [flip32_flip32, hsucc.out, crcR_append]
      rw [e6] at hs6
      have ap1 := own_blk_apart HA5.out hsum5 (by decide)
      have ap2 := own_blk_apart HL5.out hsum5 (by decide)
      have hal6 := ownsRow_chg HA5.out hg6 (fun b hb e => ap1 (by rw [hb]; exact congrArg some e))
      have hls6 := ownsRow_chg HL5.out hg6 (fun b hb e => ap2 (by rw [hb]; exact congrArg some e))
      have hbel6 := Chg.below_trans hbel5 hg6 hz5 (fun i hi e => by omega)
      clear hsum5 hg6 HA5 HL5 ap1 ap2
      go_wp2_with fail
      refine (crcValue _ _ _ hs6).mono ?_
      rintro e w7 ⟨rfl, rfl⟩
      go_wp2_with fail
      refine (refOf _ _ _ (Rdv.of_owns hal6) (allTo_byt hby _)).mono ?_
      rintro e w7 ⟨rfl, rfl⟩
      have hP' : PS w bs yss (k + 1) lv' av' w6 := ⟨hs6, ⟨_, HUL.out, hls6, HU4.out⟩, hal6, hbel6⟩
      clear hs6 hal6 hls6 HU4 hbel6
      go_wp2
      go_roundw
      case rel => exact ⟨k + 1, by omega, by omega, by go_num, hP'⟩
      case measure => simp [intOf]; omega
    · have hcase : (yss.length : Int) ≤ k ∨ ((k : Int) < yss.length ∧ (8 : Int) ≤ k) := by omega
      obtain ⟨hsum, ⟨us, hul, hls, hus⟩, hal1, hbel⟩ := hP
      have hr : RdBs wr _ ((yss.take k).map (List.take 60)) := RdBs.of_own (w0 := w) hul hls (by simp; omega) (fun j hj => by
        obtain ⟨u, h1, h2, h3⟩ := hus j hj
        exact ⟨u, h1, h2, by simpa [List.getD_eq_getElem?_getD, List.getElem?_take_of_lt hj, List.getElem?_eq_getElem (show j < yss.length by omega)] using h3⟩) hbel
      have hall : AllB ((yss.take k).map (List.take 60)) := by
        intro l hl
        obtain ⟨y, hy, rfl⟩ := List.mem_map.1 hl
        exact Byt.take (hby y (List.mem_of_mem_take hy)) 60
      have ho := Rdv.of_owns hal1
      have hz := hbel.size
      have hfin : ∀ e w', e = Ending.returned (.int .u32 (crcOf ((yss.take k).map (List.take 60)).flatten : Nat)) ∧ Below wr.heap.size wr w' → True := fun _ _ _ => trivial
      clear hfin hul hls hus hal1 hsum
      rcases hcase with hcase | ⟨hcase0, hcase⟩
      all_goals
        go_wp2_with fail
        refine (crcOfC _ _ _ hr hall).mono ?_
        rintro e w3 ⟨rfl, b3⟩
        have hbel3 := hbel.trans (b3.mono hz)
        go_wp2_with fail
        refine (refOf _ _ _ (ho.below b3) (allTo_byt hby k)).mono ?_
        rintro e w4 ⟨rfl, rfl⟩
        go_wp2
        go_ret
        exact ⟨ret_b (by rw [show (List.take k (List.map (List.take 60) yss)).flatten = allTo yss k from by unfold allTo; rw [List.map_take]]; simp), hbel3⟩
end Go.Proofs.Ytgpfkdlnmifiiaa
