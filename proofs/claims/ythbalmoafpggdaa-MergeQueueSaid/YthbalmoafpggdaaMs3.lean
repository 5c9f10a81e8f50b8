/- MergeSorted, the walk. -/
import Derived.Test.YthbalmoafpggdaaChecked
import Derived.WalkKit
import Derived.Outline
import Derived.WalkSpells
import Derived.WalkLawsBesides
import Derived.Deep.QuietTactic
import Derived.Deep.RegionWith
import Derived.Deep.DeepMust
import Derived.BigQuiet
import Derived.Test.YthbalmoafpggdaaMem
import Derived.RegionTactic
import Derived.ChangeAlike
import Derived.StillTailTactics
import Derived.BigRegion
import Derived.Deep.RegionHeld3
import Derived.Deep.RegionLaw
import Derived.Deep.AppendLies
import Derived.Laws.AppendOwnNone
import Derived.Deep.DeepCutAuto
import Derived.Deep.CutBlock
import Derived.IntWalk
import Derived.Test.YthbalmoafpggdaaMs2
namespace Go.Proofs.Ythbalmoafpggdaa
open Go.RowKit
set_option linter.unusedVariables false
set_option linter.unusedSimpArgs false
theorem pown_cells {w : World} {B g c : Nat} {ps : List P3} (h : w.ownsRow B 58 11 (.slice (some ⟨g, 0, none⟩) ps.length c) ps.length (prow ps)) : ∀ j u, (prow ps)[j]? = some u → w.cell? ((⟨g, 0, none⟩ : Addr).add j) = some u := h.cells (g := g) rfl
theorem prow_one (ps : List P3) : ∀ u ∈ prow ps, u.oneCell' = true := by
  intro u hu
  obtain ⟨p, _, hp⟩ := List.mem_flatMap.1 hu
  simp only [p3C, List.mem_cons, List.not_mem_nil, or_false] at hp
  rcases hp with rfl | rfl | rfl | rfl | rfl | rfl | rfl | rfl | rfl | rfl | rfl <;> rfl
theorem sSame (t n : Int) (w : World) : Calls Try.prog 29 #[.agg #[.int .i64 t, .int .i64 n], .agg #[.int .i64 t, .int .i64 n]] w fun e w' => e = .returned (.bool true) ∧ Below w.heap.size w w' := by
  go_enter Try.func29, Try.ntmps29
  go_wp2
  go_ret
  exact ⟨rfl, ((Below.refl _ _).alloc (Nat.le_refl _) _).alloc (by simp) _⟩
theorem ops_at {w : World} {a : Option Addr} {n c k : Nat} {ps : List P3} {p : P3} (h : OpsRd w (.slice a n c) ps) (hp : ps[k]? = some p) : ∃ g o, a = some ⟨g, o, none⟩ ∧ PcAt w g (o + k * 11) p := by
  obtain ⟨a', c', e, _, _, h4⟩ := h
  injection e with e1 e2 e3
  subst e1
  rcases h4 with rfl | ⟨g, o, rfl, h5⟩
  · simp at hp
  · exact ⟨g, o, rfl, h5 k p hp⟩
structure FMid (wz : World) (g1 o1 g2 o2 : Nat) (p : P3) (w' : World) : Prop where
  a : PcAt w' g1 o1 p
  b : PcAt w' g2 o2 p
  bel : Below wz.heap.size wz w'
theorem fm_below {wz W w' : World} {g1 o1 g2 o2 : Nat} {p : P3} (hb : Below W.heap.size W w') (h : FMid wz g1 o1 g2 o2 p W) : FMid wz g1 o1 g2 o2 p w' := ⟨h.a.of_cells (below_cell hb), h.b.of_cells (below_cell hb), h.bel.trans (hb.mono h.bel.size)⟩
theorem fm_drew {wz W : World} {g1 o1 g2 o2 : Nat} {p : P3} (h : FMid wz g1 o1 g2 o2 p W) : FMid wz g1 o1 g2 o2 p W.drew := fm_below (Below.drew (Below.refl _ _)) h
theorem fm_S {wz w' : World} {g1 o1 g2 o2 : Nat} {p : P3} (h : FMid wz g1 o1 g2 o2 p w') : w'.cell? ⟨g1, o1 + 3, none⟩ = some (.int .i64 p.mark) ∧ w'.cell? ⟨g2, o2 + 3, none⟩ = some (.int .i64 p.mark) ∧ w'.cell? ⟨g1, o1, none⟩ = some (.int .i64 p.time) ∧ w'.cell? ⟨g1, o1 + 1, none⟩ = some (.int .i64 p.node) ∧ w'.cell? ⟨g2, o2, none⟩ = some (.int .i64 p.time) ∧ w'.cell? ⟨g2, o2 + 1, none⟩ = some (.int .i64 p.node) ∧ FMid wz g1 o1 g2 o2 p w' := ⟨h.a.c3, h.b.c3, h.a.c0, h.a.c1, h.b.c0, h.b.c1, h⟩
theorem fm_of {wz w' : World} {g1 o1 g2 o2 : Nat} {p : P3} (h : w'.cell? ⟨g1, o1 + 3, none⟩ = some (.int .i64 p.mark) ∧ w'.cell? ⟨g2, o2 + 3, none⟩ = some (.int .i64 p.mark) ∧ w'.cell? ⟨g1, o1, none⟩ = some (.int .i64 p.time) ∧ w'.cell? ⟨g1, o1 + 1, none⟩ = some (.int .i64 p.node) ∧ w'.cell? ⟨g2, o2, none⟩ = some (.int .i64 p.time) ∧ w'.cell? ⟨g2, o2 + 1, none⟩ = some (.int .i64 p.node) ∧ FMid wz g1 o1 g2 o2 p w') : FMid wz g1 o1 g2 o2 p w' := h.2.2.2.2.2.2
theorem Sl.info : (Try.prog.info? 55).map (fun i => (i.zero, i.size, i.bytes)) = some (some (.slice none 0 0), 1, 24) := by kernel_rfl
theorem ownsRow_belowB {w w' : World} {B B' e s n : Nat} {v : Value} {xs : List Value} (h : w.ownsRow B e s v n xs) (hv : ∀ g, v.ownBlock = some g → g < B') (hb : Below B' w w') : w'.ownsRow B e s v n xs := by
  refine ⟨h.1, ?_⟩
  rcases h.2 with h2 | ⟨g, cap, cur, hv', hg, hh, r⟩
  · exact .inl h2
  · exact .inr ⟨g, cap, cur, hv', hg, by rw [hb.block g (hv g (by rw [hv']; rfl))]; exact hh, r⟩
theorem bst_grown {w wo wr w6 : World} {ls : List (List Iid)} {i n : Nat} {s4 s5 s7 : Value} {us xs : List Value} (h0 : BSt w ls i s4 s5 us wo) (h : BSt w ls i s4 s5 us wr) (hm : wr.ownsRow wo.heap.size 58 11 s7 n xs) (hg : wr.grownBy w6 s7.ownBlock) (hz : wo.heap.size ≤ wr.heap.size) : BSt w ls i s4 s5 us w6 := by
  have hb : Below wo.heap.size wr w6 := (Below.refl _ _).grown hg hz (fun q hq => (own_type hm hq).1)
  refine ⟨ownsRow_belowB h.l (fun g e => own_lt h0.l e) hb, ownsRow_belowB h.all (fun g e => own_lt h0.all e) hb, h.len, fun j u hu => ?_, h.bel.trans (hb.mono h0.bel.size)⟩
  obtain ⟨ps, k1, k2, k3⟩ := h.each j u hu
  obtain ⟨_, _, k4, _⟩ := h0.each j u hu
  exact ⟨ps, k1, ownsRow_belowB k2 (fun g e => own_lt k4 e) hb, k3⟩
def InRel (w : World) (ls : List (List Iid)) (i : Nat) (s4 s5 : Value) (us : List Value) (l : List Iid) (Bm : Nat) (s7 : Value) (k : Nat) (wr : World) : Prop := BSt w ls i s4 s5 us wr ∧ wr.ownsRow Bm 58 11 s7 (rowk i l k).length (prow (rowk i l k)) ∧ Bm ≤ wr.heap.size ∧ (k = 0 → s7 = .slice none 0 0)
set_option maxRecDepth 100000 in
set_option maxHeartbeats 4000000 in
theorem mergeSorted_walk (v : Value) (ls : List (List Iid)) (w : World) (h : LidRd w v ls) : Calls Try.prog 6 #[v] w (MTrue w) := by
  obtain ⟨a, c, rfl, h1, h2, h3⟩ := h
  unfold maxLen at h2
  have H3 := Lib.hid h3
  clear h3
  obtain ⟨i0, hi, hi2⟩ := Option.map_eq_some_iff.1 Op.info
  simp only [Prod.mk.injEq] at hi2
  obtain ⟨hz0, hz1, hz2⟩ := hi2
  obtain ⟨j0, hj, hj2⟩ := Option.map_eq_some_iff.1 Sl.info
  simp only [Prod.mk.injEq] at hj2
  obtain ⟨hy0, hy1, hy2⟩ := hj2
  go_enter Try.func6, Try.ntmps6
  go_wp2_with fail
  refine (mqBegun _).mono ?_
  rintro e w1 ⟨rfl, b1⟩
  have B1 := Lib.hid b1
  clear b1
  go_wp2
  go_loopw [4, 5, 6] (fun s4 s5 s6 wr => ∃ i us, i ≤ ls.length ∧ i ≤ 6 ∧ s6 = .int .i64 (i : Nat) ∧ BSt w ls i s4 s5 us wr) (fun _ _ s6 _ => ls.length - (intOf s6).toNat)
  case atStart => exact ⟨0, [], by omega, by omega, rfl, World.ownsRow_nil _ _ _ _, World.ownsRow_nil _ _ _ _, rfl, fun j u hu => by simp at hu, B1.out⟩
  case round =>
    clear B1
    obtain ⟨i, us, hil, hi6, rfl, hS⟩ := hrel
    have HS := Lib.hid hS
    by_cases hlt : i < ls.length
    · by_cases hlt6 : i < 6
      · obtain ⟨l, hl⟩ : ∃ l, ls[i]? = some l := ⟨_, List.getElem?_eq_getElem hlt⟩
        obtain ⟨g, o, u, rfl, hu, hids⟩ := H3.out i l hl
        obtain ⟨la, lc, rfl, l1, l2, l3⟩ := hids
        unfold maxLen at l2
        have q0 : (0 : Int) ≤ i := by omega
        have q1 : (i : Int) < ls.length := by omega
        obtain ⟨va4, vc4, rfl, hv41, hv42, _⟩ := own_shp hS.l
        obtain ⟨va5, vc5, rfl, hv51, hv52, _⟩ := own_shp hS.all
        have hgz := World.block_lt_of_cell? w _ hu
        have HU := Lib.hid hu
        have HL := Lib.hid hl
        have HI3 := Lib.hid l3
        have hflat := allk_flat ls i hil
        have husl := hS.len
        have husl2 := rowsk_len ls i hil
        have hul : us.length ≤ 6 := by omega
        have hfl : (allk ls i).length ≤ 120 := by omega
        clear hS hu hl l3 husl husl2 hflat
        go_wp2
        obtain ⟨wo, rfl⟩ : ∃ wo, wo = wr := ⟨_, rfl⟩
        have hwoz := HS.out.bel.size
        go_loopw [7, 8] (fun s7 s8 wr => ∃ k : Nat, k ≤ l.length ∧ k ≤ 20 ∧ s8 = .int .i64 k ∧ InRel w ls i (.slice va4 us.length vc4) (.slice va5 (allk ls i).length vc5) us l wo.heap.size s7 k wr) (fun _ s8 _ => l.length - (intOf s8).toNat)
        case atStart => exact ⟨0, by omega, by omega, rfl, HS.out, by rw [rowk_zero]; exact World.ownsRow_nil _ _ _ _, Nat.le_refl _, fun _ => rfl⟩
        case round =>
          obtain ⟨k, hkl, hk20, rfl, hB, hm, hBz, hnil⟩ := hrel
          have HNIL := Lib.hid hnil
          clear hnil
          have hcu : wr.cell? ⟨g, o + i, none⟩ = some (.slice la l.length lc) := (hB.bel.cell (p := ⟨g, o + i, none⟩) hgz).trans HU.out
          have HB := Lib.hid hB
          have hbz := hB.bel.size
          obtain ⟨va7, vc7, rfl, hv71, hv72, _⟩ := own_shp hm
          have hrl := rowk_len i l k hkl
          have HM := Lib.hid hm
          clear hB hm
          by_cases hkl2 : k < l.length
          · by_cases hk202 : k < 20
            · obtain ⟨x, hx⟩ : ∃ x, l[k]? = some x := ⟨_, List.getElem?_eq_getElem hkl2⟩
              obtain ⟨g2, o2, rfl, hx1, hx2⟩ := HI3.out k x hx
              have d1 : wr.cell? ⟨g2, o2 + k * 2, none⟩ = some (.int .i64 x.time) := (HB.out.bel.cell (World.block_lt_of_cell? w _ hx1)).trans hx1
              have d2 : wr.cell? ⟨g2, o2 + k * 2 + 1, none⟩ = some (.int .i64 x.node) := (HB.out.bel.cell (World.block_lt_of_cell? w _ hx2)).trans hx2
              have k0 : (0 : Int) ≤ k := by omega
              have k1 : (k : Int) < l.length := by omega
              obtain ⟨M, hM⟩ : ∃ M : Nat, 100 * i + k = M := ⟨_, rfl⟩
              have hM2 : 100 * (i : Int) + (k : Int) = (M : Int) := by omega
              have HMM := Lib.hid hM
              have HX := Lib.hid hx
              have hrl1 : (rowk i l k).length ≤ k := by omega
              have hrl2 : k ≤ (rowk i l k).length := by omega
              clear hM hx hx1 hx2 hrl
              go_wp2_with fail
              refine (atC x.time x.node M _).mono ?_
              rintro e w5 ⟨rfl, b5⟩
              have b5s := b5.size
              have HB5 := Lib.hid (HB.out.below b5)
              have HM5 := Lib.hid ((ownsRow_below HM.out b5).alloc (.cells #[.int .i64 x.time, .int .i64 x.node, .int .i64 0, .int .i64 M, .int .i64 0, .int .i64 0, .int .i64 0, .int .i64 0, .string ByteArray.empty, .slice none 0 0, .slice none 0 0] 58))
              have HB6 := Lib.hid (HB5.out.below ((Below.refl _ _).alloc (Nat.le_refl _) (.cells #[.int .i64 x.time, .int .i64 x.node, .int .i64 0, .int .i64 M, .int .i64 0, .int .i64 0, .int .i64 0, .int .i64 0, .string ByteArray.empty, .slice none 0 0, .slice none 0 0] 58)))
              clear b5 HB HM HB5 d1 d2 hcu
              go_wp2_with (at_builtin; refine wpList_append_lies _ rfl (.tmp 36) (.tmp 49) 55 rfl wo.heap.size 58 i0 _ 11 128 Try.underlying55 hi hz0 hz1 hz2 rfl (Nat.zero_lt_succ 10) (.slice va7 (rowk i l k).length vc7) (rowk i l k).length (prow (rowk i l k)) rfl HM5.out ⟨w5.heap.size, 0, none⟩ 1 1 [.int .i64 x.time, .int .i64 x.node, .int .i64 0, .int .i64 M, .int .i64 0, .int .i64 0, .int .i64 0, .int .i64 0, .string ByteArray.empty, .slice none 0 0, .slice none 0 0] rfl rfl ?c1 ?c2 (Nat.zero_lt_succ 0) ?c3 ?c4 ?c5 (w5.heap.size + 1) ?c6 ?_)
              case c1 => (intro j u hu; rcases j with _ | _ | _ | _ | _ | _ | _ | _ | _ | _ | _ | j <;> simp at hu <;> subst hu <;> simp [Addr.add, go_sem, *])
              case c2 => simp [Value.oneCell']
              case c3 => unfold maxLen; omega
              case c4 => omega
              case c5 => simp; omega
              case c6 => simp
              intro g7 c7 w6 ho6 hg6 ha6 hlt6'
              have hB7 := bst_grown HS.out HB6.out HM5.out hg6 (by simp; omega)
              have hm7 : w6.ownsRow wo.heap.size 58 11 (.slice (some ⟨g7, 0, none⟩) ((rowk i l k).length + 1) c7) (rowk i l (k + 1)).length (prow (rowk i l (k + 1))) := by
                rw [rowk_succ i l k x HX.out, prow_snoc, HMM.out]
                simpa using ho6
              have hz7 := hg6.size
              have HIN : Hid (InRel w ls i (.slice va4 us.length vc4) (.slice va5 (allk ls i).length vc5) us l wo.heap.size (.slice (some ⟨g7, 0, none⟩) ((rowk i l k).length + 1) c7) (k + 1) w6) := Lib.hid ⟨hB7, hm7, by simp at hz7; omega, fun e => by omega⟩
              clear hB7 hm7 hz7 ho6 hg6 ha6 HB6 HM5
              go_wp2
              go_roundw
              case rel => exact ⟨k + 1, by omega, by omega, by go_num, HIN.out⟩
              case measure => simp [intOf]; omega
            · have hK : k = min 20 l.length := by omega
              have HK := Lib.hid hK
              clear hK
              generalize hps : rowk i l k = ps at *
              have HPS : Hid (ps = rowk i l (min 20 l.length)) := Lib.hid (by rw [← hps, HK.out])
              have p1 : ps.length ≤ k := by omega
              have p2 : k ≤ ps.length := by omega
              have HHL := Lib.hid HL.out
              clear hrl hps
              have hkk := Nat.eq_zero_or_pos k
              rcases hkk with hk0 | hkp
              · omega
              · have hform := HM.out.form (by omega)
                obtain ⟨g7, cap7, e7, hg7, hlt7⟩ := hform
                injection e7 with e71 e72 e73
                subst e71
                clear e72
                subst e73
                go_upto_region 13 with (at_builtin; refine wpList_append_lies _ rfl (.tmp 51) (.tmp 53) 54 rfl w.heap.size 55 j0 _ 1 24 Try.underlying54 hj hy0 hy1 hy2 rfl (Nat.zero_lt_succ 0) (.slice va4 us.length vc4) us.length us rfl (HB.out.l.alloc _) ⟨wr.heap.size, 0, none⟩ 1 1 [.slice (some ⟨g7, 0, none⟩) ps.length vc7] rfl rfl ?_ ?_ (Nat.zero_lt_succ 0) ?_ ?_ ?_ (wr.heap.size + 1) ?_ ?_; (case _ => (intro j u hu; rcases j with _ | j <;> simp at hu <;> subst hu <;> simp [Addr.add, go_sem, *])); (case _ => simp [Value.oneCell']); (case _ => (unfold maxLen; omega)); (case _ => omega); (case _ => (simp <;> omega)); (case _ => simp); intro g4 c4 w4 ho4 hg4 ha4 hlt4)
                have BM := Lib.hid (bst_l (HB.out.below ((Below.refl _ _).alloc (Nat.le_refl _) (.cells #[.slice (some ⟨g7, 0, none⟩) ps.length vc7] 55))) (ps := ps) (HM.out.alloc (.cells #[.slice (some ⟨g7, 0, none⟩) ps.length vc7] 55)) hwoz (fun g e => own_lt HS.out.all e) hg4 ho4)
                clear ho4 hg4 ha4
                have hmm := BM.out.m
                have hmc := pown_cells hmm
                go_wp2_with (at_builtin; refine wpList_append_lies _ rfl (.tmp 55) (.tmp 56) 55 rfl w.heap.size 58 i0 _ 11 128 Try.underlying55 hi hz0 hz1 hz2 rfl (Nat.zero_lt_succ 10) (.slice va5 (allk ls i).length vc5) (allk ls i).length (prow (allk ls i)) rfl BM.out.all ⟨g7, 0, none⟩ ps.length vc7 (prow ps) rfl (prow_len ps) ?_ ?_ ?_ ?_ ?_ ?_ w4.heap.size rfl ?_; (case _ => exact hmc); (case _ => exact prow_one ps); (case _ => omega); (case _ => (unfold maxLen; omega)); (case _ => omega); (case _ => exact BM.out.bel.size); intro g9 c9 w9 ho9 hg9 ha9 hlt9)
                have HFIN := Lib.hid (bst_some HHL.out HPS.out BM.out hg9 ha9 ho9)
                clear ho9 hg9 ha9 hmm hmc
                clear BM HB HM
                go_wp2
                go_roundw
                case rel => exact ⟨i + 1, _, by omega, by omega, by go_num, HFIN.out⟩
                case measure => simp [intOf]; omega
          · have hK : k = min 20 l.length := by omega
            have hkn : ¬ ((k : Int) < l.length) := by omega
            have HK := Lib.hid hK
            clear hK
            generalize hps : rowk i l k = ps at *
            have HPS : Hid (ps = rowk i l (min 20 l.length)) := Lib.hid (by rw [← hps, HK.out])
            have p1 : ps.length ≤ k := by omega
            have p2 : k ≤ ps.length := by omega
            have HHL := Lib.hid HL.out
            clear hrl hps
            have hkk := Nat.eq_zero_or_pos k
            rcases hkk with hk0 | hkp
            · obtain rfl : ps = [] := List.length_eq_zero_iff.1 (by omega)
              have e7 := HNIL.out hk0
              injection e7 with e71 e72 e73
              subst e71
              subst e73
              have HK0 := Lib.hid hk0
              clear e72 hk0
              go_upto_region 13 with (at_builtin; refine wpList_append_lies _ rfl (.tmp 51) (.tmp 53) 54 rfl w.heap.size 55 j0 _ 1 24 Try.underlying54 hj hy0 hy1 hy2 rfl (Nat.zero_lt_succ 0) (.slice va4 us.length vc4) us.length us rfl (HB.out.l.alloc _) ⟨wr.heap.size, 0, none⟩ 1 1 [.slice none ([] : List P3).length 0] rfl rfl ?_ ?_ (Nat.zero_lt_succ 0) ?_ ?_ ?_ (wr.heap.size + 1) ?_ ?_; (case _ => (intro j u hu; rcases j with _ | j <;> simp at hu <;> subst hu <;> simp [Addr.add, go_sem, *])); (case _ => simp [Value.oneCell']); (case _ => (unfold maxLen; omega)); (case _ => omega); (case _ => (simp <;> omega)); (case _ => simp); intro g4 c4 w4 ho4 hg4 ha4 hlt4)
              have BM := Lib.hid (bst_l (HB.out.below ((Below.refl _ _).alloc (Nat.le_refl _) (.cells #[.slice none ([] : List P3).length 0] 55))) (ps := []) (HM.out.alloc (.cells #[.slice none ([] : List P3).length 0] 55)) hwoz (fun g e => own_lt HS.out.all e) hg4 ho4)
              clear ho4 hg4 ha4
              go_wp2_with (at_builtin; refine wpList_append_own_none rfl (.tmp 55) (.tmp 56) 55 rfl w.heap.size 58 i0 11 Try.underlying55 hi (.slice va5 (allk ls i).length vc5) (allk ls i).length (prow (allk ls i)) rfl BM.out.all rfl ?_)
              have HFIN := Lib.hid (bst_none HHL.out HPS.out BM.out rfl)
              clear BM HB HM
              go_wp2
              go_roundw
              case rel => exact ⟨i + 1, _, by omega, by omega, by go_num, HFIN.out⟩
              case measure => simp [intOf]; omega
            · have hform := HM.out.form (by omega)
              obtain ⟨g7, cap7, e7, hg7, hlt7⟩ := hform
              injection e7 with e71 e72 e73
              subst e71
              clear e72
              subst e73
              go_upto_region 13 with (at_builtin; refine wpList_append_lies _ rfl (.tmp 51) (.tmp 53) 54 rfl w.heap.size 55 j0 _ 1 24 Try.underlying54 hj hy0 hy1 hy2 rfl (Nat.zero_lt_succ 0) (.slice va4 us.length vc4) us.length us rfl (HB.out.l.alloc _) ⟨wr.heap.size, 0, none⟩ 1 1 [.slice (some ⟨g7, 0, none⟩) ps.length vc7] rfl rfl ?_ ?_ (Nat.zero_lt_succ 0) ?_ ?_ ?_ (wr.heap.size + 1) ?_ ?_; (case _ => (intro j u hu; rcases j with _ | j <;> simp at hu <;> subst hu <;> simp [Addr.add, go_sem, *])); (case _ => simp [Value.oneCell']); (case _ => (unfold maxLen; omega)); (case _ => omega); (case _ => (simp <;> omega)); (case _ => simp); intro g4 c4 w4 ho4 hg4 ha4 hlt4)
              have BM := Lib.hid (bst_l (HB.out.below ((Below.refl _ _).alloc (Nat.le_refl _) (.cells #[.slice (some ⟨g7, 0, none⟩) ps.length vc7] 55))) (ps := ps) (HM.out.alloc (.cells #[.slice (some ⟨g7, 0, none⟩) ps.length vc7] 55)) hwoz (fun g e => own_lt HS.out.all e) hg4 ho4)
              clear ho4 hg4 ha4
              have hmm := BM.out.m
              have hmc := pown_cells hmm
              go_wp2_with (at_builtin; refine wpList_append_lies _ rfl (.tmp 55) (.tmp 56) 55 rfl w.heap.size 58 i0 _ 11 128 Try.underlying55 hi hz0 hz1 hz2 rfl (Nat.zero_lt_succ 10) (.slice va5 (allk ls i).length vc5) (allk ls i).length (prow (allk ls i)) rfl BM.out.all ⟨g7, 0, none⟩ ps.length vc7 (prow ps) rfl (prow_len ps) ?_ ?_ ?_ ?_ ?_ ?_ w4.heap.size rfl ?_; (case _ => exact hmc); (case _ => exact prow_one ps); (case _ => omega); (case _ => (unfold maxLen; omega)); (case _ => omega); (case _ => exact BM.out.bel.size); intro g9 c9 w9 ho9 hg9 ha9 hlt9)
              have HFIN := Lib.hid (bst_some HHL.out HPS.out BM.out hg9 ha9 ho9)
              clear ho9 hg9 ha9 hmm hmc
              clear BM HB HM
              go_wp2
              go_roundw
              case rel => exact ⟨i + 1, _, by omega, by omega, by go_num, HFIN.out⟩
              case measure => simp [intOf]; omega
      · obtain rfl : i = 6 := by omega
        have h6' : (6 : Int) < ls.length := by omega
        have h6'' : ¬ ((ls.length : Int) ≤ 6) := by omega
        obtain ⟨i, hi6e⟩ : ∃ i : Nat, i = 6 := ⟨_, rfl⟩
        rw [← hi6e] at hil HS hS
        have HI6 := Lib.hid hi6e
        have hi66 : i ≤ 6 := by omega
        clear hi6e
        have hflat := allk_flat ls i hil
        have hfl2 : (rowsk ls i).flatten.length ≤ 900 := by have : (allk ls i).length = (rowsk ls i).flatten.length := rfl; omega
        have KS := Lib.hid (sortedC u4 (rowsk ls i) wr HS.out.lst hfl2)
        have HA := Lib.hid (prow_rd HS.out.all)
        have HBE := Lib.hid HS.out.bel
        clear HS hfl2 hflat hS
        go_wp2_with fail
        refine KS.out.mono ?_
        rintro e w2 ⟨v9, ys, rfl, r1, r2, r3, b2⟩
        have KR := Lib.hid (rSortC u5 (allk ls i) w2 (HA.out.below b2) (by have := allk_flat ls i hil; omega))
        have R1 := Lib.hid r1
        have R2 := Lib.hid r2
        have R3 := Lib.hid r3
        have HB2 := Lib.hid (HBE.out.trans (b2.mono HBE.out.size))
        clear KS HA HBE r1 r2 r3 b2
        go_wp2_with fail
        refine KR.out.mono ?_
        rintro e w3 ⟨v10, zs, rfl, q1, q2, q3, b3⟩
        have hzy : zs = ys := mq_uniq false zs ys (q2.trans R2.out.symm) q3 R3.out (fun x hx y hy => num_inj _ 0 x y (q2.mem_iff.1 hx) (q2.mem_iff.1 hy))
        rw [hzy] at q1
        have R1' := R1.out.below b3
        have HB3 := Lib.hid (HB2.out.trans (b3.mono HB2.out.size))
        clear KR hzy q2 q3 b3 R1 R2 R3 HB2
        generalize ys.map toP = ps at *
        obtain ⟨a9, c9, rfl, e9, f9⟩ := R1'.shape
        obtain ⟨a10, c10, rfl, e10, f10⟩ := q1.shape
        have G1 := Lib.hid R1'
        have G2 := Lib.hid q1
        clear R1' q1
        go_wp2_with fail
        obtain ⟨wz, rfl⟩ : ∃ wz, wz = w3 := ⟨_, rfl⟩
        go_loopw [11] (fun s11 wr => ∃ k : Nat, k ≤ ps.length ∧ s11 = .int .i64 k ∧ Below wz.heap.size wz wr) (fun s11 _ => ps.length - (intOf s11).toNat)
        case atStart => exact ⟨0, by omega, rfl, Below.refl _ _⟩
        case round =>
          obtain ⟨k, hkl, rfl, hbz⟩ := hrel
          by_cases hlk : k < ps.length
          · obtain ⟨p, hp⟩ : ∃ p, ps[k]? = some p := ⟨_, List.getElem?_eq_getElem hlk⟩
            obtain ⟨g1, o1, rfl, pc1⟩ := ops_at G1.out hp
            obtain ⟨g2, o2, rfl, pc2⟩ := ops_at G2.out hp
            have FM : FMid wz g1 (o1 + k * 11) g2 (o2 + k * 11) p wr := ⟨pc1.of_cells (fun ad u hu => (hbz.cell (World.block_lt_of_cell? wz _ hu)).trans hu), pc2.of_cells (fun ad u hu => (hbz.cell (World.block_lt_of_cell? wz _ hu)).trans hu), hbz⟩
            have k0 : (0 : Int) ≤ k := by omega
            have k1 : (k : Int) < ps.length := by omega
            obtain ⟨m1, m2, m3, m4, m5, m6, _⟩ := fm_S FM
            have HFM := Lib.hid FM
            have hne : (p.mark != p.mark) = false := by simp
            clear FM hbz pc1 pc2 hp
            go_wp2_with fail
            go_region_held3 (fun w' => w'.cell? ⟨g1, o1 + k * 11 + 3, none⟩ = some (.int .i64 p.mark) ∧ w'.cell? ⟨g2, o2 + k * 11 + 3, none⟩ = some (.int .i64 p.mark) ∧ w'.cell? ⟨g1, o1 + k * 11, none⟩ = some (.int .i64 p.time) ∧ w'.cell? ⟨g1, o1 + k * 11 + 1, none⟩ = some (.int .i64 p.node) ∧ w'.cell? ⟨g2, o2 + k * 11, none⟩ = some (.int .i64 p.time) ∧ w'.cell? ⟨g2, o2 + k * 11 + 1, none⟩ = some (.int .i64 p.node) ∧ FMid wz g1 (o1 + k * 11) g2 (o2 + k * 11) p w') ((refine fm_S ?_; first | (with_reducible assumption) | exact fm_drew HFM.out | exact fm_drew (by assumption) | exact fm_drew (fm_of (by assumption)))) (first | (go_at_call 29; (with_reducible refine (sSame p.time p.node _).mono ?_); rintro e w9 ⟨rfl, hb⟩; have g9 := fm_below hb (by first | assumption | exact fm_of (by assumption) | exact fm_drew HFM.out); clear hb))
            have G9 := Lib.hid (fm_of (by assumption)).bel
            go_wp2
            go_roundw
            case rel => exact ⟨k + 1, by omega, by go_num, G9.out⟩
            case measure => simp [intOf]; omega
          · obtain rfl : k = ps.length := by omega
            go_wp2
            go_ret
            exact ⟨rfl, HB3.out.trans (hbz.mono HB3.out.size)⟩
    · obtain rfl : i = ls.length := by omega
      obtain ⟨i, hie⟩ : ∃ i : Nat, i = ls.length := ⟨_, rfl⟩
      rw [← hie] at HS hS
      have hil : i ≤ ls.length := by omega
      have hi66 : i ≤ 6 := by omega
      have HIE := Lib.hid hie
      clear hie
      have hflat := allk_flat ls i hil
      have hfl2 : (rowsk ls i).flatten.length ≤ 900 := by have : (allk ls i).length = (rowsk ls i).flatten.length := rfl; omega
      have KS := Lib.hid (sortedC u4 (rowsk ls i) wr HS.out.lst hfl2)
      have HA := Lib.hid (prow_rd HS.out.all)
      have HBE := Lib.hid HS.out.bel
      clear HS hfl2 hflat hS
      go_wp2_with fail
      refine KS.out.mono ?_
      rintro e w2 ⟨v9, ys, rfl, r1, r2, r3, b2⟩
      have KR := Lib.hid (rSortC u5 (allk ls i) w2 (HA.out.below b2) (by have := allk_flat ls i hil; omega))
      have R1 := Lib.hid r1
      have R2 := Lib.hid r2
      have R3 := Lib.hid r3
      have HB2 := Lib.hid (HBE.out.trans (b2.mono HBE.out.size))
      clear KS HA HBE r1 r2 r3 b2
      go_wp2_with fail
      refine KR.out.mono ?_
      rintro e w3 ⟨v10, zs, rfl, q1, q2, q3, b3⟩
      have hzy : zs = ys := mq_uniq false zs ys (q2.trans R2.out.symm) q3 R3.out (fun x hx y hy => num_inj _ 0 x y (q2.mem_iff.1 hx) (q2.mem_iff.1 hy))
      rw [hzy] at q1
      have R1' := R1.out.below b3
      have HB3 := Lib.hid (HB2.out.trans (b3.mono HB2.out.size))
      clear KR hzy q2 q3 b3 R1 R2 R3 HB2
      generalize ys.map toP = ps at *
      obtain ⟨a9, c9, rfl, e9, f9⟩ := R1'.shape
      obtain ⟨a10, c10, rfl, e10, f10⟩ := q1.shape
      have G1 := Lib.hid R1'
      have G2 := Lib.hid q1
      clear R1' q1
      go_wp2_with fail
      obtain ⟨wz, rfl⟩ : ∃ wz, wz = w3 := ⟨_, rfl⟩
      go_loopw [11] (fun s11 wr => ∃ k : Nat, k ≤ ps.length ∧ s11 = .int .i64 k ∧ Below wz.heap.size wz wr) (fun s11 _ => ps.length - (intOf s11).toNat)
      case atStart => exact ⟨0, by omega, rfl, Below.refl _ _⟩
      case round =>
        obtain ⟨k, hkl, rfl, hbz⟩ := hrel
        by_cases hlk : k < ps.length
        · obtain ⟨p, hp⟩ : ∃ p, ps[k]? = some p := ⟨_, List.getElem?_eq_getElem hlk⟩
          obtain ⟨g1, o1, rfl, pc1⟩ := ops_at G1.out hp
          obtain ⟨g2, o2, rfl, pc2⟩ := ops_at G2.out hp
          have FM : FMid wz g1 (o1 + k * 11) g2 (o2 + k * 11) p wr := ⟨pc1.of_cells (fun ad u hu => (hbz.cell (World.block_lt_of_cell? wz _ hu)).trans hu), pc2.of_cells (fun ad u hu => (hbz.cell (World.block_lt_of_cell? wz _ hu)).trans hu), hbz⟩
          have k0 : (0 : Int) ≤ k := by omega
          have k1 : (k : Int) < ps.length := by omega
          obtain ⟨m1, m2, m3, m4, m5, m6, _⟩ := fm_S FM
          have HFM := Lib.hid FM
          have hne : (p.mark != p.mark) = false := by simp
          clear FM hbz pc1 pc2 hp
          go_wp2_with fail
          go_region_held3 (fun w' => w'.cell? ⟨g1, o1 + k * 11 + 3, none⟩ = some (.int .i64 p.mark) ∧ w'.cell? ⟨g2, o2 + k * 11 + 3, none⟩ = some (.int .i64 p.mark) ∧ w'.cell? ⟨g1, o1 + k * 11, none⟩ = some (.int .i64 p.time) ∧ w'.cell? ⟨g1, o1 + k * 11 + 1, none⟩ = some (.int .i64 p.node) ∧ w'.cell? ⟨g2, o2 + k * 11, none⟩ = some (.int .i64 p.time) ∧ w'.cell? ⟨g2, o2 + k * 11 + 1, none⟩ = some (.int .i64 p.node) ∧ FMid wz g1 (o1 + k * 11) g2 (o2 + k * 11) p w') ((refine fm_S ?_; first | (with_reducible assumption) | exact fm_drew HFM.out | exact fm_drew (by assumption) | exact fm_drew (fm_of (by assumption)))) (first | (go_at_call 29; (with_reducible refine (sSame p.time p.node _).mono ?_); rintro e w9 ⟨rfl, hb⟩; have g9 := fm_below hb (by first | assumption | exact fm_of (by assumption) | exact fm_drew HFM.out); clear hb))
          have G9 := Lib.hid (fm_of (by assumption)).bel
          go_wp2
          go_roundw
          case rel => exact ⟨k + 1, by omega, by go_num, G9.out⟩
          case measure => simp [intOf]; omega
        · obtain rfl : k = ps.length := by omega
          go_wp2
          go_ret
          exact ⟨rfl, HB3.out.trans (hbz.mono HB3.out.size)⟩
end Go.Proofs.Ythbalmoafpggdaa
