/- MergeQueue, the walk. -/
import Derived.Test.YthbalmoafpggdaaChecked
import Derived.WalkKit
import Derived.Outline
import Derived.WalkSpells
import Derived.WalkLawsBesides
import Derived.Deep.QuietTactic
import Derived.Deep.RegionWith
import Derived.Deep.DeepMust
import Derived.BigQuiet
import Derived.Test.YthbalmoafpggdaaMem
import Derived.RegionTactic
import Derived.ChangeAlike
import Derived.StillTailTactics
import Derived.BigRegion
import Derived.Deep.RegionHeld3
import Derived.Deep.RegionLaw
import Derived.Deep.AppendLies
import Derived.Deep.DeepCutAuto
import Derived.Deep.CutBlock
import Derived.IntWalk
import Derived.Deep.RegionLawGrows
import Derived.IntWalk
import Derived.Deep.RegionLawGrows
import Derived.Test.YthbalmoafpggdaaMw
namespace Go.Proofs.Ythbalmoafpggdaa
open Go.RowKit
set_option linter.unusedVariables false
set_option linter.unusedSimpArgs false
def BoolsRd (w : World) (v : Value) (bs : List Bool) : Prop := ∃ a c, v = .slice a bs.length c ∧ bs.length ≤ c ∧ c ≤ maxLen ∧ ∀ i x, bs[i]? = some x → ∃ g o, a = some ⟨g, o, none⟩ ∧ w.cell? ⟨g, o + i, none⟩ = some (.bool x)
def WRel (back : Bool) (F : Value) (w : World) (b : Nat) (ids : List Iid) (s10 : Value) (i n : Nat) (wr : World) : Prop := ∃ ml, n ≤ i ∧ n ≤ ids.length ∧ QQ back F w b n ml wr ∧ MRow wr w.heap.size s10 ml ∧ MLOk n ml
theorem addr_addM (b o i : Nat) : (⟨b, o, none⟩ : Addr).add i = ⟨b, o + i, none⟩ := by
  unfold Addr.add
  split
  · next h => rw [h]; rfl
  · rfl
theorem MRow.new {w : World} {B : Nat} {v : Value} {ml : List Mit} {x : Mit} (h : w.ownsRow B 58 11 v (ml.length + 1) (orow ml ++ [.int .i64 x.time, .int .i64 x.node, .int .i64 0, .int .i64 x.mark, .int .i64 0, .int .i64 0, .int .i64 0, .int .i64 0, .string ByteArray.empty, .slice none 0 0, .slice none 0 0])) : MRow w B v (ml ++ [x]) := .inl (by rw [orow_snoc]; simpa using h)
theorem QQ.grown {back : Bool} {F : Value} {w wr w' : World} {b n B m : Nat} {ml : List Mit} {v : Value} {xs : List Value} (h : QQ back F w b n ml wr) (ho : wr.ownsRow B 58 11 v m xs) (hB : w.heap.size ≤ B) (hg : wr.grownBy w' v.ownBlock) : QQ back F w b n ml w' := by
  cases e : v.ownBlock with
  | none =>
    rw [e] at hg
    exact h.below ((Below.refl _ _).grown hg (Nat.le_refl _) (fun q hq => by cases hq))
  | some g =>
    rw [e] at hg
    obtain ⟨h1, cur, h2⟩ := own_type ho e
    have hb : Blk wr g cur 58 := h2
    exact h.chg hb (by decide) (by decide) (by omega) ((Chg.refl _ _).grown hg (fun k e _ => by injection e with e; exact e.symm))
theorem row_cells {w : World} {g n : Nat} {cur : Array Value} {T : TypeId} {xs : List Value} (hb : Blk w g cur T) (ht : cur.toList.take n = xs) : ∀ b : Addr, some (⟨g, 0, none⟩ : Addr) = some b → ∀ (j : Nat) (u : Value), xs[j]? = some u → w.cell? (b.add j) = some u := by
  intro b e j u hu
  injection e with e
  subst e
  rw [addr_addM, Nat.zero_add]
  refine hb.cell ?_
  have hj : j < n := by
    rcases Nat.lt_or_ge j n with h | h
    · exact h
    · rw [← ht, List.getElem?_eq_none (by simp; omega)] at hu; cases hu
  rw [← ht, List.getElem?_take_of_lt hj] at hu
  simpa using hu
def Best (back : Bool) (ml : List Mit) (k : Nat) (s14 : Value) : Prop := (k = 0 ∧ s14 = .int .i64 (-1)) ∨ ∃ j, j < k ∧ s14 = .int .i64 (j : Nat) ∧ ∀ i, i < k → mlt back (ml.getD i default) (ml.getD j default) = false
theorem mlt_laterB (back : Bool) {x y : Mit} (h : y.came < x.came) : mlt back x y = lf back x y := by
  cases h1 : lf back x y
  · unfold mlt
    rw [h1]
    simp only [Bool.false_eq_true, if_false]
    split
    · rfl
    · simp; omega
  · unfold mlt; rw [h1]; rfl
theorem best_keep {back : Bool} {ml : List Mit} {j k : Nat} (h : ∀ i, i < k → mlt back (ml.getD i default) (ml.getD j default) = false) (h2 : mlt back (ml.getD k default) (ml.getD j default) = false) : ∀ i, i < k + 1 → mlt back (ml.getD i default) (ml.getD j default) = false := by
  intro i hi
  rcases Nat.lt_or_ge i k with hk | hk
  · exact h i hk
  · obtain rfl : i = k := by omega
    exact h2
theorem best_turn {back : Bool} {ml : List Mit} {j k : Nat} (h : ∀ i, i < k → mlt back (ml.getD i default) (ml.getD j default) = false) (h2 : mlt back (ml.getD k default) (ml.getD j default) = true) : ∀ i, i < k + 1 → mlt back (ml.getD i default) (ml.getD k default) = false := by
  intro i hi
  rcases Nat.lt_or_ge i k with hk | hk
  · exact (mlt_ord back).trans _ _ _ ((mlt_ord back).asymm _ _ h2) (h i hk)
  · obtain rfl : i = k := by omega
    exact (mlt_ord back).irrefl _
theorem below_cell' {w w' : World} (hb : Below w.heap.size w w') (a : Addr) (u : Value) (h : w.cell? a = some u) : w'.cell? a = some u := below_cell hb a u h
structure KMid (wz : World) (g o1 o2 : Nat) (x y : Mit) (w' : World) : Prop where
  cx : PcAt w' g o1 (toP x)
  cy : PcAt w' g o2 (toP y)
  bel : Below wz.heap.size wz w'
theorem km_below {wz W w' : World} {g o1 o2 : Nat} {x y : Mit} (hb : Below W.heap.size W w') (h : KMid wz g o1 o2 x y W) : KMid wz g o1 o2 x y w' := ⟨h.cx.of_cells (below_cell hb), h.cy.of_cells (below_cell hb), h.bel.trans (hb.mono h.bel.size)⟩
theorem row_cut {w : World} {B g j c : Nat} {cur : Array Value} {ml : List Mit} (hg : B ≤ g) (hb : Blk w g cur 58) (h1 : cur.toList.take (j * 11) = orow (ml.take j)) (h2 : ml.length * 11 ≤ cur.size) (h3 : ml.length = j + 1) (h4 : ml.length ≤ 1000) : MRow w B (.slice (some ⟨g, 0, none⟩) (j + (ml.length - (j + 1))) j) (ml.eraseIdx j) := by
  have e : ml.eraseIdx j = ml.take j := by
    rw [List.eraseIdx_eq_take_drop_succ, List.drop_eq_nil_of_le (by omega), List.append_nil]
  have e2 : (ml.eraseIdx j).length = j := by rw [e, List.length_take]; omega
  have e3 : j + (ml.length - (j + 1)) = j := by omega
  rw [e3]
  refine .inr ⟨g, cur, ?_, hg, hb, ?_, ?_, ?_⟩
  · rw [e2]
  · rw [e2]; omega
  · rw [e2]; omega
  · rw [e2, h1, e]
theorem km_drew {wz W : World} {g o1 o2 : Nat} {x y : Mit} (h : KMid wz g o1 o2 x y W) : KMid wz g o1 o2 x y W.drew := km_below (Below.drew (Below.refl _ _)) h
theorem km_S {wz w' : World} {g o1 o2 : Nat} {x y : Mit} (h : KMid wz g o1 o2 x y w') : w'.cell? ⟨g, o1, none⟩ = some (.int .i64 x.time) ∧ w'.cell? ⟨g, o1 + 1, none⟩ = some (.int .i64 x.node) ∧ w'.cell? ⟨g, o2, none⟩ = some (.int .i64 y.time) ∧ w'.cell? ⟨g, o2 + 1, none⟩ = some (.int .i64 y.node) ∧ KMid wz g o1 o2 x y w' := ⟨h.cx.c0, h.cx.c1, h.cy.c0, h.cy.c1, h⟩
theorem km_of {wz w' : World} {g o1 o2 : Nat} {x y : Mit} (h : w'.cell? ⟨g, o1, none⟩ = some (.int .i64 x.time) ∧ w'.cell? ⟨g, o1 + 1, none⟩ = some (.int .i64 x.node) ∧ w'.cell? ⟨g, o2, none⟩ = some (.int .i64 y.time) ∧ w'.cell? ⟨g, o2 + 1, none⟩ = some (.int .i64 y.node) ∧ KMid wz g o1 o2 x y w') : KMid wz g o1 o2 x y w' := h.2.2.2.2
theorem orow_app (a b : List Mit) : orow (a ++ b) = orow a ++ orow b := by simp [orow]
theorem row_take {cur : Array Value} {ml : List Mit} {j : Nat} (ht : cur.toList.take (ml.length * 11) = orow ml) (hj : j ≤ ml.length) : cur.toList.take (j * 11) = orow (ml.take j) := by
  have e1 : cur.toList.take (j * 11) = (cur.toList.take (ml.length * 11)).take (j * 11) := by rw [List.take_take]; congr 1; omega
  have hl : (orow (ml.take j)).length = j * 11 := by rw [orow_len, List.length_take]; congr 1; omega
  rw [e1, ht]
  conv => lhs; rw [← List.take_append_drop j ml, orow_app]
  rw [← hl, List.take_left]
theorem row_drop {cur : Array Value} {ml : List Mit} {k : Nat} (ht : cur.toList.take (ml.length * 11) = orow ml) (hk : k ≤ ml.length) : ∀ jj u, (orow (ml.drop k))[jj]? = some u → cur[k * 11 + jj]? = some u := by
  intro jj u hu
  have hl : (orow (ml.take k)).length = k * 11 := by rw [orow_len, List.length_take]; congr 1; omega
  have h1 : (orow ml)[k * 11 + jj]? = some u := by
    conv => lhs; rw [← List.take_append_drop k ml, orow_app]
    rw [List.getElem?_append_right (by omega), hl, Nat.add_sub_cancel_left]
    exact hu
  have h2 : k * 11 + jj < ml.length * 11 := by
    rcases Nat.lt_or_ge (k * 11 + jj) (ml.length * 11) with h | h
    · exact h
    · rw [List.getElem?_eq_none (by rw [orow_len]; omega)] at h1; cases h1
  rw [← ht, List.getElem?_take_of_lt h2] at h1
  simpa using h1
theorem row_takeL {ml : List Mit} {j : Nat} (hj : j < ml.length) : (orow (ml.take j)).length = j * 11 := by rw [orow_len, List.length_take]; congr 1; omega
theorem row_dropL (ml : List Mit) (k : Nat) : (orow (ml.drop k)).length = (ml.length - k) * 11 := by rw [orow_len, List.length_drop]
theorem row_cellsD {w : World} {g o : Nat} {cur : Array Value} {T : TypeId} {xs : List Value} (hb : Blk w g cur T) (ht : ∀ jj u, xs[jj]? = some u → cur[o + jj]? = some u) : ∀ (j : Nat) (u : Value), xs[j]? = some u → w.cell? ((⟨g, o, none⟩ : Addr).add j) = some u := by
  intro j u hu
  rw [addr_addM]
  exact hb.cell (ht j u hu)
theorem orow_one (ys : List Mit) : ∀ u ∈ orow ys, u.oneCell' = true := by
  intro u hu
  obtain ⟨p, _, hp⟩ := List.mem_flatMap.1 hu
  simp only [p3C, List.mem_cons, List.not_mem_nil, or_false] at hp
  rcases hp with rfl | rfl | rfl | rfl | rfl | rfl | rfl | rfl | rfl | rfl | rfl <;> rfl
set_option maxRecDepth 100000 in
set_option maxHeartbeats 4000000 in
theorem mqWalkR (v0 v1 : Value) (ids : List Iid) (bs : List Bool) (w : World) (h0 : IdsRd w v0 ids) (h1 : BoolsRd w v1 bs) : Calls Try.prog 7 #[v0, v1, .bool false] w (MTrue w) := by
  obtain ⟨a0, c0, rfl, a1, a2, a3⟩ := h0
  obtain ⟨b0, d0, rfl, b1, b2, b3⟩ := h1
  unfold maxLen at a2 b2
  have HI := Lib.hid a3
  have HB := Lib.hid b3
  clear a3 b3
  obtain ⟨i0, hi, hi2⟩ := Option.map_eq_some_iff.1 Op.info
  simp only [Prod.mk.injEq] at hi2
  obtain ⟨hz0, hz1, hz2⟩ := hi2
  go_enter Try.func7, Try.ntmps7
  go_wp2_with fail
  refine (mqBegun _).mono ?_
  rintro e w1 ⟨rfl, b1'⟩
  have B1 := Lib.hid b1'
  clear b1'
  go_wp2_with fail
  refine (qNewR _).mono ?_
  rintro e w2 ⟨b, rfl, hb, hq, b2'⟩
  have hb0 : w.heap.size ≤ b := by have := B1.out.size; omega
  have Q0 : Hid (WRel false (Fun 30) w b ids (.slice none 0 0) 0 0 w2) := Lib.hid ⟨[], Nat.le_refl _, Nat.zero_le _, ⟨⟨_, #[], hq, fun k h0 h1 => by simp at h1, by simp⟩, B1.out.trans (b2'.mono B1.out.size)⟩, .inl (World.ownsRow_nil _ _ _ _), ⟨List.Pairwise.nil, fun x hx => by simp at hx, fun x hx => by simp at hx, Nat.le_refl _⟩⟩
  clear hb hq b2'
  go_wp2
  go_loopw [10, 11, 12] (fun s10 s11 s12 wr => ∃ i n : Nat, i ≤ bs.length ∧ i ≤ 60 ∧ s12 = .int .i64 i ∧ s11 = .int .i64 n ∧ WRel false (Fun 30) w b ids s10 i n wr) (fun _ _ s12 _ => bs.length - (intOf s12).toNat)
  case atStart => exact ⟨0, 0, by omega, by omega, rfl, rfl, Q0.out⟩
  case round =>
    clear Q0 B1
    obtain ⟨i, n, hib, hi60, rfl, rfl, ml, hni, hnl, hQ, hM, hO⟩ := hrel
    obtain ⟨ma, mc, rfl, hm1, hm2⟩ := hM.shape
    have hln := hO.len
    have HQ := Lib.hid hQ
    have HM := Lib.hid hM
    have HO := Lib.hid hO
    clear hQ hM hO
    by_cases hlt : i < bs.length
    · by_cases hlt6 : i < 60
      · obtain ⟨pb, hpb⟩ : ∃ pb, bs[i]? = some pb := ⟨_, List.getElem?_eq_getElem hlt⟩
        obtain ⟨gb, ob, rfl, hcb⟩ := HB.out i pb hpb
        have hcb2 : wr.cell? ⟨gb, ob + i, none⟩ = some (.bool pb) := (HQ.out.bel.cell (p := ⟨gb, ob + i, none⟩) (World.block_lt_of_cell? w _ hcb)).trans hcb
        have q0 : (0 : Int) ≤ i := by omega
        have q1 : (i : Int) < bs.length := by omega
        clear hcb hpb
        by_cases hpush : pb = false ∧ n < ids.length
        · obtain ⟨rfl, hnid⟩ := hpush
          obtain ⟨x, hx⟩ : ∃ x, ids[n]? = some x := ⟨_, List.getElem?_eq_getElem hnid⟩
          obtain ⟨gi, oi, rfl, hx1, hx2⟩ := HI.out n x hx
          have e1 : wr.cell? ⟨gi, oi + n * 2, none⟩ = some (.int .i64 x.time) := (HQ.out.bel.cell (World.block_lt_of_cell? w _ hx1)).trans hx1
          have e2 : wr.cell? ⟨gi, oi + n * 2 + 1, none⟩ = some (.int .i64 x.node) := (HQ.out.bel.cell (World.block_lt_of_cell? w _ hx2)).trans hx2
          have q2 : (0 : Int) ≤ n := by omega
          have q3 : (n : Int) < ids.length := by omega
          clear hx hx1 hx2
          go_wp2_with fail
          refine (atC x.time x.node n _).mono ?_
          rintro e w5 ⟨rfl, b5⟩
          have HQ5 := Lib.hid (HQ.out.below b5)
          have HM5 := Lib.hid (HM.out.below b5)
          have K5 := Lib.hid (fun w' hw => qqPush (lessOkR) hb0 (HQ5.out.below hw) (by omega) HO.out.len x.time x.node n : ∀ w' (hw : Below w5.heap.size w5 w'), _)
          have hwz := HQ5.out.bel.size
          clear b5 e1 e2 hcb2 HQ HM
          go_wp2_with fail
          refine (K5.out _ ((Below.refl _ _).alloc (Nat.le_refl _) _)).mono ?_
          rintro e w6 ⟨rfl, h6, k6⟩
          have C6 : Blk w6 w5.heap.size #[.int .i64 x.time, .int .i64 x.node, .int .i64 0, .int .i64 n, .int .i64 0, .int .i64 0, .int .i64 0, .int .i64 0, .string ByteArray.empty, .slice none 0 0, .slice none 0 0] 58 := k6 _ _ _ (Blk.new _ _ _) (by decide) (by decide)
          have HM6 := Lib.hid ((HM5.out.below ((Below.refl _ _).alloc (Nat.le_refl _) (.cells #[.int .i64 x.time, .int .i64 x.node, .int .i64 0, .int .i64 n, .int .i64 0, .int .i64 0, .int .i64 0, .int .i64 0, .string ByteArray.empty, .slice none 0 0, .slice none 0 0] 58))).kept k6)
          have p0 : w6.cell? ⟨w5.heap.size, 0, none⟩ = some (.int .i64 x.time) := C6.cell (o := 0) rfl
          have p1 : w6.cell? ⟨w5.heap.size, 1, none⟩ = some (.int .i64 x.node) := C6.cell (o := 1) rfl
          have p2 : w6.cell? ⟨w5.heap.size, 2, none⟩ = some (.int .i64 0) := C6.cell (o := 2) rfl
          have p3 : w6.cell? ⟨w5.heap.size, 3, none⟩ = some (.int .i64 n) := C6.cell (o := 3) rfl
          have p4 : w6.cell? ⟨w5.heap.size, 4, none⟩ = some (.int .i64 0) := C6.cell (o := 4) rfl
          have p5 : w6.cell? ⟨w5.heap.size, 5, none⟩ = some (.int .i64 0) := C6.cell (o := 5) rfl
          have p6 : w6.cell? ⟨w5.heap.size, 6, none⟩ = some (.int .i64 0) := C6.cell (o := 6) rfl
          have p7 : w6.cell? ⟨w5.heap.size, 7, none⟩ = some (.int .i64 0) := C6.cell (o := 7) rfl
          have p8 : w6.cell? ⟨w5.heap.size, 8, none⟩ = some (.string ByteArray.empty) := C6.cell (o := 8) rfl
          have p9 : w6.cell? ⟨w5.heap.size, 9, none⟩ = some (.slice none 0 0) := C6.cell (o := 9) rfl
          have p10 : w6.cell? ⟨w5.heap.size, 10, none⟩ = some (.slice none 0 0) := C6.cell (o := 10) rfl
          have cz := C6.lt
          have hwz6 := h6.bel.size
          have HQ6 := Lib.hid h6
          have HO6 := Lib.hid (HO.out.push x.time x.node)
          clear h6 k6 C6 K5 HM5 HQ5
          have hal := (Below.refl w6.heap.size w6).alloc (Nat.le_refl _) (.cells #[.int .i64 x.time, .int .i64 x.node, .int .i64 0, .int .i64 n, .int .i64 0, .int .i64 0, .int .i64 0, .int .i64 0, .string ByteArray.empty, .slice none 0 0, .slice none 0 0] 58)
          have HQ7 := Lib.hid (HQ6.out.below hal)
          have HM7 := Lib.hid (HM6.out.below hal)
          clear hal
          rcases HM6.out with hown | ⟨g, cur, e7, hg7, hbk, hcs, hl7, htk⟩
          · have HOW := Lib.hid (hown.alloc (.cells #[.int .i64 x.time, .int .i64 x.node, .int .i64 0, .int .i64 n, .int .i64 0, .int .i64 0, .int .i64 0, .int .i64 0, .string ByteArray.empty, .slice none 0 0, .slice none 0 0] 58))
            clear hown
            go_wp2_with (at_builtin; refine wpList_append_lies _ rfl (.tmp 59) (.tmp 61) 55 rfl w.heap.size 58 i0 _ 11 128 Try.underlying55 hi hz0 hz1 hz2 rfl (Nat.zero_lt_succ 10) (.slice ma ml.length mc) ml.length (orow ml) rfl HOW.out ⟨w6.heap.size, 0, none⟩ 1 1 [.int .i64 x.time, .int .i64 x.node, .int .i64 0, .int .i64 n, .int .i64 0, .int .i64 0, .int .i64 0, .int .i64 0, .string ByteArray.empty, .slice none 0 0, .slice none 0 0] rfl rfl ?_ ?_ (Nat.zero_lt_succ 0) ?_ ?_ ?_ (w6.heap.size + 1) ?_ ?_; (case _ => (intro j u hu; rcases j with _ | _ | _ | _ | _ | _ | _ | _ | _ | _ | _ | j <;> simp at hu <;> subst hu <;> simp [Addr.add, go_sem, *])); (case _ => simp [Value.oneCell']); (case _ => (unfold maxLen; omega)); (case _ => omega); (case _ => (simp <;> omega)); (case _ => simp); intro g9 c9 w9 ho9 hg9 ha9 hlt9)
            have hq9 := HQ7.out.grown HOW.out (Nat.le_refl _) hg9
            have HW : Hid (WRel false (Fun 30) w b ids (.slice (some ⟨g9, 0, none⟩) (ml.length + 1) c9) (i + 1) (n + 1) w9) := Lib.hid ⟨_, by omega, by omega, hq9, MRow.new (x := ⟨x.time, x.node, n, (n : Int) + 1⟩) ho9, HO6.out⟩
            clear ho9 hg9 ha9 hq9 HOW HQ7 HM7
            go_wp2
            go_roundw
            case rel => exact ⟨i + 1, n + 1, by omega, by omega, by go_num, by go_num, HW.out⟩
            case measure => simp [intOf]; omega
          · injection e7 with e71 e72 e73
            subst e71
            clear e72
            subst e73
            have HBK := Lib.hid (hbk.alloc (.cells #[.int .i64 x.time, .int .i64 x.node, .int .i64 0, .int .i64 n, .int .i64 0, .int .i64 0, .int .i64 0, .int .i64 0, .string ByteArray.empty, .slice none 0 0, .slice none 0 0] 58))
            have HTK := Lib.hid htk
            clear hbk htk
            go_wp2_with (at_builtin; refine wpList_append_grows _ rfl (.tmp 59) (.tmp 61) 55 rfl 58 i0 _ 11 128 Try.underlying55 hi hz0 hz1 hz2 rfl (Nat.zero_lt_succ 10) (some ⟨g, 0, none⟩) ml.length ml.length (orow ml) rfl (fun h => by cases h) (orow_len ml) (row_cells HBK.out HTK.out) ⟨w6.heap.size, 0, none⟩ 1 1 [.int .i64 x.time, .int .i64 x.node, .int .i64 0, .int .i64 n, .int .i64 0, .int .i64 0, .int .i64 0, .int .i64 0, .string ByteArray.empty, .slice none 0 0, .slice none 0 0] rfl rfl ?_ ?_ ?_ ?_ ?_ ?_; (case _ => (intro j u hu; rcases j with _ | _ | _ | _ | _ | _ | _ | _ | _ | _ | _ | j <;> simp at hu <;> subst hu <;> simp [Addr.add, go_sem, *])); (case _ => simp [Value.oneCell']); (case _ => omega); (case _ => (unfold maxLen; omega)); (case _ => omega); intro v9 w9 ho9 hg9)
            have hq9 := HQ7.out.below ((Below.refl _ _).grown hg9 (Nat.le_refl _) (fun q hq => by cases hq))
            have ho9' := own_mono ho9 (B' := w.heap.size) (by simp; omega)
            have HW : Hid (WRel false (Fun 30) w b ids v9 (i + 1) (n + 1) w9) := Lib.hid ⟨_, by omega, by omega, hq9, MRow.new (x := ⟨x.time, x.node, n, (n : Int) + 1⟩) ho9', HO6.out⟩
            clear ho9 ho9' hg9 hq9 HBK HTK HQ7 HM7
            refine ⟨⟨i + 1, n + 1, by omega, by omega, by go_num, by go_num, HW.out⟩, by simp [intOf]; omega⟩
        · have hpush2 : pb = true ∨ ids.length ≤ n := by cases pb <;> simp at hpush ⊢ <;> omega
          clear hpush
          go_upto_region 13 with fail
          go_cut [49] (fun s49 wx => s49 = .bool false ∧ wx = wr)
          case first =>
            rcases pb with _ | _
            · have hnn : ids.length ≤ n := by
                rcases hpush2 with h | h
                · cases h
                · exact h
              have hnd : decide (n < ids.length) = false := decide_eq_false (by omega)
              have hnn2 : (ids.length : Int) ≤ n := by omega
              go_wp2_with fail
              go_meet
              exact ⟨rfl, rfl⟩
            · go_wp2_with fail
              go_meet
              exact ⟨rfl, rfl⟩
          case rest =>
            obtain ⟨rfl, rfl⟩ := hcut
            clear hcb2 hpush2
            go_wp2
            obtain ⟨wz, rfl⟩ : ∃ wz, wz = wc := ⟨_, rfl⟩
            go_loopw [14, 15] (fun s14 s15 wr => ∃ k : Nat, k ≤ ml.length ∧ s15 = .int .i64 k ∧ Best false ml k s14 ∧ Below wz.heap.size wz wr) (fun _ s15 _ => ml.length - (intOf s15).toNat)
            case atStart => exact ⟨0, by omega, rfl, .inl ⟨rfl, rfl⟩, Below.refl _ _⟩
            case round =>
              obtain ⟨k, hkl, rfl, hbest, hbz⟩ := hrel
              have hbzs := hbz.size
              by_cases hlk : k < ml.length
              · obtain ⟨g, c, cur, em, hg, hc1, hc2, hbk, hcs, htk⟩ := HM.out.blk (by omega)
                injection em with em1 em2 em3
                subst em1
                clear em2
                subst em3
                have k0 : (0 : Int) ≤ k := by omega
                have k1 : (k : Int) < ml.length := by omega
                rcases hbest with ⟨rfl, rfl⟩ | ⟨j, hjk, rfl, hmin⟩
                · have hirr : ∀ i, i < 1 → mlt false (ml.getD i default) (ml.getD 0 default) = false := by
                    intro i hi
                    obtain rfl : i = 0 := by omega
                    exact (mlt_ord false).irrefl _
                  have hB1 : Hid (Best false ml 1 (.int .i64 0)) := Lib.hid (.inr ⟨0, by omega, rfl, hirr⟩)
                  clear hirr
                  have HBZ := Lib.hid hbz
                  clear hbz hbk htk
                  go_wp2_with fail
                  go_quiet (fail)
                  go_wp2
                  go_roundw
                  case rel => exact ⟨1, by omega, by go_num, hB1.out, HBZ.out.trans (((Drw.below ⟨_, rfl⟩)).mono hbzs)⟩
                  case measure => simp [intOf]; omega
                · obtain ⟨y, hy⟩ : ∃ y, y = ml.getD j default := ⟨_, rfl⟩
                  obtain ⟨x, hx⟩ : ∃ x, x = ml.getD k default := ⟨_, rfl⟩
                  have ex : ml[k] = x := by rw [hx]; simp [hlk]
                  have hjl : j < ml.length := by omega
                  have ey : ml[j] = y := by rw [hy]; simp [hjl]
                  have pcx := op_at hbk htk (k := k) hlk
                  have pcy := op_at hbk htk (k := j) hjl
                  rw [ex] at pcx
                  rw [ey] at pcy
                  have KM : KMid wz g (k * 11) (j * 11) x y wr := ⟨pcx.of_cells (below_cell' hbz), pcy.of_cells (below_cell' hbz), hbz⟩
                  have hcm : y.came < x.came := by
                    rw [← ex, ← ey]
                    exact List.pairwise_iff_getElem.1 HO.out.ord j k hjl hlk hjk
                  have HLT := Lib.hid (mlt_laterB false hcm)
                  have HMIN := Lib.hid hmin
                  have HX := Lib.hid hx
                  have HY := Lib.hid hy
                  have j0 : (0 : Int) ≤ j := by omega
                  have j1 : (j : Int) < ml.length := by omega
                  have jd : decide ((j : Int) < 0) = false := decide_eq_false (by omega)
                  have jn : ¬ ((j : Int) < 0) := by omega
                  obtain ⟨m1, m2, m3, m4, _⟩ := km_S KM
                  have HKM := Lib.hid KM
                  clear KM hcm hmin pcx pcy hbk htk ex ey hx hy hbz
                  cases hlf : lf false x y
                  · have HLF := Lib.hid hlf
                    clear hlf
                    go_wp2_with fail
                    go_region_held3 (fun w' => w'.cell? ⟨g, k * 11, none⟩ = some (.int .i64 x.time) ∧ w'.cell? ⟨g, k * 11 + 1, none⟩ = some (.int .i64 x.node) ∧ w'.cell? ⟨g, j * 11, none⟩ = some (.int .i64 y.time) ∧ w'.cell? ⟨g, j * 11 + 1, none⟩ = some (.int .i64 y.node) ∧ KMid wz g (k * 11) (j * 11) x y w') ((refine km_S ?_; first | (with_reducible assumption) | exact km_drew HKM.out | exact km_drew (by assumption) | exact km_drew (km_of (by assumption)))) (first | (go_at_call 30; (with_reducible refine (lessR x y _).mono ?_); rintro e w9 ⟨rfl, hb⟩; rw [HLF.out]; have g9 := km_below hb (by first | assumption | exact km_of (by assumption) | exact km_drew HKM.out); clear hb))
                    have G9 := Lib.hid (km_of (by assumption)).bel
                    have HBST : Hid (Best false ml (k + 1) (.int .i64 j)) := Lib.hid (.inr ⟨j, by omega, rfl, best_keep HMIN.out (by rw [← HX.out, ← HY.out, HLT.out, HLF.out])⟩)
                    go_wp2
                    go_roundw
                    case rel => exact ⟨k + 1, by omega, by go_num, HBST.out, G9.out⟩
                    case measure => simp [intOf]; omega
                  · have HLF := Lib.hid hlf
                    clear hlf
                    go_wp2_with fail
                    go_region_held3 (fun w' => w'.cell? ⟨g, k * 11, none⟩ = some (.int .i64 x.time) ∧ w'.cell? ⟨g, k * 11 + 1, none⟩ = some (.int .i64 x.node) ∧ w'.cell? ⟨g, j * 11, none⟩ = some (.int .i64 y.time) ∧ w'.cell? ⟨g, j * 11 + 1, none⟩ = some (.int .i64 y.node) ∧ KMid wz g (k * 11) (j * 11) x y w') ((refine km_S ?_; first | (with_reducible assumption) | exact km_drew HKM.out | exact km_drew (by assumption) | exact km_drew (km_of (by assumption)))) (first | (go_at_call 30; (with_reducible refine (lessR x y _).mono ?_); rintro e w9 ⟨rfl, hb⟩; rw [HLF.out]; have g9 := km_below hb (by first | assumption | exact km_of (by assumption) | exact km_drew HKM.out); clear hb))
                    have G9 := Lib.hid (km_of (by assumption)).bel
                    have HBST : Hid (Best false ml (k + 1) (.int .i64 k)) := Lib.hid (.inr ⟨k, by omega, rfl, best_turn HMIN.out (by rw [← HX.out, ← HY.out, HLT.out, HLF.out])⟩)
                    go_wp2
                    go_roundw
                    case rel => exact ⟨k + 1, by omega, by go_num, HBST.out, G9.out⟩
                    case measure => simp [intOf]; omega
              · obtain rfl : k = ml.length := by omega
                have HQ2 := Lib.hid (HQ.out.below hbz)
                have HM2 := Lib.hid (HM.out.below hbz)
                clear hbz
                rcases hbest with ⟨hk0, rfl⟩ | ⟨j, hjk, rfl, hmin⟩
                · obtain rfl : ml = [] := List.length_eq_zero_iff.1 hk0
                  have KP := Lib.hid (qqPeek0 HQ2.out)
                  clear hk0
                  go_wp2_with fail
                  refine KP.out.mono ?_
                  rintro e w5 ⟨rfl, b5⟩
                  have hal := (Below.refl w5.heap.size w5).alloc (Nat.le_refl _) (.cells #[.int .i64 0, .int .i64 0, .int .i64 0, .int .i64 0, .int .i64 0, .int .i64 0, .int .i64 0, .int .i64 0, .string ByteArray.empty, .slice none 0 0, .slice none 0 0] 58)
                  have HQ5 := Lib.hid ((HQ2.out.below b5).below hal)
                  have HM5 := Lib.hid ((HM2.out.below b5).below hal)
                  have KP5 := Lib.hid (qqPop0 HQ5.out)
                  clear b5 hal KP HQ2 HM2 HQ HM
                  go_wp2_with fail
                  refine KP5.out.mono ?_
                  rintro e w6 ⟨rfl, b6⟩
                  have C6 : Blk w6 w5.heap.size #[.int .i64 0, .int .i64 0, .int .i64 0, .int .i64 0, .int .i64 0, .int .i64 0, .int .i64 0, .int .i64 0, .string ByteArray.empty, .slice none 0 0, .slice none 0 0] 58 := blkBelow b6 (Blk.new _ _ _) (Blk.new _ _ _).lt
                  have cc3 : w6.cell? ⟨w5.heap.size, 3, none⟩ = some (.int .i64 0) := C6.cell (o := 3) rfl
                  have ccz := C6.lt
                  have hal := (Below.refl w6.heap.size w6).alloc (Nat.le_refl _) (.cells #[.int .i64 0, .int .i64 0, .int .i64 0, .int .i64 0, .int .i64 0, .int .i64 0, .int .i64 0, .int .i64 0, .string ByteArray.empty, .slice none 0 0, .slice none 0 0] 58)
                  have HW : Hid (WRel false (Fun 30) w b ids (.slice ma ([] : List Mit).length mc) (i + 1) n (w6.alloc (.cells #[.int .i64 0, .int .i64 0, .int .i64 0, .int .i64 0, .int .i64 0, .int .i64 0, .int .i64 0, .int .i64 0, .string ByteArray.empty, .slice none 0 0, .slice none 0 0] 58))) := Lib.hid ⟨[], by omega, by omega, (HQ5.out.below b6).below hal, (HM5.out.below b6).below hal, HO.out⟩
                  clear b6 hal KP5 HQ5 HM5 C6
                  go_wp2
                  go_roundw
                  case rel => exact ⟨i + 1, n, by omega, by omega, by go_num, rfl, HW.out⟩
                  case measure => simp [intOf]; omega
                · obtain ⟨x, hx⟩ : ∃ x, ml[j] = x := ⟨_, rfl⟩
                  have hxm : x ∈ ml := by rw [← hx]; exact List.getElem_mem hjk
                  have hmn : ∀ y ∈ ml, mlt false y x = false := by
                    intro y hy
                    obtain ⟨i2, h2, rfl⟩ := List.mem_iff_getElem.1 hy
                    have := hmin i2 h2
                    simpa [h2, hjk, hx] using this
                  have KP := Lib.hid (qqPeek (j := j) HQ2.out HO.out hxm hmn)
                  have HX := Lib.hid hx
                  have HMN := Lib.hid hmn
                  have hj0 : (0 : Int) ≤ j := by omega
                  have hj1 : (j : Int) < ml.length := by omega
                  have hjd : decide ((0 : Int) ≤ j) = true := decide_eq_true hj0
                  have hjd2 : decide ((j : Int) < 0) = false := decide_eq_false (by omega)
                  clear hx hmn hmin hxm
                  go_wp2_with fail
                  refine KP.out.mono ?_
                  rintro e w5 ⟨rfl, b5⟩
                  have hal := (Below.refl w5.heap.size w5).alloc (Nat.le_refl _) (.cells #[.int .i64 x.time, .int .i64 x.node, .int .i64 0, .int .i64 x.mark, .int .i64 0, .int .i64 0, .int .i64 0, .int .i64 0, .string ByteArray.empty, .slice none 0 0, .slice none 0 0] 58)
                  have HQ5 := Lib.hid ((HQ2.out.below b5).below hal)
                  have HM5 := Lib.hid ((HM2.out.below b5).below hal)
                  have KP5 := Lib.hid (qqPop (lessOkR) hb0 HQ5.out HO.out (by omega) hjk HX.out HMN.out)
                  clear b5 hal KP HQ2 HM2 HQ HM
                  go_wp2_with fail
                  refine KP5.out.mono ?_
                  rintro e w6 ⟨rfl, h6, k6⟩
                  have C6 : Blk w6 w5.heap.size #[.int .i64 x.time, .int .i64 x.node, .int .i64 0, .int .i64 x.mark, .int .i64 0, .int .i64 0, .int .i64 0, .int .i64 0, .string ByteArray.empty, .slice none 0 0, .slice none 0 0] 58 := k6 _ _ _ (Blk.new _ _ _) (by decide) (by decide)
                  have cc3 : w6.cell? ⟨w5.heap.size, 3, none⟩ = some (.int .i64 x.mark) := C6.cell (o := 3) rfl
                  have ccz := C6.lt
                  have hal := (Below.refl w6.heap.size w6).alloc (Nat.le_refl _) (.cells #[.int .i64 x.time, .int .i64 x.node, .int .i64 0, .int .i64 x.mark, .int .i64 0, .int .i64 0, .int .i64 0, .int .i64 0, .string ByteArray.empty, .slice none 0 0, .slice none 0 0] 58)
                  have HQ6 := Lib.hid (h6.below hal)
                  have HQ60 := Lib.hid h6
                  have hm6 := (HM5.out.kept k6).below hal
                  obtain ⟨g, c, cur, em, hg, hc1, hc2, hbk, hcs, htk⟩ := hm6.blk (by omega)
                  injection em with em1 em2 em3
                  subst em1
                  clear em2
                  subst em3
                  have pcx := op_at hbk htk (k := j) hjk
                  rw [HX.out] at pcx
                  have pc3 : (w6.alloc (.cells #[.int .i64 x.time, .int .i64 x.node, .int .i64 0, .int .i64 x.mark, .int .i64 0, .int .i64 0, .int .i64 0, .int .i64 0, .string ByteArray.empty, .slice none 0 0, .slice none 0 0] 58)).cell? ⟨g, j * 11 + 3, none⟩ = some (.int .i64 x.mark) := pcx.c3
                  have hgw := hbk.lt
                  have HM6 := Lib.hid hm6
                  have HBK := Lib.hid hbk
                  have HTK := Lib.hid htk
                  have hbb := h6.bel.size
                  clear h6 k6 hal KP5 HQ5 HM5 C6 hm6 hbk htk pcx
                  go_wp2_with fail
                  have hne : (x.mark != x.mark) = false := by simp
                  go_quiet (fail)
                  go_wp2_with fail
                  have hj2 : (0 : Int) ≤ (j : Int) + 1 := by omega
                  have hj3 : (j : Int) + 1 ≤ ml.length := by omega
                  have hj4 : ((j : Int) + 1).toNat = j + 1 := by omega
                  have hj5 : (j : Int) ≤ mc := by omega
                  have RT := Lib.hid (row_take (j := j) HTK.out (by omega))
                  have RD := Lib.hid (row_drop (k := j + 1) HTK.out (by omega))
                  have hel : (ml.eraseIdx j).length = j + (ml.length - (j + 1)) := by rw [List.length_eraseIdx_of_lt hjk]; omega
                  have HEL := Lib.hid hel
                  have hmd := HO.out.len
                  clear hel
                  by_cases htl : j + 1 < ml.length
                  · have b1' : j < j + (ml.length - (j + 1)) := by omega
                    have b2' : j + (ml.length - (j + 1)) ≤ maxLen := by unfold maxLen; omega
                    have b3' : (j + (ml.length - (j + 1))) * 128 ≤ 140737488355328 := by omega
                    have B1' := Lib.hid b1'
                    have B2' := Lib.hid b2'
                    have B3' := Lib.hid b3'
                    clear b1' b2' b3'
                    have z1 : ¬ (j + 1 = mc) := by omega
                    have z2 : ¬ (mc = j + 1) := by omega
                    have z3 : (j + 1 == mc) = false := beq_eq_false_iff_ne.2 z1
                    have z4 : mc - (j + 1) ≠ 0 := by omega
                    have z5 : ¬ (mc ≤ j + 1) := by omega
                    have hw : IntKind.i64.wrap ((j : Int) + 1) = (j : Int) + 1 := IntWalk.i64_in _ (by omega)
                    go_region_held3 (fun w' => Blk w' g cur 58) ((first | (with_reducible assumption) | exact (HBK.out.drewN _).drew | exact HBK.out.drew | exact HBK9.out)) ((refine step_append_grows rfl (.tmp 127) (.tmp 131) 55 rfl 58 i0 _ 11 128 Try.underlying55 hi hz0 hz1 hz2 rfl (Nat.zero_lt_succ 10) (some ⟨g, 0, none⟩) j j (orow (ml.take j)) rfl (fun h => by cases h) (row_takeL hjk) (row_cells (by assumption) RT.out) ⟨g, (j + 1) * 11, none⟩ (ml.length - (j + 1)) (mc - (j + 1)) (orow (ml.drop (j + 1))) rfl (row_dropL ml (j + 1)) (row_cellsD (by assumption) RD.out) (orow_one _) B1'.out B2'.out B3'.out ?_; intro v9 w9 ho9 hg9; obtain ⟨a9, c9, rfl, v91, v92, _⟩ := own_shp ho9; have HBK9 := Lib.hid (Blk.of_eq (by assumption) (hg9.block g (Blk.lt (by assumption)) (fun e => by cases e)) : Blk w9 g cur 58); have HO9 := Lib.hid ho9; have HG9 := Lib.hid hg9; clear ho9 hg9))
                    clear hw
                    have hgB : Below w6.heap.size w6 w9 := ((Below.refl w6.heap.size w6).alloc (Nat.le_refl _) (.cells #[.int .i64 x.time, .int .i64 x.node, .int .i64 0, .int .i64 x.mark, .int .i64 0, .int .i64 0, .int .i64 0, .int .i64 0, .string ByteArray.empty, .slice none 0 0, .slice none 0 0] 58)).trans ((undrewN (undrew ((Below.refl _ _).grown HG9.out (Nat.le_refl _) (fun q hq => by cases hq)))).mono (by simp))
                    have HQ9 := Lib.hid (HQ60.out.below hgB)
                    have hrow : MRow w9 w.heap.size (.slice a9 (j + (ml.length - (j + 1))) c9) (ml.eraseIdx j) := .inl (by
                      have h1 := own_mono HO9.out (B' := w.heap.size) (by simp; omega)
                      rw [List.eraseIdx_eq_take_drop_succ, orow_app]
                      rw [show (ml.take j ++ ml.drop (j + 1)).length = j + (ml.length - (j + 1)) by simp; omega]
                      exact h1)
                    have HROW := Lib.hid hrow
                    have KL := Lib.hid (qqLen HQ9.out)
                    have HOE := Lib.hid (HO.out.erase j)
                    clear hgB hrow HO9 HG9 HBK9
                    rw [HEL.out] at KL
                    go_wp2_with fail
                    refine KL.out.mono ?_
                    rintro e w10 ⟨rfl, rfl⟩
                    have HW : Hid (WRel false (Fun 30) w b ids (.slice a9 (j + (ml.length - (j + 1))) c9) (i + 1) n w9) := Lib.hid ⟨_, by omega, by omega, HQ9.out, HROW.out, HOE.out⟩
                    clear KL HQ9 HROW HOE
                    go_wp2
                    go_roundw
                    case rel => exact ⟨i + 1, n, by omega, by omega, by go_num, rfl, HW.out⟩
                    case measure => simp [intOf]; omega
                  · have htl2 : ml.length - (j + 1) = 0 := by omega
                    have HT0 := Lib.hid htl2
                    have n0 : ([] : List Value).length = (ml.length - (j + 1)) * 11 := by rw [htl2]; rfl
                    have n1 : j + (ml.length - (j + 1)) ≤ j := by omega
                    have N0 := Lib.hid n0
                    have N1 := Lib.hid n1
                    clear htl2 n0 n1
                    rcases Nat.lt_or_ge (j + 1) mc with hmc | hmc
                    · have z1 : ¬ (j + 1 = mc) := by omega
                      have z2 : ¬ (mc = j + 1) := by omega
                      have z3 : (j + 1 == mc) = false := beq_eq_false_iff_ne.2 z1
                      have z4 : mc - (j + 1) ≠ 0 := by omega
                      have z5 : ¬ (mc ≤ j + 1) := by omega
                      have hw : IntKind.i64.wrap ((j : Int) + 1) = (j : Int) + 1 := IntWalk.i64_in _ (by omega)
                      go_region_held3 (fun w' => Blk w' g cur 58) ((first | (with_reducible assumption) | exact (HBK.out.drewN _).drew | exact HBK.out.drew)) ((refine step_append_room rfl (.tmp 127) (.tmp 131) 55 rfl 58 i0 11 Try.underlying55 hi hz1 g 0 j j rfl ⟨g, (j + 1) * 11, none⟩ (ml.length - (j + 1)) (mc - (j + 1)) [] rfl N0.out (fun j u h => by simp at h) (fun u h => by cases h) N1.out (fun j hj => by simp at hj) ?_; simp only [World.setCells]))
                      clear hw
                      rename_i hHd
                      have hgB : Below w6.heap.size w6 (((w6.alloc (.cells #[.int .i64 x.time, .int .i64 x.node, .int .i64 0, .int .i64 x.mark, .int .i64 0, .int .i64 0, .int .i64 0, .int .i64 0, .string ByteArray.empty, .slice none 0 0, .slice none 0 0] 58)).drewN nq).drew) := (below_drewN ((Below.refl w6.heap.size w6).alloc (Nat.le_refl _) _) _).drew
                      have HQ9 := Lib.hid (HQ60.out.below hgB)
                      have HROW := Lib.hid (row_cut (c := 0) (B := w.heap.size) hg hHd RT.out hcs (by omega) (by omega))
                      have KL := Lib.hid (qqLen HQ9.out)
                      have HOE := Lib.hid (HO.out.erase j)
                      clear hgB hHd
                      rw [HEL.out] at KL
                      go_wp2_with fail
                      refine KL.out.mono ?_
                      rintro e w10 ⟨rfl, rfl⟩
                      have HW : Hid (WRel false (Fun 30) w b ids (.slice (some ⟨g, 0, none⟩) (j + (ml.length - (j + 1))) j) (i + 1) n _) := Lib.hid ⟨_, by omega, by omega, HQ9.out, HROW.out, HOE.out⟩
                      clear KL HQ9 HROW HOE
                      go_wp2
                      go_roundw
                      case rel => exact ⟨i + 1, n, by omega, by omega, by go_num, rfl, HW.out⟩
                      case measure => simp [intOf]; omega
                    · obtain rfl : mc = j + 1 := by omega
                      have z6 : (ml.length : Int) ≤ (j : Int) + 1 := by omega
                      have z8 : (j : Int) ≤ (j : Int) + 1 := by omega
                      have z9 : (j : Int) ≤ ((j + 1 : Nat) : Int) := by omega
                      have z7 : ml.length = j + 1 := by omega
                      have Z7 := Lib.hid z7
                      clear z7
                      have hw : IntKind.i64.wrap ((j : Int) + 1) = (j : Int) + 1 := IntWalk.i64_in _ (by omega)
                      go_region_held3 (fun w' => Blk w' g cur 58) ((first | (with_reducible assumption) | exact (HBK.out.drewN _).drew | exact HBK.out.drew)) ((refine step_append_room rfl (.tmp 127) (.tmp 131) 55 rfl 58 i0 11 Try.underlying55 hi hz1 g 0 j j rfl ⟨g, 0, none⟩ (ml.length - (j + 1)) (mc - (j + 1)) [] rfl N0.out (fun j u h => by simp at h) (fun u h => by cases h) N1.out (fun j hj => by simp at hj) ?_; simp only [World.setCells]))
                      clear hw
                      rename_i hHd
                      have hgB : Below w6.heap.size w6 (((w6.alloc (.cells #[.int .i64 x.time, .int .i64 x.node, .int .i64 0, .int .i64 x.mark, .int .i64 0, .int .i64 0, .int .i64 0, .int .i64 0, .string ByteArray.empty, .slice none 0 0, .slice none 0 0] 58)).drewN nq).drew) := (below_drewN ((Below.refl w6.heap.size w6).alloc (Nat.le_refl _) _) _).drew
                      have HQ9 := Lib.hid (HQ60.out.below hgB)
                      have hrow := row_cut (c := 0) (B := w.heap.size) hg hHd RT.out hcs (by omega) (by omega)
                      rw [show j + (ml.length - (j + 1)) = j by omega] at hrow
                      have HROW := Lib.hid hrow
                      clear hrow
                      have KL := Lib.hid (qqLen HQ9.out)
                      have HOE := Lib.hid (HO.out.erase j)
                      clear hgB hHd
                      rw [HEL.out] at KL
                      go_wp2_with fail
                      refine KL.out.mono ?_
                      rintro e w10 ⟨rfl, rfl⟩
                      have HW : Hid (WRel false (Fun 30) w b ids (.slice (some ⟨g, 0, none⟩) j j) (i + 1) n _) := Lib.hid ⟨_, by omega, by omega, HQ9.out, HROW.out, HOE.out⟩
                      clear KL HQ9 HROW HOE
                      go_wp2
                      go_roundw
                      case rel => exact ⟨i + 1, n, by omega, by omega, by go_num, rfl, HW.out⟩
                      case measure => simp [intOf]; omega
      · obtain rfl : i = 60 := by omega
        have h61 : (60 : Int) < bs.length := by omega
        have h62 : ¬ ((bs.length : Int) ≤ 60) := by omega
        have HBE := Lib.hid HQ.out.bel
        go_wp2_with fail
        refine (qPushNil _).mono ?_
        rintro e w5 ⟨rfl, b5⟩
        have HB5 := Lib.hid (HBE.out.trans (b5.mono HBE.out.size))
        clear b5 HBE
        go_wp2_with fail
        refine (qPopNil _).mono ?_
        rintro e w6 ⟨rfl, b6⟩
        have HB6 := Lib.hid (HB5.out.trans (b6.mono HB5.out.size))
        clear b6 HB5
        go_wp2_with fail
        refine (qLenNil _).mono ?_
        rintro e w7 ⟨rfl, rfl⟩
        go_wp2
        go_ret
        exact ⟨rfl, Below.alloc HB6.out HB6.out.size _⟩
    · obtain rfl : i = bs.length := by omega
      have HBE := Lib.hid HQ.out.bel
      go_wp2_with fail
      refine (qPushNil _).mono ?_
      rintro e w5 ⟨rfl, b5⟩
      have HB5 := Lib.hid (HBE.out.trans (b5.mono HBE.out.size))
      clear b5 HBE
      go_wp2_with fail
      refine (qPopNil _).mono ?_
      rintro e w6 ⟨rfl, b6⟩
      have HB6 := Lib.hid (HB5.out.trans (b6.mono HB5.out.size))
      clear b6 HB5
      go_wp2_with fail
      refine (qLenNil _).mono ?_
      rintro e w7 ⟨rfl, rfl⟩
      go_wp2
      go_ret
      exact ⟨rfl, Below.alloc HB6.out HB6.out.size _⟩
end Go.Proofs.Ythbalmoafpggdaa
