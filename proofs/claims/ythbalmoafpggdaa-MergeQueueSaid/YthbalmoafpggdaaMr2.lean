/- the reference's Sorted, the walk. -/
import Derived.Test.YthbalmoafpggdaaChecked
import Derived.WalkKit
import Derived.Outline
import Derived.WalkSpells
import Derived.WalkLawsBesides
import Derived.Deep.QuietTactic
import Derived.Deep.RegionWith
import Derived.Deep.DeepMust
import Derived.BigQuiet
import Derived.Test.YthbalmoafpggdaaMem
import Derived.RegionTactic
import Derived.ChangeAlike
import Derived.StillTailTactics
import Derived.BigRegion
import Derived.Deep.RegionHeld3
import Derived.Deep.RegionLaw
import Derived.Deep.AppendLies
import Derived.Deep.DeepCutAuto
import Derived.Deep.CutBlock
import Derived.IntWalk
import Derived.Test.YthbalmoafpggdaaMr
import Derived.Test.YthbalmoafpggdaaMq7
namespace Go.Proofs.Ythbalmoafpggdaa
open Go.RowKit
set_option linter.unusedVariables false
set_option linter.unusedSimpArgs false
abbrev Le (a b : Mit) : Prop := mlt false b a = false
theorem mlt_later {x y : Mit} (h : y.came < x.came) : mlt false x y = lf false x y := by
  cases h1 : lf false x y
  · unfold mlt
    rw [h1]
    simp only [Bool.false_eq_true, if_false]
    split
    · rfl
    · simp; omega
  · unfold mlt; rw [h1]; rfl
theorem ins_done {A B L : List Mit} {x : Mit} (hL : A ++ B = L) (hs : L.Pairwise Le) (hB : ∀ b ∈ B, mlt false x b = true) (hA : ∀ y, A.getLast? = some y → mlt false x y = false) : (A ++ [x] ++ B).Pairwise Le := by
  subst hL
  obtain ⟨h1, h2, h3⟩ := List.pairwise_append.1 hs
  have O := mlt_ord false
  have hA2 : ∀ a ∈ A, Le a x := by
    intro a ha
    rcases List.eq_nil_or_concat A with rfl | ⟨A', y, rfl⟩
    · cases ha
    · have hy := hA y (by simp)
      rw [List.concat_eq_append] at ha h1
      rcases List.mem_append.1 ha with ha | ha
      · have h4 := (List.pairwise_append.1 h1).2.2 a ha y (by simp)
        exact O.trans _ _ _ h4 hy
      · rw [List.mem_singleton.1 ha]; exact hy
  rw [List.append_assoc, List.pairwise_append]
  refine ⟨h1, ?_, ?_⟩
  · rw [List.singleton_append, List.pairwise_cons]
    exact ⟨fun b hb => O.asymm _ _ (hB b hb), h2⟩
  · intro a ha b hb
    rw [List.singleton_append] at hb
    rcases List.mem_cons.1 hb with rfl | hb
    · exact hA2 a ha
    · exact h3 a ha b hb
theorem ins_perm {A B L : List Mit} {x : Mit} (hL : A ++ B = L) : (A ++ [x] ++ B).Perm (L ++ [x]) := by
  subst hL
  rw [List.append_assoc, List.append_assoc]
  exact List.Perm.append_left _ List.perm_append_comm
theorem num_hi : ∀ (ps : List P3) (n : Nat) (x : Mit), x ∈ num n ps → x.came ≤ ((n + ps.length : Nat) : Int)
  | [], _, x, h => by cases h
  | p :: ps, n, x, h => by
    rcases List.mem_cons.1 h with rfl | h
    · simp only [List.length_cons]; omega
    · have := num_hi ps (n + 1) x h
      simp only [List.length_cons]; omega
theorem insP {A B L : List Mit} {x : Mit} {ps : List P3} {i : Nat} {p : P3} (hL : A ++ B = L) (hp : L.Perm (num 0 (ps.take i))) (hi : ps[i]? = some p) (hx : x = ⟨p.time, p.node, p.mark, ((0 + i + 1 : Nat) : Int)⟩) (hl : L.length = i) : (A ++ [x] ++ B).Perm (num 0 (ps.take (i + 1))) := by
  have h2 : (ps.take i).length = i := by have := hp.length_eq; rw [num_len] at this; omega
  rw [take_snocP ps i p hi, num_snoc, h2, hx]
  rw [hx] at *
  exact (ins_perm hL).trans (List.Perm.append_right _ hp)
def ORel (w : World) (ps : List P3) (i : Nat) (s3 : Value) (wr : World) : Prop := ∃ L : List Mit, wr.ownsRow w.heap.size 58 11 s3 L.length (orow L) ∧ L.Perm (num 0 (ps.take i)) ∧ L.Pairwise Le ∧ Below w.heap.size w wr
theorem ORel.below {w wr w' : World} {ps : List P3} {i : Nat} {v : Value} (h : ORel w ps i v wr) (g : Below wr.heap.size wr w') : ORel w ps i v w' := by
  obtain ⟨L, h1, h2, h3, h4⟩ := h
  exact ⟨L, ownsRow_below h1 g, h2, h3, h4.trans (g.mono h4.size)⟩
theorem ins_len {A B L : List Mit} {x : Mit} (hL : A ++ B = L) : (A ++ [x] ++ B).length = L.length + 1 := by
  subst hL; simp; omega
def RCut (w : World) (g c k a : Nat) (x y : Mit) (R : List Mit) (s6 s7 : Value) (wx : World) : Prop := ∃ gx gy, s6 = .pointer (some ⟨gx, 0, none⟩) ∧ s7 = .pointer (some ⟨gy, 0, none⟩) ∧ gx ≠ g ∧ gy ≠ g ∧ Blk wx gx #[.int .i64 y.time, .int .i64 y.node, .int .i64 0, .int .i64 y.mark, .int .i64 0, .int .i64 0, .int .i64 0, .int .i64 0, .string ByteArray.empty, .slice none 0 0, .slice none 0 0] 58 ∧ Blk wx gy #[.int .i64 x.time, .int .i64 x.node, .int .i64 0, .int .i64 x.mark, .int .i64 0, .int .i64 0, .int .i64 0, .int .i64 0, .string ByteArray.empty, .slice none 0 0, .slice none 0 0] 58 ∧ wx.ownsRow w.heap.size 58 11 (.slice (some ⟨g, 0, none⟩) R.length c) R.length (orow R) ∧ Below w.heap.size w wx
def RCut2 (w : World) (g c a : Nat) (x y : Mit) (R : List Mit) (s6 s7 : Value) (wx : World) : Prop := ∃ gx, s6 = .pointer (some ⟨gx, 0, none⟩) ∧ gx ≠ g ∧ Blk wx gx #[.int .i64 y.time, .int .i64 y.node, .int .i64 0, .int .i64 y.mark, .int .i64 0, .int .i64 0, .int .i64 0, .int .i64 0, .string ByteArray.empty, .slice none 0 0, .slice none 0 0] 58 ∧ wx.ownsRow w.heap.size 58 11 (.slice (some ⟨g, 0, none⟩) R.length c) (R.set a x).length (orow (R.set a x)) ∧ Below w.heap.size w wx
theorem rcut2_end {w wc wx : World} {g c a gx : Nat} {x y : Mit} {R : List Mit} {s7 : Value} (bx : Blk wc gx #[.int .i64 y.time, .int .i64 y.node, .int .i64 0, .int .i64 y.mark, .int .i64 0, .int .i64 0, .int .i64 0, .int .i64 0, .string ByteArray.empty, .slice none 0 0, .slice none 0 0] 58) (ho : wc.ownsRow w.heap.size 58 11 (.slice (some ⟨g, 0, none⟩) R.length c) R.length (orow R)) (hb : Below w.heap.size w wc) (hn : gx ≠ g) (ha : a < R.length) (hw : wx = T11 wc g (a * 11) x) : RCut2 w g c a x y R (.pointer (some ⟨gx, 0, none⟩)) s7 wx := by
  have hc : Chg (· = g) wc wx := by rw [hw]; exact T11_chg rfl
  have hg := (own_cells ho).1
  exact ⟨gx, rfl, hn, hc.blk bx hn, own_put ho ha x hw, hb.trans (hc.below hb.size (fun i hi e => by omega))⟩
def IRel (w : World) (g c : Nat) (L : List Mit) (x : Mit) (k : Nat) (wr : World) : Prop := ∃ A B : List Mit, A.length = k ∧ A ++ B = L ∧ (∀ b ∈ B, mlt false x b = true) ∧ wr.ownsRow w.heap.size 58 11 (.slice (some ⟨g, 0, none⟩) (A ++ [x] ++ B).length c) (A ++ [x] ++ B).length (orow (A ++ [x] ++ B)) ∧ Below w.heap.size w wr
structure IMid (w : World) (g c k a : Nat) (x y : Mit) (R : List Mit) (w' : World) : Prop where
  own : w'.ownsRow w.heap.size 58 11 (.slice (some ⟨g, 0, none⟩) R.length c) R.length (orow R)
  bel : Below w.heap.size w w'
  cx : PcAt w' g (k * 11) (toP x)
  cy : PcAt w' g (a * 11) (toP y)
theorem im_below {w W w' : World} {g c k a : Nat} {x y : Mit} {R : List Mit} (hb : Below W.heap.size W w') (h : IMid w g c k a x y R W) : IMid w g c k a x y R w' :=
  ⟨ownsRow_below h.own hb, h.bel.trans (hb.mono h.bel.size), h.cx.of_cells (below_cell hb), h.cy.of_cells (below_cell hb)⟩
theorem im_drew {w W : World} {g c k a : Nat} {x y : Mit} {R : List Mit} (h : IMid w g c k a x y R W) : IMid w g c k a x y R W.drew := im_below (Below.drew (Below.refl _ _)) h
theorem im_S {w w' : World} {g c k a : Nat} {x y : Mit} {R : List Mit} (h : IMid w g c k a x y R w') : w'.cell? ⟨g, k * 11, none⟩ = some (.int .i64 x.time) ∧ w'.cell? ⟨g, k * 11 + 1, none⟩ = some (.int .i64 x.node) ∧ w'.cell? ⟨g, a * 11, none⟩ = some (.int .i64 y.time) ∧ w'.cell? ⟨g, a * 11 + 1, none⟩ = some (.int .i64 y.node) ∧ IMid w g c k a x y R w' := ⟨h.cx.c0, h.cx.c1, h.cy.c0, h.cy.c1, h⟩
theorem im_of {w w' : World} {g c k a : Nat} {x y : Mit} {R : List Mit} (h : w'.cell? ⟨g, k * 11, none⟩ = some (.int .i64 x.time) ∧ w'.cell? ⟨g, k * 11 + 1, none⟩ = some (.int .i64 x.node) ∧ w'.cell? ⟨g, a * 11, none⟩ = some (.int .i64 y.time) ∧ w'.cell? ⟨g, a * 11 + 1, none⟩ = some (.int .i64 y.node) ∧ IMid w g c k a x y R w') : IMid w g c k a x y R w' := h.2.2.2.2
theorem irel_end {w wc wx : World} {g c a k : Nat} {x y : Mit} {A' B L R : List Mit} (hAB : A' ++ [y] ++ B = L) (hR : A' ++ [y] ++ [x] ++ B = R) (hB : ∀ b ∈ B, mlt false x b = true) (ha : A'.length = a) (h1 : a + 1 ≤ k) (h2 : k ≤ a + 1) (hxy : mlt false x y = true)
    (ho : wc.ownsRow w.heap.size 58 11 (.slice (some ⟨g, 0, none⟩) (R.set a x).length c) (R.set a x).length (orow (R.set a x))) (hb : Below w.heap.size w wc) (hw : wx = T11 wc g (k * 11) y) : IRel w g c L x a wx := by
  obtain rfl : k = a + 1 := by omega
  have hc : Chg (· = g) wc wx := by rw [hw]; exact T11_chg rfl
  have hg := (own_cells ho).1
  have hRl : a + 1 < R.length := by rw [← hR]; simp [ha] <;> omega
  have ho2 := own_put ho (k := a + 1) (by simpa using hRl) y hw
  have e : (R.set a x).set (a + 1) y = A' ++ [x] ++ (y :: B) := by
    subst hR
    subst ha
    simp [List.set_append]
  rw [e] at ho2
  refine ⟨A', y :: B, ha, by rw [← hAB]; simp, fun b hb => ?_, ?_, hb.trans (hc.below hb.size (fun i hi e => by omega))⟩
  · rcases List.mem_cons.1 hb with rfl | hb
    · exact hxy
    · exact hB b hb
  · have hl : (R.set a x).length = (A' ++ [x] ++ (y :: B)).length := by rw [← e]; simp
    rw [hl] at ho2
    exact ho2
def RSortPost (w : World) (ps : List P3) (e : Ending) (w' : World) : Prop := ∃ v, ∃ ys : List Mit, e = .returned v ∧ OpsRd w' v (ys.map toP) ∧ ys.Perm (num 0 ps) ∧ ys.Pairwise Le ∧ Below w.heap.size w w'
set_option maxRecDepth 100000 in
set_option maxHeartbeats 4000000 in
theorem rSortC (v : Value) (ps : List P3) (w : World) (h : OpsRd w v ps) (hn : ps.length ≤ 900) : Calls Try.prog 28 #[v] w (RSortPost w ps) := by
  obtain ⟨a, c, rfl, h1, h2, h3⟩ := h
  unfold maxLen at h2
  have H3 := Lib.hid h3
  clear h3
  obtain ⟨i0, hi, hi2⟩ := Option.map_eq_some_iff.1 Op.info
  simp only [Prod.mk.injEq] at hi2
  obtain ⟨hz0, hz1, hz2⟩ := hi2
  go_enter Try.func28, Try.ntmps28
  go_wp2
  go_loopw [3, 4] (fun s3 s4 wr => ∃ i : Nat, i ≤ ps.length ∧ s4 = .int .i64 i ∧ ORel w ps i s3 wr) (fun _ s4 _ => ps.length - (intOf s4).toNat)
  case atStart => exact ⟨0, by omega, rfl, [], World.ownsRow_nil _ _ _ _, by simp [num], List.Pairwise.nil, Below.refl _ _⟩
  case round =>
    obtain ⟨i, hil, rfl, L, hown, hperm, hsort, hbel⟩ := hrel
    have HSO := Lib.hid hsort
    have HPE := Lib.hid hperm
    clear hsort hperm
    by_cases hlt : i < ps.length
    · obtain ⟨p, hp⟩ : ∃ p, ps[i]? = some p := ⟨_, List.getElem?_eq_getElem hlt⟩
      rcases H3.out with h0 | ⟨g, o, rfl, h6⟩
      · rw [h0] at hlt; simp at hlt
      · obtain ⟨c0, c1, c2, c3, c4, c5, c6, c7, c8, c9, c10⟩ := (h6 i p hp).of_cells (w' := wr) (fun ad u hu => (hbel.cell (World.block_lt_of_cell? w _ hu)).trans hu)
        have q0 : (0 : Int) ≤ i := by omega
        have q1 : (i : Int) < ps.length := by omega
        have hLl : L.length = i := by have := HPE.out.length_eq; rw [num_len] at this; simp at this; omega
        have l1 : L.length ≤ i := by omega
        have l2 : i ≤ L.length := by omega
        have HP := Lib.hid hp
        have HLL := Lib.hid hLl
        have hbz := hbel.size
        obtain ⟨va, vc, rfl, hv1, hv2, _⟩ := own_shp hown
        have HO := Lib.hid (hown.alloc (.cells #[.int .i64 p.time, .int .i64 p.node, .int .i64 0, .int .i64 p.mark, .int .i64 0, .int .i64 0, .int .i64 0, .int .i64 0, .string ByteArray.empty, .slice none 0 0, .slice none 0 0] 58))
        have HBE := Lib.hid (Below.alloc hbel hbel.size (.cells #[.int .i64 p.time, .int .i64 p.node, .int .i64 0, .int .i64 p.mark, .int .i64 0, .int .i64 0, .int .i64 0, .int .i64 0, .string ByteArray.empty, .slice none 0 0, .slice none 0 0] 58))
        clear h6 hp hLl hown hbel
        go_wp2_with (at_builtin; refine wpList_append_lies _ rfl (.tmp 14) (.tmp 19) 55 rfl w.heap.size 58 i0 _ 11 128 Try.underlying55 hi hz0 hz1 hz2 rfl (Nat.zero_lt_succ 10) (.slice va L.length vc) L.length (orow L) rfl HO.out ⟨wr.heap.size, 0, none⟩ 1 1 [.int .i64 p.time, .int .i64 p.node, .int .i64 0, .int .i64 p.mark, .int .i64 0, .int .i64 0, .int .i64 0, .int .i64 0, .string ByteArray.empty, .slice none 0 0, .slice none 0 0] rfl rfl ?c1 ?c2 (Nat.zero_lt_succ 0) ?c3 ?c4 ?c5 (wr.heap.size + 1) ?c6 ?_)
        case c1 => (intro j u hu; rcases j with _ | _ | _ | _ | _ | _ | _ | _ | _ | _ | _ | j <;> simp at hu <;> subst hu <;> simp [Addr.add, go_sem, *])
        case c2 => simp [Value.oneCell']
        case c3 => unfold maxLen; omega
        case c4 => omega
        case c5 => simp; omega
        case c6 => simp
        intro g2 c2' w2 ho2 hg2 ha2 hlt2
        have hb2 : Below w.heap.size w w2 := HBE.out.grown hg2 (Nat.le_trans hbz (by simp)) (fun q hq => (own_type HO.out hq).1)
        obtain ⟨x, hx⟩ : ∃ x : Mit, x = ⟨p.time, p.node, p.mark, ((0 + i + 1 : Nat) : Int)⟩ := ⟨_, rfl⟩
        have ho3 : IRel w g2 c2' L x L.length w2 := ⟨L, [], rfl, by simp, (fun b hb => by cases hb), by rw [List.append_nil, orow_snoc, hx]; simpa using ho2, hb2⟩
        have HI := Lib.hid ho3
        have HX := Lib.hid hx
        clear c0 c1 c2 c3 c4 c5 c6 c7 c8 c9 c10 ho2 hg2 ha2 HO HBE ho3 hb2 hx
        have hkk : ((L.length + 1 : Nat) : Int) - 1 = (L.length : Int) := by omega
        go_wp2_with fail
        obtain ⟨wo, rfl⟩ : ∃ wo, wo = w2 := ⟨_, rfl⟩
        have hxc : ∀ y ∈ L, y.came < x.came := by
          intro y hy
          rw [HX.out]
          have h1 := HPE.out.mem_iff.1 hy
          have h2 := num_hi (ps.take i) 0 y h1
          have h3 : (ps.take i).length ≤ i := List.length_take_le ..
          simp only
          omega
        have HXC := Lib.hid hxc
        clear hxc
        go_loopw [5] (fun s5 wr => ∃ k : Nat, k ≤ L.length ∧ s5 = .int .i64 k ∧ IRel w g2 c2' L x k wr) (fun s5 _ => (intOf s5).toNat)
        case atStart => exact ⟨L.length, Nat.le_refl _, rfl, HI.out⟩
        case round =>
          clear HI
          obtain ⟨k, hkL, rfl, A, B, hAk, hAB, hB, hown, hbel⟩ := hrel
          have HAB := Lib.hid hAB
          have HB := Lib.hid hB
          clear hAB hB
          rcases List.eq_nil_or_concat A with rfl | ⟨A', y, rfl⟩
          · obtain rfl : k = 0 := by simpa using hAk.symm
            have HR : Hid (ORel w ps (i + 1) (.slice (some ⟨g2, 0, none⟩) (L.length + 1) c2') wr) := Lib.hid ⟨_, by have := hown; rwa [ins_len HAB.out] at this ⊢, insP HAB.out HPE.out HP.out HX.out HLL.out, ins_done HAB.out HSO.out HB.out (fun y hy => by cases hy), hbel⟩
            clear hown
            have hk0 : (((0 : Nat) : Int) > 0) = False := by simp
            go_wp2_with fail
            go_quiet (fail)
            go_wp2
            go_roundw
            case rel => exact ⟨i + 1, by omega, by go_num, HR.out.below (Drw.below ⟨_, rfl⟩)⟩
            case measure => simp [intOf]; omega
          · rw [List.concat_eq_append] at hown HAB hAk
            obtain ⟨a, ha⟩ : ∃ a, A'.length = a := ⟨_, rfl⟩
            have hka : k = a + 1 := by rw [← hAk]; simp [ha]
            have k1 : a + 1 ≤ k := by omega
            have k2 : k ≤ a + 1 := by omega
            have hk1 : (k : Int) - 1 = (a : Int) := by omega
            have hyL : y ∈ L := by rw [← HAB.out]; simp
            have hly := mlt_later (HXC.out y hyL)
            obtain ⟨R, hR⟩ : ∃ R, A' ++ [y] ++ [x] ++ B = R := ⟨_, rfl⟩
            have hRl : R.length = L.length + 1 := by rw [← hR]; exact ins_len HAB.out
            have hRk : ∃ h : k < R.length, R[k] = x := by
              subst hR
              refine ⟨by simp [ha] <;> omega, ?_⟩
              subst hka
              simp [List.getElem_append, ha]
            have hRa : ∃ h : a < R.length, R[a] = y := by
              subst hR
              refine ⟨by simp [ha] <;> omega, ?_⟩
              simp [List.getElem_append, ha]
            rw [hR] at hown
            obtain ⟨k3, k4⟩ := hRk
            obtain ⟨k5, k6⟩ := hRa
            rw [hRl] at k3 k5
            obtain ⟨o1, o2, o3, o4, cur, o5, o6, o7⟩ := own_cells hown
            have pcx := op_at o5 o7 (k := k) (by omega)
            have pcy := op_at o5 o7 (k := a) (by omega)
            rw [k4] at pcx
            rw [k6] at pcy
            have IM : IMid w g2 c2' k a x y R wr := ⟨hown, hbel, pcx, pcy⟩
            obtain ⟨x0, x1, y0, y1, _⟩ := im_S IM
            have HIM := Lib.hid IM
            have HR := Lib.hid hR
            have HRl := Lib.hid hRl
            have HRk := Lib.hid k4
            have HRa := Lib.hid k6
            have HLY := Lib.hid hly
            have HA := Lib.hid ha
            have q3 : (0 : Int) ≤ k := by omega
            have q4 : (k : Int) < L.length + 1 := by omega
            have q5 : (0 : Int) ≤ a := by omega
            have q6 : (a : Int) < L.length + 1 := by omega
            have q7 : 0 < k := by omega
            have d1 : decide (0 < k) = true := decide_eq_true q7
            have d2 : decide (0 < (k : Int)) = true := decide_eq_true (by omega)
            have q8 : L.length + 1 ≤ c2' := by rw [hRl] at o3; exact o3
            clear hown IM pcx pcy o5 o6 o7 hR hRl k4 k6 hly ha hka hAk
            cases hlf : lf false x y
            · have HLF := Lib.hid hlf
              clear hlf
              go_wp2_with fail
              have hw : IntKind.i64.wrap (a : Int) = (a : Int) := IntWalk.i64_in _ (by omega)
              go_region_held3 (fun w' => w'.cell? ⟨g2, k * 11, none⟩ = some (.int .i64 x.time) ∧ w'.cell? ⟨g2, k * 11 + 1, none⟩ = some (.int .i64 x.node) ∧ w'.cell? ⟨g2, a * 11, none⟩ = some (.int .i64 y.time) ∧ w'.cell? ⟨g2, a * 11 + 1, none⟩ = some (.int .i64 y.node) ∧ IMid w g2 c2' k a x y R w') ((refine im_S ?_; first | (with_reducible assumption) | exact im_drew HIM.out | exact im_drew (by assumption) | exact im_drew (im_of (by assumption)))) (first | (go_at_call 30; (with_reducible refine (lessR x y _).mono ?_); rintro e w9 ⟨rfl, hb⟩; rw [HLF.out]; have g9 := im_below hb (by first | assumption | exact im_of (by assumption) | exact im_drew HIM.out); clear hb))
              clear hw
              have G9 := im_of (by assumption)
              have HR2 : Hid (ORel w ps (i + 1) (.slice (some ⟨g2, 0, none⟩) (L.length + 1) c2') w9) := Lib.hid ⟨R, by have := G9.own; rwa [HRl.out] at this ⊢, by rw [← HR.out]; exact insP HAB.out HPE.out HP.out HX.out HLL.out, by rw [← HR.out]; exact ins_done HAB.out HSO.out HB.out (fun z hz => by simp at hz; subst hz; rw [HLY.out, HLF.out]), G9.bel⟩
              go_wp2
              go_roundw
              case rel => exact ⟨i + 1, by omega, by go_num, HR2.out⟩
              case measure => simp [intOf]; omega
            · have HLF := Lib.hid hlf
              clear hlf
              go_wp2_with fail
              have hw : IntKind.i64.wrap (a : Int) = (a : Int) := IntWalk.i64_in _ (by omega)
              go_region_held3 (fun w' => w'.cell? ⟨g2, k * 11, none⟩ = some (.int .i64 x.time) ∧ w'.cell? ⟨g2, k * 11 + 1, none⟩ = some (.int .i64 x.node) ∧ w'.cell? ⟨g2, a * 11, none⟩ = some (.int .i64 y.time) ∧ w'.cell? ⟨g2, a * 11 + 1, none⟩ = some (.int .i64 y.node) ∧ IMid w g2 c2' k a x y R w') ((refine im_S ?_; first | (with_reducible assumption) | exact im_drew HIM.out | exact im_drew (by assumption) | exact im_drew (im_of (by assumption)))) (first | (go_at_call 30; (with_reducible refine (lessR x y _).mono ?_); rintro e w9 ⟨rfl, hb⟩; rw [HLF.out]; have g9 := im_below hb (by first | assumption | exact im_of (by assumption) | exact im_drew HIM.out); clear hb))
              clear hw
              have G9 := im_of (by assumption)
              obtain ⟨x0', x1', x2, x3, x4, x5, x6, x7, x8, x9, x10⟩ := G9.cx
              obtain ⟨y0', y1', y2, y3, y4, y5, y6, y7, y8, y9, y10⟩ := G9.cy
              obtain ⟨r1, r2, r3, r4, cur9, r5, r6, r7⟩ := own_cells G9.own
              have hbb := G9.bel.size
              have M1 : RCut w g2 c2' k a x y R (.pointer (some ⟨w9.heap.size, 0, none⟩)) (.pointer (some ⟨w9.heap.size + 1, 0, none⟩)) ((w9.alloc (.cells #[.int .i64 y.time, .int .i64 y.node, .int .i64 0, .int .i64 y.mark, .int .i64 0, .int .i64 0, .int .i64 0, .int .i64 0, .string ByteArray.empty, .slice none 0 0, .slice none 0 0] 58)).alloc (.cells #[.int .i64 x.time, .int .i64 x.node, .int .i64 0, .int .i64 x.mark, .int .i64 0, .int .i64 0, .int .i64 0, .int .i64 0, .string ByteArray.empty, .slice none 0 0, .slice none 0 0] 58)).drew :=
                ⟨_, _, rfl, rfl, by omega, by omega, (Blk.new _ _ _).alloc _, by have := Blk.new (w9.alloc (.cells #[.int .i64 y.time, .int .i64 y.node, .int .i64 0, .int .i64 y.mark, .int .i64 0, .int .i64 0, .int .i64 0, .int .i64 0, .string ByteArray.empty, .slice none 0 0, .slice none 0 0] 58)) #[.int .i64 x.time, .int .i64 x.node, .int .i64 0, .int .i64 x.mark, .int .i64 0, .int .i64 0, .int .i64 0, .int .i64 0, .string ByteArray.empty, .slice none 0 0, .slice none 0 0] 58; exact Blk.drew (by simpa using this), (G9.own.alloc _).alloc _, ((G9.bel.alloc hbb _).alloc (by simp; omega) _).drew⟩
              have M2 : RCut w g2 c2' k a x y R (.pointer (some ⟨w9.heap.size + 1, 0, none⟩)) (.pointer (some ⟨w9.heap.size, 0, none⟩)) ((w9.alloc (.cells #[.int .i64 x.time, .int .i64 x.node, .int .i64 0, .int .i64 x.mark, .int .i64 0, .int .i64 0, .int .i64 0, .int .i64 0, .string ByteArray.empty, .slice none 0 0, .slice none 0 0] 58)).alloc (.cells #[.int .i64 y.time, .int .i64 y.node, .int .i64 0, .int .i64 y.mark, .int .i64 0, .int .i64 0, .int .i64 0, .int .i64 0, .string ByteArray.empty, .slice none 0 0, .slice none 0 0] 58)).drew :=
                ⟨_, _, rfl, rfl, by omega, by omega, by have := Blk.new (w9.alloc (.cells #[.int .i64 x.time, .int .i64 x.node, .int .i64 0, .int .i64 x.mark, .int .i64 0, .int .i64 0, .int .i64 0, .int .i64 0, .string ByteArray.empty, .slice none 0 0, .slice none 0 0] 58)) #[.int .i64 y.time, .int .i64 y.node, .int .i64 0, .int .i64 y.mark, .int .i64 0, .int .i64 0, .int .i64 0, .int .i64 0, .string ByteArray.empty, .slice none 0 0, .slice none 0 0] 58; exact Blk.drew (by simpa using this), (Blk.new _ _ _).alloc _, (G9.own.alloc _).alloc _, ((G9.bel.alloc hbb _).alloc (by simp; omega) _).drew⟩
              have HM1 := Lib.hid M1
              have HM2 := Lib.hid M2
              clear M1 M2 G9 r5 r6 r7 HIM
              go_wp2_with fail
              go_cut [6, 7] (fun s6 s7 wx => RCut w g2 c2' k a x y R s6 s7 wx)
              case first =>
                go_region
                all_goals go_wp2_with fail
                all_goals go_meet
                all_goals first | exact HM1.out | exact HM2.out
              case rest =>
                obtain ⟨gx, gy, rfl, rfl, n1, n2, bx, by', ho, hbe⟩ := hcut
                clear HM1 HM2 x0 x1 x0' x1' x2 x3 x4 x5 x6 x7 x8 x9 x10 y0 y1 y0' y1' y2 y3 y4 y5 y6 y7 y8 y9 y10
                have BX := Lib.hid bx
                have BY := Lib.hid by'
                have HOW := Lib.hid ho
                have HBE := Lib.hid hbe
                clear bx by' ho hbe
                go_upto_region 10 with fail
                go_cut [6, 7] (fun s6 s7 wx => RCut2 w g2 c2' a x y R s6 s7 wx)
                case first =>
                  have hyb := BY.out
                  obtain ⟨t1, t2, t3, t4, cur2, t5, t6, t7⟩ := own_cells HOW.out
                  have hyz := hyb.lt
                  have hRR := HRl.out
                  rw [hRR] at t3
                  have m0 : wc.cell? ⟨gy, 0, none⟩ = some (.int .i64 x.time) := hyb.cell (o := 0) rfl
                  have m1 : wc.cell? ⟨gy, 1, none⟩ = some (.int .i64 x.node) := hyb.cell (o := 1) rfl
                  have m2 : wc.cell? ⟨gy, 2, none⟩ = some (.int .i64 0) := hyb.cell (o := 2) rfl
                  have m3 : wc.cell? ⟨gy, 3, none⟩ = some (.int .i64 x.mark) := hyb.cell (o := 3) rfl
                  have m4 : wc.cell? ⟨gy, 4, none⟩ = some (.int .i64 0) := hyb.cell (o := 4) rfl
                  have m5 : wc.cell? ⟨gy, 5, none⟩ = some (.int .i64 0) := hyb.cell (o := 5) rfl
                  have m6 : wc.cell? ⟨gy, 6, none⟩ = some (.int .i64 0) := hyb.cell (o := 6) rfl
                  have m7 : wc.cell? ⟨gy, 7, none⟩ = some (.int .i64 0) := hyb.cell (o := 7) rfl
                  have m8 : wc.cell? ⟨gy, 8, none⟩ = some (.string ByteArray.empty) := hyb.cell (o := 8) rfl
                  have m9 : wc.cell? ⟨gy, 9, none⟩ = some (.slice none 0 0) := hyb.cell (o := 9) rfl
                  have m10 : wc.cell? ⟨gy, 10, none⟩ = some (.slice none 0 0) := hyb.cell (o := 10) rfl
                  obtain ⟨vv0, hvv0⟩ : ∃ u, wc.cell? ⟨g2, a * 11, none⟩ = some u := t5.some (by omega)
                  have zvv0 : wc.frozen? ⟨g2, a * 11, none⟩ = false := t5.free _
                  obtain ⟨vv1, hvv1⟩ : ∃ u, wc.cell? ⟨g2, a * 11 + 1, none⟩ = some u := t5.some (by omega)
                  have zvv1 : wc.frozen? ⟨g2, a * 11 + 1, none⟩ = false := t5.free _
                  obtain ⟨vv2, hvv2⟩ : ∃ u, wc.cell? ⟨g2, a * 11 + 2, none⟩ = some u := t5.some (by omega)
                  have zvv2 : wc.frozen? ⟨g2, a * 11 + 2, none⟩ = false := t5.free _
                  obtain ⟨vv3, hvv3⟩ : ∃ u, wc.cell? ⟨g2, a * 11 + 3, none⟩ = some u := t5.some (by omega)
                  have zvv3 : wc.frozen? ⟨g2, a * 11 + 3, none⟩ = false := t5.free _
                  obtain ⟨vv4, hvv4⟩ : ∃ u, wc.cell? ⟨g2, a * 11 + 4, none⟩ = some u := t5.some (by omega)
                  have zvv4 : wc.frozen? ⟨g2, a * 11 + 4, none⟩ = false := t5.free _
                  obtain ⟨vv5, hvv5⟩ : ∃ u, wc.cell? ⟨g2, a * 11 + 5, none⟩ = some u := t5.some (by omega)
                  have zvv5 : wc.frozen? ⟨g2, a * 11 + 5, none⟩ = false := t5.free _
                  obtain ⟨vv6, hvv6⟩ : ∃ u, wc.cell? ⟨g2, a * 11 + 6, none⟩ = some u := t5.some (by omega)
                  have zvv6 : wc.frozen? ⟨g2, a * 11 + 6, none⟩ = false := t5.free _
                  obtain ⟨vv7, hvv7⟩ : ∃ u, wc.cell? ⟨g2, a * 11 + 7, none⟩ = some u := t5.some (by omega)
                  have zvv7 : wc.frozen? ⟨g2, a * 11 + 7, none⟩ = false := t5.free _
                  obtain ⟨vv8, hvv8⟩ : ∃ u, wc.cell? ⟨g2, a * 11 + 8, none⟩ = some u := t5.some (by omega)
                  have zvv8 : wc.frozen? ⟨g2, a * 11 + 8, none⟩ = false := t5.free _
                  obtain ⟨vv9, hvv9⟩ : ∃ u, wc.cell? ⟨g2, a * 11 + 9, none⟩ = some u := t5.some (by omega)
                  have zvv9 : wc.frozen? ⟨g2, a * 11 + 9, none⟩ = false := t5.free _
                  obtain ⟨vv10, hvv10⟩ : ∃ u, wc.cell? ⟨g2, a * 11 + 10, none⟩ = some u := t5.some (by omega)
                  have zvv10 : wc.frozen? ⟨g2, a * 11 + 10, none⟩ = false := t5.free _
                  have HE := Lib.hid (rcut2_end BX.out HOW.out HBE.out n1 (by omega : a < R.length) (wx := T11 wc g2 (a * 11) x) rfl : RCut2 w g2 c2' a x y R (.pointer (some ⟨gx, 0, none⟩)) (.pointer (some ⟨gy, 0, none⟩)) (T11 wc g2 (a * 11) x))
                  clear t5 t6 t7 hyb hRR
                  go_wp2_with fail
                  go_meet
                  exact HE.out
                case rest =>
                  obtain ⟨gx2, rfl, n3, bx2, ho2, hbe2⟩ := hcut
                  have hlen2 : (R.set a x).length = R.length := by simp
                  obtain ⟨t1, t2, t3, t4, cur2, t5, t6, t7⟩ := own_cells (by rw [hlen2]; have := ho2; rwa [hlen2] at this : wc.ownsRow w.heap.size 58 11 (.slice (some ⟨g2, 0, none⟩) (R.set a x).length c2') (R.set a x).length (orow (R.set a x)))
                  have hxz := bx2.lt
                  have hRR := HRl.out
                  rw [hlen2, hRR] at t3
                  have p0' : wc.cell? ⟨gx2, 0, none⟩ = some (.int .i64 y.time) := bx2.cell (o := 0) rfl
                  have p1' : wc.cell? ⟨gx2, 1, none⟩ = some (.int .i64 y.node) := bx2.cell (o := 1) rfl
                  have p2' : wc.cell? ⟨gx2, 2, none⟩ = some (.int .i64 0) := bx2.cell (o := 2) rfl
                  have p3' : wc.cell? ⟨gx2, 3, none⟩ = some (.int .i64 y.mark) := bx2.cell (o := 3) rfl
                  have p4' : wc.cell? ⟨gx2, 4, none⟩ = some (.int .i64 0) := bx2.cell (o := 4) rfl
                  have p5' : wc.cell? ⟨gx2, 5, none⟩ = some (.int .i64 0) := bx2.cell (o := 5) rfl
                  have p6' : wc.cell? ⟨gx2, 6, none⟩ = some (.int .i64 0) := bx2.cell (o := 6) rfl
                  have p7' : wc.cell? ⟨gx2, 7, none⟩ = some (.int .i64 0) := bx2.cell (o := 7) rfl
                  have p8' : wc.cell? ⟨gx2, 8, none⟩ = some (.string ByteArray.empty) := bx2.cell (o := 8) rfl
                  have p9' : wc.cell? ⟨gx2, 9, none⟩ = some (.slice none 0 0) := bx2.cell (o := 9) rfl
                  have p10' : wc.cell? ⟨gx2, 10, none⟩ = some (.slice none 0 0) := bx2.cell (o := 10) rfl
                  obtain ⟨vv0, hvv0⟩ : ∃ u, wc.cell? ⟨g2, k * 11, none⟩ = some u := t5.some (by omega)
                  have zvv0 : wc.frozen? ⟨g2, k * 11, none⟩ = false := t5.free _
                  obtain ⟨vv1, hvv1⟩ : ∃ u, wc.cell? ⟨g2, k * 11 + 1, none⟩ = some u := t5.some (by omega)
                  have zvv1 : wc.frozen? ⟨g2, k * 11 + 1, none⟩ = false := t5.free _
                  obtain ⟨vv2, hvv2⟩ : ∃ u, wc.cell? ⟨g2, k * 11 + 2, none⟩ = some u := t5.some (by omega)
                  have zvv2 : wc.frozen? ⟨g2, k * 11 + 2, none⟩ = false := t5.free _
                  obtain ⟨vv3, hvv3⟩ : ∃ u, wc.cell? ⟨g2, k * 11 + 3, none⟩ = some u := t5.some (by omega)
                  have zvv3 : wc.frozen? ⟨g2, k * 11 + 3, none⟩ = false := t5.free _
                  obtain ⟨vv4, hvv4⟩ : ∃ u, wc.cell? ⟨g2, k * 11 + 4, none⟩ = some u := t5.some (by omega)
                  have zvv4 : wc.frozen? ⟨g2, k * 11 + 4, none⟩ = false := t5.free _
                  obtain ⟨vv5, hvv5⟩ : ∃ u, wc.cell? ⟨g2, k * 11 + 5, none⟩ = some u := t5.some (by omega)
                  have zvv5 : wc.frozen? ⟨g2, k * 11 + 5, none⟩ = false := t5.free _
                  obtain ⟨vv6, hvv6⟩ : ∃ u, wc.cell? ⟨g2, k * 11 + 6, none⟩ = some u := t5.some (by omega)
                  have zvv6 : wc.frozen? ⟨g2, k * 11 + 6, none⟩ = false := t5.free _
                  obtain ⟨vv7, hvv7⟩ : ∃ u, wc.cell? ⟨g2, k * 11 + 7, none⟩ = some u := t5.some (by omega)
                  have zvv7 : wc.frozen? ⟨g2, k * 11 + 7, none⟩ = false := t5.free _
                  obtain ⟨vv8, hvv8⟩ : ∃ u, wc.cell? ⟨g2, k * 11 + 8, none⟩ = some u := t5.some (by omega)
                  have zvv8 : wc.frozen? ⟨g2, k * 11 + 8, none⟩ = false := t5.free _
                  obtain ⟨vv9, hvv9⟩ : ∃ u, wc.cell? ⟨g2, k * 11 + 9, none⟩ = some u := t5.some (by omega)
                  have zvv9 : wc.frozen? ⟨g2, k * 11 + 9, none⟩ = false := t5.free _
                  obtain ⟨vv10, hvv10⟩ : ∃ u, wc.cell? ⟨g2, k * 11 + 10, none⟩ = some u := t5.some (by omega)
                  have zvv10 : wc.frozen? ⟨g2, k * 11 + 10, none⟩ = false := t5.free _
                  have ho3 : wc.ownsRow w.heap.size 58 11 (.slice (some ⟨g2, 0, none⟩) (R.set a x).length c2') (R.set a x).length (orow (R.set a x)) := by have := ho2; rwa [hlen2] at this ⊢
                  have hfin := irel_end (wx := T11 wc g2 (k * 11) y) HAB.out HR.out HB.out HA.out k1 k2 (by rw [HLY.out, HLF.out] : mlt false x y = true) ho3 hbe2 rfl
                  have HE := Lib.hid hfin
                  clear t5 t6 t7 hRR ho2 ho3 hbe2 bx2 hfin hlen2
                  go_wp2
                  go_roundw
                  case rel => exact ⟨a, by omega, rfl, HE.out⟩
                  case measure => simp [intOf]; omega
    · obtain rfl : i = ps.length := by omega
      have HO := Lib.hid hown
      clear hown
      go_wp2
      go_ret
      exact ⟨_, L, rfl, orow_rd HO.out, by have := HPE.out; rwa [List.take_length] at this, HSO.out, hbel⟩
end Go.Proofs.Ythbalmoafpggdaa
