/- A directory of names: its names in order. -/
import Derived.Test.YtfcddpbpfckjfaaChecked
import Derived.WalkKit
import Derived.Outline
import Derived.WalkSpells
import Derived.WalkLawsBesides
import Derived.Deep.QuietTactic
import Derived.Deep.RegionWith
import Derived.Deep.DeepMust
import Derived.BigQuiet
import Derived.Test.YtfcddpbpfckjfaaMem
import Derived.RegionTactic
import Derived.ChangeAlike
import Derived.StillTailTactics
import Derived.BigRegion
import Derived.Deep.LoopGhost
import Derived.Test.YtfcddpbpfckjfaaDe
namespace Go.Proofs.Ytfcddpbpfckjfaa
open Go.RowKit
open Go.Maps
set_option linter.unusedVariables false
set_option linter.unusedSimpArgs false
open Hq
def namesL (L : List Ent) : List ByteArray := L.map (·.1)
def keyE (p : Ent) : Lit := .string p.1.data.toList
theorem key_inj {p q : Ent} (h : keyE p = keyE q) : p.1 = q.1 := by
  unfold keyE at h
  injection h with h
  exact data_inj h
theorem SortL.apart {L : List Ent} (h : SortL L) : L.Pairwise fun p q => p.1 ≠ q.1 := h.imp fun {p q} h e => by
  rw [e, slt_ord.irrefl] at h
  cases h
/-- Those whose turn has been. -/
def donL (L : List Ent) (left : Lit → Bool) : List ByteArray := (L.filter fun p => !left (keyE p)).map (·.1)
theorem don_step : ∀ {L : List Ent} (ha : L.Pairwise fun p q => p.1 ≠ q.1) {left : Lit → Bool} {s : ByteArray} (hm : s ∈ namesL L) (hl : left (.string s.data.toList) = true),
    (donL L (fun z => left z && !z.sameKey (.string s.data.toList))).Perm (s :: donL L left)
  | [], _, _, _, hm, _ => by cases hm
  | q :: r, ha, left, s, hm, hl => by
    have hk : ∀ p : Ent, (!(left (keyE p) && !(keyE p).sameKey (.string s.data.toList))) = (!left (keyE p) || decide (p.1 = s)) := fun p => by
      unfold keyE
      rw [sameKey_str]
      cases left (.string p.1.data.toList) <;> simp
    rw [List.pairwise_cons] at ha
    by_cases e : q.1 = s
    · have hr : donL r (fun z => left z && !z.sameKey (.string s.data.toList)) = donL r left := by
        unfold donL
        congr 1
        refine List.filter_congr fun p hp => ?_
        rw [hk]
        have : ¬ p.1 = s := fun e' => ha.1 p hp (e.trans e'.symm)
        simp [this]
      have hq : left (keyE q) = true := by unfold keyE; rw [e]; exact hl
      unfold donL at *
      rw [List.filter_cons, List.filter_cons, hk]
      simp only [hq, e]
      simp only [Bool.not_true, Bool.false_or, decide_true, if_true, List.map_cons, e, hr]
      simp
    · have hm' : s ∈ namesL r := by
        unfold namesL at *
        simp only [List.map_cons, List.mem_cons] at hm
        rcases hm with hm | hm
        · exact absurd hm.symm e
        · exact hm
      have ih := don_step ha.2 hm' hl
      unfold donL at *
      rw [List.filter_cons, List.filter_cons, hk]
      simp only [e, decide_false, Bool.or_false]
      by_cases hq : left (keyE q) = true
      · simp only [hq, Bool.not_true]
        exact ih
      · have hq : left (keyE q) = false := by simpa using hq
        simp only [hq, Bool.not_false, if_true, List.map_cons]
        exact (ih.cons _).trans (List.Perm.swap _ _ _)
theorem don_start (L : List Ent) : donL L (Maps.has (H := Unit) (.map (L.map entD))) = [] := by
  unfold donL
  rw [List.map_eq_nil_iff, List.filter_eq_nil_iff]
  intro p hp
  have : (lookL L p.1).isSome = true := by
    unfold lookL
    rw [Option.isSome_map, List.isSome_find?]
    exact List.any_eq_true.2 ⟨p, hp, by simp⟩
  unfold keyE
  rw [map_has, this]
  simp
theorem don_end (L : List Ent) {left : Lit → Bool} (h : ∀ k, left k = false) : donL L left = namesL L := by
  unfold donL namesL
  congr 1
  rw [List.filter_eq_self]
  intro p hp
  simp [h]
theorem mem_of_left {L : List Ent} {s : ByteArray} (h : Maps.has (H := Unit) (.map (L.map entD)) (.string s.data.toList) = true) : s ∈ namesL L := by
  rw [map_has] at h
  unfold lookL at h
  rw [Option.isSome_map, List.isSome_find?] at h
  obtain ⟨p, hp, e⟩ := List.any_eq_true.1 h
  have e : p.1 = s := by simpa using e
  exact List.mem_map.2 ⟨p, hp, e⟩
theorem slt_anti {a b : ByteArray} (h1 : slt a b = false) (h2 : slt b a = false) : a = b := by
  unfold slt at h1 h2
  rw [bytesLess_eq, decide_eq_false_iff_not] at h1 h2
  have := List.le_antisymm (List.not_lt.1 h1) (List.not_lt.1 h2)
  rw [Lib.toList_data, Lib.toList_data] at this
  exact (data_inj this).symm
theorem names_sorted {L : List Ent} (h : SortL L) : (namesL L).Pairwise fun a b => slt b a = false := by
  unfold namesL
  rw [List.pairwise_map]
  exact h.imp fun {p q} h => slt_ord.asymm _ _ h
theorem pop_done {L : List Ent} (h : SortL L) {out : List ByteArray} {xs : Array ByteArray} (hp : PopS (namesL L) out xs) (h0 : xs.size = 0) : out = namesL L := by
  have e : xs = #[] := Array.size_eq_zero_iff.1 h0
  subst e
  have := hp.perm
  simp at this
  exact this.eq_of_pairwise (fun a b _ _ h1 h2 => slt_anti h2 h1) hp.sort (names_sorted h)
theorem ranges_chg {S : Nat → Prop} {w w' : World} {bm r n cnt : Nat} {D : DataW Unit} {left : Lit → Bool} (h : w.ranges Try.prog 9 (plainElem (H := Unit) Try.prog 3) bm r n D left cnt) (g : Chg S w w') (h1 : ¬ S bm) (h2 : ¬ S r) :
    w'.ranges Try.prog 9 (plainElem (H := Unit) Try.prog 3) bm r n D left cnt := by
  have hr := h.lt
  have hb := h.owns.lt
  obtain ⟨es, clock, since, seen, c0, k1, k2, k3, k4, k5, k6⟩ := h
  exact ⟨es, clock, since, seen, c0, (g.block _ hb h1).trans k1, k2, k3, k4, (g.block _ hr h2).trans k5, k6⟩
theorem nm_not_iter {w : World} {B b bm r n cnt : Nat} {cv : Value} {xs : Array ByteArray} {D : DataW Unit} {left : Lit → Bool} (h : NmG B w b cv xs) (k : w.ranges Try.prog 9 (plainElem (H := Unit) Try.prog 3) bm r n D left cnt) : ¬ NmS b cv bm ∧ ¬ NmS b cv r := by
  obtain ⟨es, clock, since, seen, c0, k1, _, _, _, k5, _⟩ := k
  have hb : w.heap[b]? = _ := h.blk
  have ho : ∀ g, cv.ownBlock = some g → ∃ cur, Blk w g cur 9 := fun g e => (own_typ h.own e).2
  refine ⟨?_, ?_⟩
  · rintro (e | e)
    · rw [e, hb] at k1; cases k1
    · obtain ⟨cur, hc⟩ := ho _ e
      have hc : w.heap[bm]? = _ := hc
      rw [hc] at k1; cases k1
  · rintro (e | e)
    · rw [e, hb] at k5; cases k5
    · obtain ⟨cur, hc⟩ := ho _ e
      have hc : w.heap[r]? = _ := hc
      rw [hc] at k5; cases k5
theorem NmG.chg1 {w w' : World} {B b bm r n cnt : Nat} {cv : Value} {xs : Array ByteArray} {D : DataW Unit} {left : Lit → Bool} (h : NmG B w b cv xs) (k : w.ranges Try.prog 9 (plainElem (H := Unit) Try.prog 3) bm r n D left cnt) (g : w.grownBy w' (some r)) : NmG B w' b cv xs := by
  have hn := (nm_not_iter h k).2
  have hc : Chg (· = r) w w' := (Chg.refl _ _).grown g (fun k e _ => by injection e with e; exact e.symm)
  exact ⟨hc.blk h.blk (fun e => hn (.inl e.symm)), ownsRow_chg h.own hc (fun b' e e' => hn (.inr (by rw [e, e'])))⟩
def lenOf : Value → Nat
  | .slice _ n _ => n
  | _ => 0
def LpRel (w : World) (L : List Ent) (v : Value) (wr : World) : Prop := ∃ (out : List ByteArray) (xs : Array ByteArray) (cv : Value) (va : Option Addr) (vc : Nat), v = .slice va out.length vc ∧
  wr.ownsRow w.heap.size 9 1 (.slice va out.length vc) out.length (out.map strv) ∧ NmG w.heap.size wr (w.heap.size + 1) cv xs ∧ IsHeap slt xs xs.size ∧ PopS (namesL L) out xs ∧ Below w.heap.size w wr ∧ ∀ g, (Value.slice va out.length vc).ownBlock = some g → ¬ NmS (w.heap.size + 1) cv g
theorem nmS_slice {b g n m c : Nat} {k : Nat} (h : NmS b (.slice (some ⟨g, 0, none⟩) n c) k) : NmS b (.slice (some ⟨g, 0, none⟩) m c) k := h
theorem lp_step {w wr w2 w3 : World} {L : List Ent} {out : List ByteArray} {ys : Array ByteArray} {y : ByteArray} {g n dc vc : Nat} {va : Option Addr} {v3 : Value} {o : Obj} (hb : Below w.heap.size w wr) (hb1 : w.heap.size + 1 < wr.heap.size)
    (hc : Chg (NmS (w.heap.size + 1) (.slice (some ⟨g, 0, none⟩) n dc)) wr w2) (hg : w.heap.size ≤ g) (hg1 : g < wr.heap.size)
    (hap : ∀ q, (Value.slice va out.length vc).ownBlock = some q → ¬ NmS (w.heap.size + 1) (.slice (some ⟨g, 0, none⟩) n dc) q) (hP : PopS (namesL L) (out ++ [y]) ys) (hR : NmR w.heap.size (w.heap.size + 1) g dc w2 ys)
    (hi : IsHeap slt ys ys.size) (hw : ∀ q, (Value.slice va out.length vc).ownBlock = some q → w.heap.size ≤ q) (ho : w3.ownsRow w.heap.size 9 1 v3 (out.length + 1) (out.map strv ++ [.string y])) (hgr : (w2.alloc o).grownBy w3 (Value.slice va out.length vc).ownBlock)
    (ha : v3.ownBlock = (Value.slice va out.length vc).ownBlock ∨ v3.ownBlock = some (w2.heap.size + 1)) : LpRel w L v3 w3 := by
  obtain ⟨a3, c3, rfl, _⟩ := own_shape ho
  have el : (out ++ [y]).length = out.length + 1 := by simp
  have em : (out ++ [y]).map strv = out.map strv ++ [.string y] := by simp
  have hz := hc.size
  have hcg : Chg (fun k => (Value.slice va out.length vc).ownBlock = some k) w2 w3 := ((Chg.refl _ w2).alloc o).grown hgr (fun _ e _ => e)
  refine ⟨out ++ [y], ys, .slice (some ⟨g, 0, none⟩) ys.size dc, a3, c3, by rw [el], by rw [el, em]; exact ho, ⟨?_, ?_⟩, hi, hP, ?_, ?_⟩
  · exact hcg.blk (NmG.blk hR) (fun e => hap _ e (.inl rfl))
  · exact ownsRow_chg (NmG.own hR) hcg (fun q hq e => hap _ e (.inr hq))
  · refine hcg.below_trans (hc.below_trans hb hb.size fun i hi e => ?_) (Nat.le_trans hb.size hz) fun i hi e => ?_
    · rcases e with e | e
      · omega
      · injection e with e; have e : g = i := e; omega
    · have := hw _ e; omega
  · intro q hq e
    rw [el] at hq
    rcases ha with ha | ha
    · exact hap q (by rw [← ha, ← hq]) (nmS_slice e)
    · rw [ha] at hq
      injection hq with hq
      rcases e with e | e
      · omega
      · injection e with e; have e : g = q := e; omega
theorem isHeap_nil : IsHeap slt (#[] : Array ByteArray) (#[] : Array ByteArray).size := by
  intro i
  simp
def LsRel (w : World) (bm : Nat) (L : List Ent) (wr : World) : Prop := ∃ (left : Lit → Bool) (cnt : Nat) (cv : Value) (xs : Array ByteArray),
  wr.ranges Try.prog 9 (plainElem (H := Unit) Try.prog 3) bm (w.heap.size + 2) L.length (.map (L.map entD)) left cnt ∧ (∀ kl, left kl = true → Maps.has (H := Unit) (.map (L.map entD)) kl = true) ∧
  NmG w.heap.size wr (w.heap.size + 1) cv xs ∧ IsHeap slt xs xs.size ∧ xs.toList.Perm (donL L left) ∧ Below w.heap.size w wr
set_option maxRecDepth 100000 in
set_option maxHeartbeats 1000000 in
theorem dirList (b bm : Nat) (L : List Ent) (w : World) (h : DirM w b bm L) (hL : L.length ≤ 2048) : Calls Try.prog 31 #[.pointer (some ⟨b, 0, none⟩)] w fun e w' => ∃ v, e = .returned v ∧ w'.ownsRow w.heap.size 9 1 v L.length ((namesL L).map strv) ∧ Below w.heap.size w w' := by
  have c1 : w.cell? ⟨b, 0, none⟩ = some (.map (some bm)) := h.1.cell (o := 0) rfl
  have hl := h.1.lt
  have hlm := h.2.lt
  have hS := Lib.hid h.sorted
  have H := Lib.hid h
  clear h
  go_enter Try.func31, Try.ntmps31
  go_wp2_with (first | (at_range; refine wpList_range_own _ rfl _ 95 rfl 9 3 strK Try.underlying95 _ bm L.length _ rfl (H.out.below (by (repeat (first | exact Below.refl _ _ | (with_reducible assumption) | apply Below.drew | apply belowDN | (refine Below.alloc ?_ (by first | exact Nat.le_refl _ | omega | (simp; done) | (simp; omega)) _) | (refine Below.setCell ?_ (by first | exact Nat.le_refl _ | omega | (simp; done) | (simp; omega)) _) | (refine Below.trans ?_ (Below.mono (by with_reducible assumption) (by first | omega | (simp; done) | (simp; omega)))))))).2 ?_; intro w0 hrg0 hg0 hs0) | fail)
  go_frame
  have hz0 : w0.heap.size = w.heap.size + 3 := by rw [hs0]; simp
  have e2 : ((w.alloc (Obj.cells #[] 9)).alloc (Obj.cells #[Value.slice (some ⟨w.heap.size, 0, none⟩) 0 0] 106)).heap.size = w.heap.size + 2 := by simp
  rw [e2] at hrg0
  simp only [e2]
  have A1 := Blk.new w #[] 9
  have A2 := Blk.new (w.alloc (Obj.cells #[] 9)) #[Value.slice (some ⟨w.heap.size, 0, none⟩) 0 0] 106
  have hcg := (Chg.refl (fun _ => False) _).grown hg0 (fun k e => by cases e)
  have R0 : LsRel w bm L w0 := by
    refine ⟨_, _, .slice (some ⟨w.heap.size, 0, none⟩) 0 0, #[], hrg0, fun _ h => h, ⟨hcg.blk (by simpa using A2) id, by simp, .inr ⟨w.heap.size, 0, #[], rfl, Nat.le_refl _, hcg.blk (A1.alloc _) id, Nat.le_refl _, by unfold maxLen; omega, rfl, rfl⟩⟩, isHeap_nil, by rw [don_start], ?_⟩
    exact hcg.below_trans (by (repeat (first | exact Below.refl _ _ | (with_reducible assumption) | apply Below.drew | apply belowDN | (refine Below.alloc ?_ (by first | exact Nat.le_refl _ | omega | (simp; done) | (simp; omega)) _) | (refine Below.setCell ?_ (by first | exact Nat.le_refl _ | omega | (simp; done) | (simp; omega)) _) | (refine Below.trans ?_ (Below.mono (by with_reducible assumption) (by first | omega | (simp; done) | (simp; omega))))))) (by rw [e2]; omega) (fun i _ => id)
  have HR := Lib.hid R0
  clear R0 hrg0 hg0 hcg A1 A2
  go_loopw [4] (fun _ wr => LsRel w bm L wr) (fun _ wr => wr.rangeLeft bm (w.heap.size + 2))
  case atStart => exact HR.out
  case round =>
    obtain ⟨left, cnt, cv, xs, hrg, hhas, hnm, hhp, hpm, hbl⟩ := hrel
    have hxl : xs.size ≤ L.length := by
      have := hpm.length_eq
      unfold donL at this
      rw [List.length_map] at this
      have h2 := List.length_filter_le (fun p => !left (keyE p)) L
      simp at this
      omega
    go_wp2_with (first | (at_next; refine wpList_next_ranges _ rfl _ rfl 9 strK (plainElem (H := Unit) Try.prog 3) Value.string (Value.int .i64) (fun key kl hkey => by obtain ⟨x, rfl, _⟩ := WideMaps.string_of_keyOf Try.underlying9 hkey; exact ⟨x, rfl⟩) (fun v y hv => by obtain ⟨c, rfl, _⟩ := plainElem_int_inv Try.underlying3 hv; exact ⟨c, rfl⟩) bm (w.heap.size + 2) L.length _ _ _ rfl hrg ?_ ?_) | fail)
    · intro _ hl0
      have hpm' : xs.toList.Perm (namesL L) := by rw [don_end L hl0] at hpm; exact hpm
      have R1 : LpRel w L (.slice none 0 0) wr := ⟨[], xs, cv, none, 0, rfl, World.ownsRow_nil _ _ _ _, hnm, hhp, ⟨by simpa using hpm', List.Pairwise.nil, fun a ha => by cases ha⟩, hbl, fun g e => by cases e⟩
      have HR1 := Lib.hid R1
      clear R1 hpm' hpm hnm hhp hbl hhas hrg hl0
      go_wp2
      go_loopw [5] (fun v wr => LpRel w L v wr) (fun v _ => L.length - lenOf v)
      case atStart => exact HR1.out
      case round =>
        obtain ⟨out, zs, dv, va, vc, rfl, hown, hnm, hhp, hpop, hbl, hap⟩ := hrel
        have hzl : out.length + zs.size = L.length := by
          have := hpop.perm.length_eq
          unfold namesL at this
          simp at this
          omega
        obtain ⟨da, dc, rfl, hd1, hd2, hd3⟩ := own_shape hnm.own
        have k1 : wr.cell? ⟨w.heap.size + 1, 0, none⟩ = some (.slice da zs.size dc) := hnm.blk.cell (o := 0) rfl
        have k2 := hnm.blk.lt
        by_cases h0 : 0 < zs.size
        · obtain ⟨g, rfl⟩ : ∃ g, da = some ⟨g, 0, none⟩ := by
            rcases hnm.own.2 with ⟨e, _⟩ | ⟨g, c, cur, e, _⟩
            · injection e with _ e; omega
            · injection e with e; exact ⟨g, e⟩
          have P := Lib.hid (fun n : Nat => hpopN w.heap.size (w.heap.size + 1) g dc zs (wr.drewN n) (hnm.below (Drw.below ⟨n, rfl⟩)) hhp h0 (by omega))
          have G1 := Lib.hid hown
          have G2 := Lib.hid hpop
          have G3 := Lib.hid hbl
          have G4 := Lib.hid hap
          have G5 := Lib.hid hhp
          have hg := (own_cells hnm.own).1
          have hg1 := (own_cells hnm.own).2.1
          clear hown hpop hbl hap hhp hnm
          obtain ⟨i0, hi, hz0, hz1, hz2⟩ := info_parts Sn.info
          have hz' : (0 : Int) < (zs.size : Int) := by omega
          go_wp2_with (first | (go_at_call 56; refine (nmLen _ _ _ _ (by omega)).mono ?_; rintro e w1 ⟨rfl, n1, rfl⟩) | fail)
          refine (P.out _).mono ?_
          rintro e w2 ⟨v2, ys, rfl, hV, hR, hsz, hpm2, hih2, hch⟩
          have G6 := Lib.hid (PopS.step G2.out G5.out h0 hpm2)
          have G7 := Lib.hid hR
          have G8 := Lib.hid hih2
          clear hpm2 hR hih2
          generalize zs[0]! = y at G6 hV
          unfold StrV at hV
          subst hV
          have ta := ta_str y
          have C2 := Lib.hid (((Chg.refl _ wr).drewN n1).trans hch)
          clear hch
          have hown2 := ownsRow_chg G1.out C2.out (fun q hq => G4.out q hq)
          have hz2' := C2.out.size
          have hb2 := G3.out.size
          go_wp2_with (at_builtin; refine wpList_append_own_at _ rfl _ _ 47 rfl w.heap.size 9 i0 (.string ByteArray.empty) 1 16 Try.underlying47 hi hz0 hz1 hz2 rfl (by decide) _ _ _ rfl (hown2.alloc _) ⟨w2.heap.size, 0, none⟩ 1 1 [.string y] rfl rfl ?c1 ?c2 ?c3 ?c4 ?c5 ?_)
          case c1 => exact cell_one_new _ _ _
          case c2 => intro u hu; simp at hu; subst hu; rfl
          case c3 => unfold maxLen; omega
          case c4 => omega
          case c5 => simp; omega
          intro v3 w3 hown3 hgrow3 _ hadd3
          obtain ⟨a3, c3, rfl, _⟩ := own_shape hown3
          have HR3 := Lib.hid (lp_step G3.out k2 C2.out hg hg1 (fun q hq => G4.out q hq) G6.out G7.out G8.out (fun q hq => (G1.out.lt q hq).1) hown3 hgrow3 hadd3)
          clear hown3 hgrow3 hadd3 hown2
          go_wp2
          go_roundw
          case rel => exact HR3.out
          case measure => simp only [lenOf]; omega
        · obtain rfl : out = namesL L := pop_done hS.out hpop (by omega)
          have G1 := Lib.hid hown
          have G3 := Lib.hid hbl
          have hll : (namesL L).length = L.length := by unfold namesL; simp
          have HLL := Lib.hid hll
          clear hown hpop hbl hap hhp hnm hll
          have hz' : ¬ (0 : Int) < (zs.size : Int) := by omega
          go_wp2_with (first | (go_at_call 56; refine (nmLen _ _ _ _ (by omega)).mono ?_; rintro e w1 ⟨rfl, n1, rfl⟩) | fail)
          go_ret
          exact ⟨_, rfl, by have := G1.out; rw [HLL.out] at this ⊢; exact this, G3.out.trans (Drw.below ⟨n1, rfl⟩ |>.mono G3.out.size)⟩
    · intro x c kl y ps w1 cnt1 hkey hlk hy hat hrg1 hlt hg1 hs1 hen
      obtain ⟨x', ex, rfl, hxs⟩ := WideMaps.string_of_keyOf Try.underlying9 hkey
      cases ex
      have N1 := hnm.chg1 hrg hg1
      have P := Lib.hid (hpushN w.heap.size (w.heap.size + 1) cv xs x w1 N1 (by have := hbl.size; omega) hhp (by omega))
      have F1 := Lib.hid hrg1
      have F2 := Lib.hid hhas
      have F3 := Lib.hid hpm
      have F4 := Lib.hid hbl
      have F5 := Lib.hid hrg
      have F6 := Lib.hid hg1
      clear hrg1 hhas hpm hbl hg1 hrg hnm
      go_wp2_with fail
      refine P.out.mono ?_
      rintro e w2 ⟨rfl, ys, ⟨cv', hnm'⟩, hys, hyp, hyh, hch⟩
      have N2 := nm_not_iter N1 F1.out
      have X1 := ranges_chg F1.out hch N2.1 N2.2
      have X2 : ys.toList.Perm (donL L fun z => left z && !z.sameKey (.string x.data.toList)) := hyp.trans (by
        have := don_step hS.out.apart (mem_of_left (F2.out _ hlk)) hlk
        refine List.Perm.trans ?_ this.symm
        simp only [Array.toList_push]
        exact (List.perm_append_comm (l₁ := xs.toList)).trans (F3.out.cons _))
      have X3 : Below w.heap.size w w2 := (F4.out.trans ((Chg.refl (· = w.heap.size + 2) _).grown F6.out (fun k e _ => by injection e with e; exact e.symm) |>.below F4.out.size (fun i hi e => by omega))).trans
        (hch.below (by have := F4.out.size; omega) (fun i hi e => by
          rcases e with e | e
          · omega
          · have := (own_typ N1.own e).1; omega))
      have X4 := F5.out.left_eq
      have X5 := X1.left_eq
      have HR2 := Lib.hid (show LsRel w bm L w2 from ⟨_, cnt1, cv', ys, X1, fun kl h => F2.out kl (by rw [Bool.and_eq_true] at h; exact h.1), hnm', hyh, X2, X3⟩)
      clear hnm' hyp hyh hch X1 X2 X3 N1 N2
      go_wp2
      go_roundw
      case rel => exact HR2.out
      case measure => omega
end Go.Proofs.Ytfcddpbpfckjfaa
