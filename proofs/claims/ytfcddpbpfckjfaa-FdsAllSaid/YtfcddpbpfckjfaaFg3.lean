/- The table of descriptors in general: Len, Room, find, Get, Seek. -/
import Derived.Test.YtfcddpbpfckjfaaChecked
import Derived.WalkKit
import Derived.Outline
import Derived.WalkSpells
import Derived.WalkLawsBesides
import Derived.Deep.QuietTactic
import Derived.Deep.RegionWith
import Derived.Deep.DeepMust
import Derived.BigQuiet
import Derived.Test.YtfcddpbpfckjfaaMem
import Derived.RegionTactic
import Derived.ChangeAlike
import Derived.StillTailTactics
import Derived.BigRegion
import Derived.BigGuardPart
import Derived.Deep.RegionHeld3
import Derived.Deep.RegionLaw
import Derived.Test.YtfcddpbpfckjfaaFg2
namespace Go.Proofs.Ytfcddpbpfckjfaa
open Go.RowKit
set_option linter.unusedVariables false
set_option linter.unusedSimpArgs false
theorem fgPush (b : Nat) (v cv : Value) (fs : List Fil) (xs : Array Int) (n : Int) (w : World) (h : FdG w b v cv fs xs) (hh : Hq.IsHeap ilt xs xs.size) (hz : xs.size ≤ 1000) :
    Calls Try.prog 52 #[.iface 91 (.pointer (some ⟨b, 1, none⟩)), .iface 3 (.int .i64 n)] w (PushPost ilt (fun w' ys => ∃ cv', FdG w' b v cv' fs ys) (FdS b v cv) (xs.push n) w) :=
  frPush ilt_ord xs n _ w hh (by omega) ⟨_, mth_push _ _, (fPush b v cv fs xs n w h hz).mono fun e w' ⟨he, g, c, h1, h2, h3⟩ =>
    ⟨he, FrR b g c v fs, (· = g), frIs b g c v fs, h1, h2, fun i hi e => by
      subst e
      rcases h3 with h3 | h3
      · exact .inr (.inr h3)
      · omega, fun w2 ys _ h4 => ⟨_, h4⟩⟩⟩
theorem fgPop (b g c : Nat) (v : Value) (fs : List Fil) (xs : Array Int) (w : World) (h : FdG w b v (.slice (some ⟨g, 0, none⟩) xs.size c) fs xs) (hh : Hq.IsHeap ilt xs xs.size) (h0 : 0 < xs.size) (hz : xs.size ≤ 1000) :
    Calls Try.prog 50 #[.iface 91 (.pointer (some ⟨b, 1, none⟩))] w (PopPost ilt IntV (FrR b g c v fs) (FdS b v (.slice (some ⟨g, 0, none⟩) xs.size c)) xs w) := by
  have H := frIs b g c v fs
  have H2 : frHp ilt (.pointer (some ⟨b, 1, none⟩)) (FrR b g c v fs) (FdS b v (.slice (some ⟨g, 0, none⟩) xs.size c)) :=
    ⟨H.drw, H.mless, H.mlen, fun w xs' hR => by
      obtain ⟨r, h1, h2⟩ := H.mswap w xs' hR
      exact ⟨r, h1, fun i j hi hj => (h2 i j hi hj).mono fun e w' ⟨k1, k2, k3⟩ => ⟨k1, k2, k3.mono fun i _ e => .inr (.inr (by rw [e]; rfl))⟩⟩⟩
  obtain ⟨n, hn⟩ : ∃ n, n + 1 = xs.size := ⟨xs.size - 1, by omega⟩
  refine frPop H2 ilt_ord xs n w h hn (by omega) hh fun w ys hR hs => ⟨_, mth_pop _ _, ?_⟩
  have hs' : ys.size = xs.size := by omega
  have := fPop b g c v fs ys n w hR (by omega)
  rw [hs'] at this
  exact this
theorem FdG.vshape {w : World} {b : Nat} {v cv : Value} {fs : List Fil} {xs : Array Int} (h : FdG w b v cv fs xs) (h0 : 0 < fs.length) : ∃ g c, v = .slice (some ⟨g, 0, none⟩) fs.length c ∧ b < g ∧ g < w.heap.size ∧ fs.length ≤ c ∧ c ≤ 9223372036854775807 ∧ (∃ cur, Blk w g cur 85 ∧ cur.size = c * 5 ∧ cur.toList.take (fs.length * 5) = frow fs) := by
  rcases h.own.2 with ⟨_, h1⟩ | ⟨g, c, cur, rfl, h1, h2, h3, h4, h5, h6⟩
  · omega
  · have hne : g ≠ b := fun e => h.ne (by rw [e]; rfl)
    exact ⟨g, c, rfl, by omega, lt_of_block h2, h3, by unfold maxLen at h4; omega, cur, h2, h5, h6⟩
theorem frow_at : ∀ (fs : List Fil) (k j : Nat) (hk : k < fs.length), j < 5 → (frow fs)[k * 5 + j]? = (filC fs[k])[j]?
  | f :: fs, 0, j, _, hj => by
    rw [frow, List.flatMap_cons, List.getElem?_append_left (by simp [filC]; omega)]
    simp
  | f :: fs, k + 1, j, hk, hj => by
    have := frow_at fs k j (by simpa using hk) hj
    rw [frow, List.flatMap_cons, List.getElem?_append_right (by simp [filC]; omega)]
    rw [show (k + 1) * 5 + j - (filC f).length = k * 5 + j by simp [filC]; omega]
    exact this
theorem fd_cellsG {w : World} {g n : Nat} {cur : Array Value} {fs : List Fil} (h : Blk w g cur 85) (ht : cur.toList.take (fs.length * 5) = frow fs) (k : Nat) (hk : k < fs.length) :
    w.cell? ⟨g, k * 5, none⟩ = some (.int .i64 fs[k].time) ∧ w.cell? ⟨g, k * 5 + 1, none⟩ = some (.int .i64 fs[k].node) ∧ w.cell? ⟨g, k * 5 + 2, none⟩ = some (.int .i64 fs[k].flags) ∧ w.cell? ⟨g, k * 5 + 3, none⟩ = some (.int .i64 fs[k].at_) ∧ w.cell? ⟨g, k * 5 + 4, none⟩ = some (.bool fs[k].op) := by
  have K : ∀ j u, j < 5 → (filC fs[k])[j]? = some u → cur[k * 5 + j]? = some u := by
    intro j u hj hu
    rw [← frow_at fs k j hk hj, ← ht, List.getElem?_take_of_lt (by omega)] at hu
    simpa using hu
  exact ⟨h.cell (K 0 _ (by omega) rfl), h.cell (K 1 _ (by omega) rfl), h.cell (K 2 _ (by omega) rfl), h.cell (K 3 _ (by omega) rfl), h.cell (K 4 _ (by omega) rfl)⟩
theorem gLen (b : Nat) (v cv : Value) (fs : List Fil) (xs : Array Int) (w : World) (h : FdG w b v cv fs xs) (m : Nat) (hm : m + xs.size = fs.length) : Calls Try.prog 17 #[.pointer (some ⟨b, 0, none⟩)] w fun e w' => e = .returned (.int .i64 m) ∧ Drw w w' := by
  have c0 : w.cell? ⟨b, 0, none⟩ = some v := h.blk.cell (o := 0) rfl
  have c1 : w.cell? ⟨b, 1, none⟩ = some cv := h.blk.cell (o := 1) rfl
  have hz := h.blk.lt
  obtain ⟨va, vc, rfl, hv1, hv2, _⟩ := own_shp h.own
  obtain ⟨ca, cc, rfl, hc1, hc2, _⟩ := own_shp h.cown
  have e : (fs.length : Int) - (xs.size : Int) = m := by omega
  clear h hm
  go_enter Try.func17, Try.ntmps17
  go_wp2
  go_quiet (fail)
  go_wp2
  go_ret
  exact ⟨ret_i (by first | rfl | exact e), _, rfl⟩
theorem gRoom (b : Nat) (v cv : Value) (fs : List Fil) (xs : Array Int) (w : World) (h : FdG w b v cv fs xs) (m : Nat) (hm : m + xs.size = fs.length) (hl : fs.length ≤ 1000) : Calls Try.prog 18 #[.pointer (some ⟨b, 0, none⟩)] w fun e w' => e = .returned (.bool (decide (m < 32))) ∧ Drw w w' := by
  have K := Lib.hid (gLen b v cv fs xs w h m hm)
  have hm2 : m ≤ 1000 := by omega
  clear h hm
  go_enter Try.func18, Try.ntmps18
  go_wp2_with fail
  refine K.out.mono ?_
  rintro e w1 ⟨rfl, n, rfl⟩
  go_wp2
  go_ret
  exact ⟨ret_b (by simp; omega), _, rfl⟩
theorem gFindYes (b : Nat) (v cv : Value) (fs : List Fil) (xs : Array Int) (w : World) (h : FdG w b v cv fs xs) (k : Nat) (hk : k < fs.length) (hz : fs.length ≤ 1000) (ho : fs[k].op = true) : ∃ g, v.ownBlock = some g ∧ Calls Try.prog 51 #[.pointer (some ⟨b, 0, none⟩), .int .i64 k] w fun e w' => e = .returned (.pointer (some ⟨g, k * 5, none⟩)) ∧ Drw w w' := by
  have c0 : w.cell? ⟨b, 0, none⟩ = some v := h.blk.cell (o := 0) rfl
  have hzb := h.blk.lt
  obtain ⟨g, c, rfl, hbg, hg, h1, h2, cur, hbk, _, ht⟩ := h.vshape (by omega)
  obtain ⟨_, _, _, _, k4⟩ := fd_cellsG (n := 0) hbk ht k hk
  rw [ho] at k4
  have k0 : (0 : Int) ≤ k := by omega
  have k1 : (k : Int) < fs.length := by omega
  clear h hbk ht ho
  refine ⟨g, rfl, ?_⟩
  go_enter Try.func51, Try.ntmps51
  go_wp2
  go_ret
  exact ⟨rfl, 0, rfl⟩
def FdNo (fs : List Fil) (fd : Int) : Prop := fd < 0 ∨ (fs.length : Int) ≤ fd ∨ ∃ k : Nat, ∃ h : k < fs.length, fd = k ∧ fs[k].op = false
theorem gFindNo (b : Nat) (v cv : Value) (fs : List Fil) (xs : Array Int) (w : World) (h : FdG w b v cv fs xs) (fd : Int) (hz : fs.length ≤ 1000) (hb : -9223372036854775808 ≤ fd ∧ fd ≤ 9223372036854775807) (ho : FdNo fs fd) : Calls Try.prog 51 #[.pointer (some ⟨b, 0, none⟩), .int .i64 fd] w fun e w' => e = .returned (.pointer none) ∧ Drw w w' := by
  have c0 : w.cell? ⟨b, 0, none⟩ = some v := h.blk.cell (o := 0) rfl
  have hzb := h.blk.lt
  obtain ⟨b1, b2⟩ := hb
  rcases ho with ho | ho | ⟨k, hk, rfl, ho⟩
  · obtain ⟨va, vc, rfl, hv1, hv2, _⟩ := own_shp h.own
    clear h
    go_enter Try.func51, Try.ntmps51
    go_wp2
    go_ret
    exact ⟨rfl, 0, rfl⟩
  · obtain ⟨va, vc, rfl, hv1, hv2, _⟩ := own_shp h.own
    have hd : ¬ fd < 0 := by omega
    clear h
    go_enter Try.func51, Try.ntmps51
    go_wp2
    go_ret
    exact ⟨rfl, 0, rfl⟩
  · obtain ⟨g, c, rfl, hbg, hg, h1, h2, cur, hbk, _, ht⟩ := h.vshape (by omega)
    obtain ⟨_, _, _, _, k4⟩ := fd_cellsG (n := 0) hbk ht k hk
    rw [ho] at k4
    have k0 : (0 : Int) ≤ k := by omega
    have k1 : (k : Int) < fs.length := by omega
    clear h hbk ht ho
    go_enter Try.func51, Try.ntmps51
    go_wp2
    go_ret
    exact ⟨rfl, 0, rfl⟩
theorem slice_inj {g g' n n' c c' : Nat} (h : Value.slice (some ⟨g, 0, none⟩) n c = .slice (some ⟨g', 0, none⟩) n' c') : g = g' ∧ n = n' ∧ c = c' := by
  injection h with e1 e2 e3
  injection e1 with e1
  injection e1 with e1
  exact ⟨e1, e2, e3⟩
theorem set5 (x : Fil) (l : List Value) (j : Nat) (a : Value) : (filC x ++ l).set (j + 5) a = filC x ++ l.set j a := by simp [filC]
theorem frow_put : ∀ (fs : List Fil) (k : Nat) (f : Fil), k < fs.length → frow (fs.set k f) = (((((frow fs).set (k * 5) (.int .i64 f.time)).set (k * 5 + 1) (.int .i64 f.node)).set (k * 5 + 2) (.int .i64 f.flags)).set (k * 5 + 3) (.int .i64 f.at_)).set (k * 5 + 4) (.bool f.op)
  | x :: fs, 0, f, _ => by simp [frow, filC]
  | x :: fs, k + 1, f, h => by
    have ih := frow_put fs k f (by simpa using h)
    unfold frow at ih
    rw [List.set_cons_succ, frow, List.flatMap_cons, frow, List.flatMap_cons, ih, show (k + 1) * 5 = k * 5 + 5 by omega, show k * 5 + 5 + 1 = k * 5 + 1 + 5 by omega, show k * 5 + 5 + 2 = k * 5 + 2 + 5 by omega, show k * 5 + 5 + 3 = k * 5 + 3 + 5 by omega, show k * 5 + 5 + 4 = k * 5 + 4 + 5 by omega, set5, set5, set5, set5, set5]
theorem frow_at_ (fs : List Fil) (k : Nat) (n : Int) (h : k < fs.length) : frow (fs.set k {fs[k] with at_ := n}) = (frow fs).set (k * 5 + 3) (.int .i64 n) := by
  have e : fs = fs.set k fs[k] := by simp
  have h0 := frow_put fs k fs[k] h
  rw [← e] at h0
  rw [frow_put fs k _ h]
  conv => rhs; rw [h0]
  simp only [List.set_comm _ _ (show k * 5 + 3 ≠ k * 5 + 4 by omega), List.set_set]
theorem FdG.cells {w w' : World} {b g c : Nat} {cv : Value} {fs fs' : List Fil} {xs : Array Int} (h : FdG w b (.slice (some ⟨g, 0, none⟩) fs.length c) cv fs xs) {cur : Array Value} (hb : Blk w g cur 85) (cur' : Array Value) (hb' : Blk w' g cur' 85) (hc : Chg (· = g) w w') (hl : fs'.length = fs.length) (hs : cur'.size = cur.size) (ht : cur'.toList.take (fs'.length * 5) = frow fs') : FdG w' b (.slice (some ⟨g, 0, none⟩) fs.length c) cv fs' xs := by
  have hgb : b ≠ g := fun e => h.ne (by rw [e]; rfl)
  refine ⟨hc.blk h.blk hgb, ⟨frow_len _, .inr ?_⟩, ownsRow_chg h.cown hc (fun k e e' => h.apart (g := g) rfl (by rw [e, e']))⟩
  rcases h.own.2 with ⟨e, _⟩ | ⟨g', c', cur0, e, h1, h2, h3, h4, h5, h6⟩
  · cases e
  · injection e with e1 e2 e3
    injection e1 with e1
    injection e1 with e1
    subst e1
    subst e3
    have e0 : cur0 = cur := by
      unfold Blk at hb
      rw [hb] at h2
      injection h2 with h2
      injection h2 with h2
      exact h2.symm
    subst e0
    exact ⟨g, c, cur', by rw [hl], h1, hb', by omega, h4, by omega, ht⟩
theorem FdG.put {w : World} {b g c : Nat} {cv : Value} {fs : List Fil} {xs : Array Int} (h : FdG w b (.slice (some ⟨g, 0, none⟩) fs.length c) cv fs xs) (k : Nat) (hk : k < fs.length) (f : Fil) :
    FdG (((((w.setCell ⟨g, k * 5, none⟩ (.int .i64 f.time)).setCell ⟨g, k * 5 + 1, none⟩ (.int .i64 f.node)).setCell ⟨g, k * 5 + 2, none⟩ (.int .i64 f.flags)).setCell ⟨g, k * 5 + 3, none⟩ (.int .i64 f.at_)).setCell ⟨g, k * 5 + 4, none⟩ (.bool f.op)) b (.slice (some ⟨g, 0, none⟩) fs.length c) cv (fs.set k f) xs := by
  obtain ⟨g', c', e, hbg, hg, h1, h2, cur, hbk, hs, ht⟩ := h.vshape (by omega)
  obtain ⟨rfl, _, rfl⟩ := slice_inj e
  have B5 := ((((hbk.set (k * 5) (.int .i64 f.time)).set (k * 5 + 1) (.int .i64 f.node)).set (k * 5 + 2) (.int .i64 f.flags)).set (k * 5 + 3) (.int .i64 f.at_)).set (k * 5 + 4) (.bool f.op)
  generalize hw5 : ((((w.setCell ⟨g, k * 5, none⟩ (.int .i64 f.time)).setCell ⟨g, k * 5 + 1, none⟩ (.int .i64 f.node)).setCell ⟨g, k * 5 + 2, none⟩ (.int .i64 f.flags)).setCell ⟨g, k * 5 + 3, none⟩ (.int .i64 f.at_)).setCell ⟨g, k * 5 + 4, none⟩ (.bool f.op) = w5 at *
  have C5 : Chg (· = g) w w5 := by
    rw [← hw5]
    refine Chg.set (S := (· = g)) (p := ⟨g, k * 5 + 4, none⟩) ?_ (fun _ => rfl) _
    refine Chg.set (S := (· = g)) (p := ⟨g, k * 5 + 3, none⟩) ?_ (fun _ => rfl) _
    refine Chg.set (S := (· = g)) (p := ⟨g, k * 5 + 2, none⟩) ?_ (fun _ => rfl) _
    refine Chg.set (S := (· = g)) (p := ⟨g, k * 5 + 1, none⟩) ?_ (fun _ => rfl) _
    refine Chg.set (S := (· = g)) (p := ⟨g, k * 5, none⟩) ?_ (fun _ => rfl) _
    exact Chg.refl _ _
  clear hw5
  refine h.cells hbk _ B5 C5 (by simp) (by simp) ?_
  rw [List.length_set, frow_put fs k f hk]
  simp only [Array.toList_setIfInBounds, List.take_set, ht]
theorem FdG.seek {w : World} {b g c : Nat} {cv : Value} {fs : List Fil} {xs : Array Int} (h : FdG w b (.slice (some ⟨g, 0, none⟩) fs.length c) cv fs xs) (k : Nat) (hk : k < fs.length) (n : Int) :
    FdG (w.setCell ⟨g, k * 5 + 3, none⟩ (.int .i64 n)) b (.slice (some ⟨g, 0, none⟩) fs.length c) cv (fs.set k {fs[k] with at_ := n}) xs := by
  obtain ⟨g', c', e, hbg, hg, h1, h2, cur, hbk, hs, ht⟩ := h.vshape (by omega)
  obtain ⟨rfl, _, rfl⟩ := slice_inj e
  refine h.cells hbk _ (hbk.set _ _) (Chg.set (S := (· = g)) (Chg.refl _ w) (p := ⟨g, _, none⟩) (fun _ => rfl) _) (by simp) (by simp) ?_
  rw [List.length_set, frow_at_ fs k n hk]
  simp only [Array.toList_setIfInBounds, List.take_set, ht]
end Go.Proofs.Ytfcddpbpfckjfaa
