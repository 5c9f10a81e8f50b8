/- A net: a frame pushed; copied. -/
import Derived.Test.YthbalmoafpggdaaChecked
import Derived.WalkKit
import Derived.Outline
import Derived.WalkSpells
import Derived.WalkLawsBesides
import Derived.Deep.QuietTactic
import Derived.Deep.RegionWith
import Derived.Deep.DeepMust
import Derived.BigQuiet
import Derived.Test.YthbalmoafpggdaaMem
import Derived.RegionTactic
import Derived.ChangeAlike
import Derived.StillTailTactics
import Derived.BigRegion
import Derived.Deep.LoopGhost
import Derived.Deep.RegionHeld
import Derived.Deep.RegionHeld3
import Derived.Deep.RegionLaw
import Derived.Deep.AppendLies
import Derived.Test.YthbalmoafpggdaaNt3
namespace Go.Proofs.Ythbalmoafpggdaa
open Go.RowKit
set_option linter.unusedVariables false
set_option linter.unusedSimpArgs false
def NHPush (nb : Nat) (room came : Int) (lv : Value) (xs : List Wy) (w : World) (e : Ending) (w' : World) : Prop := e = .returned (.tuple #[]) ∧ ∃ g c, NetG w' nb room came (.slice (some ⟨g, 0, none⟩) xs.length c) xs ∧ Chg (NS nb lv) w w'
theorem NetG.drewN {w : World} {nb : Nat} {room came : Int} {lv : Value} {xs : List Wy} (h : NetG w nb room came lv xs) (n : Nat) : NetG (w.drewN n) nb room came lv xs := ⟨h.blk, h.own, h.way⟩
set_option maxRecDepth 100000 in
theorem nHPush0 (nb : Nat) (room came : Int) (lv : Value) (x : Wy) (w : World) (h : NetG w nb room came lv []) (hx : Blk w x.p (wyC x) 124) :
    Calls Try.prog 80 #[.iface 126 (.pointer (some ⟨nb, 1, none⟩)), .iface 120 (.pointer (some ⟨x.p, 0, none⟩))] w (NHPush nb room came lv [x] w) := by
  have KP := Lib.hid (nPush nb room came lv [] x w h hx (by simp))
  have hm := mth_push ⟨nb, 1, none⟩ w
  clear h hx
  go_enter Try.func80, Try.ntmps80
  go_wp2_with fail
  refine KP.out.mono ?_
  rintro e w1 ⟨rfl, g, c, hn, hg, _⟩
  have hc : w1.cell? ⟨nb, 1, none⟩ = some (.slice (some ⟨g, 0, none⟩) 1 c) := hn.blk.cell (o := 1) rfl
  have hm2 := mth_len _ _ _ hc
  have KL := Lib.hid (fLen (some ⟨g, 0, none⟩) 1 c w1 (by omega))
  have N1 := Lib.hid hn
  have G1 := Lib.hid hg
  clear hn hg KP hm
  go_wp2_with fail
  refine KL.out.mono ?_
  rintro e w2 ⟨rfl, nd, rfl⟩
  have KU := Lib.hid (nUp0 (.pointer (some ⟨nb, 1, none⟩)))
  go_wp2_with fail
  refine (KU.out _).mono ?_
  rintro e w3 ⟨rfl, rfl⟩
  go_wp2
  go_end0
  exact ⟨rfl, g, c, N1.out.drewN nd, G1.out.drewN nd⟩
set_option maxRecDepth 100000 in
theorem nHPush1 (nb : Nat) (room came : Int) (lv : Value) (a x : Wy) (w : World) (h : NetG w nb room came lv [a]) (hx : Blk w x.p (wyC x) 124) (hd : x.due < a.due) :
    Calls Try.prog 80 #[.iface 126 (.pointer (some ⟨nb, 1, none⟩)), .iface 120 (.pointer (some ⟨x.p, 0, none⟩))] w (NHPush nb room came lv [x, a] w) := by
  have KP := Lib.hid (nPush nb room came lv [a] x w h hx (by simp))
  have hm := mth_push ⟨nb, 1, none⟩ w
  clear h hx
  go_enter Try.func80, Try.ntmps80
  go_wp2_with fail
  refine KP.out.mono ?_
  rintro e w1 ⟨rfl, g, c, hn, hg, hgl⟩
  have hc : w1.cell? ⟨nb, 1, none⟩ = some (.slice (some ⟨g, 0, none⟩) 2 c) := hn.blk.cell (o := 1) rfl
  have hm2 := mth_len _ _ _ hc
  have KL := Lib.hid (fLen (some ⟨g, 0, none⟩) 2 c w1 (by omega))
  have N1 := Lib.hid hn
  have G1 := Lib.hid hg
  clear hn hg KP hm
  go_wp2_with fail
  refine KL.out.mono ?_
  rintro e w2 ⟨rfl, nd, rfl⟩
  have KU := Lib.hid (nUp1 nb g c room came a x (w1.drewN nd) (N1.out.drewN nd) hd)
  go_wp2_with fail
  refine KU.out.mono ?_
  rintro e w3 ⟨rfl, hn3, hg3⟩
  have N3 := Lib.hid hn3
  have G3 := Lib.hid (Chg.trans' (G1.out.drewN nd) hg3 (fun i hi e => by
    have e : i = g := e
    subst e
    rcases hgl with h | h
    · exact .inr h
    · omega))
  clear hn3 hg3
  go_wp2
  go_end0
  exact ⟨rfl, g, c, N3.out, G3.out⟩
theorem ownsRow_base2 {w : World} {B B' e s : Nat} {v : Value} {n : Nat} {xs : List Value} (h : w.ownsRow B e s v n xs) (hb : B' ≤ B) : w.ownsRow B' e s v n xs := by
  refine ⟨h.1, ?_⟩
  rcases h.2 with h2 | ⟨g, cap, cur, hv, hg, r⟩
  · exact .inl h2
  · exact .inr ⟨g, cap, cur, hv, Nat.le_trans hb hg, r⟩
def CopyPost (src dst due : Int) (l : List Int) (w : World) (e : Ending) (w' : World) : Prop := ∃ b, e = .returned (.agg #[.int .i64 src, .int .i64 dst, .int .i64 due, b]) ∧ w'.ownsRow w.heap.size 5 1 b l.length (l.map u8v) ∧ Below w.heap.size w w'
theorem chg5 (w : World) (P R : Nat) (u c0 c1 c2 c3 : Value) : Chg (fun k => k = P ∨ k = R) w (((((w.setCell ⟨P, 3, none⟩ u).setCell ⟨R, 0, none⟩ c0).setCell ⟨R, 1, none⟩ c1).setCell ⟨R, 2, none⟩ c2).setCell ⟨R, 3, none⟩ c3) :=
  have hP : ∀ o, (⟨P, o, none⟩ : Addr).block < w.heap.size → P = P ∨ P = R := fun _ _ => .inl rfl
  have hR : ∀ o, (⟨R, o, none⟩ : Addr).block < w.heap.size → R = P ∨ R = R := fun _ _ => .inr rfl
  Chg.set (S := (fun k => k = P ∨ k = R)) (Chg.set (S := (fun k => k = P ∨ k = R)) (Chg.set (S := (fun k => k = P ∨ k = R)) (Chg.set (S := (fun k => k = P ∨ k = R)) (Chg.set (S := (fun k => k = P ∨ k = R)) (Chg.refl _ _) (hP 3) u) (hR 0) c0) (hR 1) c1) (hR 2) c2) (hR 3) c3
set_option maxHeartbeats 2000000 in
set_option maxRecDepth 100000 in
theorem nCopied (src dst due : Int) (bv : Value) (l : List Int) (w : World) (hb : Rdv u8v w bv l) (hl : l.length ≤ 10000000) :
    Calls Try.prog 84 #[.agg #[.int .i64 src, .int .i64 dst, .int .i64 due, bv]] w (CopyPost src dst due l w) := by
  obtain ⟨va, vn, vc, rfl⟩ := hb.shape
  have AL := Lib.hid (((Below.refl w.heap.size w).alloc (Nat.le_refl _) (.cells #[.int .i64 src, .int .i64 dst, .int .i64 due, .slice va vn vc] 73)).alloc (by simp) (.cells #[.int .i64 0, .int .i64 0, .int .i64 0, .slice none 0 0] 73))
  have X1 := Lib.hid ((Blk.new w #[.int .i64 src, .int .i64 dst, .int .i64 due, .slice va vn vc] 73).alloc (.cells #[.int .i64 0, .int .i64 0, .int .i64 0, .slice none 0 0] 73))
  have X2 : Hid (Blk ((w.alloc (.cells #[.int .i64 src, .int .i64 dst, .int .i64 due, .slice va vn vc] 73)).alloc (.cells #[.int .i64 0, .int .i64 0, .int .i64 0, .slice none 0 0] 73)) (w.heap.size + 1) #[.int .i64 0, .int .i64 0, .int .i64 0, .slice none 0 0] 73) := Lib.hid (by have := Blk.new (w.alloc (.cells #[.int .i64 src, .int .i64 dst, .int .i64 due, .slice va vn vc] 73)) #[.int .i64 0, .int .i64 0, .int .i64 0, .slice none 0 0] 73; simpa using this)
  have KC := Lib.hid (cloneC (.slice va vn vc) l _ (hb.below AL.out) (by omega))
  clear hb
  go_enter Try.func84, Try.ntmps84
  go_wp2_with fail
  refine KC.out.mono ?_
  rintro e w1 ⟨b, rfl, ho, hb1⟩
  obtain ⟨ba, bc, rfl, _, _, _⟩ := own_shape ho
  have Y1 := Lib.hid (blkBelow hb1 X1.out X1.out.lt)
  have Y2 := Lib.hid (blkBelow hb1 X2.out X2.out.lt)
  have B1 := Lib.hid (AL.out.trans (hb1.mono AL.out.size))
  have O1 : Hid (w1.ownsRow (w.heap.size + 1 + 1) 5 1 (.slice ba l.length bc) l.length (l.map u8v)) := Lib.hid (by simpa using ho)
  have hz1 := Y2.out.lt
  clear ho hb1 KC
  have x_0 : w1.cell? ⟨w.heap.size, 0, none⟩ = some (.int .i64 src) := Y1.out.cell (o := 0) rfl
  have x_1 : w1.cell? ⟨w.heap.size, 1, none⟩ = some (.int .i64 dst) := Y1.out.cell (o := 1) rfl
  have x_2 : w1.cell? ⟨w.heap.size, 2, none⟩ = some (.int .i64 due) := Y1.out.cell (o := 2) rfl
  have x_3 : w1.cell? ⟨w.heap.size, 3, none⟩ = some (.slice va vn vc) := Y1.out.cell (o := 3) rfl
  have xf := Y1.out.free 3
  have y_0 : w1.cell? ⟨w.heap.size + 1, 0, none⟩ = some (.int .i64 0) := Y2.out.cell (o := 0) rfl
  have y_1 : w1.cell? ⟨w.heap.size + 1, 1, none⟩ = some (.int .i64 0) := Y2.out.cell (o := 1) rfl
  have y_2 : w1.cell? ⟨w.heap.size + 1, 2, none⟩ = some (.int .i64 0) := Y2.out.cell (o := 2) rfl
  have y_3 : w1.cell? ⟨w.heap.size + 1, 3, none⟩ = some (.slice none 0 0) := Y2.out.cell (o := 3) rfl
  have yf0 := Y2.out.free 0
  have yf1 := Y2.out.free 1
  have yf2 := Y2.out.free 2
  have yf3 := Y2.out.free 3
  have FIN : Hid (∀ w', Chg (fun k => k = w.heap.size ∨ k = w.heap.size + 1) w1 w' → CopyPost src dst due l w (.returned (.agg #[.int .i64 src, .int .i64 dst, .int .i64 due, .slice ba l.length bc])) w') := Lib.hid (fun w' g => by
    refine ⟨.slice ba l.length bc, rfl, ownsRow_base2 (ownsRow_chg O1.out g (fun k e h => ?_)) (by omega), g.below_trans B1.out B1.out.size (fun i hi e => by omega)⟩
    obtain ⟨h1, _⟩ := own_typ O1.out e
    omega)
  go_wp2
  exact bodyPost_ret (v := .agg #[.int .i64 src, .int .i64 dst, .int .i64 due, .slice ba l.length bc]) (by simp [results, Try.results84, go_sem, *] <;> rfl) rfl (FIN.out _ (chg5 _ _ _ _ _ _ _ _))
end Go.Proofs.Ythbalmoafpggdaa
