/- A cache of blocks that holds none, or one: Get and Put. -/
import Derived.Test.YtfcddpbpfckjfaaChecked
import Derived.WalkKit
import Derived.Outline
import Derived.WalkSpells
import Derived.WalkLawsBesides
import Derived.Deep.QuietTactic
import Derived.Deep.RegionWith
import Derived.Deep.DeepMust
import Derived.BigQuiet
import Derived.Test.YtfcddpbpfckjfaaMem
import Derived.RegionTactic
import Derived.ChangeAlike
import Derived.StillTailTactics
import Derived.BigRegion
import Derived.Maps.RangeWalk
import Derived.Test.YtfcddpbpfckjfaaBc
namespace Go.Proofs.Ytfcddpbpfckjfaa
open Go.RowKit
open Go.Maps
set_option linter.unusedVariables false
set_option linter.unusedSimpArgs false
def NoB (w : World) (k : Nat) : Prop := ∀ (i : Nat) (n : Int), w.cell? ⟨k, i, none⟩ ≠ some (.int .u8 n)
theorem Plain.noB {w : World} {k : Nat} (h : Plain w k) : NoB w k := by
  obtain ⟨cs, T, hb, hn⟩ := h
  intro i n e
  unfold Blk at hb
  simp only [World.cell?, hb] at e
  exact hn i n e
theorem map_noB {w : World} {k c : Nat} {es : Array MapEntry} (h : w.heap[k]? = some (.map es c)) : NoB w k := by
  intro i n e
  simp [World.cell?, h] at e
theorem Rdv.stayN {S : Nat → Prop} {w w' : World} {v : Value} {l : List Int} (h : Rdv u8v w v l) (hc : Chg S w w') (hs : ∀ k, S k → NoB w k) : Rdv u8v w' v l := by
  by_cases hl : l = []
  · subst hl
    obtain ⟨a, c, e, h1, h2, _⟩ := h
    exact ⟨a, c, e, h1, h2, .inl rfl⟩
  · have h0 := h
    refine h.chg hc fun b o n c e hb => ?_
    obtain ⟨a, c', e', _, _, h3⟩ := h0
    rcases h3 with h3 | ⟨b', o', e2, h3⟩
    · exact hl h3
    · rw [e'] at e
      rw [Value.slice.injEq] at e
      obtain ⟨e, _, _⟩ := e
      rw [e2] at e
      injection e with e
      injection e with e1 e2
      subst e1
      exact hs _ hb _ _ (h3 0 (List.length_pos_iff.2 hl))
def Get1Post (vb cb mb hb k : Nat) (l : List Int) (d : Bool) (t hits miss : Int) (w : World) (e : Ending) (w' : World) : Prop :=
  ∃ v, e = .returned (.tuple #[v, .int .i64 0]) ∧ w'.ownsRow w.heap.size 5 1 v l.length (l.map u8v) ∧ CchS w' vb cb mb (some (k, hb)) (t + 1) (hits + 1) miss ∧ HeldAt w' hb k l (t + 1) d ∧ Chg (cS3 cb hb) w w'
set_option maxRecDepth 100000 in
theorem bcGet1 {w : World} {vb b g cb mb hb k kept c : Nat} {ch : Bool} {ls : List (List Int)} {t hits miss used : Int} {l : List Int} {d : Bool} (h : CchS w vb cb mb (some (k, hb)) t hits miss) (hh : HeldAt w hb k l used d) (hV : VolAt w vb b g ls kept c ch)
    (hl : ls.length ≤ 65536) (hk : k < ls.length) (h5 : ls[k].length ≤ 1000000000000) (h6 : l.length ≤ 1000000000000) (ht : 0 ≤ t ∧ t ≤ 1000) (hhi : 0 ≤ hits ∧ hits ≤ 1000) :
    Calls Try.prog 92 #[.pointer (some ⟨cb, 0, none⟩), .int .i64 k] w (Get1Post vb cb mb hb k l d t hits miss w) := by
  have hp1 := h.plainC
  have hp2 := hh.plain
  obtain ⟨bv, h1, h2⟩ := hh
  obtain ⟨a, n, cc, rfl⟩ := h2.shape
  have KG := Lib.hid (bcGot1 h h1 hV hl hk h5 ht hhi)
  have R := Lib.hid h2
  clear h h1 h2
  go_enter Try.func92, Try.ntmps92
  go_wp2_with fail
  refine KG.out.mono ?_
  rintro e w2 ⟨rfl, hC2, hH2, hg2⟩
  have hr2 := R.out.stay hg2 (fun i hi => by rcases hi with rfl | rfl; exact hp1; exact hp2)
  have KC := Lib.hid (cloneC _ _ w2 hr2 h6)
  have C2 := Lib.hid hC2
  have H2 := Lib.hid hH2
  have G2 := Lib.hid hg2
  have HR := Lib.hid hr2
  have c1 : w2.cell? ⟨hb, 1, none⟩ = some (.slice a n cc) := hH2.cell (o := 1) rfl
  have hz := hg2.size
  clear hC2 hH2 hg2 hr2 KG R
  go_wp2_with fail
  refine KC.out.mono ?_
  rintro e w3 ⟨v, rfl, ho, hb3⟩
  obtain ⟨oa, oc, rfl, _, _, _⟩ := own_shape ho
  have HO := Lib.hid ho
  have HB := Lib.hid hb3
  clear ho hb3
  go_wp2
  go_ret2
  exact ⟨_, rfl, own_mono HO.out hz, C2.out.below HB.out, ⟨_, blkBelow HB.out H2.out H2.out.lt, HR.out.below HB.out⟩, G2.out.trans (Chg.of_below HB.out (fun i h1 h2 => absurd h1 (Nat.not_lt.2 h2)))⟩
theorem putW {w2 w3 : World} {vb cb mb k hb kept c g b : Nat} {t hits miss used : Int} {bv : Value} {d : Bool} {l : List Int} {va : Option Addr} {vc : Nat} (h2 : CchS w2 vb cb mb (some (k, hb)) t hits miss) (hh : Blk w2 hb #[.int .i64 k, bv, .int .i64 used, .int .i64 0, .bool d] 167) (hs : Slc bv) (hr : Rdv u8v w3 (.slice va l.length vc) l) (hb3 : Below w2.heap.size w2 w3) :
    CchS ((w3.setCell ⟨hb, 1, none⟩ (.slice va l.length vc)).setCell ⟨hb, 4, none⟩ (.bool true)) vb cb mb (some (k, hb)) t hits miss ∧ HeldAt ((w3.setCell ⟨hb, 1, none⟩ (.slice va l.length vc)).setCell ⟨hb, 4, none⟩ (.bool true)) hb k l used true ∧ Chg (· = hb) w2 ((w3.setCell ⟨hb, 1, none⟩ (.slice va l.length vc)).setCell ⟨hb, 4, none⟩ (.bool true)) := by
  obtain ⟨n1, n2⟩ := held_ne h2 hh
  have h3 := h2.below hb3
  have hh3 := blkBelow hb3 hh hh.lt
  have hC : Chg (· = hb) w3 ((w3.setCell ⟨hb, 1, none⟩ (.slice va l.length vc)).setCell ⟨hb, 4, none⟩ (.bool true)) := Chg.set (S := (· = hb)) (Chg.set (S := (· = hb)) (Chg.refl _ _) (p := ⟨hb, 1, none⟩) (fun _ => rfl) _) (p := ⟨hb, 4, none⟩) (fun _ => rfl) _
  have hp : HeldAt w3 hb k [] used d → True := fun _ => trivial
  have hpl : Plain w3 hb := ⟨_, _, hh3, fun i n e => by
    obtain ⟨a, m, c, rfl⟩ := hs
    rcases i with _ | _ | _ | _ | _ | i <;> simp at e⟩
  refine ⟨h3.stay hC (fun e => n1 e.symm) (fun e => n2 e.symm), ⟨_, (hh3.set 1 _).set 4 _, hr.stay hC (fun i hi => hi ▸ hpl)⟩, ?_⟩
  exact (Chg.of_below hb3 (fun i h1 h2 => absurd h1 (Nat.not_lt.2 h2))).trans hC
def Put0Post (vb cb mb k : Nat) (l : List Int) (t hits miss : Int) (w : World) (e : Ending) (w' : World) : Prop :=
  ∃ hb : Nat, e = .returned (.int .i64 0) ∧ w.heap.size ≤ hb ∧ CchS w' vb cb mb (some (k, hb)) (t + 1) hits miss ∧ HeldAt w' hb k l (t + 1) true ∧ Chg (cS cb mb) w w'
set_option maxHeartbeats 1000000 in
set_option maxRecDepth 100000 in
theorem bcPut0 {w : World} {vb b g cb mb k kept c : Nat} {ch : Bool} {ls : List (List Int)} {t hits miss : Int} {l : List Int} {x : Value} (h : CchS w vb cb mb none t hits miss) (hV : VolAt w vb b g ls kept c ch) (hx : Rdv u8v w x l) (hxl : l.length = 512)
    (hl : ls.length ≤ 65536) (hk : k < ls.length) (ht : 0 ≤ t ∧ t ≤ 1000) :
    Calls Try.prog 74 #[.pointer (some ⟨cb, 0, none⟩), .int .i64 k, x] w (Put0Post vb cb mb k l t hits miss w) := by
  have c0 : w.cell? ⟨cb, 0, none⟩ = some (.pointer (some ⟨vb, 0, none⟩)) := Blk.cell h.1 (o := 0) rfl
  have hp := h.plainC
  have hpm : NoB w mb := by
    obtain ⟨es, clock, he, _⟩ := h.2
    exact map_noB he
  obtain ⟨xa, xn, xc, rfl⟩ := hx.shape
  obtain rfl : xn = 512 := by have := hx.cap.1; omega
  have HXL := Lib.hid hxl
  have KB := Lib.hid (walBlocksN hV hl)
  have KU := Lib.hid (bcUse0 h k (by omega) (.slice none 0 0) ht none 0 0 rfl)
  have HX := Lib.hid hx
  have k1 : (0 : Int) ≤ k := by omega
  have k2 : (k : Int) < ls.length := by omega
  clear h hx hxl
  go_enter Try.func74, Try.ntmps74
  go_wp2_with fail
  refine KB.out.mono ?_
  rintro e w1 ⟨rfl, rfl⟩
  have hn0 : decide ((k : Int) < 0) = false := decide_eq_false (by omega)
  (try rw [hn0])
  go_wp2_with fail
  refine KU.out.mono ?_
  rintro e w2 ⟨hb, rfl, hbs, hC2, hH2, hg2⟩
  have hz := hg2.size
  have hr2 := HX.out.stayN hg2 (fun i hi => by rcases hi with rfl | rfl; exact hp.noB; exact hpm)
  have KC := Lib.hid (cloneC _ _ w2 hr2 (by rw [HXL.out]; omega))
  have C2 := Lib.hid hC2
  have H2 := Lib.hid hH2
  have G2 := Lib.hid hg2
  clear hC2 hH2 hg2 hr2 KU HX
  go_wp2_with fail
  refine KC.out.mono ?_
  rintro e w3 ⟨v, rfl, ho, hb3⟩
  obtain ⟨oa, oc, rfl, _, _, _⟩ := own_shape ho
  have P := Lib.hid (putW (kept := 0) (c := 0) (g := 0) (b := 0) C2.out H2.out ⟨_, _, _, rfl⟩ (Rdv.of_owns ho) hb3)
  have hB := hb3
  have hh3 := blkBelow hb3 H2.out H2.out.lt
  have f1 := hh3.free 1
  have f4 := hh3.free 4
  have hlt3 := hh3.lt
  have d1 := hh3.cell (o := 1) rfl
  have d4 := hh3.cell (o := 4) rfl
  clear ho hb3 hh3
  go_wp2
  go_ret
  exact ⟨hb, rfl, hbs, P.out.1, P.out.2.1, G2.out.trans' P.out.2.2 (fun i h1 h2 => by omega)⟩
def Put1Post (vb cb mb hb k : Nat) (l : List Int) (t hits miss : Int) (w : World) (e : Ending) (w' : World) : Prop :=
  e = .returned (.int .i64 0) ∧ CchS w' vb cb mb (some (k, hb)) (t + 1) hits miss ∧ HeldAt w' hb k l (t + 1) true ∧ Chg (cS3 cb hb) w w'
set_option maxHeartbeats 1000000 in
set_option maxRecDepth 100000 in
theorem bcPut1 {w : World} {vb b g cb mb hb k kept c : Nat} {ch d : Bool} {ls : List (List Int)} {t hits miss used : Int} {l : List Int} {x : Value} {ba : Option Addr} {bn bc : Nat} (h : CchS w vb cb mb (some (k, hb)) t hits miss) (h1 : Blk w hb #[.int .i64 k, .slice ba bn bc, .int .i64 used, .int .i64 0, .bool d] 167) (hV : VolAt w vb b g ls kept c ch) (hx : Rdv u8v w x l) (hxl : l.length = 512)
    (hl : ls.length ≤ 65536) (hk : k < ls.length) (ht : 0 ≤ t ∧ t ≤ 1000) :
    Calls Try.prog 74 #[.pointer (some ⟨cb, 0, none⟩), .int .i64 k, x] w (Put1Post vb cb mb hb k l t hits miss w) := by
  have c0 : w.cell? ⟨cb, 0, none⟩ = some (.pointer (some ⟨vb, 0, none⟩)) := Blk.cell h.1 (o := 0) rfl
  have hp := h.plainC
  have hp2 : Plain w hb := ⟨_, _, h1, fun i n e => by
    rcases i with _ | _ | _ | _ | _ | i <;> simp at e⟩
  obtain ⟨xa, xn, xc, rfl⟩ := hx.shape
  obtain rfl : xn = 512 := by have := hx.cap.1; omega
  have HXL := Lib.hid hxl
  have KB := Lib.hid (walBlocksN hV hl)
  have KU := Lib.hid (bcUse1 (b := .slice none 0 0) h h1 (by omega) ht)
  have HX := Lib.hid hx
  have k1 : (0 : Int) ≤ k := by omega
  have k2 : (k : Int) < ls.length := by omega
  clear h hx hxl h1
  go_enter Try.func74, Try.ntmps74
  go_wp2_with fail
  refine KB.out.mono ?_
  rintro e w1 ⟨rfl, rfl⟩
  have hn0 : decide ((k : Int) < 0) = false := decide_eq_false (by omega)
  (try rw [hn0])
  go_wp2_with fail
  refine KU.out.mono ?_
  rintro e w2 ⟨rfl, hC2, hH2, hg2⟩
  have hz := hg2.size
  have hr2 := HX.out.stayN hg2 (fun i hi => by rcases hi with rfl | rfl; exact hp.noB; exact hp2.noB)
  have KC := Lib.hid (cloneC _ _ w2 hr2 (by rw [HXL.out]; omega))
  have C2 := Lib.hid hC2
  have H2 := Lib.hid hH2
  have G2 := Lib.hid hg2
  clear hC2 hH2 hg2 hr2 KU HX
  go_wp2_with fail
  refine KC.out.mono ?_
  rintro e w3 ⟨v, rfl, ho, hb3⟩
  obtain ⟨oa, oc, rfl, _, _, _⟩ := own_shape ho
  have P := Lib.hid (putW (kept := 0) (c := 0) (g := 0) (b := 0) C2.out H2.out ⟨_, _, _, rfl⟩ (Rdv.of_owns ho) hb3)
  have hB := hb3
  have hh3 := blkBelow hb3 H2.out H2.out.lt
  have f1 := hh3.free 1
  have f4 := hh3.free 4
  have hlt3 := hh3.lt
  have d1 := hh3.cell (o := 1) rfl
  have d4 := hh3.cell (o := 4) rfl
  clear ho hb3 hh3
  go_wp2
  go_ret
  exact ⟨rfl, P.out.1, P.out.2.1, G2.out.trans (P.out.2.2.mono fun i _ e => .inr e)⟩
end Go.Proofs.Ytfcddpbpfckjfaa
