/- Contracts of package device: Read, Write. -/
import Derived.Test.YtfcddpbpfckjfaaChecked
import Derived.WalkKit
import Derived.Outline
import Derived.WalkSpells
import Derived.WalkLawsBesides
import Derived.Deep.QuietTactic
import Derived.Deep.RegionWith
import Derived.Deep.DeepMust
import Derived.BigQuiet
import Derived.Test.YtfcddpbpfckjfaaMem
import Derived.RegionTactic
import Derived.ChangeAlike
import Derived.StillTailTactics
import Derived.BigRegion
import Derived.Deep.RegionHeld
import Derived.Deep.RegionWith
import Derived.Test.YtfcddpbpfckjfaaDev
namespace Go.Proofs.Ytfcddpbpfckjfaa
open Go.RowKit
set_option linter.unusedVariables false
set_option linter.unusedSimpArgs false
/-- What a block's value holds: 512 bytes; nil: zeros. -/
def Cont (w : World) (v : Value) (l : List Int) : Prop := l.length = 512 ∧ ((v = .slice none 0 0 ∧ l = List.replicate 512 0) ∨ ∃ g c, v = .slice (some ⟨g, 0, none⟩) 512 c ∧ Rdv u8v w v l)
theorem Cont.below {w w' : World} {v : Value} {l : List Int} (h : Cont w v l) (hb : Below w.heap.size w w') : Cont w' v l := by
  refine ⟨h.1, ?_⟩
  rcases h.2 with h | ⟨g, c, h, hr⟩
  · exact .inl h
  · exact .inr ⟨g, c, h, hr.below hb⟩
theorem Cont.chg {w w' : World} {v : Value} {l : List Int} (h : Cont w v l) (hb : ∀ g c, v = .slice (some ⟨g, 0, none⟩) 512 c → ∀ i, w'.cell? ⟨g, i, none⟩ = w.cell? ⟨g, i, none⟩) : Cont w' v l := by
  refine ⟨h.1, ?_⟩
  rcases h.2 with h | ⟨g, c, h, hr⟩
  · exact .inl h
  · refine .inr ⟨g, c, h, ?_⟩
    subst h
    obtain ⟨a', c', e, h1, h2, h3⟩ := hr
    refine ⟨a', c', e, h1, h2, ?_⟩
    rcases h3 with h3 | ⟨b, o, rfl, h3⟩
    · exact .inl h3
    · rw [Value.slice.injEq] at e
      obtain ⟨e, _, rfl⟩ := e
      injection e with e
      injection e with e1 e2
      subst e1; subst e2
      refine .inr ⟨_, _, rfl, fun i hi => ?_⟩
      rw [hb _ _ rfl]; exact h3 i hi
/-- A fresh row of bytes. -/
def FreshPost (l : List Int) (w : World) (v : Value) (w' : World) : Prop := (∃ g c, v = .slice (some ⟨g, 0, none⟩) l.length c ∧ w.heap.size ≤ g) ∧ w'.ownsRow w.heap.size 5 1 v l.length (l.map u8v) ∧ Below w.heap.size w w'
def ReadPost (l : List Int) (w : World) (e : Ending) (w' : World) : Prop := ∃ v, e = .returned (.tuple #[v, .int .i64 0]) ∧ FreshPost l w v w'
theorem own_addr {w : World} {B : Nat} {v : Value} {l : List Int} (h : w.ownsRow B 5 1 v l.length (l.map u8v)) (hl : 0 < l.length) : ∃ g c, v = .slice (some ⟨g, 0, none⟩) l.length c ∧ B ≤ g := by
  rcases h.2 with ⟨_, h0⟩ | ⟨g, c, cur, rfl, hB, _⟩
  · omega
  · exact ⟨g, c, rfl, hB⟩
set_option maxHeartbeats 1000000 in
set_option maxRecDepth 100000 in
theorem devRead_ok (b u : Nat) (ds : List DBlk) (fu : Bool) (le : Int) (de : Bool) (co : Int) (i : Nat) (d : DBlk) (l : List Int) (w : World) (h : DevAt w b u ds fu le de co) (hi : i < ds.length) (hd : ds[i]? = some d) (hc : Cont w d.1 l) :
    Calls Try.prog 124 #[.pointer (some ⟨b, 0, none⟩), .int .i64 i] w (ReadPost l w) := by
  obtain ⟨i0, hinf, hz0, hz1, hz2⟩ := info_parts Try.info5
  have KB := Lib.hid (devBlocks b u ds fu le de co w h)
  have c0 : w.cell? ⟨b, 0, none⟩ = some (.slice (some ⟨u, 0, none⟩) ds.length ds.length) := h.1.cell (o := 0) rfl
  have c1 := h.1.cell (o := 1) rfl
  have c2 := h.1.cell (o := 2) rfl
  have c3 := h.1.cell (o := 3) rfl
  have c4 := h.1.cell (o := 4) rfl
  have hz := h.1.lt
  have hzu := h.2.1.lt
  have hl := h.2.2.1
  have hrow := h.2.1.cell (o := i * 3) (v := d.1) (by have := (drow_get ds i d hd).1; simpa using this)
  have hl512 := hc.1
  have h3 : Hid (i * 3 < 3 * ds.length) := Lib.hid (by omega)
  obtain ⟨d1, d2, d3⟩ := d
  simp only at hrow hc
  clear h hd
  rcases hc.2 with ⟨rfl, rfl⟩ | ⟨g, c, rfl, hr⟩
  · have hq := fun w' => Lib.run_eql_slice_nil (P := Try.prog) w' 48 5 none 0 0 0 0 Try.underlying48
    clear hc hl512
    go_enter Try.func124, Try.ntmps124
    go_wp2_with (first | (go_at_call 123; refine KB.out.mono ?_; rintro e w' ⟨rfl, rfl⟩) | (at_make; refine wpList_make_full _ rfl _ _ 48 rfl w.heap.size 5 i0 (.int .u8 0) 1 Try.underlying48 hinf hz0 hz1 .i64 .i64 512 512 512 rfl rfl rfl rfl ?c1 ?c2 (Nat.le_refl _) ?_))
    case c1 => rw [hz2]; omega
    case c2 => unfold maxLen; omega
    intro w1 o1 g1
    have b1 : Below w.heap.size w w1 := (Below.refl _ w).grown g1 (Nat.le_refl _) (fun k hk => by cases hk)
    rw [toList_madeCells_one] at o1
    have O1 := Lib.hid o1
    clear o1 g1
    go_wp2
    go_ret2
    refine ⟨_, rfl, ⟨w.heap.size, 512, by simp, Nat.le_refl _⟩, ?_, b1⟩
    have := O1.out
    simpa using this
  · have hq := fun w' => Lib.run_eql_slice_nil (P := Try.prog) w' 48 5 (some ⟨g, 0, none⟩) 512 c 0 0 Try.underlying48
    have KC := Lib.hid (cloneC _ l w hr (by omega))
    have HL := Lib.hid hl512
    clear hr hc hl512
    go_enter Try.func124, Try.ntmps124
    go_wp2_with (first | (go_at_call 123; refine KB.out.mono ?_; rintro e w' ⟨rfl, rfl⟩) | (go_at_call 68; refine KC.out.mono ?_; rintro e w1 ⟨v1, rfl, ho, hb⟩))
    go_ret2
    exact ⟨_, rfl, own_addr ho (by have := HL.out; omega), ho, hb⟩
theorem DevAt.upd {w : World} {b u : Nat} {ds : List DBlk} {fu : Bool} {le : Int} {de : Bool} {co : Int} (h : DevAt w b u ds fu le de co) (i : Nat) (d : DBlk) (v : Value) (hi : ds[i]? = some d) : DevAt ((w.setCell ⟨u, i * 3, none⟩ v).setCell ⟨u, i * 3 + 2, none⟩ (.bool true)) b u (ds.set i (v, d.2.1, true)) fu le de co := by
  have hlt : i < ds.length := by
    rcases Nat.lt_or_ge i ds.length with h | h
    · exact h
    · rw [List.getElem?_eq_none h] at hi; cases hi
  refine ⟨?_, ?_, by simpa using h.2.2.1, h.2.2.2⟩
  · have := (h.1.set_ne (a := ⟨u, i * 3, none⟩) (Ne.symm h.2.2.2) v).set_ne (a := ⟨u, i * 3 + 2, none⟩) (Ne.symm h.2.2.2) (.bool true)
    simpa using this
  · have := (h.2.1.set (i * 3) v).set (i * 3 + 2) (.bool true)
    rw [drow_set ds i v d.2.1 true hlt]
    have e : (drow ds).set (i * 3 + 1) d.2.1 = drow ds := by
      have g := (drow_get ds i d hi).2.1
      apply List.ext_getElem?
      intro j
      rw [List.getElem?_set]
      split
      · next e => subst e; rw [g]; split
                  · rfl
                  · next h0 => rw [drow_len] at h0; omega
      · rfl
    rw [List.set_comm _ _ (by omega : i * 3 ≠ i * 3 + 1), e]
    simpa using this
theorem devW_tail {w w1 : World} {b u : Nat} {ds : List DBlk} {fu : Bool} {le : Int} {de : Bool} {co : Int} {i n c g : Nat} {d : DBlk} {l : List Int} (h : DevAt w b u ds fu le de co) (hb : Below w.heap.size w w1) (hi : ds[i]? = some d) (hr : Rdv u8v w1 (.slice (some ⟨g, 0, none⟩) n c) l) (hg : w.heap.size ≤ g) :
    DevAt ((w1.setCell ⟨u, i * 3, none⟩ (.slice (some ⟨g, 0, none⟩) n c)).setCell ⟨u, i * 3 + 2, none⟩ (.bool true)) b u (ds.set i (.slice (some ⟨g, 0, none⟩) n c, d.2.1, true)) fu le de co ∧
    Chg (fun k => k = b ∨ k = u) w ((w1.setCell ⟨u, i * 3, none⟩ (.slice (some ⟨g, 0, none⟩) n c)).setCell ⟨u, i * 3 + 2, none⟩ (.bool true)) ∧
    Rdv u8v ((w1.setCell ⟨u, i * 3, none⟩ (.slice (some ⟨g, 0, none⟩) n c)).setCell ⟨u, i * 3 + 2, none⟩ (.bool true)) (.slice (some ⟨g, 0, none⟩) n c) l ∧ ¬ g = b ∧ w.heap.size ≤ g := by
  have hz := h.1.lt
  have hzu := h.2.1.lt
  refine ⟨(h.of_below hb).upd i d _ hi, Chg.set (Chg.set (Chg.of_below hb (fun k hk1 hk2 => by omega)) (fun _ => .inr rfl) _) (fun _ => .inr rfl) _, (hr.set _ _ (by show g ≠ u; omega)).set _ _ (by show g ≠ u; omega), by omega, hg⟩
def WritePost (b u : Nat) (ds : List DBlk) (i : Nat) (d : DBlk) (l : List Int) (le : Int) (de : Bool) (co : Int) (w : World) (e : Ending) (w' : World) : Prop :=
  ∃ v g c, e = .returned (.int .i64 0) ∧ v = .slice (some ⟨g, 0, none⟩) 512 c ∧ w.heap.size ≤ g ∧ Rdv u8v w' v l ∧ DevAt w' b u (ds.set i (v, d.2.1, true)) false le de (co + 1) ∧ Chg (fun k => k = b ∨ k = u) w w'
set_option maxHeartbeats 2000000 in
set_option maxRecDepth 100000 in
theorem devWrite_ok (b u : Nat) (ds : List DBlk) (le : Int) (co : Int) (i : Nat) (d : DBlk) (x : Value) (l : List Int) (w : World) (h : DevAt w b u ds false le false co) (hi : i < ds.length) (hd : ds[i]? = some d) (hx : Rdv u8v w x l) (hl512 : l.length = 512) (hco : 0 ≤ co ∧ co < 9000000000000000000) :
    Calls Try.prog 107 #[.pointer (some ⟨b, 0, none⟩), .int .i64 i, x] w (WritePost b u ds i d l le false co w) := by
  have KD := Lib.hid (devDead b u ds false le false co w h)
  have KC := Lib.hid (fun w' (hb : Below w.heap.size w w') => cloneC x l w' (hx.below hb) (by omega))
  have c0 : w.cell? ⟨b, 0, none⟩ = some (.slice (some ⟨u, 0, none⟩) ds.length ds.length) := h.1.cell (o := 0) rfl
  have c1 := h.1.cell (o := 1) rfl
  have c2 := h.1.cell (o := 2) rfl
  have c3 := h.1.cell (o := 3) rfl
  have c4 := h.1.cell (o := 4) rfl
  have hz := h.1.lt
  have hzu := h.2.1.lt
  have hl := h.2.2.1
  obtain ⟨a, m, c, rfl⟩ := hx.shape
  obtain ⟨rfl, x1, x2, x3⟩ := hx.cap
  unfold maxLen at x2
  have H := Lib.hid h
  have HL := Lib.hid hl512
  have hl1 : ((l.length : Int) != 512) = false := by simp; omega
  have r0 := h.2.1.cell (o := i * 3) (v := d.1) (by have := (drow_get ds i d hd).1; simpa using this)
  have r2 := h.2.1.cell (o := i * 3 + 2) (v := .bool d.2.2) (by have := (drow_get ds i d hd).2.2; simpa using this)
  have f0 := h.2.1.free (i * 3)
  have f2 := h.2.1.free (i * 3 + 2)
  have hne := h.2.2.2
  have HD := Lib.hid hd
  clear h hd hx x3 hl512
  go_enter Try.func107, Try.ntmps107
  go_wp2_with (go_at_call 125; refine KD.out.mono ?_; rintro e w' ⟨rfl, rfl⟩)
  go_region_with ((go_at_call 68; (with_reducible refine (KC.out _ ?hB).mono ?_); (case hB => exact (Below.refl _ _).drew); rintro e w1 ⟨v1, rfl, ho1, hb1⟩; obtain ⟨g1, cc1, rfl, hg1⟩ := own_addr ho1 (by rw [HL.out]; omega); have hr1 := Lib.hid (Rdv.of_owns (xs := l) ho1); clear ho1; replace hb1 := undrew hb1; have z1 := hb1.size; obtain ⟨k1, k2⟩ := bcell hb1))
  all_goals
    obtain ⟨D1, C1, R1, hgb, hgs⟩ := devW_tail H.out hb1 HD.out hr1.out (by simpa using hg1)
    clear k1 k2 hr1 hb1 c0 c1 c2 c3 c4 r0 r2 f0 f2 hg1
    generalize ((w1.setCell ⟨u, i * 3, none⟩ (.slice (some ⟨g1, 0, none⟩) l.length cc1)).setCell ⟨u, i * 3 + 2, none⟩ (.bool true)) = w2 at *
    have KE := Lib.hid (devDone b u _ le false co w2 D1 hco)
    clear D1
    go_wp2_with fail
    refine KE.out.mono ?_
    rintro e w3 ⟨rfl, D3, g3⟩
    have G3 := Lib.hid g3
    have D3 := Lib.hid D3
    go_wp2
    go_ret
    exact ⟨_, g1, cc1, rfl, by rw [HL.out], hgs, R1.chgB G3.out hgb, D3.out, C1.trans (G3.out.mono fun k _ hk => .inl hk)⟩
end Go.Proofs.Ytfcddpbpfckjfaa
