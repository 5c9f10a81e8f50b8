/- bytes.Clone; the words for bytes. -/
import Derived.Test.YtfcddpbpfckjfaaChecked
import Derived.WalkKit
import Derived.Outline
import Derived.WalkSpells
import Derived.WalkLawsBesides
import Derived.Deep.QuietTactic
import Derived.Deep.RegionWith
import Derived.Deep.DeepMust
import Derived.BigQuiet
import Derived.Test.YtfcddpbpfckjfaaMem
import Derived.RegionTactic
import Derived.ChangeAlike
import Derived.StillTailTactics
import Derived.Test.YtfcddpbpfckjfaaApp
namespace Go.Proofs.Ytfcddpbpfckjfaa
open Go.RowKit
set_option linter.unusedVariables false
set_option linter.unusedSimpArgs false
abbrev u8v : Int → Value := .int .u8
theorem Try.info5 : (Try.prog.info? 5).map (fun i => (i.zero, i.size, i.bytes)) = some (some (.int .u8 0), 1, 1) := by kernel_rfl
def Byt (l : List Int) : Prop := ∀ q ∈ l, 0 ≤ q ∧ q < 256
theorem Rdv.chg {S : Nat → Prop} {enc : Int → Value} {w w' : World} {v : Value} {xs : List Int} (h : Rdv enc w v xs) (hg : Chg S w w') (hs : ∀ b o n c, v = .slice (some ⟨b, o, none⟩) n c → ¬ S b) : Rdv enc w' v xs := by
  obtain ⟨a, c, rfl, h1, h2, h3⟩ := h
  refine ⟨a, c, rfl, h1, h2, ?_⟩
  rcases h3 with h3 | ⟨b, o, rfl, h3⟩
  · exact .inl h3
  · refine .inr ⟨b, o, rfl, fun i hi => ?_⟩
    have := h3 i hi
    rw [(chgcell hg).1 b (o + i) (World.block_lt_of_cell? w _ this) (hs b o _ _ rfl)]
    exact this
theorem Rdv.set {enc : Int → Value} {w : World} {g o n c : Nat} {xs : List Int} (h : Rdv enc w (.slice (some ⟨g, o, none⟩) n c) xs) (p : Addr) (u : Value) (hne : g ≠ p.block) : Rdv enc (w.setCell p u) (.slice (some ⟨g, o, none⟩) n c) xs :=
  h.chg (S := fun k => k = p.block) (Chg.set (S := fun k => k = p.block) (Chg.refl _ w) (p := p) (fun _ => rfl) u) (fun b0 o0 n0 c0 e => by rw [Value.slice.injEq] at e; obtain ⟨e, _⟩ := e; injection e with e; injection e with e _; subst e; exact hne)
theorem Rdv.chgB {S : Nat → Prop} {enc : Int → Value} {w w' : World} {g o n c : Nat} {xs : List Int} (h : Rdv enc w (.slice (some ⟨g, o, none⟩) n c) xs) (hg : Chg S w w') (hne : ¬ S g) : Rdv enc w' (.slice (some ⟨g, o, none⟩) n c) xs :=
  h.chg hg (fun b0 o0 n0 c0 e => by rw [Value.slice.injEq] at e; obtain ⟨e, _⟩ := e; injection e with e; injection e with e _; subst e; exact hne)
theorem Byt.at_ {l : List Int} (h : Byt l) (i : Nat) (hi : i < l.length) : ∃ x : Nat, l.getD i 0 = x ∧ x < 256 := by
  have hm : l.getD i 0 ∈ l := by rw [List.getD_eq_getElem?_getD, List.getElem?_eq_getElem hi]; exact List.getElem_mem hi
  have := h _ hm
  exact ⟨(l.getD i 0).toNat, by omega, by omega⟩
theorem rdv_mark (w : World) (l : List Int) (T : TypeId) (fr : Nat × Nat) (hl : l.length ≤ maxLen) : Rdv u8v (w.alloc (.cells (l.map u8v).toArray T fr)) (.slice (some ⟨w.heap.size, 0, none⟩) l.length l.length) l :=
  ⟨_, _, rfl, Nat.le_refl _, hl, .inr ⟨w.heap.size, 0, rfl, fun i hi => by rw [Nat.zero_add, World.cell?_alloc_mark]; simp [List.getElem?_eq_getElem hi]⟩⟩
theorem Rdv.at0 {enc : Int → Value} {w : World} {g n c : Nat} {xs : List Int} (h : Rdv enc w (.slice (some ⟨g, 0, none⟩) n c) xs) (i : Nat) (hi : i < xs.length) : w.cell? ⟨g, i, none⟩ = some (enc (xs.getD i 0)) := by
  obtain ⟨a', c', e, h1, h2, h3⟩ := h
  rcases h3 with rfl | ⟨b, o, rfl, h3⟩
  · simp at hi
  · rw [Value.slice.injEq] at e
    obtain ⟨e, _, _⟩ := e
    injection e with e
    injection e with e1 e2
    subst e1; subst e2
    have := h3 i hi
    rwa [Nat.zero_add] at this
theorem Rdv.cell0 {enc : Int → Value} {w : World} {b o n c : Nat} {x : Int} {xs : List Int} (h : Rdv enc w (.slice (some ⟨b, o, none⟩) n c) (x :: xs)) : w.cell? ⟨b, o, none⟩ = some (enc x) := by
  obtain ⟨a', c', e, h1, h2, h3⟩ := h
  rcases h3 with h3 | ⟨b', o', h3, h4⟩
  · cases h3
  · rw [Value.slice.injEq] at e
    obtain ⟨e, _, _⟩ := e
    rw [h3] at e
    injection e with e
    injection e with e1 e2
    subst e1; subst e2
    exact h4 0 (by simp)
theorem rdv_cutF {w : World} {b o pc k : Nat} {p q : List Int} (V : Rdv u8v w (.slice (some ⟨b, o, none⟩) p.length pc) p) (hk : k ≤ p.length) (hq : q = p.drop k) (a : Option Addr) (c : Nat) (h : (a = some ⟨b, o + k, none⟩ ∧ c = pc - k) ∨ (pc = k ∧ c = pc - k)) : Rdv u8v w (.slice a q.length c) q := by
  have hl : q.length = p.length - k := by rw [hq, List.length_drop]
  rcases h with ⟨rfl, rfl⟩ | ⟨h1, h2⟩
  · have := V.drop k hk
    rwa [← hq, ← hl] at this
  · have h3 := V.cap
    have : q = [] := List.eq_nil_of_length_eq_zero (by rw [hl]; omega)
    subst this
    exact Rdv.empty _ _ _ _ (by omega)
def ClonePost (l : List Int) (w : World) (e : Ending) (w' : World) : Prop :=
  ∃ v, e = .returned v ∧ w'.ownsRow w.heap.size 5 1 v l.length (l.map u8v) ∧ Below w.heap.size w w'
set_option maxHeartbeats 1000000 in
set_option maxRecDepth 100000 in
theorem cloneC (v : Value) (l : List Int) (w : World) (h : Rdv u8v w v l) (hl : l.length ≤ 1000000000000) :
    Calls Try.prog 68 #[v] w (ClonePost l w) := by
  obtain ⟨i0, hi, hz0, hz1, hz2⟩ := info_parts Try.info5
  have h0 := h
  obtain ⟨a, n, c, rfl⟩ := h.shape
  obtain ⟨rfl, h1, h2, h3⟩ := h.cap
  unfold maxLen at h2
  have hq := fun w' n => Lib.run_eql_slice_nil (P := Try.prog) w' 48 5 a n c 0 0 Try.underlying48
  rcases a with _ | ad
  · obtain rfl : l = [] := by
      by_cases hn : l = []
      · exact hn
      · obtain ⟨_, _, h⟩ := h3 hn
        cases h
    clear h h0 h3
    go_enter Try.func68, Try.ntmps68
    go_wp2
    go_ret
    exact ⟨_, rfl, World.ownsRow_nil _ _ _ _, Below.refl _ _⟩
  · have ho := World.ownsRow_made (base := w.heap.size) (e := 5) (size := 1) w #[] 0 (Nat.le_refl _) (by unfold maxLen; omega) rfl
    clear h h3
    go_enter Try.func68, Try.ntmps68
    go_wp2_with (at_builtin; refine wpList_append_rd rfl _ _ 48 rfl w.heap.size 5 i0 (.int .u8 0) 1 Try.underlying48 hi hz0 hz1 hz2 rfl _ 0 _ rfl ho (.slice (some ad) l.length c) u8v l rfl (h0.alloc _) (fun _ => rfl) ?c1 ?c2 ?c3 ?_)
    case c1 => unfold maxLen; omega
    case c2 => omega
    case c3 => simp
    intro v4 w4 ho4 hg4 _
    have b4 := ((Below.refl w.heap.size w).alloc (Nat.le_refl _) (.cells #[] 5)).grown hg4 (by simp) (fun q hq => by simp [Value.ownBlock] at hq; omega)
    have HO := Lib.hid ho4
    clear ho4 ho hg4 hq
    go_wp2
    go_ret
    exact ⟨v4, rfl, by simpa using HO.out, b4⟩
end Go.Proofs.Ytfcddpbpfckjfaa
