/- Contracts of package codec: the reader. -/
import Derived.Test.YthbalmoafpggdaaChecked
import Derived.WalkKit
import Derived.Outline
import Derived.WalkSpells
import Derived.WalkLawsBesides
import Derived.Deep.QuietTactic
import Derived.Deep.RegionWith
import Derived.Deep.DeepMust
import Derived.BigQuiet
import Derived.Test.YthbalmoafpggdaaMem
import Derived.RegionTactic
import Derived.ChangeAlike
import Derived.StillTailTactics
import Derived.Deep.LoopGhost
import Derived.Laws.BitsAllLaws
import Derived.Test.YthbalmoafpggdaaCd4
namespace Go.Proofs.Ythbalmoafpggdaa
open Go.RowKit
set_option linter.unusedVariables false
set_option linter.unusedSimpArgs false
/-- A reader at block r, its bytes in block B: what is left; none: it is bad. -/
structure RdT (T : TypeId) (w : World) (r B : Nat) (v : Value) (s : RS) : Prop where
  blk : Blk w r #[v, .bool s.isNone] T
  rdv : Rdv u8v w v (s.getD [])
  inB : v = .slice none 0 0 ∨ ∃ o n c, v = .slice (some ⟨B, o, none⟩) n c
  ne : (∃ o n c, v = .slice (some ⟨B, o, none⟩) n c) → B ≠ r
  byt : Byt (s.getD [])
  len : (s.getD []).length ≤ 100000000000
abbrev Rd := RdT 97
theorem inB_at {v : Value} {B : Nat} (h : v = .slice none 0 0 ∨ ∃ o n c, v = .slice (some ⟨B, o, none⟩) n c) : ∀ b o n c, v = .slice (some ⟨b, o, none⟩) n c → b = B := by
  intro b o n c e
  rcases h with h | ⟨o', n', c', h⟩
  · rw [h, Value.slice.injEq] at e; cases e.1
  · rw [h, Value.slice.injEq] at e
    obtain ⟨e, _⟩ := e
    injection e with e
    injection e with e _
    exact e.symm
theorem RdT.lt {T : TypeId} {w : World} {r B : Nat} {v : Value} {s : RS} (h : RdT T w r B v s) : r < w.heap.size := h.blk.lt
theorem RdT.chg {T : TypeId} {S : Nat → Prop} {w w' : World} {r B : Nat} {v : Value} {s : RS} (h : RdT T w r B v s) (g : Chg S w w') (hr : ¬ S r) (hB : ¬ S B) : RdT T w' r B v s :=
  ⟨g.blk h.blk hr, h.rdv.chg g (fun b o n c e => by rw [inB_at h.inB b o n c e]; exact hB), h.inB, h.ne, h.byt, h.len⟩
theorem RdT.below {T : TypeId} {w w' : World} {r B : Nat} {v : Value} {s : RS} (h : RdT T w r B v s) (g : Below w.heap.size w w') : RdT T w' r B v s :=
  ⟨blkBelow g h.blk h.lt, h.rdv.below g, h.inB, h.ne, h.byt, h.len⟩
/-- Behind a call: what is left, and that its block alone was turned. -/
def RStepT (T : TypeId) (r B : Nat) (w : World) (s' : RS) (w' : World) : Prop := ∃ v', RdT T w' r B v' s' ∧ Chg (· = r) w w'
abbrev RStep := RStepT 97
theorem RStepT.trans {T : TypeId} {r B : Nat} {w w1 w2 : World} {s' : RS} (g : Chg (· = r) w w1) (h : RStepT T r B w1 s' w2) : RStepT T r B w s' w2 := by
  obtain ⟨v', h1, h2⟩ := h
  exact ⟨v', h1, g.trans h2⟩
theorem RdT.put0 {T : TypeId} {w : World} {r B : Nat} {v : Value} {s : RS} (h : RdT T w r B v s) (v' : Value) (l' : List Int) (hs : s.isNone = false) (hr : Rdv u8v w v' l') (hin : v' = .slice none 0 0 ∨ ∃ o n c, v' = .slice (some ⟨B, o, none⟩) n c) (hb : Byt l') (hl : l'.length ≤ 100000000000) (hne : (∃ o n c, v' = .slice (some ⟨B, o, none⟩) n c) → B ≠ r) :
    RdT T (w.setCell ⟨r, 0, none⟩ v') r B v' (some l') := by
  refine ⟨?_, ?_, hin, hne, hb, hl⟩
  · have := h.blk.set 0 v'
    rw [hs] at this
    simpa using this
  · have g : Chg (· = r) w (w.setCell ⟨r, 0, none⟩ v') := Chg.set (S := (· = r)) (Chg.refl _ _) (p := ⟨r, 0, none⟩) (fun _ => rfl) _
    exact hr.chg g (fun b o n c e => by have e1 := inB_at hin b o n c e; subst e1; exact hne ⟨o, n, c, e⟩)
def failS (s : RS) (bad : Bool) : RS := if bad then none else s
def FailPost (r B : Nat) (w : World) (s : RS) (bad : Bool) (e : Ending) (w' : World) : Prop := e = .returned (.bool (s.isNone || bad)) ∧ RStep r B w (failS s bad) w'
theorem RdT.swap {T : TypeId} {w : World} {r B : Nat} {v : Value} {s : RS} (h : RdT T w r B v s) (q : Bool) (hq : s.isNone = q) : RdT T (w.setCell ⟨r, 1, none⟩ (.bool q)) r B v s := by
  refine ⟨?_, ?_, h.inB, h.ne, h.byt, h.len⟩
  · have := h.blk.set 1 (.bool q)
    rw [hq]
    simpa using this
  · exact h.rdv.chg (Chg.set (S := (· = r)) (Chg.refl _ _) (p := ⟨r, 1, none⟩) (fun _ => rfl) (.bool q)) (fun b o n c e => by have e1 := inB_at h.inB b o n c e; subst e1; exact h.ne ⟨o, n, c, e⟩)
theorem RdT.kill {T : TypeId} {w : World} {r B : Nat} {v : Value} {s : RS} (h : RdT T w r B v s) : RdT T ((w.setCell ⟨r, 1, none⟩ (.bool true)).setCell ⟨r, 0, none⟩ (.slice none 0 0)) r B (.slice none 0 0) none := by
  refine ⟨?_, Rdv.nil _ _, .inl rfl, (fun ⟨_, _, _, e⟩ => by rw [Value.slice.injEq] at e; cases e.1), fun q hq => by simp at hq, by simp⟩
  have := (h.blk.set 1 (.bool true)).set 0 (.slice none 0 0)
  simpa using this
set_option maxHeartbeats 1000000 in
theorem rFails (r B : Nat) (v : Value) (s : RS) (bad : Bool) (w : World) (h : Rd w r B v s) : Calls Try.prog 58 #[.pointer (some ⟨r, 0, none⟩), .bool bad] w (FailPost r B w s bad) := by
  have pc0 : w.cell? ⟨r, 0, none⟩ = some v := h.blk.cell (o := 0) rfl
  have pc1 : w.cell? ⟨r, 1, none⟩ = some (.bool s.isNone) := h.blk.cell (o := 1) rfl
  have pf0 := h.blk.free 0
  have pf1 := h.blk.free 1
  have pz := h.lt
  obtain ⟨va, vn, vc, rfl⟩ := h.rdv.shape
  have H := Lib.hid h
  clear h
  have g1 : ∀ q, Chg (· = r) w (w.setCell ⟨r, 1, none⟩ (.bool q)) := fun q => Chg.set (S := (· = r)) (Chg.refl _ _) (p := ⟨r, 1, none⟩) (fun _ => rfl) _
  have G1 := Lib.hid g1
  clear g1
  cases s with
  | none =>
    have H2 : Hid (failS none bad = none) := Lib.hid (by unfold failS; split <;> rfl)
    cases bad
    all_goals
      go_enter Try.func58, Try.ntmps58
      go_wp2
      go_ret
      refine ⟨rfl, ?_⟩
      rw [H2.out]
      exact ⟨_, H.out.kill, (G1.out true).set (fun _ => rfl) _⟩
  | some l =>
    cases bad
    · go_enter Try.func58, Try.ntmps58
      go_wp2
      go_ret
      exact ⟨rfl, _, H.out.swap false rfl, G1.out false⟩
    · go_enter Try.func58, Try.ntmps58
      go_wp2
      go_ret
      exact ⟨rfl, _, H.out.kill, (G1.out true).set (fun _ => rfl) _⟩
theorem rFailsNil (bad : Bool) (w : World) : Calls Try.prog 58 #[.pointer none, .bool bad] w fun e w' => e = .returned (.bool true) ∧ w = w' := by
  go_enter Try.func58, Try.ntmps58
  go_wp2
  go_ret
  exact ⟨rfl, rfl⟩
theorem rLeft (r B : Nat) (v : Value) (s : RS) (w : World) (h : Rd w r B v s) : Calls Try.prog 18 #[.pointer (some ⟨r, 0, none⟩)] w fun e w' => e = .returned (.int .i64 (leftS s).length) ∧ w = w' := by
  have pc0 : w.cell? ⟨r, 0, none⟩ = some v := h.blk.cell (o := 0) rfl
  have pc1 : w.cell? ⟨r, 1, none⟩ = some (.bool s.isNone) := h.blk.cell (o := 1) rfl
  have pf0 := h.blk.free 0
  have pf1 := h.blk.free 1
  have pz := h.lt
  obtain ⟨va, vn, vc, rfl⟩ := h.rdv.shape
  obtain ⟨hn, _, _, _⟩ := h.rdv.cap
  have HN := Lib.hid hn
  clear h hn
  go_enter Try.func18, Try.ntmps18
  go_wp2
  go_ret
  exact ⟨ret_i (by rw [HN.out]; rfl), rfl⟩
def errS (s : RS) : Int := if s.isNone then 74 else 0
theorem rErr (r B : Nat) (v : Value) (s : RS) (w : World) (h : Rd w r B v s) : Calls Try.prog 17 #[.pointer (some ⟨r, 0, none⟩)] w fun e w' => e = .returned (.int .i64 (errS s)) ∧ w = w' := by
  have pc0 : w.cell? ⟨r, 0, none⟩ = some v := h.blk.cell (o := 0) rfl
  have pc1 : w.cell? ⟨r, 1, none⟩ = some (.bool s.isNone) := h.blk.cell (o := 1) rfl
  have pf0 := h.blk.free 0
  have pf1 := h.blk.free 1
  have pz := h.lt
  obtain ⟨va, vn, vc, rfl⟩ := h.rdv.shape
  clear h
  cases s
  all_goals
    go_enter Try.func17, Try.ntmps17
    go_wp2
    go_ret
    exact ⟨rfl, rfl⟩
def doneS (s : RS) : Int := if s = some [] then 0 else 74
theorem rDone (r B : Nat) (v : Value) (s : RS) (w : World) (h : Rd w r B v s) : Calls Try.prog 22 #[.pointer (some ⟨r, 0, none⟩)] w fun e w' => e = .returned (.int .i64 (doneS s)) ∧ w = w' := by
  have KL := Lib.hid (rLeft r B v s w h)
  have KE := Lib.hid (rErr r B v s w h)
  clear h
  rcases s with _ | l
  · go_enter Try.func22, Try.ntmps22
    go_wp2_with (first | (go_at_call 18; refine KL.out.mono ?_; rintro e w1 ⟨rfl, rfl⟩) | (go_at_call 17; refine KE.out.mono ?_; rintro e w1 ⟨rfl, rfl⟩))
    go_ret
    exact ⟨rfl, rfl⟩
  · rcases l with _ | ⟨x, l⟩
    all_goals
      go_enter Try.func22, Try.ntmps22
      go_wp2_with (first | (go_at_call 18; refine KL.out.mono ?_; rintro e w1 ⟨rfl, rfl⟩; unfold leftS; simp only [Option.getD_some, List.length_cons, List.length_nil]) | (go_at_call 17; refine KE.out.mono ?_; rintro e w1 ⟨rfl, rfl⟩))
      go_ret
      exact ⟨rfl, rfl⟩
end Go.Proofs.Ythbalmoafpggdaa
