/- A directory of names: container/heap's Push and Pop over names; what is popped comes in order. -/
import Derived.Test.YtfcddpbpfckjfaaChecked
import Derived.WalkKit
import Derived.Outline
import Derived.WalkSpells
import Derived.WalkLawsBesides
import Derived.Deep.QuietTactic
import Derived.Deep.RegionWith
import Derived.Deep.DeepMust
import Derived.BigQuiet
import Derived.Test.YtfcddpbpfckjfaaMem
import Derived.RegionTactic
import Derived.ChangeAlike
import Derived.StillTailTactics
import Derived.BigRegion
import Derived.Deep.LoopGhost
import Derived.Deep.RegionHeld3
import Derived.Deep.RegionLaw
import Derived.Deep.AppendLies
import Derived.Test.YtfcddpbpfckjfaaDn3
namespace Go.Proofs.Ytfcddpbpfckjfaa
open Go.RowKit
set_option linter.unusedVariables false
set_option linter.unusedSimpArgs false
open Hq
theorem hpushN (B b : Nat) (cv : Value) (xs : Array ByteArray) (s : ByteArray) (w : World) (h : NmG B w b cv xs) (hB : B ≤ w.heap.size) (hh : Hq.IsHeap slt xs xs.size) (hz : xs.size ≤ 100000) :
    Calls Try.prog 52 #[.iface 105 (.pointer (some ⟨b, 0, none⟩)), .iface 9 (.string s)] w (PushPost slt (fun w' ys => ∃ cv', NmG B w' b cv' ys) (NmS b cv) (xs.push s) w) :=
  nsPush slt_ord xs s _ w hh (by omega) ⟨_, nmth_push _ _, (nmPush B b cv xs s w h hB hz).mono fun e w' ⟨he, g, c, h1, h2, h3⟩ =>
    ⟨he, NmR B b g c, (· = g), nsIs B b g c, h1, h2, fun i hi e => by
      subst e
      rcases h3 with h3 | h3
      · exact .inr h3
      · omega, fun w2 ys _ h4 => ⟨_, h4⟩⟩⟩
theorem hpopN (B b g c : Nat) (xs : Array ByteArray) (w : World) (h : NmG B w b (.slice (some ⟨g, 0, none⟩) xs.size c) xs) (hh : Hq.IsHeap slt xs xs.size) (h0 : 0 < xs.size) (hz : xs.size ≤ 100000) :
    Calls Try.prog 50 #[.iface 105 (.pointer (some ⟨b, 0, none⟩))] w (PopPost slt StrV (NmR B b g c) (NmS b (.slice (some ⟨g, 0, none⟩) xs.size c)) xs w) := by
  have H := nsIs B b g c
  have H2 : nsHp slt (.pointer (some ⟨b, 0, none⟩)) (NmR B b g c) (NmS b (.slice (some ⟨g, 0, none⟩) xs.size c)) :=
    ⟨H.drw, H.mless, H.mlen, fun w xs' hR => by
      obtain ⟨r, h1, h2⟩ := H.mswap w xs' hR
      exact ⟨r, h1, fun i j hi hj => (h2 i j hi hj).mono fun e w' ⟨k1, k2, k3⟩ => ⟨k1, k2, k3.mono fun i _ e => .inr (by rw [e]; rfl)⟩⟩⟩
  obtain ⟨n, hn⟩ : ∃ n, n + 1 = xs.size := ⟨xs.size - 1, by omega⟩
  refine nsPop H2 slt_ord xs n w h hn (by omega) hh fun w ys hR hs => ⟨_, nmth_pop _ _, ?_⟩
  have hs' : ys.size = xs.size := by omega
  have := nmPop B b g c ys n w hR (by omega)
  rw [hs'] at this
  exact this
/-- Some that are popped: none of those that stay comes before them. -/
structure PopS (all : List ByteArray) (out : List ByteArray) (xs : Array ByteArray) : Prop where
  perm : (out ++ xs.toList).Perm all
  sort : out.Pairwise fun a b => slt b a = false
  low : ∀ a ∈ out, ∀ b ∈ xs.toList, slt b a = false
theorem heap_low {xs : Array ByteArray} (hh : Hq.IsHeap slt xs xs.size) (h0 : 0 < xs.size) : ∀ b ∈ xs.toList, slt b xs[0]! = false := by
  intro b hb
  obtain ⟨i, hi, rfl⟩ := List.getElem_of_mem hb
  have hi' : i < xs.size := by simpa using hi
  have := root slt_ord hh i hi'
  simpa [hi'] using this
theorem PopS.step {all out : List ByteArray} {xs ys : Array ByteArray} (h : PopS all out xs) (hh : Hq.IsHeap slt xs xs.size) (h0 : 0 < xs.size) (hp : (xs[0]! :: ys.toList).Perm xs.toList) : PopS all (out ++ [xs[0]!]) ys := by
  have hx0 : xs[0]! ∈ xs.toList := hp.mem_iff.1 List.mem_cons_self
  refine ⟨?_, ?_, ?_⟩
  · rw [List.append_assoc]
    exact ((List.Perm.refl out).append hp).trans h.perm
  · rw [List.pairwise_append]
    refine ⟨h.sort, List.pairwise_singleton _ _, fun a ha b hb => ?_⟩
    simp only [List.mem_singleton] at hb
    subst hb
    exact h.low a ha _ hx0
  · intro a ha b hb
    have hb' : b ∈ xs.toList := hp.mem_iff.1 (List.mem_cons_of_mem _ hb)
    rcases List.mem_append.1 ha with ha | ha
    · exact h.low a ha b hb'
    · simp only [List.mem_singleton] at ha
      subst ha
      exact heap_low hh h0 b hb'
end Go.Proofs.Ytfcddpbpfckjfaa
