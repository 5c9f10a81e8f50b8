/- A slice of texts that came in, in the words of the walks. -/
import Derived.Test.YtfcddpbpfckjfaaFr
import Derived.SliceStrings
import Derived.OpenShut
namespace Go.Proofs.Ytfcddpbpfckjfaa
open Go.RowKit Go.ChangeShapes
set_option linter.unusedVariables false
set_option linter.unusedSimpArgs false
/-- A slice that reads as texts. -/
def StrsRd (w : World) (v : Value) (ss : List ByteArray) : Prop :=
  ∃ a c, v = .slice a ss.length c ∧ ss.length ≤ c ∧ c ≤ maxLen ∧ (∀ s ∈ ss, s.size ≤ maxLen) ∧ (ss = [] ∨ ∃ b o, a = some ⟨b, o, none⟩ ∧ ∀ i (h : i < ss.length), w.cell? ⟨b, o + i, none⟩ = some (.string ss[i]))
theorem StrsRd.below {w w' : World} {v : Value} {ss : List ByteArray} (h : StrsRd w v ss) (hb : Below w.heap.size w w') : StrsRd w' v ss := by
  obtain ⟨a, c, h1, h2, h3, h4, h5⟩ := h
  refine ⟨a, c, h1, h2, h3, h4, ?_⟩
  rcases h5 with h5 | ⟨b, o, e, h5⟩
  · exact .inl h5
  · exact .inr ⟨b, o, e, fun i hi => below_cell hb _ _ (h5 i hi)⟩
theorem strs_of_trod {H : Type} {enc : TypeId × Value → H} {P : Program} {w : World} {base : Nat} {held : Bool} {t e : TypeId} {fuel : Nat} {a : Option Addr} {len cap : Nat} {x : DataW H × List MemPlace} (ht : P.underlying t = some (.slice e)) (he : P.underlying e = some .string) (hc : P.cellsOf e = 1)
    (h : DataW.trod enc P w base (fun _ => true) held fuel t [.slice a len cap] = some x) : ∃ ss : List ByteArray, StrsRd w (.slice a len cap) ss := by
  rcases open_strings ht he hc h with ⟨hcs, _⟩ | ⟨ad, len', cap', ss, hcs, _, hl, hm, hz, _, hcell, hws⟩
  · injection hcs with hcs _
    rw [hcs]
    exact ⟨[], none, 0, rfl, Nat.le_refl _, Nat.zero_le _, by simp, .inl rfl⟩
  · injection hcs with hcs _
    rw [Value.slice.injEq] at hcs
    obtain ⟨rfl, rfl, rfl⟩ := hcs
    simp at hz
    have hlen : (ss.take len).length = len := by simp; omega
    refine ⟨ss.take len, some ad, cap, by rw [hlen], by omega, hm, fun s hs => hws s (List.mem_of_mem_take hs), ?_⟩
    by_cases h0 : len = 0
    · subst h0; exact .inl (by simp)
    · have hx := addr_plain (hcell 0 (by omega))
      have hx' : ad = ⟨ad.block, ad.off, none⟩ := by
        have e0 : ad.add 0 = ad := by unfold Addr.add; simp
        rw [e0] at hx; exact hx
      refine .inr ⟨ad.block, ad.off, by rw [hx'], fun i hi => ?_⟩
      rw [hlen] at hi
      have := hcell i (by omega)
      rw [hx', addr_add] at this
      rw [this]
      have hi2 : i < ss.length := by omega
      simp [List.getD_eq_getElem?_getD, hi2]
end Go.Proofs.Ytfcddpbpfckjfaa
