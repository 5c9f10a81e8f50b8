/- A slice of slices of bytes that came in, in the words of the walks. -/
import Derived.Test.YtgpfkdlnmifiiaaFr
import Derived.Test.YtgpfkdlnmifiiaaCrc
import Derived.Deep.Matrix
import Derived.OpenShut
namespace Go.Proofs.Ytgpfkdlnmifiiaa
open Go.RowKit Go.Deep
set_option linter.unusedVariables false
set_option linter.unusedSimpArgs false
theorem rdbs_of_trod {H : Type} {enc : TypeId × Value → H} {P : Program} {w : World} {base : Nat} {held : Bool} {t e q : TypeId} {fuel : Nat} {a : Option Addr} {len cap : Nat} {x : DataW H × List MemPlace} (ht : P.underlying t = some (.slice e)) (he : P.underlying e = some (.slice q)) (hq : P.underlying q = some (.int .u8))
    (ce : P.cellsOf e = 1) (cq : P.cellsOf q = 1) (h : DataW.trod enc P w base (fun _ => true) held fuel t [.slice a len cap] = some x) :
    ∃ yss : List (List Int), RdBs w (.slice a len cap) yss ∧ AllB yss := by
  rcases open_int_rows ht he hq ce cq h with ⟨hcs, _⟩ | ⟨ad, len', cap', A, L, C, Z, hcs, _, hl, hm, _, hr⟩
  · injection hcs with hcs _
    rw [hcs]
    exact ⟨[], ⟨none, 0, rfl, Nat.le_refl _, Nat.zero_le _, .inl rfl⟩, fun l hl => by cases hl⟩
  · injection hcs with hcs _
    rw [Value.slice.injEq] at hcs
    obtain ⟨rfl, rfl, rfl⟩ := hcs
    have hlen : ((List.range len).map fun r => (Z r).take (L r)).length = len := by simp
    refine ⟨(List.range len).map fun r => (Z r).take (L r), ⟨some ad, cap, by rw [hlen], by omega, hm, ?_⟩, ?_⟩
    · by_cases h0 : len = 0
      · subst h0; exact .inl rfl
      · obtain ⟨c0, _⟩ := hr 0 (by omega)
        have hx := addr_plain c0
        have hx' : ad = ⟨ad.block, ad.off, none⟩ := by
          have e0 : ad.add 0 = ad := by unfold Addr.add; simp
          rw [e0] at hx; exact hx
        refine .inr ⟨ad.block, ad.off, by rw [hx'], fun j hj => ?_⟩
        rw [hlen] at hj
        obtain ⟨cj, lj, mj, zj, _, nj, aj⟩ := hr j (by omega)
        rw [hx', addr_add] at cj
        refine ⟨_, cj, ?_⟩
        have hz : ((List.range len).map fun r => (Z r).take (L r)).getD j [] = (Z j).take (L j) := by simp [List.getD_eq_getElem?_getD, hj]
        rw [hz]
        have hrow : IsRow .u8 w (A j) (L j) (C j) (Z j) := by
          cases hA : A j with
          | none =>
            have h1 := nj hA
            have h2 : Z j = [] := List.length_eq_zero_iff.1 (by omega)
            exact .inl ⟨rfl, by omega, h1, h2⟩
          | some a' =>
            exact .inr ⟨a', rfl, lj, mj, zj, fun i hi => (aj a' hA).2 i (by omega), (hr j (by omega)).2.2.2.2.1⟩
        exact hrow.rdv
    · intro l hl2 n hn
      obtain ⟨r, hr2, rfl⟩ := List.mem_map.1 hl2
      have hr3 := List.mem_range.1 hr2
      have := (hr r (by omega)).2.2.2.2.1 n (List.mem_of_mem_take hn)
      have := bounds_u8 this
      omega
end Go.Proofs.Ytgpfkdlnmifiiaa
