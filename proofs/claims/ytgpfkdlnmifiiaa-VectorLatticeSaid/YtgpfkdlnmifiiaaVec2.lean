/- Contracts of package vector, continued: what is made, compared and added. -/
import Derived.Test.YtgpfkdlnmifiiaaChecked
import Derived.WalkKit
import Derived.Outline
import Derived.WalkSpells
import Derived.WalkLawsBesides
import Derived.Deep.QuietTactic
import Derived.Deep.RegionWith
import Derived.Deep.DeepMust
import Derived.BigQuiet
import Derived.Test.YtgpfkdlnmifiiaaMem
import Derived.RegionTactic
import Derived.ChangeAlike
import Derived.StillTailTactics
import Derived.Deep.LoopGhost
import Derived.Test.YtgpfkdlnmifiiaaVec
namespace Go.Proofs.Ytgpfkdlnmifiiaa
open Go.RowKit
set_option linter.unusedVariables false
set_option linter.unusedSimpArgs false
def MkPost (xs : List Int) (w : World) (e : Ending) (w' : World) : Prop := ∃ v, e = .returned v ∧ Rdv i64v w' v xs ∧ Below w.heap.size w w'
theorem vecNorm (v : Value) (xs : List Int) (w : World) (h : Rdv i64v w v xs) : Calls Try.prog 32 #[v] w (MkPost (nrm fun k => atZ xs k) w) := by
  have HF : ∀ k : Nat, k < 64 → ∀ w1, Below w.heap.size w w1 → Calls Try.prog 87 #[v, .int .i64 k] w1 fun e w2 => e = .returned (.int .i64 (atZ xs k)) ∧ Drw w1 w2 :=
    fun k hk w1 hb => vecNumAt v xs k w1 (h.below hb)
  have HM := made_num (fun k => atZ xs k) v w HF
  have K := Lib.hid HM; clear HM HF
  go_enter Try.func32, Try.ntmps32
  go_wp2_with (go_at_call 83; refine K.out.mono ?_; rintro e w' ⟨v', rfl, hr, hb⟩)
  go_ret
  exact ⟨_, rfl, hr, hb⟩
theorem vecMax (vs : Value) (yss : List (List Int)) (w : World) (h : RdVs w vs yss) : Calls Try.prog 25 #[vs] w (MkPost (nrm fun k => maxZ yss k) w) := by
  obtain ⟨va, vn, vc, rfl⟩ := h.shape
  have HF : ∀ k : Nat, k < 64 → ∀ w1, Below (w.alloc (.cells #[.slice va vn vc] 87)).heap.size (w.alloc (.cells #[.slice va vn vc] 87)) w1 → Calls Try.prog 84 #[.int .i64 k, .pointer (some ⟨w.heap.size, 0, none⟩)] w1 fun e w2 => e = .returned (.int .i64 (maxZ yss k)) ∧ Drw w1 w2 :=
    fun k hk w1 hb => vecMax1 w.heap.size (.slice va vn vc) yss k w1 (h.of_cells (fun a u hc => below_cell hb _ _ (below_cell ((Below.refl _ w).alloc (Nat.le_refl _) _) _ _ hc))) (below_cell hb _ _ ((Blk.new w #[.slice va vn vc] _).cell rfl))
  have HM := made_max (fun k => maxZ yss k) w.heap.size (w.alloc (.cells #[.slice va vn vc] 87)) HF
  have K := Lib.hid HM; clear HM HF
  go_enter Try.func25, Try.ntmps25
  go_wp2_with (go_at_call 83; refine K.out.mono ?_; rintro e w' ⟨v', rfl, hr, hb⟩)
  go_ret
  exact ⟨_, rfl, hr, by (repeat (first | exact Below.refl _ _ | (with_reducible assumption) | apply Below.drew | (refine Below.alloc ?_ (by first | exact Nat.le_refl _ | omega | (simp; done) | (simp; omega)) _) | (refine Below.setCell ?_ (by first | exact Nat.le_refl _ | omega | (simp; done) | (simp; omega)) _) | (refine Below.trans ?_ (Below.mono (by with_reducible assumption) (by first | omega | (simp; done) | (simp; omega))))))⟩
theorem vecMin (u v : Value) (xs ys : List Int) (w : World) (hu : Rdv i64v w u xs) (hv : Rdv i64v w v ys) : Calls Try.prog 27 #[u, v] w (MkPost (nrm fun k => min (atZ xs k) (atZ ys k)) w) := by
  obtain ⟨ua, un, uc, rfl⟩ := hu.shape
  obtain ⟨va, vn, vc, rfl⟩ := hv.shape
  have b0 : Below w.heap.size w ((w.alloc (.cells #[.slice ua un uc] 32)).alloc (.cells #[.slice va vn vc] 32)) := by (repeat (first | exact Below.refl _ _ | (with_reducible assumption) | apply Below.drew | (refine Below.alloc ?_ (by first | exact Nat.le_refl _ | omega | (simp; done) | (simp; omega)) _) | (refine Below.setCell ?_ (by first | exact Nat.le_refl _ | omega | (simp; done) | (simp; omega)) _) | (refine Below.trans ?_ (Below.mono (by with_reducible assumption) (by first | omega | (simp; done) | (simp; omega))))))
  have HF : ∀ k : Nat, k < 64 → ∀ w1, Below ((w.alloc (.cells #[.slice ua un uc] 32)).alloc (.cells #[.slice va vn vc] 32)).heap.size ((w.alloc (.cells #[.slice ua un uc] 32)).alloc (.cells #[.slice va vn vc] 32)) w1 → Calls Try.prog 85 #[.int .i64 k, .pointer (some ⟨w.heap.size, 0, none⟩), .pointer (some ⟨w.heap.size + 1, 0, none⟩)] w1 fun e w2 => e = .returned (.int .i64 (min (atZ xs k) (atZ ys k))) ∧ Drw w1 w2 := by
    intro k hk w1 hb
    refine vecMin1 w.heap.size (w.heap.size + 1) (.slice ua un uc) (.slice va vn vc) xs ys k w1 ((hu.below b0).below hb) ((hv.below b0).below hb) (below_cell hb _ _ (((Blk.new w #[.slice ua un uc] _).alloc _).cell rfl)) (below_cell hb _ _ ?_)
    simp
  have HM := made_min (fun k => min (atZ xs k) (atZ ys k)) w.heap.size (w.heap.size + 1) ((w.alloc (.cells #[.slice ua un uc] 32)).alloc (.cells #[.slice va vn vc] 32)) HF
  have K := Lib.hid HM; clear HM HF b0 hu hv
  go_enter Try.func27, Try.ntmps27
  go_wp2_with (go_at_call 83; refine K.out.mono ?_; rintro e w' ⟨v', rfl, hr, hb⟩)
  go_ret
  exact ⟨_, rfl, hr, by (repeat (first | exact Below.refl _ _ | (with_reducible assumption) | apply Below.drew | (refine Below.alloc ?_ (by first | exact Nat.le_refl _ | omega | (simp; done) | (simp; omega)) _) | (refine Below.setCell ?_ (by first | exact Nat.le_refl _ | omega | (simp; done) | (simp; omega)) _) | (refine Below.trans ?_ (Below.mono (by with_reducible assumption) (by first | omega | (simp; done) | (simp; omega))))))⟩
theorem vecWith (v : Value) (xs : List Int) (node n : Int) (w : World) (h : Rdv i64v w v xs) : Calls Try.prog 34 #[v, .int .i64 node, .int .i64 n] w (MkPost (nrm fun k => if 0 ≤ n ∧ n ≤ 1152921504606846976 ∧ (k : Int) = node then n else atZ xs k) w) := by
  obtain ⟨va, vn, vc, rfl⟩ := h.shape
  have b0 : Below w.heap.size w (((w.alloc (.cells #[.slice va vn vc] 32)).alloc (.cells #[.int .i64 node] 3)).alloc (.cells #[.int .i64 n] 2)) := by (repeat (first | exact Below.refl _ _ | (with_reducible assumption) | apply Below.drew | (refine Below.alloc ?_ (by first | exact Nat.le_refl _ | omega | (simp; done) | (simp; omega)) _) | (refine Below.setCell ?_ (by first | exact Nat.le_refl _ | omega | (simp; done) | (simp; omega)) _) | (refine Below.trans ?_ (Below.mono (by with_reducible assumption) (by first | omega | (simp; done) | (simp; omega))))))
  have hv := h.below b0
  by_cases hc : node < 0 ∨ 64 ≤ node ∨ n < 0 ∨ 1152921504606846976 < n
  · have K := Lib.hid (vecNorm (.slice va vn vc) xs (((w.alloc (.cells #[.slice va vn vc] 32)).alloc (.cells #[.int .i64 node] 3)).alloc (.cells #[.int .i64 n] 2)) hv)
    have E : Hid (nrm (fun k => if 0 ≤ n ∧ n ≤ 1152921504606846976 ∧ (k : Int) = node then n else atZ xs k) = nrm fun k => atZ xs k) := by
      refine nrm_congr (fun k hk => ?_)
      rw [if_neg (by omega)]
    clear hv b0 h
    rw [E.out]
    go_enter Try.func34, Try.ntmps34
    go_wp2_with (go_at_call 32; refine K.out.mono ?_; rintro e w' ⟨v', rfl, hr, hb⟩)
    all_goals
      first
      | (exfalso; omega)
      | (go_ret
         exact ⟨_, rfl, hr, by (repeat (first | exact Below.refl _ _ | (with_reducible assumption) | apply Below.drew | (refine Below.alloc ?_ (by first | exact Nat.le_refl _ | omega | (simp; done) | (simp; omega)) _) | (refine Below.setCell ?_ (by first | exact Nat.le_refl _ | omega | (simp; done) | (simp; omega)) _) | (refine Below.trans ?_ (Below.mono (by with_reducible assumption) (by first | omega | (simp; done) | (simp; omega))))))⟩)
  · have HF : ∀ k : Nat, k < 64 → ∀ w1, Below (((w.alloc (.cells #[.slice va vn vc] 32)).alloc (.cells #[.int .i64 node] 3)).alloc (.cells #[.int .i64 n] 2)).heap.size (((w.alloc (.cells #[.slice va vn vc] 32)).alloc (.cells #[.int .i64 node] 3)).alloc (.cells #[.int .i64 n] 2)) w1 → Calls Try.prog 88 #[.int .i64 k, .pointer (some ⟨w.heap.size + 1, 0, none⟩), .pointer (some ⟨w.heap.size + 1 + 1, 0, none⟩), .pointer (some ⟨w.heap.size, 0, none⟩)] w1 fun e w2 => e = .returned (.int .i64 (if 0 ≤ n ∧ n ≤ 1152921504606846976 ∧ (k : Int) = node then n else atZ xs k)) ∧ Drw w1 w2 := by
      intro k hk w1 hb
      have e : (if 0 ≤ n ∧ n ≤ 1152921504606846976 ∧ (k : Int) = node then n else atZ xs k) = if (k : Int) = node then n else atZ xs k := by
        by_cases hkn : (k : Int) = node
        · rw [if_pos (by omega), if_pos hkn]
        · rw [if_neg (by omega), if_neg hkn]
      rw [e]
      refine vecWith1 (w.heap.size + 1) (w.heap.size + 1 + 1) w.heap.size node n (.slice va vn vc) xs k w1 (hv.below hb) (below_cell hb _ _ ?_) (below_cell hb _ _ ?_) (below_cell hb _ _ ((((Blk.new w #[.slice va vn vc] _).alloc _).alloc _).cell rfl))
      · have := ((Blk.new (w.alloc (.cells #[.slice va vn vc] 32)) #[.int .i64 node] 3).alloc (.cells #[.int .i64 n] 2)).cell (o := 0) rfl
        simpa using this
      · have := (Blk.new ((w.alloc (.cells #[.slice va vn vc] 32)).alloc (.cells #[.int .i64 node] 3)) #[.int .i64 n] 2).cell (o := 0) rfl
        simpa using this
    have HM := made_with (fun k => if 0 ≤ n ∧ n ≤ 1152921504606846976 ∧ (k : Int) = node then n else atZ xs k) (w.heap.size + 1) (w.heap.size + 1 + 1) w.heap.size _ HF
    have K := Lib.hid HM; clear HM HF b0 hv h
    have h1 : 0 ≤ node := by omega
    have h2 : node < 64 := by omega
    have h3 : 0 ≤ n := by omega
    have h4 : n ≤ 1152921504606846976 := by omega
    clear hc
    go_enter Try.func34, Try.ntmps34
    go_wp2_with (go_at_call 83; refine K.out.mono ?_; rintro e w' ⟨v', rfl, hr, hb⟩)
    go_ret
    exact ⟨_, rfl, hr, by (repeat (first | exact Below.refl _ _ | (with_reducible assumption) | apply Below.drew | (refine Below.alloc ?_ (by first | exact Nat.le_refl _ | omega | (simp; done) | (simp; omega)) _) | (refine Below.setCell ?_ (by first | exact Nat.le_refl _ | omega | (simp; done) | (simp; omega)) _) | (refine Below.trans ?_ (Below.mono (by with_reducible assumption) (by first | omega | (simp; done) | (simp; omega))))))⟩
end Go.Proofs.Ytgpfkdlnmifiiaa
