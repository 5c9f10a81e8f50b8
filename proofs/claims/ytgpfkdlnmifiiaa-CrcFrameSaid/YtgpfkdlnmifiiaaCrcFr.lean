/- The law CrcFrame: its walk. -/
import Derived.Test.YtgpfkdlnmifiiaaChecked
import Derived.WalkKit
import Derived.Outline
import Derived.WalkSpells
import Derived.WalkLawsBesides
import Derived.Deep.QuietTactic
import Derived.Deep.RegionWith
import Derived.Deep.DeepMust
import Derived.BigQuiet
import Derived.Test.YtgpfkdlnmifiiaaMem
import Derived.RegionTactic
import Derived.ChangeAlike
import Derived.StillTailTactics
import Derived.Deep.LoopGhost
import Derived.Test.YtgpfkdlnmifiiaaCrcL
import Derived.Test.YtgpfkdlnmifiiaaFr
namespace Go.Proofs.Ytgpfkdlnmifiiaa
open Go.RowKit
set_option linter.unusedVariables false
set_option linter.unusedSimpArgs false
theorem shortC3 (a : Option Addr) (l : List Int) (c n : Nat) (w : World) (hn : n ≤ 1000000) (h1 : l.length ≤ c) (h2 : c ≤ 9223372036854775807) :
    Calls Try.prog 44 #[.slice a l.length c, .int .i64 n] w fun e w' => (∃ v', e = .returned v' ∧ ∀ w0, Rdv u8v w0 (.slice a l.length c) l → Rdv u8v w0 v' (l.take n)) ∧ w = w' := by
  by_cases hc : n < l.length
  · have HT : Hid (∀ w0, Rdv u8v w0 (.slice a l.length c) l → Rdv u8v w0 (.slice a n c) (l.take n)) := fun w0 h => h.take n c (by omega) (by omega) (by omega)
    go_enter Try.func44, Try.ntmps44
    go_wp2
    have hT := HT.out
    go_ret
    exact ⟨⟨_, rfl, hT⟩, rfl⟩
  · have e : Hid (l.take n = l) := List.take_of_length_le (by omega)
    go_enter Try.func44, Try.ntmps44
    go_wp2
    go_ret
    exact ⟨⟨_, rfl, fun w0 h => by rw [e.out]; exact h⟩, rfl⟩
/-- The bytes with one changed. -/
def setAt (l : List Int) (i : Nat) (y : Int) : List Int := l.set i y
theorem own_store {w : World} {B n : Nat} {v : Value} {l : List Int} (h : w.ownsRow B 5 1 v n (l.map u8v)) (i : Nat) (hi : i < l.length) : ∃ g c, v = .slice (some ⟨g, 0, none⟩) l.length c ∧ l.length ≤ c ∧ c ≤ maxLen ∧ B ≤ g ∧ g < w.heap.size ∧ w.cell? ⟨g, i, none⟩ = some (.int .u8 (l.getD i 0)) ∧ w.frozen? ⟨g, i, none⟩ = false ∧
    ∀ y, Rdv u8v (w.setCell ⟨g, i, none⟩ (.int .u8 y)) (.slice (some ⟨g, 0, none⟩) l.length c) (l.set i y) := by
  have hr := Rdv.of_owns h
  have hn : n = l.length := by have := h.1; simp at this; omega
  subst hn
  rcases h.2 with ⟨_, h0⟩ | ⟨g, c, cur, rfl, hB, hh, h1, h2, h3, h4⟩
  · omega
  have hb : Blk w g cur 5 := hh
  obtain ⟨a', c', e, _, _, h5⟩ := hr
  rw [Value.slice.injEq] at e
  obtain ⟨rfl, _, rfl⟩ := e
  rcases h5 with rfl | ⟨b', o', e, h5⟩
  · simp at hi
  injection e with e
  injection e with e1 e2
  subst e1; subst e2
  refine ⟨g, c, rfl, h1, h2, hB, hb.lt, by have := h5 i hi; rw [Nat.zero_add] at this; exact this, hb.free i, fun y => ⟨_, _, by simp, by simpa using h1, h2, .inr ⟨g, 0, rfl, fun j hj => ?_⟩⟩⟩
  simp at hj
  have hj' := h5 j hj
  rw [Nat.zero_add] at hj' ⊢
  by_cases hij : i = j
  · subst hij
    rw [show (l.set i y).getD i 0 = y from by simp [List.getD_eq_getElem?_getD, hj]]
    exact (hb.set i (.int .u8 y)).cell (by rw [Array.getElem?_setIfInBounds, if_pos rfl, if_pos (by omega)])
  · rw [World.cell?_setCell_other _ _ _ _ (by intro e; injection e with _ e _; omega), hj']
    simp [List.getD_eq_getElem?_getD, hij]

theorem frameL_len (l : List Int) : (frameL l).length = 8 + l.length := by simp [frameL, le4_len]; omega
theorem xor_byt (a b : Nat) (ha : a < 256) (hb : b < 256) : ∃ c : Nat, bits .xor .u8 (a : Int) (b : Int) = c ∧ c < 256 :=
  ⟨a ^^^ b, u8_xor_nat a b ha hb, Nat.xor_lt_two_pow (n := 8) ha hb⟩
theorem Byt.set {l : List Int} (h : Byt l) (i : Nat) (y : Nat) (hy : y < 256) : Byt (l.set i y) := by
  intro q hq
  rcases List.mem_or_eq_of_mem_set hq with h' | h'
  · exact h q h'
  · omega
set_option maxHeartbeats 8000000 in
set_option maxRecDepth 100000 in
theorem crcFrame_walk (v m : Value) (at_ x : Int) (l0 k0 : List Int) (w : World) (hv : Rdv u8v w v l0) (hm : Rdv u8v w m k0) (hlb : Byt l0) (hkb : Byt k0) (ha : -9223372036854775808 ≤ at_ ∧ at_ ≤ 9223372036854775807) (hx : 0 ≤ x ∧ x < 256) : Calls Try.prog 8 #[v, m, .int .i64 at_, .int .u8 x] w (CrcBegun w) := by
  obtain ⟨i0, hi, hz0, hz1, hz2⟩ := info_parts Try.info5
  obtain ⟨va, vn, vc, rfl⟩ := hv.shape
  obtain ⟨rfl, v1, v2, _⟩ := hv.cap
  obtain ⟨ma, mn, mc, rfl⟩ := hm.shape
  obtain ⟨rfl, m1, m2, _⟩ := hm.cap
  unfold maxLen at v2 m2
  go_enter Try.func8, Try.ntmps8
  go_wp2_with fail
  refine (crcBegun _).mono ?_
  rintro e w1 ⟨rfl, b1⟩
  go_wp2_with fail
  refine (shortC3 _ _ _ 300 _ (by omega) v1 v2).mono ?_
  rintro e w1' ⟨⟨b, rfl, hb⟩, rfl⟩
  replace hb := hb _ hv
  go_wp2_with fail
  refine (shortC3 _ _ _ 40 _ (by omega) m1 m2).mono ?_
  rintro e w1' ⟨⟨mo, rfl, hmo⟩, rfl⟩
  replace hmo := hmo _ hm
  have hlb' := hlb.take 300
  have hkb' := hkb.take 40
  have hl300 : (l0.take 300).length ≤ 300 := by simp; omega
  have hk40 : (k0.take 40).length ≤ 40 := by simp; omega
  clear hv hm v1 v2 m1 m2 hlb hkb
  generalize l0.take 300 = l at *
  generalize k0.take 40 = k at *
  obtain ⟨ba, bn, bc, rfl⟩ := hb.shape
  obtain ⟨qa, qn, qc, rfl⟩ := hmo.shape
  have z1 := b1.size
  go_wp2_with fail
  refine (crcFrameOk _ _ _ (hb.below b1) hlb' (by omega)).mono ?_
  rintro e w2 ⟨f, rfl, of2, b2'⟩
  have b2 := b1.trans (b2'.mono z1)
  have z2 := b2.size
  have rf2 := Rdv.of_owns of2
  obtain ⟨fa, fn, fc, rfl⟩ := rf2.shape
  clear b2' of2
  go_wp2_with fail
  refine (refFrameOk _ _ _ (hb.below b2) hlb' (by omega)).mono ?_
  rintro e w3 ⟨g, rfl, og3, b3'⟩
  have b3 := b2.trans (b3'.mono z2)
  have z3 := b3.size
  have rg3 := Rdv.of_owns og3
  have rf3 := rf2.below b3'
  obtain ⟨ga, gn, gc, rfl⟩ := rg3.shape
  clear b3' og3 rf2
  have hfl := frameL_len l
  have hfb := frameL_byt hlb'
  generalize frameL l = F at *
  have hF1 : 8 ≤ F.length := by omega
  have hF2 : F.length ≤ 308 := by omega
  clear hfl
  have k1 := conv_rdv (P := Try.prog) 46 5 Try.underlying46 Try.underlying5 rf3 9 Try.underlying9
  have k2 := conv_rdv (P := Try.prog) 46 5 Try.underlying46 Try.underlying5 rg3 9 Try.underlying9
  go_wp2_with (at_builtin; refine wpList_append_rd rfl (.const (.slice none 0 0)) (.tmp 52) 46 rfl w.heap.size 5 i0 (.int .u8 0) 1 Try.underlying46 hi hz0 hz1 hz2 rfl (.slice none 0 0) 0 [] rfl (World.ownsRow_nil _ _ _ _) (.slice fa fn fc) u8v F rfl rf3 (fun _ => rfl) ?c1 ?c2 ?c3 ?_)
  case c1 => unfold maxLen; omega
  case c2 => omega
  case c3 => exact z3
  intro v4 w4 o4 g4 _
  have b4 := b3.grown g4 z3 (fun q hq => by simp [Value.ownBlock] at hq)
  have z4 := b4.size
  have rq4 := hmo.below b4
  clear k1 k2 g4 rf3 rg3
  go_wp2_with (at_builtin; refine wpList_append_rd rfl (.tmp 53) (.tmp 54) 46 rfl w.heap.size 5 i0 (.int .u8 0) 1 Try.underlying46 hi hz0 hz1 hz2 rfl v4 _ _ rfl o4 (.slice qa qn qc) u8v k rfl rq4 (fun _ => rfl) ?c1 ?c2 ?c3 ?_)
  case c1 => unfold maxLen; omega
  case c2 => omega
  case c3 => exact z4
  intro v5 w5 o5 g5 _
  have b5 := b4.grown g5 z4 (fun q hq => (o4.lt q hq).1)
  have z5 := b5.size
  have o5' : w5.ownsRow w.heap.size 5 1 v5 (F.length + k.length) ((F ++ k).map u8v) := by rw [List.map_append]; first | exact o5 | simpa using o5
  clear g5 o5 o4 rq4
  have hFk : 8 ≤ (F ++ k).length := by simp; omega
  have hbFk := hfb.append hkb'
  generalize F ++ k = L at *
  have hstep : ∀ (A : Int), 0 ≤ A → ∃ j : Nat, A % (L.length : Int) = j ∧ j < L.length := fun A hA => by
    have h1 := Int.emod_nonneg A (show (L.length : Int) ≠ 0 by omega)
    have h2 := Int.emod_lt_of_pos A (show (0 : Int) < (L.length : Int) by omega)
    exact ⟨(A % (L.length : Int)).toNat, by omega, by omega⟩
  have HS := Lib.hid hstep
  clear hstep
  obtain ⟨xn, rfl⟩ := Int.eq_ofNat_of_zero_le hx.1
  by_cases hneg : at_ < 0
  · obtain ⟨j, hj, hjl⟩ := HS.out (-(at_ + 1)) (by omega)
    obtain ⟨g, c, rfl, c1, c2, hB, hg5, hcell, hfr, hset⟩ := own_store o5' j hjl
    obtain ⟨q, hq, hq2⟩ := hbFk.at_ j hjl
    rw [hq] at hcell
    obtain ⟨y, hy, hy2⟩ := xor_byt q xn hq2 (by omega)
    have HSET := Lib.hid hset
    unfold maxLen at c2
    clear hset o5' hq
    have a0 : at_ < 0 := hneg
    have a1 : 0 ≤ -(at_ + 1) := by omega
    have hj2 : (-(at_ + 1)).tmod (L.length : Int) = j := by rw [Int.tmod_eq_emod_of_nonneg a1]; exact hj
    clear hneg
    go_wp2_with fail
    have r6 := HSET.out y
    have b6 : Below w.heap.size w (w5.setCell ⟨g, j, none⟩ (.int .u8 (y : Int))) := b5.setCell hB _
    have z6 := b6.size
    have hL := hbFk.set j y hy2
    generalize L.set j (y : Int) = L' at *
    generalize w5.setCell ⟨g, j, none⟩ (.int .u8 (y : Int)) = w6 at *
    clear hcell hfr
    refine (crcUnframe _ _ _ r6 hL).mono ?_
    rintro e w7 ⟨c7, rfl, q7, b7'⟩
    have b7 := b6.trans (b7'.mono z6)
    have z7 := b7.size
    have r7 := r6.below b7'
    obtain ⟨c7a, c7n, c7c, rfl⟩ := q7.shape
    clear b7' r6
    go_wp2_with fail
    refine (refUnframe _ _ _ r7 hL).mono ?_
    rintro e w8 ⟨d8, rfl, q8, b8'⟩
    have b8 := b7.trans (b8'.mono z7)
    have z8 := b8.size
    replace q7 := q7.below b8'
    obtain ⟨d8a, d8n, d8c, rfl⟩ := q8.shape
    clear b8' r7
    go_wp2_with fail
    refine (crcUnframe _ _ _ (hmo.below b8) hkb').mono ?_
    rintro e w9 ⟨p9, rfl, q9, b9'⟩
    have b9 := b8.trans (b9'.mono z8)
    have z9 := b9.size
    replace q7 := q7.below b9'
    replace q8 := q8.below b9'
    obtain ⟨p9a, p9n, p9c, rfl⟩ := q9.shape
    clear b9'
    go_wp2_with fail
    refine (refUnframe _ _ _ (hmo.below b9) hkb').mono ?_
    rintro e w10 ⟨u10, rfl, q10, b10'⟩
    have b10 := b9.trans (b10'.mono z9)
    replace q7 := q7.below b10'
    replace q8 := q8.below b10'
    replace q9 := q9.below b10'
    obtain ⟨u10a, u10n, u10c, rfl⟩ := q10.shape
    clear b10'
    have k7 := conv_rdv (P := Try.prog) 46 5 Try.underlying46 Try.underlying5 q7 9 Try.underlying9
    have k8 := conv_rdv (P := Try.prog) 46 5 Try.underlying46 Try.underlying5 q8 9 Try.underlying9
    have k9 := conv_rdv (P := Try.prog) 46 5 Try.underlying46 Try.underlying5 q9 9 Try.underlying9
    have k10 := conv_rdv (P := Try.prog) 46 5 Try.underlying46 Try.underlying5 q10 9 Try.underlying9
    generalize unfL L' = U at *
    generalize unfL k = V at *
    go_wp2
    go_ret
    exact ⟨rfl, b10⟩
  · obtain ⟨j, hj, hjl⟩ := HS.out at_ (by omega)
    obtain ⟨g, c, rfl, c1, c2, hB, hg5, hcell, hfr, hset⟩ := own_store o5' j hjl
    obtain ⟨q, hq, hq2⟩ := hbFk.at_ j hjl
    rw [hq] at hcell
    obtain ⟨y, hy, hy2⟩ := xor_byt q xn hq2 (by omega)
    have HSET := Lib.hid hset
    unfold maxLen at c2
    clear hset o5' hq
    have a0 : 0 ≤ at_ := by omega
    clear hneg
    go_wp2_with fail
    have r6 := HSET.out y
    have b6 : Below w.heap.size w (w5.setCell ⟨g, j, none⟩ (.int .u8 (y : Int))) := b5.setCell hB _
    have z6 := b6.size
    have hL := hbFk.set j y hy2
    generalize L.set j (y : Int) = L' at *
    generalize w5.setCell ⟨g, j, none⟩ (.int .u8 (y : Int)) = w6 at *
    clear hcell hfr
    refine (crcUnframe _ _ _ r6 hL).mono ?_
    rintro e w7 ⟨c7, rfl, q7, b7'⟩
    have b7 := b6.trans (b7'.mono z6)
    have z7 := b7.size
    have r7 := r6.below b7'
    obtain ⟨c7a, c7n, c7c, rfl⟩ := q7.shape
    clear b7' r6
    go_wp2_with fail
    refine (refUnframe _ _ _ r7 hL).mono ?_
    rintro e w8 ⟨d8, rfl, q8, b8'⟩
    have b8 := b7.trans (b8'.mono z7)
    have z8 := b8.size
    replace q7 := q7.below b8'
    obtain ⟨d8a, d8n, d8c, rfl⟩ := q8.shape
    clear b8' r7
    go_wp2_with fail
    refine (crcUnframe _ _ _ (hmo.below b8) hkb').mono ?_
    rintro e w9 ⟨p9, rfl, q9, b9'⟩
    have b9 := b8.trans (b9'.mono z8)
    have z9 := b9.size
    replace q7 := q7.below b9'
    replace q8 := q8.below b9'
    obtain ⟨p9a, p9n, p9c, rfl⟩ := q9.shape
    clear b9'
    go_wp2_with fail
    refine (refUnframe _ _ _ (hmo.below b9) hkb').mono ?_
    rintro e w10 ⟨u10, rfl, q10, b10'⟩
    have b10 := b9.trans (b10'.mono z9)
    replace q7 := q7.below b10'
    replace q8 := q8.below b10'
    replace q9 := q9.below b10'
    obtain ⟨u10a, u10n, u10c, rfl⟩ := q10.shape
    clear b10'
    have k7 := conv_rdv (P := Try.prog) 46 5 Try.underlying46 Try.underlying5 q7 9 Try.underlying9
    have k8 := conv_rdv (P := Try.prog) 46 5 Try.underlying46 Try.underlying5 q8 9 Try.underlying9
    have k9 := conv_rdv (P := Try.prog) 46 5 Try.underlying46 Try.underlying5 q9 9 Try.underlying9
    have k10 := conv_rdv (P := Try.prog) 46 5 Try.underlying46 Try.underlying5 q10 9 Try.underlying9
    generalize unfL L' = U at *
    generalize unfL k = V at *
    go_wp2
    go_ret
    exact ⟨rfl, b10⟩
theorem byt_of_row {w : World} {a : Option Addr} {len cap : Nat} {zs : List Int} (h : IsRow .u8 w a len cap zs) : Byt (zs.take len) := fun q hq => by
  have := bounds_u8 (h.wf q hq)
  omega
theorem lt_of_u8 {x : Int} (h : (Lit.int .u8 x).wf = true) : 0 ≤ x ∧ x < 256 := by
  have := bounds_u8 h
  omega
end Go.Proofs.Ytgpfkdlnmifiiaa
