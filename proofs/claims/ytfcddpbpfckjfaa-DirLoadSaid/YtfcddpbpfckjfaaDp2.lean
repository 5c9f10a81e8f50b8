/- A directory of names: an entry is put into a block. -/
import Derived.Test.YtfcddpbpfckjfaaChecked
import Derived.WalkKit
import Derived.Outline
import Derived.WalkSpells
import Derived.WalkLawsBesides
import Derived.Deep.QuietTactic
import Derived.Deep.RegionWith
import Derived.Deep.DeepMust
import Derived.BigQuiet
import Derived.Test.YtfcddpbpfckjfaaMem
import Derived.RegionTactic
import Derived.ChangeAlike
import Derived.StillTailTactics
import Derived.BigRegion
import Derived.Deep.LoopGhost
import Derived.Deep.RegionHeld3
import Derived.Deep.RegionLaw
import Derived.Deep.AppendLies
import Derived.Test.YtfcddpbpfckjfaaDp
namespace Go.Proofs.Ytfcddpbpfckjfaa
open Go.RowKit
open Go.Maps
set_option linter.unusedVariables false
set_option linter.unusedSimpArgs false
theorem own_one {B : Nat} {w : World} {u : Value} (hB : B ≤ w.heap.size) : (w.alloc (.cells #[u] 5)).ownsRow B 5 1 (.slice (some ⟨w.heap.size, 0, none⟩) 1 1) 1 [u] :=
  ⟨rfl, .inr ⟨w.heap.size, 1, #[u], rfl, hB, heap_alloc_new w _, Nat.le_refl _, by unfold maxLen; omega, rfl, rfl⟩⟩
theorem ent_own1 {B : Nat} {s : ByteArray} {v : Value} {w1 : World} (h : w1.ownsRow B 5 1 v (1 + s.size) ([.int .u8 (s.size : Int)] ++ Lib.strCells s)) : w1.ownsRow B 5 1 v ((s.size : Int) :: strL s).length (((s.size : Int) :: strL s).map u8v) := by
  rw [strCells_L] at h
  rw [List.length_cons, strL_len, Nat.add_comm]
  exact h
theorem ent_grow1 {w w1 : World} {o : Obj} {n c : Nat} (h : (w.alloc o).grownBy w1 (Value.slice (some ⟨w.heap.size, 0, none⟩) n c).ownBlock) : Below w.heap.size w w1 :=
  ((Chg.refl (fun k => k = w.heap.size) w).alloc o |>.grown h (fun k e _ => by injection e with e; exact e.symm)).below (Nat.le_refl _) (fun i hi e => by omega)
theorem below_bytes2 {z : Nat} {a w : World} {e : TypeId} {s : ByteArray} (h : Below z a w) (hz : z ≤ w.heap.size) : Below z a (Lib.bytesWorld w e s) := h.trans ((below_bytes w e s).mono hz)
theorem keepS {w2 w' : World} {bb : Nat} {v : Value} (c : w2.cell? ⟨bb, 0, none⟩ = some v) (hb : Below w2.heap.size w2 w') : w'.cell? ⟨bb, 0, none⟩ = some v ∧ Below w2.heap.size w2 w' := ⟨below_cell hb _ _ c, hb⟩
theorem crc_rd {W : World} {s : ByteArray} {c k : Nat} (h : Rdv u8v W (.slice (some ⟨k, 0, none⟩) s.size c) (strL s)) (hk : k < W.heap.size) : RdBs (W.alloc (.cells #[.slice (some ⟨k, 0, none⟩) s.size c] 48)) (.slice (some ⟨W.heap.size, 0, none⟩) 1 1) [strL s] :=
  ⟨_, 1, rfl, Nat.le_refl _, by unfold maxLen; omega, .inr ⟨_, 0, rfl, fun j hj => by
    simp at hj
    subst hj
    exact ⟨_, (Blk.new W #[Value.slice (some ⟨k, 0, none⟩) s.size c] 48).cell (o := 0) rfl, h.alloc _⟩⟩⟩
theorem allB_str (s : ByteArray) (h : s.size ≤ 64) : AllB [strL s] := by
  intro l hl
  simp at hl
  subst hl
  exact strL_byt s
theorem crcStr (s : ByteArray) (W : World) (k c : Nat) (hs : s.size ≤ 64) (h : Rdv u8v W (.slice (some ⟨k, 0, none⟩) s.size c) (strL s)) (hk : k < W.heap.size) :
    Calls Try.prog 78 #[.slice (some ⟨W.heap.size, 0, none⟩) 1 1] (W.alloc (.cells #[.slice (some ⟨k, 0, none⟩) s.size c] 48)) fun e w' => e = .returned (.int .u32 (crcOf (strL s) : Nat)) ∧ Below (W.alloc (.cells #[.slice (some ⟨k, 0, none⟩) s.size c] 48)).heap.size (W.alloc (.cells #[.slice (some ⟨k, 0, none⟩) s.size c] 48)) w' := by
  have := crcOfC _ _ _ (crc_rd h hk) (allB_str s hs)
  rw [show [strL s].flatten = strL s by simp] at this
  exact this
theorem BkS.put2 {w W w2 : World} {B bb g i r c rc : Nat} {ra : Option Addr} {vs : List Value} {xss : List (List Int)} {e xk : List Int} (h : BkS w B bb g vs xss) (hb : Below w.heap.size w W) (hi : i < xss.length) (hx : xss.getD i [] = xk) (hv : vs.getD i .nilIface = .slice ra xk.length rc)
    (ho : w2.ownsRow B 5 1 (.slice (some ⟨r, 0, none⟩) (xk.length + e.length) c) (xk.length + e.length) (xk.map u8v ++ e.map u8v)) (hg : W.grownBy w2 (Value.slice ra xk.length rc).ownBlock)
    (hr : (Value.slice ra xk.length rc).ownBlock = some r ∨ r = W.heap.size) :
    w2.cell? ⟨bb, 0, none⟩ = some (.slice (some ⟨g, 0, none⟩) xss.length xss.length) ∧ bb < w2.heap.size ∧ w2.cell? ⟨g, i, none⟩ = some (.slice ra xk.length rc) ∧ w2.frozen? ⟨g, i, none⟩ = false ∧ g < w2.heap.size ∧ ∃ vs', BkS (w2.setCell ⟨g, i, none⟩ (.slice (some ⟨r, 0, none⟩) (xk.length + e.length) c)) B bb g vs' (xss.set i (xk ++ e)) ∧
      Chg (BkC g vs) w (w2.setCell ⟨g, i, none⟩ (.slice (some ⟨r, 0, none⟩) (xk.length + e.length) c)) := by
  subst hx
  rw [← hv] at hg hr
  obtain ⟨a1, a2, a3, a4, a5⟩ := h.put hb hi ho hg hr
  rw [hv] at a3
  have H1 := h.below hb
  have hgc : Chg (fun k => (vs.getD i .nilIface).ownBlock = some k) W w2 := (Chg.refl _ _).grown hg (fun _ e _ => e)
  have hq := hgc.blk H1.blk (fun e => (H1.ne.2 i bb hi e).1 rfl)
  exact ⟨hq.cell (o := 0) rfl, hq.lt, a3, a4, a5, _, a1, a2⟩
theorem BkS.bkC {w : World} {B bb g k : Nat} {vs : List Value} {xss : List (List Int)} (h : BkS w B bb g vs xss) (hk : BkC g vs k) : k = g ∨ B ≤ k := by
  rcases hk with e | ⟨i, hi, e⟩
  · exact .inl e
  · exact .inr ((h.own i (by rw [← h.len]; exact hi)).lt k e).1
def PutBPost (B bb g : Nat) (xss : List (List Int)) (p : Ent) (w : World) (e : Ending) (w' : World) : Prop :=
  e = .returned (.tuple #[]) ∧ ∃ vs', BkS w' B bb g vs' (putB xss p) ∧ Chg (fun k => k = g ∨ B ≤ k) w w'
set_option maxRecDepth 100000 in
set_option maxHeartbeats 1000000 in
theorem blkPut (B bb g : Nat) (vs : List Value) (xss : List (List Int)) (s : ByteArray) (n : Nat) (w : World) (h : BkS w B bb g vs xss) (hB : B ≤ w.heap.size) (hs : s.size ≤ 64) (hn : n ≤ 2147483647) (hr : RoomB xss (s.size + 5)) (h512 : ∀ i, i < xss.length → (xss.getD i []).length ≤ 512) (hm : xss.length ≤ 100000) :
    Calls Try.prog 53 #[.pointer (some ⟨bb, 0, none⟩), .string s, .int .i64 (n : Int)] w (PutBPost B bb g xss (s, n) w) := by
  obtain ⟨i0, hi, hz0, hz1, hz2⟩ := info_parts Try.info5
  have h1 : (0 : Int) ≤ s.size := by omega
  have h2 : (s.size : Int) < 256 := by omega
  have h3 : (0 : Int) ≤ n := by omega
  have h4 : (n : Int) ≤ 2147483647 := by omega
  have H := Lib.hid h
  have HR := Lib.hid hr
  have H5 := Lib.hid h512
  clear h hr h512
  go_enter Try.func53, Try.ntmps53
  go_wp2_with (at_builtin; refine Lib.wpList_append_own_string _ rfl _ _ 48 9 rfl w.heap.size 5 i0 Try.underlying48 Try.underlying9 hi hz0 hz1 hz2 (.slice (some ⟨w.heap.size, 0, none⟩) 1 1) 1 [.int .u8 (s.size : Int)] rfl (own_one (Nat.le_refl _)) s rfl ?c1 ?c2 ?c3 ?_)
  case c1 => unfold maxLen; omega
  case c2 => omega
  case c3 => simp
  intro v1 w1 ho1 hg1 _
  have HO1 := Lib.hid (ent_own1 ho1)
  have HG1 := Lib.hid (ent_grow1 hg1)
  clear ho1 hg1
  have z1 := HG1.out.size
  have K1 := Lib.hid (app32 w.heap.size v1 ((s.size : Int) :: strL s) n w1 (by omega) HO1.out z1 (by simp [strL_len]; omega))
  go_wp2_with fail
  refine K1.out.mono ?_
  rintro e w2 ⟨v2, rfl, ho2, hc2⟩
  have B2 := Lib.hid ((HG1.out).trans (hc2.below z1 (fun i hi e => by have := (HO1.out.lt i e.symm).1; omega)))
  have HO2 := Lib.hid (show w2.ownsRow w.heap.size 5 1 v2 (entB (s, n)).length ((entB (s, n)).map u8v) from ho2)
  clear ho2 hc2 K1
  obtain ⟨va, vc, rfl, hv1, hv2, hv3⟩ := own_shape HO2.out
  have z2 := B2.out.size
  have H2 := Lib.hid (H.out.below B2.out)
  have c1 : w2.cell? ⟨bb, 0, none⟩ = some (.slice (some ⟨g, 0, none⟩) xss.length xss.length) := H2.out.blk.cell (o := 0) rfl
  have hcv := fun w' => Lib.run_convert_string_bytes (P := Try.prog) w' 9 48 5 s Try.underlying9 Try.underlying48 Try.underlying5
  go_wp2
  have hm0 : 0 < xss.length := by obtain ⟨i, hi, _⟩ := HR.out; omega
  have hm1 : ((xss.length : Int) == 0) = false := beq_eq_false_iff_ne.2 (by omega)
  have hm2 : ¬ xss.length = 0 := by omega
  have hm3 : ¬ xss = [] := by rintro rfl; simp at hm0
  have hcr0 : (0 : Int) ≤ (crcOf (strL s) : Nat) := by omega
  have hw : IntKind.u32.wrap (xss.length : Int) = xss.length := by rw [IntKind.wrap_u32]; omega
  have C1 := Lib.hid c1
  have KC := Lib.hid (fun W k c (h : Rdv u8v W (.slice (some ⟨k, 0, none⟩) s.size c) (strL s)) (hk : k < W.heap.size) => crcStr s W k c hs h hk)
  have hcs : (crcOf (strL s)) < 4294967296 := crcOf_lt (strL_byt s)
  have HCS := Lib.hid hcs
  clear hcs
  obtain ⟨j0, hj0⟩ : ∃ j0, crcOf (strL s) % xss.length = j0 := ⟨_, rfl⟩
  have hw2 : IntKind.i64.wrap ((crcOf (strL s) : Int).tmod xss.length) = (j0 : Int) := by
    have := HCS.out
    rw [Int.tmod_eq_emod_of_nonneg (by omega), IntKind.wrap_i64, ← hj0]
    have h5 : crcOf (strL s) % xss.length < xss.length := Nat.mod_lt _ hm0
    omega
  have HJ0 := Lib.hid hj0
  have hj1 : j0 < xss.length := by rw [← hj0]; exact Nat.mod_lt _ hm0
  clear hj0
  go_region_held (fun w' => w'.cell? ⟨bb, 0, none⟩ = some (.slice (some ⟨g, 0, none⟩) xss.length xss.length) ∧ Below w2.heap.size w2 w') ((refine keepS C1.out ?_; (repeat (first | exact Below.refl _ _ | (with_reducible assumption) | refine Below.drew ?_ | refine Below.alloc ?_ (by rw [Lib.bytesWorld_size]; simp) _ | refine below_bytes2 ?_ (by simp)))))
    ((go_at_call 78; refine (KC.out _ _ _ (rdv_bytes _ _ _ _ (grownCap_ge _ _ _ _) (grownCap_le_maxLen _ _ _ _ (by unfold maxLen; omega))) (by rw [Lib.bytesWorld_size]; simp)).mono ?_; rintro e w3 ⟨rfl, hb3⟩; (have HB3 : Below w2.heap.size w2 w3 := (((below_bytes2 (Below.refl _ w2).drew (Nat.le_refl _)).alloc (by rw [Lib.bytesWorld_size]; simp) _).trans (hb3.mono (by simp; rw [Lib.bytesWorld_size]; simp <;> omega)))); clear hb3))
  clear hw hw2 KC HCS hcr0 hcv C1
  have H3 := Lib.hid (H2.out.below HB3)
  have O3 := Lib.hid (ownsRow_below HO2.out HB3)
  have B3 := Lib.hid (B2.out.trans (HB3.mono z2))
  clear HB3 H2 HO2 B2 c1 HO1 HG1
  have hel : (entB (s, n)).length = s.size + 5 := entB_len _
  have HEL := Lib.hid hel
  have hel1 : 5 ≤ (entB (s, n)).length := by omega
  have hel2 : (entB (s, n)).length ≤ 69 := by omega
  have HD := Lib.hid (dist_spec (i0 := j0) (n := (entB (s, n)).length) (by rw [hel]; exact HR.out) hj1)
  clear hel
  generalize hE : entB (s, n) = E at *
  have HE := Lib.hid hE
  clear hE
  have c1 : w3.cell? ⟨bb, 0, none⟩ = some (.slice (some ⟨g, 0, none⟩) xss.length xss.length) := H3.out.blk.cell (o := 0) rfl
  have hbl := H3.out.blk.lt
  go_wp2
  go_loopg [7] (distB xss E.length j0) (fun gk i wr => wr = w3 ∧ ∃ j, j + gk = distB xss E.length j0 ∧ i = .int .i64 (goB xss j0 j))
  case atStart => exact ⟨rfl, 0, by omega, by rw [show goB xss j0 0 = j0 from by unfold goB; rw [Nat.add_zero, Nat.mod_eq_of_lt hj1]]⟩
  case round =>
    obtain ⟨rfl, j, hj, rfl⟩ := hrel
    have hk := goB_lt (xss := xss) hm0 j0 j
    have HJ := Lib.hid hj
    have hc := H3.out.cell hk
    have ho := H3.out.own _ hk
    obtain ⟨ra, rc, hv, hr1, hr2, hr3⟩ := own_shape ho
    rw [hv] at hc
    have HO := Lib.hid ho
    have HV := Lib.hid hv
    clear hv hj ho
    generalize hgk : goB xss j0 j = k at *
    have HK := Lib.hid hgk
    clear hgk
    have hfl : Hid (fitB xss E.length k = decide ((xss.getD k []).length + E.length ≤ 512)) := Lib.hid rfl
    have hx5 := H5.out k hk
    generalize hxl : xss.getD k [] = xl at *
    have HXL := Lib.hid hxl
    clear hxl
    have hk0 : (0 : Int) ≤ k := by omega
    have hk1 : (k : Int) < xss.length := by omega
    cases gk with
    | zero =>
      have hf : xl.length + E.length ≤ 512 := by
        have := HD.out.2.1
        unfold slotB at this
        rw [← HJ.out, Nat.add_zero, HK.out, hfl.out] at this
        simpa using this
      obtain ⟨e0, rfl⟩ : ∃ e0, va = some ⟨e0, 0, none⟩ := by
        rcases O3.out.2 with ⟨e, _⟩ | ⟨g', c', cur', e, _⟩
        · injection e with _ e; omega
        · injection e with e; exact ⟨g', e⟩
      have hne := rdv_news (Rdv.of_owns O3.out)
      have HNE := Lib.hid hne
      clear hne
      have hB2 : B ≤ wr.heap.size := by have := B3.out.size; omega
      have HOV := Lib.hid (show wr.ownsRow B 5 1 (.slice ra xl.length rc) xl.length (xl.map u8v) from by rw [← HV.out]; exact HO.out)
      go_wp2
      go_region_law ((refine wanted_go rfl ?_); (refine wp_append_lies _ (.tmp 61) (.tmp 62) 48 rfl B 5 i0 _ 1 1 Try.underlying48 hi hz0 hz1 hz2 rfl (Nat.zero_lt_succ 0) (.slice ra xl.length rc) xl.length (xl.map u8v) rfl (ownsRow_below HOV.out ?_) ⟨e0, 0, none⟩ E.length vc (E.map u8v) rfl ?_ ?_ ?_ ?_ ?_ ?_ ?_ wr.heap.size ?_ ?_); (case _ => (repeat first | exact Below.refl _ _ | refine Below.drew ?_ | refine below_drewN ?_ _)); (case _ => simp); (case _ => exact HNE.out); (case _ => (intro u hu; obtain ⟨q, _, rfl⟩ := List.mem_map.1 hu; rfl)); (case _ => omega); (case _ => (unfold maxLen; omega)); (case _ => omega); (case _ => (simp <;> omega)); (case _ => (simp; done)); (intro r2 c2 w5 ho5 hg5 ha5 _); (obtain ⟨d8, d9, d0, d1, d2, vs', d3, d4⟩ := H3.out.put2 (by (repeat first | exact Below.refl _ _ | refine Below.drew ?_ | refine below_drewN ?_ _)) hk HXL.out HV.out ho5 hg5 ha5); (have D3 := Lib.hid d3); (have D4 := Lib.hid d4); clear d3 d4 ho5 hg5 ha5)
      all_goals go_wp2
      all_goals go_end0
      all_goals
        refine ⟨rfl, vs', ?_, ?_⟩
        · have hp : putB xss (s, n) = xss.set k (xl ++ E) := by
            unfold putB
            simp only
            rw [HE.out, HJ0.out]
            have hsl : slotB xss E.length j0 = k := by
              unfold slotB
              rw [← HJ.out, Nat.add_zero, HK.out]
            rw [hsl, HXL.out]
          rw [hp]
          exact D3.out
        · refine (Chg.of_below B3.out fun i h1 h2 => by omega).trans' D4.out fun i h1 h2 => ?_
          exact H3.out.bkC h2
    | succ gk =>
      have hf : ¬ xl.length + E.length ≤ 512 := by
        have := HD.out.2.2 j (by have := HJ.out; omega)
        rw [HK.out, hfl.out] at this
        simpa using this
      have hkm : ((k : Int) + 1).tmod xss.length = (goB xss j0 (j + 1) : Int) := by
        rw [← goB_next, HK.out, Int.tmod_eq_emod_of_nonneg (by omega)]
        rfl
      have hf2 : (512 : Int) < (xl.length : Int) + E.length := by omega
      have hf3 : ¬ (xl.length : Int) + E.length ≤ 512 := by omega
      go_wp2
      go_roundg gk
      case rel => exact ⟨rfl, j + 1, by have := HJ.out; omega, rfl⟩
      case measure => omega
end Go.Proofs.Ytfcddpbpfckjfaa
