/- merge.Sorted: the walk. -/
import Derived.Test.YthbalmoafpggdaaChecked
import Derived.WalkKit
import Derived.Outline
import Derived.WalkSpells
import Derived.WalkLawsBesides
import Derived.Deep.QuietTactic
import Derived.Deep.RegionWith
import Derived.Deep.DeepMust
import Derived.BigQuiet
import Derived.Test.YthbalmoafpggdaaMem
import Derived.RegionTactic
import Derived.ChangeAlike
import Derived.StillTailTactics
import Derived.BigRegion
import Derived.Deep.RegionHeld3
import Derived.Deep.RegionLaw
import Derived.Deep.AppendLies
import Derived.Deep.DeepCutAuto
import Derived.Deep.CutBlock
import Derived.Test.YthbalmoafpggdaaMq5b
namespace Go.Proofs.Ythbalmoafpggdaa
open Go.RowKit
set_option linter.unusedVariables false
set_option linter.unusedSimpArgs false
theorem flat_take (ls : List (List P3)) (i : Nat) (l : List P3) (h : ls[i]? = some l) : (ls.take (i + 1)).flatten = (ls.take i).flatten ++ l := by
  rcases Nat.lt_or_ge i ls.length with hi | hi
  · rw [List.getElem?_eq_getElem hi] at h
    injection h with h
    rw [List.take_succ_eq_append_getElem hi, List.flatten_append, h]
    simp
  · rw [List.getElem?_eq_none hi] at h; cases h
theorem take_snocP (l : List P3) (k : Nat) (p : P3) (h : l[k]? = some p) : l.take (k + 1) = l.take k ++ [p] := by
  rcases Nat.lt_or_ge k l.length with hi | hi
  · rw [List.getElem?_eq_getElem hi] at h
    injection h with h
    rw [List.take_succ_eq_append_getElem hi, h]
  · rw [List.getElem?_eq_none hi] at h; cases h
theorem flat_le (ls : List (List P3)) (i k : Nat) (l : List P3) (h : ls[i]? = some l) (n : Nat) (hn : ls.flatten.length ≤ n) : ((ls.take i).flatten ++ l.take k).length ≤ n := by
  have e : ls.flatten = (ls.take i).flatten ++ l ++ (ls.drop (i + 1)).flatten := by
    rw [← flat_take ls i l h, ← List.flatten_append, List.take_append_drop]
  have h1 : (l.take k).length ≤ l.length := List.length_take_le' ..
  have h2 := congrArg List.length e
  simp only [List.length_append] at h2 ⊢
  omega
def clkF : Value := Fun 79
theorem DSt.grown {back : Bool} {F : Value} {w wr w' : World} {b n B m : Nat} {all : List P3} {popped : List Mit} {rest : Nat} {v : Value} {xs : List Value} (h : DSt back F w b n all popped rest wr) (ho : wr.ownsRow B 58 11 v m xs) (hB : w.heap.size ≤ B) (hg : wr.grownBy w' v.ownBlock) : DSt back F w b n all popped rest w' := by
  cases e : v.ownBlock with
  | none =>
    rw [e] at hg
    exact h.below ((Below.refl _ _).grown hg (Nat.le_refl _) (fun q hq => by cases hq))
  | some g =>
    rw [e] at hg
    obtain ⟨h1, cur, h2⟩ := own_type ho e
    have hb : Blk wr g cur 58 := h2
    exact h.chg hb (by decide) (by decide) (by omega) ((Chg.refl _ _).grown hg (fun k e _ => by injection e with e; exact e.symm))
theorem own_kept {w w' : World} {B m : Nat} {v : Value} {xs : List Value} (h : w.ownsRow B 58 11 v m xs) (hk : Kept w w') : w'.ownsRow B 58 11 v m xs := by
  refine ⟨h.1, ?_⟩
  rcases h.2 with h2 | ⟨g, cap, cur, hv, hb, hh, r⟩
  · exact .inl h2
  · have hB : Blk w g cur 58 := hh
    exact .inr ⟨g, cap, cur, hv, hb, hk g cur _ hB (by decide) (by decide), r⟩
def sliceLen : Value → Nat
  | .slice _ n _ => n
  | _ => 0
def PRel (w : World) (b n : Nat) (all : List P3) (s8 s9 s10 : Value) (wr : World) : Prop :=
  ∃ outs popped rest gt ok cs, s9 = .pointer (some ⟨gt, 0, none⟩) ∧ s10 = .bool ok ∧ w.heap.size ≤ gt ∧ s8.ownBlock ≠ some gt ∧ wr.ownsRow w.heap.size 58 11 s8 outs.length (orow outs) ∧ DSt false clkF w b n all popped rest wr ∧ Blk wr gt cs 58 ∧ (ok = true → ∃ x : Mit, popped = outs ++ [x] ∧ cs = #[.int .i64 x.time, .int .i64 x.node, .int .i64 0, .int .i64 x.mark, .int .i64 0, .int .i64 0, .int .i64 0, .int .i64 0, .string ByteArray.empty, .slice none 0 0, .slice none 0 0]) ∧ (ok = false → popped = outs ∧ rest = 0)
theorem DSt.total {back : Bool} {F : Value} {w wr : World} {b n : Nat} {all : List P3} {popped : List Mit} {rest : Nat} (h : DSt back F w b n all popped rest wr) : popped.length + rest = all.length := by
  obtain ⟨v, xs, _, _, h3, h4, _⟩ := h.q
  have := h4.length_eq
  rw [num_len] at this
  simp at this
  omega
theorem own_setK {w w' : World} {B m g : Nat} {v : Value} {xs : List Value} (h : w.ownsRow B 58 11 v m xs) (hc : Chg (· = g) w w') (hne : v.ownBlock ≠ some g) : w'.ownsRow B 58 11 v m xs :=
  ownsRow_chg h hc (fun k e e' => hne (by rw [e, e']))
theorem S11_blk {w : World} {g : Nat} {t n m : Int} {a0 a1 a2 a3 a4 a5 a6 a7 a8 a9 a10 : Value} (hb : Blk w g #[a0, a1, a2, a3, a4, a5, a6, a7, a8, a9, a10] 58) : Blk (S11 w g t n m) g #[.int .i64 t, .int .i64 n, .int .i64 0, .int .i64 m, .int .i64 0, .int .i64 0, .int .i64 0, .int .i64 0, .string ByteArray.empty, .slice none 0 0, .slice none 0 0] 58 := by
  have h := (((((((((((hb.set 0 (.int .i64 t)).set 1 (.int .i64 n)).set 2 (.int .i64 0)).set 3 (.int .i64 m)).set 4 (.int .i64 0)).set 5 (.int .i64 0)).set 6 (.int .i64 0)).set 7 (.int .i64 0)).set 8 (.string ByteArray.empty)).set 9 (.slice none 0 0)).set 10 (.slice none 0 0))
  unfold S11
  simpa using h
def SortPost (w : World) (ls : List (List P3)) (e : Ending) (w' : World) : Prop := ∃ v, ∃ ys : List Mit, e = .returned v ∧ OpsRd w' v (ys.map toP) ∧ ys.Perm (num 0 ls.flatten) ∧ ys.Pairwise (fun a b => mlt false b a = false) ∧ Below w.heap.size w w'
set_option maxRecDepth 100000 in
set_option maxHeartbeats 4000000 in
theorem sortedC (v : Value) (ls : List (List P3)) (w : World) (h : LstRd w v ls) (hn : ls.flatten.length ≤ 900) : Calls Try.prog 27 #[v] w (SortPost w ls) := by
  obtain ⟨a, c, rfl, h1, h2, h3⟩ := h
  unfold maxLen at h2
  have H3 := Lib.hid h3
  clear h3
  go_enter Try.func27, Try.ntmps27
  go_wp2_with fail
  refine (qNewNil _).mono ?_
  rintro e w1 ⟨b, rfl, hb, hq, bel1⟩
  have hb0 : w.heap.size ≤ b := by omega
  have S0 : SSt false clkF w b [] w1 := ⟨⟨_, #[], hq, fun k h0 h1 => by simp at h1, by simp [num]⟩, bel1⟩
  have HS0 := Lib.hid S0
  clear hb hq bel1 S0
  go_wp2
  go_loopw [14] (fun s14 wr => ∃ i : Nat, i ≤ ls.length ∧ s14 = .int .i64 i ∧ SSt false clkF w b (ls.take i).flatten wr) (fun s14 _ => ls.length - (intOf s14).toNat)
  case atStart => exact ⟨0, by omega, rfl, by simpa using HS0.out⟩
  case round =>
    clear HS0
    obtain ⟨i, hi, rfl, hS⟩ := hrel
    have HS := Lib.hid hS
    clear hS
    by_cases hlt : i < ls.length
    · obtain ⟨l, hl⟩ : ∃ l, ls[i]? = some l := ⟨_, List.getElem?_eq_getElem hlt⟩
      rcases H3.out with h0 | ⟨g, o, rfl, h4⟩
      · rw [h0] at hlt; simp at hlt
      · obtain ⟨u, hu, ho⟩ := h4 i l hl
        obtain ⟨la, lc, rfl, l1, l2⟩ := ho.shape
        have hu2 : wr.cell? ⟨g, o + i, none⟩ = some (.slice la l.length lc) := HS.out.bel.cell (p := ⟨g, o + i, none⟩) (World.block_lt_of_cell? w _ hu) |>.trans hu
        have HO := Lib.hid ho
        have HL := Lib.hid hl
        have i0 : (0 : Int) ≤ i := by omega
        have i1 : (i : Int) < ls.length := by omega
        clear hu ho hl h4
        go_wp2_with fail
        obtain ⟨wo, rfl⟩ : ∃ wo, wo = wr := ⟨_, rfl⟩
        go_loopw [20] (fun s20 wr => ∃ k : Nat, k ≤ l.length ∧ s20 = .int .i64 k ∧ SSt false clkF w b ((ls.take i).flatten ++ l.take k) wr) (fun s20 _ => l.length - (intOf s20).toNat)
        case atStart => exact ⟨0, by omega, rfl, by simpa using HS.out⟩
        case round =>
          clear HS hu2
          obtain ⟨k, hk, rfl, hS⟩ := hrel
          have HS := Lib.hid hS
          clear hS
          by_cases hlt2 : k < l.length
          · obtain ⟨p, hp⟩ : ∃ p, l[k]? = some p := ⟨_, List.getElem?_eq_getElem hlt2⟩
            obtain ⟨a', c', e', _, _, h5⟩ := HO.out
            have e1 : la = a' := by injection e'
            subst e1
            clear e'
            rcases h5 with h0 | ⟨g2, o2, rfl, h6⟩
            · rw [h0] at hlt2; simp at hlt2
            · obtain ⟨c0, c1, c2, c3, c4, c5, c6, c7, c8, c9, c10⟩ := (h6 k p hp).of_cells (w' := wr) (fun ad u hu => (HS.out.bel.cell (World.block_lt_of_cell? w _ hu)).trans hu)
              have k0 : (0 : Int) ≤ k := by omega
              have k1 : (k : Int) < l.length := by omega
              have KP := Lib.hid (fun w' (hw : Below wr.heap.size wr w') => sPush lessOkC hb0 (HS.out.below hw) (flat_le ls i k l HL.out 900 hn) p)
              have HP := Lib.hid hp
              clear h6 hp
              go_wp2_with fail
              refine (KP.out _ ((Below.refl _ _).alloc (Nat.le_refl _) _)).mono ?_
              rintro e w5 ⟨rfl, hS5, _⟩
              have HS5 := Lib.hid hS5
              clear hS5 KP c0 c1 c2 c3 c4 c5 c6 c7 c8 c9 c10 HS
              go_wp2
              go_roundw
              case rel => exact ⟨k + 1, by omega, by go_num, by rw [take_snocP l k p HP.out, ← List.append_assoc]; exact HS5.out⟩
              case measure => simp [intOf]; omega
          · obtain rfl : k = l.length := by omega
            have HS2 : Hid (SSt false clkF w b (ls.take (i + 1)).flatten wr) := Lib.hid (by rw [flat_take ls i l HL.out]; have := HS.out; rwa [List.take_length] at this)
            clear HS
            go_wp2
            go_roundw
            case rel => exact ⟨i + 1, by omega, by go_num, HS2.out⟩
            case measure => simp [intOf]; omega
    · obtain rfl : i = ls.length := by omega
      have HS2 : Hid (SSt false clkF w b ls.flatten wr) := Lib.hid (by have := HS.out; rwa [List.take_length] at this)
      clear HS H3
      have D0 := HS2.out.d
      have hN : ls.flatten.length ≤ 900 := hn
      generalize hall : ls.flatten = all at *
      have HALL := Lib.hid hall
      clear hall
      have HD0 := Lib.hid D0
      clear HS2 D0
      go_upto_region 12 with fail
      go_cut [9, 10] (fun s9 s10 wx => PRel w b all.length all (.slice none 0 0) s9 s10 wx)
      case first =>
        obtain ⟨N, hNN⟩ : ∃ N, N = all.length := ⟨_, rfl⟩
        rcases N with _ | N
        · have K := Lib.hid (sPop0 (by have := HD0.out; rwa [← hNN] at this : DSt false clkF w b 0 all [] 0 wr))
          have HNN := Lib.hid hNN
          clear hNN
          go_wp2_with fail
          refine K.out.mono ?_
          rintro e w2 ⟨rfl, hD, hKp⟩
          have HD := Lib.hid hD
          clear hD hKp K
          go_wp2
          go_meet
          exact ⟨[], [], 0, w2.heap.size, false, #[.int .i64 0, .int .i64 0, .int .i64 0, .int .i64 0, .int .i64 0, .int .i64 0, .int .i64 0, .int .i64 0, .string ByteArray.empty, .slice none 0 0, .slice none 0 0], rfl, rfl, HD.out.bel.size, by simp [Value.ownBlock], World.ownsRow_nil _ _ _ _, by rw [← HNN.out]; exact HD.out.below ((Below.refl _ _).alloc (Nat.le_refl _) _), Blk.new _ _ _, (fun h => by cases h), fun _ => ⟨rfl, rfl⟩⟩
        · obtain ⟨x, hK⟩ := sPop lessOkC hb0 (by have := HD0.out; rwa [← hNN] at this : DSt false clkF w b (N + 1) all [] (N + 1) wr) (by omega)
          have K := Lib.hid hK
          have HNN := Lib.hid hNN
          clear hK hNN
          go_wp2_with fail
          refine K.out.mono ?_
          rintro e w2 ⟨rfl, hD, hKp, _⟩
          have HD := Lib.hid hD
          clear hD hKp K
          go_wp2
          go_meet
          exact ⟨[], _, N, w2.heap.size, true, #[.int .i64 x.time, .int .i64 x.node, .int .i64 0, .int .i64 x.mark, .int .i64 0, .int .i64 0, .int .i64 0, .int .i64 0, .string ByteArray.empty, .slice none 0 0, .slice none 0 0], rfl, rfl, HD.out.bel.size, by simp [Value.ownBlock], World.ownsRow_nil _ _ _ _, by rw [← HNN.out]; exact HD.out.below ((Below.refl _ _).alloc (Nat.le_refl _) _), Blk.new _ _ _, fun _ => ⟨x, rfl, rfl⟩, (fun h => by cases h)⟩
      case rest =>
        have HC0 := Lib.hid hcut
        clear hcut HD0
        obtain ⟨i0, hi, hi2⟩ := Option.map_eq_some_iff.1 Op.info
        simp only [Prod.mk.injEq] at hi2
        obtain ⟨hz0, hz1, hz2⟩ := hi2
        obtain ⟨wz, rfl⟩ : ∃ wz, wz = wc := ⟨_, rfl⟩
        go_wp2_with fail
        go_loopw [8, 9, 10] (fun s8 s9 s10 wr => PRel w b all.length all s8 s9 s10 wr) (fun s8 _ _ _ => all.length - sliceLen s8)
        case atStart => exact HC0.out
        case round =>
          clear HC0
          obtain ⟨outs, popped, rest, gt, ok, cs, rfl, rfl, hgt, hne, hown, hD, hB, ht, hf⟩ := hrel
          rcases ok with _ | _
          · obtain ⟨rfl, rfl⟩ := hf rfl
            have HD := Lib.hid hD
            have HO := Lib.hid hown
            clear hown hD hB ht hf hne
            go_wp2
            go_ret
            obtain ⟨v, xs, _, _, q3, q4, q5, _⟩ := HD.out.q
            have hxs : xs.toList = [] := by rw [← List.length_eq_zero_iff]; simpa using q3
            rw [hxs, List.append_nil] at q4
            exact ⟨_, popped, rfl, orow_rd HO.out, by rw [HALL.out]; exact q4, q5, HD.out.bel⟩
          · obtain ⟨x, rfl, rfl⟩ := ht rfl
            have htot := hD.total
            simp only [List.length_append, List.length_singleton] at htot
            have ht1 : outs.length + 1 ≤ all.length := by omega
            have ht2 : rest ≤ all.length := by omega
            have HT := Lib.hid htot
            clear htot
            have c0 : wr.cell? ⟨gt, 0, none⟩ = some (.int .i64 x.time) := hB.cell (o := 0) rfl
            have c1 : wr.cell? ⟨gt, 1, none⟩ = some (.int .i64 x.node) := hB.cell (o := 1) rfl
            have c2' : wr.cell? ⟨gt, 2, none⟩ = some (.int .i64 0) := hB.cell (o := 2) rfl
            have c3 : wr.cell? ⟨gt, 3, none⟩ = some (.int .i64 x.mark) := hB.cell (o := 3) rfl
            have c4 : wr.cell? ⟨gt, 4, none⟩ = some (.int .i64 0) := hB.cell (o := 4) rfl
            have c5 : wr.cell? ⟨gt, 5, none⟩ = some (.int .i64 0) := hB.cell (o := 5) rfl
            have c6 : wr.cell? ⟨gt, 6, none⟩ = some (.int .i64 0) := hB.cell (o := 6) rfl
            have c7 : wr.cell? ⟨gt, 7, none⟩ = some (.int .i64 0) := hB.cell (o := 7) rfl
            have c8 : wr.cell? ⟨gt, 8, none⟩ = some (.string ByteArray.empty) := hB.cell (o := 8) rfl
            have c9 : wr.cell? ⟨gt, 9, none⟩ = some (.slice none 0 0) := hB.cell (o := 9) rfl
            have c10 : wr.cell? ⟨gt, 10, none⟩ = some (.slice none 0 0) := hB.cell (o := 10) rfl
            have hgz := hB.lt
            have hown2 := hown.alloc (.cells #[.int .i64 x.time, .int .i64 x.node, .int .i64 0, .int .i64 x.mark, .int .i64 0, .int .i64 0, .int .i64 0, .int .i64 0, .string ByteArray.empty, .slice none 0 0, .slice none 0 0] 58)
            have hD2 := hD.below ((Below.refl _ _).alloc (Nat.le_refl _) (.cells #[.int .i64 x.time, .int .i64 x.node, .int .i64 0, .int .i64 x.mark, .int .i64 0, .int .i64 0, .int .i64 0, .int .i64 0, .string ByteArray.empty, .slice none 0 0, .slice none 0 0] 58))
            have hB2 := hB.alloc (.cells #[.int .i64 x.time, .int .i64 x.node, .int .i64 0, .int .i64 x.mark, .int .i64 0, .int .i64 0, .int .i64 0, .int .i64 0, .string ByteArray.empty, .slice none 0 0, .slice none 0 0] 58)
            have hbz := hD.bel.size
            obtain ⟨va, vc, rfl, hv1, hv2, _⟩ := own_shp hown
            have HO2 := Lib.hid hown2
            have HD2 := Lib.hid hD2
            have HB2 := Lib.hid hB2
            have HNE := Lib.hid hne
            clear hown hD ht hf hown2 hD2 hB2 hne hB
            go_wp2_with (at_builtin; refine wpList_append_lies _ rfl (.tmp 40) (.tmp 42) 55 rfl w.heap.size 58 i0 _ 11 128 Try.underlying55 hi hz0 hz1 hz2 rfl (Nat.zero_lt_succ 10) (.slice va outs.length vc) outs.length (orow outs) rfl HO2.out ⟨wr.heap.size, 0, none⟩ 1 1 [.int .i64 x.time, .int .i64 x.node, .int .i64 0, .int .i64 x.mark, .int .i64 0, .int .i64 0, .int .i64 0, .int .i64 0, .string ByteArray.empty, .slice none 0 0, .slice none 0 0] rfl rfl ?c1 ?c2 (Nat.zero_lt_succ 0) ?c3 ?c4 ?c5 (wr.heap.size + 1) ?c6 ?_)
            case c1 => (intro j u hu; rcases j with _ | _ | _ | _ | _ | _ | _ | _ | _ | _ | _ | j <;> simp at hu <;> subst hu <;> simp [Addr.add, go_sem, *])
            case c2 => simp [Value.oneCell']
            case c3 => unfold maxLen; omega
            case c4 => omega
            case c5 => simp; omega
            case c6 => simp
            intro g2 c2 w2 ho2 hg2 ha2 hlt2
            have hD3 := HD2.out.grown HO2.out (Nat.le_refl _) hg2
            have hB3 : Blk w2 gt #[.int .i64 x.time, .int .i64 x.node, .int .i64 0, .int .i64 x.mark, .int .i64 0, .int .i64 0, .int .i64 0, .int .i64 0, .string ByteArray.empty, .slice none 0 0, .slice none 0 0] 58 := HB2.out.of_eq (hg2.block gt HB2.out.lt (fun e => HNE.out e.symm))
            have ho3 : w2.ownsRow w.heap.size 58 11 (.slice (some ⟨g2, 0, none⟩) (outs.length + 1) c2) (outs ++ [x]).length (orow (outs ++ [x])) := by rw [orow_snoc]; simpa using ho2
            have d0 : w2.cell? ⟨gt, 0, none⟩ = some (.int .i64 x.time) := hB3.cell (o := 0) rfl
            have d1 : w2.cell? ⟨gt, 1, none⟩ = some (.int .i64 x.node) := hB3.cell (o := 1) rfl
            have d2 : w2.cell? ⟨gt, 2, none⟩ = some (.int .i64 0) := hB3.cell (o := 2) rfl
            have d3 : w2.cell? ⟨gt, 3, none⟩ = some (.int .i64 x.mark) := hB3.cell (o := 3) rfl
            have d4 : w2.cell? ⟨gt, 4, none⟩ = some (.int .i64 0) := hB3.cell (o := 4) rfl
            have d5 : w2.cell? ⟨gt, 5, none⟩ = some (.int .i64 0) := hB3.cell (o := 5) rfl
            have d6 : w2.cell? ⟨gt, 6, none⟩ = some (.int .i64 0) := hB3.cell (o := 6) rfl
            have d7 : w2.cell? ⟨gt, 7, none⟩ = some (.int .i64 0) := hB3.cell (o := 7) rfl
            have d8 : w2.cell? ⟨gt, 8, none⟩ = some (.string ByteArray.empty) := hB3.cell (o := 8) rfl
            have d9 : w2.cell? ⟨gt, 9, none⟩ = some (.slice none 0 0) := hB3.cell (o := 9) rfl
            have d10 : w2.cell? ⟨gt, 10, none⟩ = some (.slice none 0 0) := hB3.cell (o := 10) rfl
            have hgz2 := hB3.lt
            clear c0 c1 c2' c3 c4 c5 c6 c7 c8 c9 c10 ho2 hg2 ha2 HO2 HD2 HB2 HNE
            rcases rest with _ | rest
            · have hal := (Below.refl w2.heap.size w2).alloc (Nat.le_refl _) (.cells #[.int .i64 x.time, .int .i64 x.node, .int .i64 0, .int .i64 x.mark, .int .i64 0, .int .i64 0, .int .i64 0, .int .i64 0, .string ByteArray.empty, .slice none 0 0, .slice none 0 0] 58)
              have hD4 := hD3.below hal
              have hB4 : Blk (w2.alloc (.cells #[.int .i64 x.time, .int .i64 x.node, .int .i64 0, .int .i64 x.mark, .int .i64 0, .int .i64 0, .int .i64 0, .int .i64 0, .string ByteArray.empty, .slice none 0 0, .slice none 0 0] 58)) w2.heap.size #[.int .i64 x.time, .int .i64 x.node, .int .i64 0, .int .i64 x.mark, .int .i64 0, .int .i64 0, .int .i64 0, .int .i64 0, .string ByteArray.empty, .slice none 0 0, .slice none 0 0] 58 := Blk.new _ _ _
              have ho4 := ho3.alloc (.cells #[.int .i64 x.time, .int .i64 x.node, .int .i64 0, .int .i64 x.mark, .int .i64 0, .int .i64 0, .int .i64 0, .int .i64 0, .string ByteArray.empty, .slice none 0 0, .slice none 0 0] 58)
              have hg4 : g2 ≠ w2.heap.size := by omega
              have K := Lib.hid (sPop0 hD4)
              clear hD3 hB3 ho3 hal hD4
              go_wp2_with fail
              refine K.out.mono ?_
              rintro e w3 ⟨rfl, hD5, hKp⟩
              have hB5 := hKp _ _ _ hB4 (by decide) (by decide)
              have ho5 := own_kept ho4 hKp
              have m0 : w3.cell? ⟨w2.heap.size, 0, none⟩ = some (.int .i64 x.time) := hB5.cell (o := 0) rfl
              have m1 : w3.cell? ⟨w2.heap.size, 1, none⟩ = some (.int .i64 x.node) := hB5.cell (o := 1) rfl
              have m2 : w3.cell? ⟨w2.heap.size, 2, none⟩ = some (.int .i64 0) := hB5.cell (o := 2) rfl
              have m3 : w3.cell? ⟨w2.heap.size, 3, none⟩ = some (.int .i64 x.mark) := hB5.cell (o := 3) rfl
              have m4 : w3.cell? ⟨w2.heap.size, 4, none⟩ = some (.int .i64 0) := hB5.cell (o := 4) rfl
              have m5 : w3.cell? ⟨w2.heap.size, 5, none⟩ = some (.int .i64 0) := hB5.cell (o := 5) rfl
              have m6 : w3.cell? ⟨w2.heap.size, 6, none⟩ = some (.int .i64 0) := hB5.cell (o := 6) rfl
              have m7 : w3.cell? ⟨w2.heap.size, 7, none⟩ = some (.int .i64 0) := hB5.cell (o := 7) rfl
              have m8 : w3.cell? ⟨w2.heap.size, 8, none⟩ = some (.string ByteArray.empty) := hB5.cell (o := 8) rfl
              have m9 : w3.cell? ⟨w2.heap.size, 9, none⟩ = some (.slice none 0 0) := hB5.cell (o := 9) rfl
              have m10 : w3.cell? ⟨w2.heap.size, 10, none⟩ = some (.slice none 0 0) := hB5.cell (o := 10) rfl
              have mf0 := hB5.free 0
              have mf1 := hB5.free 1
              have mf2 := hB5.free 2
              have mf3 := hB5.free 3
              have mf4 := hB5.free 4
              have mf5 := hB5.free 5
              have mf6 := hB5.free 6
              have mf7 := hB5.free 7
              have mf8 := hB5.free 8
              have mf9 := hB5.free 9
              have mf10 := hB5.free 10
              have hz5 := hB5.lt
              have hne5 : (Value.slice (some ⟨g2, 0, none⟩) (outs.length + 1) c2).ownBlock ≠ some w2.heap.size := fun e => hg4 (by injection e)
              have C5 : Chg (· = w2.heap.size) w3 (S11 w3 w2.heap.size 0 0 0) := S11_chg rfl
              have HE1 := Lib.hid (hD5.chg hB5 (by decide) (by decide) (by omega) C5)
              have HE2 := Lib.hid (own_setK ho5 C5 hne5)
              have HE3 : Hid (Blk (S11 w3 w2.heap.size 0 0 0) w2.heap.size #[.int .i64 0, .int .i64 0, .int .i64 0, .int .i64 0, .int .i64 0, .int .i64 0, .int .i64 0, .int .i64 0, .string ByteArray.empty, .slice none 0 0, .slice none 0 0] 58) := Lib.hid (S11_blk hB5)
              have HNE5 := Lib.hid hne5
              clear hB5 ho5 C5 hD5 hne5 hKp K hB4 ho4
              go_wp2
              go_roundw
              case rel => exact ⟨outs ++ [x], _, 0, w2.heap.size, false, _, rfl, rfl, by omega, HNE5.out, HE2.out, HE1.out, HE3.out, (fun h => by cases h), fun _ => ⟨rfl, rfl⟩⟩
              case measure => simp only [sliceLen]; omega
            · have hal := (Below.refl w2.heap.size w2).alloc (Nat.le_refl _) (.cells #[.int .i64 x.time, .int .i64 x.node, .int .i64 0, .int .i64 x.mark, .int .i64 0, .int .i64 0, .int .i64 0, .int .i64 0, .string ByteArray.empty, .slice none 0 0, .slice none 0 0] 58)
              have hD4 := hD3.below hal
              have hB4 : Blk (w2.alloc (.cells #[.int .i64 x.time, .int .i64 x.node, .int .i64 0, .int .i64 x.mark, .int .i64 0, .int .i64 0, .int .i64 0, .int .i64 0, .string ByteArray.empty, .slice none 0 0, .slice none 0 0] 58)) w2.heap.size #[.int .i64 x.time, .int .i64 x.node, .int .i64 0, .int .i64 x.mark, .int .i64 0, .int .i64 0, .int .i64 0, .int .i64 0, .string ByteArray.empty, .slice none 0 0, .slice none 0 0] 58 := Blk.new _ _ _
              have ho4 := ho3.alloc (.cells #[.int .i64 x.time, .int .i64 x.node, .int .i64 0, .int .i64 x.mark, .int .i64 0, .int .i64 0, .int .i64 0, .int .i64 0, .string ByteArray.empty, .slice none 0 0, .slice none 0 0] 58)
              have hg4 : g2 ≠ w2.heap.size := by omega
              obtain ⟨y, hK⟩ := sPop lessOkC hb0 hD4 (by have := HT.out; omega)
              have K := Lib.hid hK
              clear hK
              clear hD3 hB3 ho3 hal hD4
              go_wp2_with fail
              refine K.out.mono ?_
              rintro e w3 ⟨rfl, hD5, hKp, _⟩
              have hB5 := hKp _ _ _ hB4 (by decide) (by decide)
              have ho5 := own_kept ho4 hKp
              have m0 : w3.cell? ⟨w2.heap.size, 0, none⟩ = some (.int .i64 x.time) := hB5.cell (o := 0) rfl
              have m1 : w3.cell? ⟨w2.heap.size, 1, none⟩ = some (.int .i64 x.node) := hB5.cell (o := 1) rfl
              have m2 : w3.cell? ⟨w2.heap.size, 2, none⟩ = some (.int .i64 0) := hB5.cell (o := 2) rfl
              have m3 : w3.cell? ⟨w2.heap.size, 3, none⟩ = some (.int .i64 x.mark) := hB5.cell (o := 3) rfl
              have m4 : w3.cell? ⟨w2.heap.size, 4, none⟩ = some (.int .i64 0) := hB5.cell (o := 4) rfl
              have m5 : w3.cell? ⟨w2.heap.size, 5, none⟩ = some (.int .i64 0) := hB5.cell (o := 5) rfl
              have m6 : w3.cell? ⟨w2.heap.size, 6, none⟩ = some (.int .i64 0) := hB5.cell (o := 6) rfl
              have m7 : w3.cell? ⟨w2.heap.size, 7, none⟩ = some (.int .i64 0) := hB5.cell (o := 7) rfl
              have m8 : w3.cell? ⟨w2.heap.size, 8, none⟩ = some (.string ByteArray.empty) := hB5.cell (o := 8) rfl
              have m9 : w3.cell? ⟨w2.heap.size, 9, none⟩ = some (.slice none 0 0) := hB5.cell (o := 9) rfl
              have m10 : w3.cell? ⟨w2.heap.size, 10, none⟩ = some (.slice none 0 0) := hB5.cell (o := 10) rfl
              have mf0 := hB5.free 0
              have mf1 := hB5.free 1
              have mf2 := hB5.free 2
              have mf3 := hB5.free 3
              have mf4 := hB5.free 4
              have mf5 := hB5.free 5
              have mf6 := hB5.free 6
              have mf7 := hB5.free 7
              have mf8 := hB5.free 8
              have mf9 := hB5.free 9
              have mf10 := hB5.free 10
              have hz5 := hB5.lt
              have hne5 : (Value.slice (some ⟨g2, 0, none⟩) (outs.length + 1) c2).ownBlock ≠ some w2.heap.size := fun e => hg4 (by injection e)
              have C5 : Chg (· = w2.heap.size) w3 (S11 w3 w2.heap.size y.time y.node y.mark) := S11_chg rfl
              have HE1 := Lib.hid (hD5.chg hB5 (by decide) (by decide) (by omega) C5)
              have HE2 := Lib.hid (own_setK ho5 C5 hne5)
              have HE3 : Hid (Blk (S11 w3 w2.heap.size y.time y.node y.mark) w2.heap.size #[.int .i64 y.time, .int .i64 y.node, .int .i64 0, .int .i64 y.mark, .int .i64 0, .int .i64 0, .int .i64 0, .int .i64 0, .string ByteArray.empty, .slice none 0 0, .slice none 0 0] 58) := Lib.hid (S11_blk hB5)
              have HNE5 := Lib.hid hne5
              clear hB5 ho5 C5 hD5 hne5 hKp K hB4 ho4
              go_wp2
              go_roundw
              case rel => exact ⟨outs ++ [x], _, rest, w2.heap.size, true, _, rfl, rfl, by omega, HNE5.out, HE2.out, HE1.out, HE3.out, (fun _ => ⟨y, rfl, rfl⟩), (fun h => by cases h)⟩
              case measure => simp only [sliceLen]; omega
end Go.Proofs.Ythbalmoafpggdaa
