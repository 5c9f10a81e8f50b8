/- A volume: which head counts. -/
import Derived.Test.YtfcddpbpfckjfaaChecked
import Derived.WalkKit
import Derived.Outline
import Derived.WalkSpells
import Derived.WalkLawsBesides
import Derived.Deep.QuietTactic
import Derived.Deep.RegionWith
import Derived.Deep.DeepMust
import Derived.BigQuiet
import Derived.Test.YtfcddpbpfckjfaaMem
import Derived.RegionTactic
import Derived.ChangeAlike
import Derived.StillTailTactics
import Derived.BigRegion
import Derived.Deep.LoopGhost
import Derived.Test.YtfcddpbpfckjfaaWb
namespace Go.Proofs.Ytfcddpbpfckjfaa
open Go.RowKit
set_option linter.unusedVariables false
set_option linter.unusedSimpArgs false
abbrev HdK := Option (Nat × Nat)
/-- A block that is a head, or zeros. -/
def hdL : HdK → List Int
  | none => List.replicate 512 0
  | some (k, c) => headL k c
def HdOk : HdK → Prop
  | none => True
  | some (k, c) => k ≤ 2147483647 ∧ c ≤ 2147483647
def stepH (a : Int × Int) (i : Nat) : HdK → Int × Int
  | none => a
  | some (k, c) => if a.1 < k ∧ k % 2 = i then (k, c) else a
def hdNum : HdK → Nat × Nat
  | none => (0, 0)
  | some p => p
theorem hdL_len (h : HdK) : (hdL h).length = 512 := by
  cases h with
  | none => exact List.length_replicate
  | some p => exact headL_len p.1 p.2
theorem hdL_byt (h : HdK) : Byt (hdL h) := by
  cases h with
  | none =>
    intro q hq
    have := (List.mem_replicate.1 hq).2
    omega
  | some p => exact headL_byt p.1 p.2
theorem drop_getD (l : List Int) (n i : Nat) : (l.drop n).getD i 0 = l.getD (n + i) 0 := by simp [List.getD_eq_getElem?_getD]
theorem zeros_getD (n i : Nat) : (List.replicate n (0 : Int)).getD i 0 = 0 := by
  rw [List.getD_eq_getElem?_getD, List.getElem?_replicate]
  split <;> rfl
theorem head_drop16 (k c : Nat) : (headL k c).drop 16 = le4 k ++ ([0, 0, 0, 0] ++ (le8 c ++ (le4 (crcOf (preL k c)) ++ List.replicate 476 0))) := by
  unfold headL preL le8
  simp only [List.append_assoc]
  exact List.drop_left (l₁ := magicL)
theorem head_drop24 (k c : Nat) : (headL k c).drop 24 = le4 c ++ ([0, 0, 0, 0] ++ (le4 (crcOf (preL k c)) ++ List.replicate 476 0)) := by
  rw [show (24 : Nat) = 16 + 8 by omega, ← List.drop_drop, head_drop16]
  rfl
theorem get4_at {x : Nat} (hx : x < 4294967296) (r : List Int) : get4 (le4 x ++ r) = x := by
  have h0 : (le4 x ++ r).getD 0 0 = ((x % 256 : Nat) : Int) := rfl
  have h1 : (le4 x ++ r).getD 1 0 = ((x / 256 % 256 : Nat) : Int) := rfl
  have h2 : (le4 x ++ r).getD 2 0 = ((x / 65536 % 256 : Nat) : Int) := rfl
  have h3 : (le4 x ++ r).getD 3 0 = ((x / 16777216 % 256 : Nat) : Int) := rfl
  rw [get4_of h0 h1 h2 h3]
  exact v4_le4 x hx
/-- The numbers of a head, as they are read. -/
theorem hd_reads (h : HdK) (hh : HdOk h) (n : Nat) (hn : n = 16 ∨ n = 24) : get4 ((hdL h).drop n) = (if n = 16 then (hdNum h).1 else (hdNum h).2) ∧ ((hdL h).drop n).getD 4 0 = 0 ∧ ((hdL h).drop n).getD 5 0 = 0 ∧ ((hdL h).drop n).getD 6 0 = 0 ∧ ((hdL h).drop n).getD 7 0 = 0 := by
  cases h with
  | none =>
    simp only [hdL, drop_getD, zeros_getD, true_and, and_true]
    unfold get4
    simp only [drop_getD, zeros_getD]
    rcases hn with rfl | rfl <;> rfl
  | some p =>
    obtain ⟨k, c⟩ := p
    have h1 : k ≤ 2147483647 ∧ c ≤ 2147483647 := hh
    rcases hn with rfl | rfl
    · simp only [hdL, head_drop16]
      exact ⟨get4_at (by omega) _, rfl, rfl, rfl, rfl⟩
    · simp only [hdL, head_drop24]
      exact ⟨get4_at (by omega) _, rfl, rfl, rfl, rfl⟩
theorem zeros_no_head : decide (List.replicate 512 (0 : Int) = headL 0 0) = false := by
  rw [decide_eq_false_iff_not]
  intro e
  have := congrArg (fun l : List Int => l.getD 0 0) e
  rw [zeros_getD] at this
  exact absurd this (by decide)
/-- A volume's own cells. -/
def VolB (w : World) (vb b : Nat) (l : Value) (kept commits : Int) (ch br : Bool) : Prop := Blk w vb #[.pointer (some ⟨b, 0, none⟩), l, .int .i64 kept, .int .i64 commits, .bool ch, .bool br] 188
theorem VolB.set2 {w : World} {vb b : Nat} {l : Value} {k c : Int} {ch br : Bool} (h : VolB w vb b l k c ch br) (k' : Int) : VolB (w.setCell ⟨vb, 2, none⟩ (.int .i64 k')) vb b l k' c ch br := Blk.set h 2 (.int .i64 k')
theorem VolB.set3 {w : World} {vb b : Nat} {l : Value} {k c : Int} {ch br : Bool} (h : VolB w vb b l k c ch br) (c' : Int) : VolB (w.setCell ⟨vb, 3, none⟩ (.int .i64 c')) vb b l k c' ch br := Blk.set h 3 (.int .i64 c')
theorem VolB.plain {w : World} {vb b : Nat} {a : Option Addr} {n m : Nat} {k c : Int} {ch br : Bool} (h : VolB w vb b (.slice a n m) k c ch br) : Plain w vb := ⟨_, _, h, fun i n e => by
  rcases i with _ | _ | _ | _ | _ | _ | i <;> simp at e⟩
def accH (h0 h1 : HdK) : Nat → Int × Int
  | 0 => (-1, 0)
  | 1 => stepH (-1, 0) 0 h0
  | _ => stepH (stepH (-1, 0) 0 h0) 1 h1
theorem accH_succ (h0 h1 : HdK) (i : Nat) (hi : i < 2) : accH h0 h1 (i + 1) = stepH (accH h0 h1 i) i (if i = 0 then h0 else h1) := by
  rcases (show i = 0 ∨ i = 1 by omega) with rfl | rfl <;> rfl
theorem stepH_lo {a : Int × Int} {i : Nat} {h : HdK} (ha : -1 ≤ a.1 ∧ a.1 ≤ 2147483647) (hh : HdOk h) : -1 ≤ (stepH a i h).1 ∧ (stepH a i h).1 ≤ 2147483647 := by
  cases h with
  | none => exact ha
  | some p =>
    obtain ⟨k, c⟩ := p
    have : k ≤ 2147483647 ∧ c ≤ 2147483647 := hh
    unfold stepH
    simp only
    split
    · simp only; omega
    · exact ha
theorem accH_lo (h0 h1 : HdK) (k0 : HdOk h0) (k1 : HdOk h1) : ∀ i, -1 ≤ (accH h0 h1 i).1 ∧ (accH h0 h1 i).1 ≤ 2147483647
  | 0 => by unfold accH; simp
  | 1 => stepH_lo (by simp) k0
  | _ + 2 => stepH_lo (stepH_lo (by simp) k0) k1
def HeadsPost (vb b : Nat) (l : Value) (a : Int × Int) (w : World) (e : Ending) (w' : World) : Prop :=
  e = .returned (.int .i64 0) ∧ VolB w' vb b l a.1 a.2 false false ∧ Chg (· = vb) w w'
set_option maxHeartbeats 2000000 in
set_option maxRecDepth 100000 in
theorem walHeads {w : World} {vb b u : Nat} {bs : List (List Int)} {co : Int} {fl : Bool} {la : Option Addr} {ln lc : Nat} {k0 c0 : Int} {h0 h1 : HdK} (hV : VolB w vb b (.slice la ln lc) k0 c0 false false) (hD : DevC w b u bs co fl) (hvb : vb ≠ b ∧ vb ≠ u)
    (e0 : bs[0]? = some (hdL h0)) (e1 : bs[1]? = some (hdL h1)) (o0 : HdOk h0) (o1 : HdOk h1) (hc0 : c0 = 0) (hpos : 0 ≤ (accH h0 h1 2).1) :
    Calls Try.prog 111 #[.pointer (some ⟨vb, 0, none⟩)] w (HeadsPost vb b (.slice la ln lc) (accH h0 h1 2) w) := by
  subst hc0
  have f2 := Blk.free hV 2
  have hvl := Blk.lt hV
  have HV := Lib.hid hV
  have HD := Lib.hid hD
  have E0 := Lib.hid e0
  have E1 := Lib.hid e1
  have O0 := Lib.hid o0
  have O1 := Lib.hid o1
  have HP := Lib.hid hpos
  have c2 : w.cell? ⟨vb, 2, none⟩ = some (.int .i64 k0) := Blk.cell hV (o := 2) rfl
  clear hV hD e0 e1 o0 o1 hpos
  go_enter Try.func111, Try.ntmps111
  go_wp2
  have V1 := Lib.hid (HV.out.set2 (-1))
  have C1 := Lib.hid (Chg.set (S := (· = vb)) (Chg.refl (· = vb) w) (p := ⟨vb, 2, none⟩) (fun _ => rfl) (.int .i64 (-1)))
  go_loopw [3, 11] (fun _ iv wr => ∃ i : Nat, i ≤ 2 ∧ iv = .int .i64 i ∧ VolB wr vb b (.slice la ln lc) (accH h0 h1 i).1 (accH h0 h1 i).2 false false ∧ Chg (· = vb) w wr) (fun _ iv _ => 2 - (intOf iv).toNat)
  case atStart => exact ⟨0, by omega, rfl, V1.out, C1.out⟩
  case round =>
    obtain ⟨i, hi, rfl, hV, hC⟩ := hrel
    clear c2 f2
    have c0 : wr.cell? ⟨vb, 0, none⟩ = some (.pointer (some ⟨b, 0, none⟩)) := Blk.cell hV (o := 0) rfl
    have c2 : wr.cell? ⟨vb, 2, none⟩ = some (.int .i64 (accH h0 h1 i).1) := Blk.cell hV (o := 2) rfl
    have c3 : wr.cell? ⟨vb, 3, none⟩ = some (.int .i64 (accH h0 h1 i).2) := Blk.cell hV (o := 3) rfl
    have f2 := Blk.free hV 2
    have f3 := Blk.free hV 3
    have hlv := Blk.lt hV
    have hlo := accH_lo h0 h1 O0.out O1.out i
    by_cases hlt : i < 2
    · have hs := accH_succ h0 h1 i hlt
      have hD : DevC wr b u bs co fl := HD.out.stay hC (fun k hk => by subst hk; exact ⟨HV.out.plain, hvb.1, hvb.2⟩)
      have hlen : i < bs.length := by
        rcases (show i = 0 ∨ i = 1 by omega) with rfl | rfl
        · rcases Nat.lt_or_ge 0 bs.length with h | h
          · exact h
          · have := E0.out; rw [List.getElem?_eq_none h] at this; cases this
        · rcases Nat.lt_or_ge 1 bs.length with h | h
          · exact h
          · have := E1.out; rw [List.getElem?_eq_none h] at this; cases this
      obtain ⟨h, hh, hok, hhi⟩ : ∃ h : HdK, bs[i] = hdL h ∧ HdOk h ∧ (if i = 0 then h0 else h1) = h := by
        rcases (show i = 0 ∨ i = 1 by omega) with rfl | rfl
        · refine ⟨h0, ?_, O0.out, rfl⟩
          have := E0.out
          rw [List.getElem?_eq_getElem hlen] at this
          injection this
        · refine ⟨h1, ?_, O1.out, rfl⟩
          have := E1.out
          rw [List.getElem?_eq_getElem hlen] at this
          injection this
      have KR := dcRead hD i hlen
      rw [hh] at KR
      rw [hhi] at hs
      have KR2 := Lib.hid KR
      have HS := Lib.hid hs
      have HVr := Lib.hid hV
      have HCr := Lib.hid hC
      have HOK := Lib.hid hok
      clear hs hV hC hD hlen hh hhi KR hok
      generalize accH h0 h1 i = a at *
      obtain ⟨ka, ca⟩ := a
      simp only at *
      have k1 : (0 : Int) ≤ i := by omega
      have k2 : (i : Int) < 2 := by omega
      go_wp2_with fail
      refine KR2.out.mono ?_
      rintro e w3 ⟨v3, rfl, ⟨g, c, rfl, _⟩, ho3, hb3⟩
      have hr3 := Rdv.of_owns ho3
      have hll := hdL_len h
      obtain ⟨_, hc1, hc2, _⟩ := hr3.cap
      unfold maxLen at hc2
      have G16 : ∀ n, Calls Try.prog 128 #[.slice (some ⟨g, 16, none⟩) ((hdL h).length - 16) (c - 16)] (w3.drewN n) fun e w' => e = .returned (.int .u64 (get4 ((hdL h).drop 16) : Nat)) ∧ Drw (w3.drewN n) w' := fun n => get64 _ _ (w3.drewN n) (by have := (hr3.drop 16 (by omega)).drewN n; rwa [Nat.zero_add] at this) ((hdL_byt h).drop 16) (by rw [List.length_drop, hdL_len]; omega) (hd_reads h HOK.out 16 (.inl rfl)).2.1 (hd_reads h HOK.out 16 (.inl rfl)).2.2.1 (hd_reads h HOK.out 16 (.inl rfl)).2.2.2.1 (hd_reads h HOK.out 16 (.inl rfl)).2.2.2.2
      have G24 : ∀ n, Calls Try.prog 128 #[.slice (some ⟨g, 24, none⟩) ((hdL h).length - 24) (c - 24)] (w3.drewN n) fun e w' => e = .returned (.int .u64 (get4 ((hdL h).drop 24) : Nat)) ∧ Drw (w3.drewN n) w' := fun n => get64 _ _ (w3.drewN n) (by have := (hr3.drop 24 (by omega)).drewN n; rwa [Nat.zero_add] at this) ((hdL_byt h).drop 24) (by rw [List.length_drop, hdL_len]; omega) (hd_reads h HOK.out 24 (.inr rfl)).2.1 (hd_reads h HOK.out 24 (.inr rfl)).2.2.1 (hd_reads h HOK.out 24 (.inr rfl)).2.2.2.1 (hd_reads h HOK.out 24 (.inr rfl)).2.2.2.2
      rw [(hd_reads h HOK.out 16 (.inl rfl)).1, if_pos rfl] at G16
      rw [(hd_reads h HOK.out 24 (.inr rfl)).1, if_neg (by decide)] at G24
      have K16 := Lib.hid G16
      have K24 := Lib.hid G24
      have R3 := Lib.hid hr3
      have V3 := Lib.hid (show VolB w3 vb b (.slice la ln lc) ka ca false false from blkBelow hb3 HVr.out hlv)
      have C3 := Lib.hid (HCr.out.trans' (S' := fun _ => False) (Chg.of_below hb3 (fun i h1 h2 => by omega)) (fun i _ e => e.elim))
      have hb : (hdNum h).1 ≤ 2147483647 ∧ (hdNum h).2 ≤ 2147483647 := by
        cases h with
        | none => exact ⟨by simp [hdNum], by simp [hdNum]⟩
        | some p => exact HOK.out
      have HS2 : Hid (stepH (ka, ca) i h = if h.isSome = true ∧ ka < (hdNum h).1 ∧ (hdNum h).1 % 2 = i then (((hdNum h).1 : Int), ((hdNum h).2 : Int)) else (ka, ca)) := Lib.hid (by
        cases h with
        | none => rfl
        | some p => simp [stepH, hdNum])
      have HEq : Hid (decide (hdL h = headL (hdNum h).1 (hdNum h).2) = h.isSome) := Lib.hid (by
        cases h with
        | none => exact zeros_no_head
        | some p => exact decide_eq_true rfl)
      have KH := Lib.hid (fun w' => walHead (hdNum h).1 (hdNum h).2 w' (by omega) (by omega))
      clear ho3 hr3 hb3 G16 G24 HVr HCr HOK KR2 c2 f2 f3 c3 c0
      have c2 : w3.cell? ⟨vb, 2, none⟩ = some (.int .i64 ka) := Blk.cell V3.out (o := 2) rfl
      have f2 := Blk.free V3.out 2
      have f3 := Blk.free V3.out 3
      have c3 : w3.cell? ⟨vb, 3, none⟩ = some (.int .i64 ca) := Blk.cell V3.out (o := 3) rfl
      have hl3 := Blk.lt V3.out
      generalize (hdNum h).1 = kn at *
      generalize (hdNum h).2 = cn at *
      have m1 : (0 : Int) ≤ kn := by omega
      have m2 : (kn : Int) ≤ 2147483647 := by omega
      have m3 : (0 : Int) ≤ cn := by omega
      have m4 : (cn : Int) ≤ 2147483647 := by omega
      have m5 : IntKind.i64.wrap (kn : Int) = kn := by rw [IntKind.wrap_i64]; omega
      have m6 : IntKind.i64.wrap (cn : Int) = cn := by rw [IntKind.wrap_i64]; omega
      have n1 : ¬ 16 = c := by omega
      have n2 : ¬ 24 = c := by omega
      have n3 : (16 : Int) ≤ (hdL h).length := by omega
      have n4 : (24 : Int) ≤ (hdL h).length := by omega
      have n5 : ((hdL h).length : Int) ≤ c := by omega
      clear hll
      go_wp2
      go_quiet ((first | (go_at_call 128; (with_reducible exact quiD (K16.out _))) | (go_at_call 128; (with_reducible exact quiD (K24.out _)))))
      by_cases q1 : ka < kn
      · by_cases q2 : kn % 2 = i
        · have b1 : ((kn : Int) % 2 == i) = true := beq_iff_eq.2 (by omega)
          go_wp2_with fail
          refine (KH.out _).mono ?_
          rintro e w5 ⟨v5, rfl, ho5, hb5⟩
          have hb5' : Below w3.heap.size w3 w5 := (Drw.below ⟨_, rfl⟩ : Below w3.heap.size w3 _).trans hb5
          have V5 := Lib.hid (show VolB w5 vb b (.slice la ln lc) ka ca false false from blkBelow hb5' V3.out hl3)
          have C5 := Lib.hid (C3.out.trans' (S' := fun _ => False) (Chg.of_below hb5' (fun i h1 h2 => by omega)) (fun i _ e => e.elim))
          have KE := Lib.hid (bytesEqual _ _ (hdL h) (headL kn cn) w5 (R3.out.below hb5') (Rdv.of_owns ho5) (hdL_byt h) (headL_byt kn cn))
          rw [HEq.out] at KE
          clear hb5 hb5' ho5 c2 f2 f3 c3 hl3
          go_wp2_with fail
          refine KE.out.mono ?_
          rintro e w6 ⟨rfl, rfl⟩
          have c2 : w5.cell? ⟨vb, 2, none⟩ = some (.int .i64 ka) := Blk.cell V5.out (o := 2) rfl
          have f2 := Blk.free V5.out 2
          have f3 := Blk.free V5.out 3
          have c3 : w5.cell? ⟨vb, 3, none⟩ = some (.int .i64 ca) := Blk.cell V5.out (o := 3) rfl
          have hl5 := Blk.lt V5.out
          cases hq : h.isSome
          · rw [hq] at HS2
            have hst : Hid (accH h0 h1 (i + 1) = (ka, ca)) := Lib.hid (by rw [HS.out, HS2.out, if_neg (by simp)])
            clear hq
            go_wp2
            go_roundw
            case rel => exact ⟨i + 1, by omega, by go_num, by rw [hst.out]; exact V5.out, C5.out⟩
            case measure => simp [intOf]; omega
          · rw [hq] at HS2
            have hst : Hid (accH h0 h1 (i + 1) = ((kn : Int), (cn : Int))) := Lib.hid (by rw [HS.out, HS2.out, if_pos ⟨rfl, q1, q2⟩])
            have V7 := Lib.hid ((V5.out.set2 kn).set3 cn)
            have C7 := Lib.hid (Chg.set (S := (· = vb)) (Chg.set (S := (· = vb)) C5.out (p := ⟨vb, 2, none⟩) (fun _ => rfl) (.int .i64 (kn : Int))) (p := ⟨vb, 3, none⟩) (fun _ => rfl) (.int .i64 (cn : Int)))
            clear hq
            go_wp2
            go_roundw
            case rel => exact ⟨i + 1, by omega, by go_num, by rw [hst.out]; exact V7.out, C7.out⟩
            case measure => simp [intOf]; omega
        · have b1 : ((kn : Int) % 2 == i) = false := beq_eq_false_iff_ne.2 (by omega)
          have hst : Hid (accH h0 h1 (i + 1) = (ka, ca)) := Lib.hid (by rw [HS.out, HS2.out, if_neg (fun e => q2 e.2.2)])
          go_wp2
          go_roundw
          case rel => exact ⟨i + 1, by omega, by go_num, by rw [hst.out]; exact V3.out, C3.out.drewN _⟩
          case measure => simp [intOf]; omega
      · have hst : Hid (accH h0 h1 (i + 1) = (ka, ca)) := Lib.hid (by rw [HS.out, HS2.out, if_neg (fun e => q1 e.2.1)])
        go_wp2
        go_roundw
        case rel => exact ⟨i + 1, by omega, by go_num, by rw [hst.out]; exact V3.out, C3.out.drewN _⟩
        case measure => simp [intOf]; omega
    · obtain rfl : i = 2 := by omega
      have HVr := Lib.hid hV
      have HCr := Lib.hid hC
      have hp := HP.out
      clear hV hC f2 f3 c3 c0
      generalize accH h0 h1 2 = a at *
      obtain ⟨ka, ca⟩ := a
      simp only at *
      go_wp2
      go_ret
      exact ⟨rfl, HVr.out, HCr.out⟩
end Go.Proofs.Ytfcddpbpfckjfaa
