/- An inode's bytes are read: one block. -/
import Derived.Test.YtfcddpbpfckjfaaChecked
import Derived.WalkKit
import Derived.Outline
import Derived.WalkSpells
import Derived.WalkLawsBesides
import Derived.Deep.QuietTactic
import Derived.Deep.RegionWith
import Derived.Deep.DeepMust
import Derived.BigQuiet
import Derived.Test.YtfcddpbpfckjfaaMem
import Derived.RegionTactic
import Derived.ChangeAlike
import Derived.StillTailTactics
import Derived.BigRegion
import Derived.Deep.LoopGhost
import Derived.Deep.RegionHeld3
import Derived.Deep.OwnRows
import Derived.Test.YtfcddpbpfckjfaaId
namespace Go.Proofs.Ytfcddpbpfckjfaa
open Go.RowKit
set_option linter.unusedVariables false
set_option linter.unusedSimpArgs false
theorem inoAt1 {w : World} {wb s x0 x1 x2 x3 x4 x5 x6 x7 x8 x9 : Nat} {cv mv one two more taken back : Value} (h : Blk w wb (workC s x0 x1 x2 x3 x4 x5 x6 x7 x8 x9 cv mv one two more taken back) 128) (hx : x1 ≤ 65536) :
    Calls Try.prog 72 #[.pointer (some ⟨wb, 0, none⟩), .int .i64 1] w fun e w' => e = .returned (.int .i64 (x1 : Int)) ∧ w = w' := by
  have c2 : w.cell? ⟨wb, 2, none⟩ = some (u32v x1) := h.cell (o := 2) rfl
  have k1 : (0 : Int) ≤ x1 := by omega
  have k2 : (x1 : Int) ≤ 65536 := by omega
  clear h
  go_enter Try.func72, Try.ntmps72
  go_wp2
  go_ret
  exact ⟨rfl, rfl⟩
/-- A cache that holds block 1 of a volume. -/
structure DiskA (w : World) (vb b g cb mb hb : Nat) (ls : List (List Int)) (l : List Int) (t hits used : Int) (d : Bool) : Prop where
  cch : CchS w vb cb mb (some (1, hb)) t hits 0
  held : HeldAt w hb 1 l used d
  vol : VolAt w vb b g ls 0 0 false
  len : ls.length ≤ 65536 ∧ 2 ≤ ls.length
  blk : ∀ x ∈ ls, x.length = 512
theorem inoBlock1 {w : World} {wb s x0 x2 x3 x4 x5 x6 x7 x8 x9 : Nat} {mv one two more taken back : Value} {vb b g cb mb hb : Nat} {ls : List (List Int)} {l : List Int} {t hits used : Int} {d : Bool}
    (h : Blk w wb (workC s x0 1 x2 x3 x4 x5 x6 x7 x8 x9 (.pointer (some ⟨cb, 0, none⟩)) mv one two more taken back) 128) (hD : DiskA w vb b g cb mb hb ls l t hits used d) (hl : l.length = 512) (ht : 0 ≤ t ∧ t ≤ 1000) (hh : 0 ≤ hits ∧ hits ≤ 1000) :
    Calls Try.prog 73 #[.pointer (some ⟨wb, 0, none⟩), .int .i64 1] w (Get1Post vb cb mb hb 1 l d t hits 0 w) := by
  have c11 : w.cell? ⟨wb, 11, none⟩ = some (.pointer (some ⟨cb, 0, none⟩)) := h.cell (o := 11) rfl
  have KA := Lib.hid (inoAt1 h (by omega))
  have h1 : 1 < ls.length := by have := hD.len; omega
  have KG := Lib.hid (bcGet1 hD.cch hD.held hD.vol hD.len.1 h1 (by rw [hD.blk _ (List.getElem_mem h1)]; omega) (by rw [hl]; omega) ht hh)
  clear h hD hl h1
  go_enter Try.func73, Try.ntmps73
  go_wp2_with fail
  refine KA.out.mono ?_
  rintro e w1 ⟨rfl, rfl⟩
  go_wp2_with fail
  refine KG.out.mono ?_
  rintro e w1 ⟨v, rfl, h1, h2, h3, h4⟩
  have P : Hid (Get1Post vb cb mb hb 1 l d t hits 0 w (.returned (.tuple #[v, .int .i64 0])) w1) := Lib.hid ⟨v, rfl, h1, h2, h3, h4⟩
  obtain ⟨oa, oc, rfl, _, _, _⟩ := own_shape h1
  clear h1 h2 h3 h4
  go_wp2
  go_ret2
  exact P.out
def TakePost (vb cb mb hb rb wb : Nat) (l : List Int) (d : Bool) (t hits : Int) (w : World) (e : Ending) (w' : World) : Prop :=
  e = .returned (.int .i64 0) ∧ ∃ v, Blk w' rb #[.pointer (some ⟨wb, 0, none⟩), v] 121 ∧ Rdv u8v w' v l ∧ CchS w' vb cb mb (some (1, hb)) (t + 1) (hits + 1) 0 ∧ HeldAt w' hb 1 l (t + 1) d ∧ Chg (fun k => k = cb ∨ k = hb ∨ k = rb) w w'
set_option maxRecDepth 100000 in
theorem inoTake1 {w : World} {rb wb s x0 x2 x3 x4 x5 x6 x7 x8 x9 : Nat} {mv one two more taken back : Value} {vb b g cb mb hb : Nat} {ls : List (List Int)} {l : List Int} {t hits used : Int} {d : Bool}
    (hr : Blk w rb #[.pointer (some ⟨wb, 0, none⟩), .slice none 0 0] 121) (h : Blk w wb (workC s x0 1 x2 x3 x4 x5 x6 x7 x8 x9 (.pointer (some ⟨cb, 0, none⟩)) mv one two more taken back) 128) (hD : DiskA w vb b g cb mb hb ls l t hits used d) (hl : l.length = 512) (ht : 0 ≤ t ∧ t ≤ 1000) (hh : 0 ≤ hits ∧ hits ≤ 1000) (hne : rb ≠ cb ∧ rb ≠ hb) :
    Calls Try.prog 67 #[.pointer (some ⟨rb, 0, none⟩), .int .i64 1] w (TakePost vb cb mb hb rb wb l d t hits w) := by
  have c0 : w.cell? ⟨rb, 0, none⟩ = some (.pointer (some ⟨wb, 0, none⟩)) := hr.cell (o := 0) rfl
  have KB := Lib.hid (inoBlock1 h hD hl ht hh)
  have HR := Lib.hid hr
  have HL := Lib.hid hl
  obtain ⟨i0, hi, hz0, hz1, hz2⟩ := info_parts Try.info5
  clear h hD hr hl
  go_enter Try.func67, Try.ntmps67
  go_wp2_with fail
  refine KB.out.mono ?_
  rintro e w1 ⟨v, rfl, ho, hC, hH, hg⟩
  obtain ⟨oa, oc, rfl, _, _, _⟩ := own_shape ho
  have R1 := Lib.hid (hg.blk HR.out (by rintro (e | e); exact hne.1 e; exact hne.2 e))
  have O1 := Lib.hid (Rdv.of_owns ho)
  have C1 := Lib.hid hC
  have H1 := Lib.hid hH
  have G1 := Lib.hid hg
  have d0 : w1.cell? ⟨rb, 1, none⟩ = some (.slice none 0 0) := R1.out.cell (o := 1) rfl
  have f0 := R1.out.free 1
  have hrl := R1.out.lt
  clear ho hC hH hg c0 KB
  go_wp2_with (at_builtin; refine wpList_append_rd rfl _ _ 48 rfl w1.heap.size 5 i0 (.int .u8 0) 1 Try.underlying48 hi hz0 hz1 hz2 rfl _ 0 [] rfl (World.ownsRow_nil _ _ _ _) _ u8v l rfl O1.out (fun _ => rfl) (by rw [HL.out]; unfold maxLen; omega) (by rw [HL.out]; omega) (Nat.le_refl _) ?_)
  intro v2 w2 ho2 hg2 _

  have hb2 : Below w1.heap.size w1 w2 := (Below.refl _ _).grown hg2 (Nat.le_refl _) (fun q hq => by simp [Value.ownBlock] at hq)
  obtain ⟨pa, pc, rfl, _, _, _⟩ := own_shape ho2
  have O2 := Lib.hid (Rdv.of_owns ho2)
  have R2 := Lib.hid (blkBelow hb2 R1.out hrl)
  have C2 := Lib.hid (C1.out.below hb2)
  have H2 := Lib.hid (H1.out.stay (Chg.of_below (S := fun _ => False) hb2 (fun i h1 h2 => absurd h1 (Nat.not_lt.2 h2))) (fun k hk => hk.elim))
  have G2 := Lib.hid (G1.out.trans (Chg.of_below (S := cS3 cb hb) hb2 (fun i h1 h2 => absurd h1 (Nat.not_lt.2 h2))))
  have e0 : w2.cell? ⟨rb, 1, none⟩ = some (.slice none 0 0) := R2.out.cell (o := 1) rfl
  have f2 := R2.out.free 1
  have hrl2 := R2.out.lt
  clear ho2 hg2 hb2 d0 f0 C1 H1 G1 O1 R1
  have hc3 : Chg (· = rb) w2 (w2.setCell ⟨rb, 1, none⟩ (.slice pa l.length pc)) := Chg.set (S := (· = rb)) (Chg.refl _ _) (p := ⟨rb, 1, none⟩) (fun _ => rfl) _
  have hpr : Plain w2 rb := ⟨_, _, R2.out, fun i n e => by rcases i with _ | _ | i <;> simp at e⟩
  have R3 := Lib.hid (R2.out.set 1 (.slice pa l.length pc))
  have O3 := Lib.hid (O2.out.stay hc3 (fun k hk => hk ▸ hpr))
  have C3 := Lib.hid (C2.out.stay hc3 (fun e => hne.1 e.symm) (fun e => by
    obtain ⟨es, clock, he, _⟩ := C2.out.2
    have h1 : w2.heap[rb]? = _ := R2.out
    rw [← e, he] at h1
    cases h1))
  have H3 := Lib.hid (H2.out.stay hc3 (fun k hk => by subst hk; exact ⟨hpr, hne.2⟩))
  have G3 := Lib.hid ((G2.out.mono (S' := fun k => k = cb ∨ k = hb ∨ k = rb) (fun i _ h => by rcases h with h | h; exact .inl h; exact .inr (.inl h))).trans (hc3.mono fun i _ h => .inr (.inr h)))
  clear hc3 hpr
  go_wp2
  go_ret
  exact ⟨rfl, _, R3.out, O3.out, C3.out, H3.out, G3.out⟩
theorem eachStep {w : World} (k : FuncId) (first : Array Value) (Q : World → Prop) (hcf : ∀ args w, (callFunc k args).run Try.prog w = .ok (.enter k args) w) (K : Calls Try.prog k (first ++ (#[.int .i64 1] ++ #[])) w fun e w' => e = .returned (.int .i64 0) ∧ Q w') :
    Calls Try.prog 66 #[.int .i64 1, .int .i64 2, .func (.func k) first #[]] w fun e w' => e = .returned (.int .i64 0) ∧ Q w' := by
  have KK := Lib.hid K
  clear K
  go_enter Try.func66, Try.ntmps66
  go_wp2
  go_loopw [7, 8] (fun iv _ wr => (iv = .int .i64 1 ∧ wr = w) ∨ (iv = .int .i64 2 ∧ Q wr)) (fun iv _ _ => 2 - (intOf iv).toNat)
  case atStart => exact .inl ⟨rfl, rfl⟩
  case round =>
    rcases hrel with ⟨rfl, rfl⟩ | ⟨rfl, hq⟩
    · go_wp2_with fail
      refine KK.out.mono ?_
      rintro e w1 ⟨rfl, hq⟩
      have HQ := Lib.hid hq
      clear hq
      go_wp2
      go_roundw
      case rel => exact .inr ⟨by go_num, HQ.out⟩
      case measure => simp [intOf]
    · have HQ := Lib.hid hq
      clear hq
      go_wp2
      go_ret
      exact ⟨rfl, HQ.out⟩
end Go.Proofs.Ytfcddpbpfckjfaa
