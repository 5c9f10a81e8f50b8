/- Contracts of package bitmap, continued: Run, Take, Bytes. -/
import Derived.Test.YtfcddpbpfckjfaaChecked
import Derived.WalkKit
import Derived.Outline
import Derived.WalkSpells
import Derived.WalkLawsBesides
import Derived.Deep.QuietTactic
import Derived.Deep.RegionWith
import Derived.Deep.DeepMust
import Derived.BigQuiet
import Derived.Test.YtfcddpbpfckjfaaMem
import Derived.RegionTactic
import Derived.ChangeAlike
import Derived.StillTailTactics
import Derived.BigRegion
import Derived.Laws.NewBlocks
import Derived.Lib.Bytes
import Derived.Test.YtfcddpbpfckjfaaBm
import Derived.Test.YtfcddpbpfckjfaaBmP
import Derived.Test.YtfcddpbpfckjfaaBEq
namespace Go.Proofs.Ytfcddpbpfckjfaa
open Go.RowKit
set_option linter.unusedVariables false
set_option linter.unusedSimpArgs false
def RunPost (a b u : Nat) (us : List Bool) (w : World) (e : Ending) (w' : World) : Prop := e = .returned (.tuple #[.int .i64 (a : Int), .int .i64 0]) ∧ MapAt w' b u us ∧ Chg (· = u) w w'
set_option maxHeartbeats 1000000 in
theorem bmRun (b u : Nat) (us : List Bool) (k n : Nat) (w : World) (h : MapAt w b u us) (hne : u ≠ b) (hk : 1 ≤ k) (hkl : k ≤ us.length) (hn : n < us.length) (hno : ∀ j, j ≤ n → rowTo us j ≠ k) (hy : rowTo us (n + 1) = k) :
    Calls Try.prog 137 #[.pointer (some ⟨b, 0, none⟩), .int .i64 k] w (RunPost (n + 1 - k) b u (fillTo us (n + 1 - k) k) w) := by
  have K := Lib.hid (bmSize b u us w h)
  have hc := h.1.cell (o := 0) rfl
  have hz := h.1.lt
  have hl := h.2.2
  have hzu := h.2.1.lt
  have HR := Lib.hid h.row
  have HY := Lib.hid hy
  have HN := Lib.hid hno
  have H := Lib.hid h
  clear h hy hno
  go_enter Try.func137, Try.ntmps137
  go_wp2_with (go_at_call 80; refine K.out.mono ?_; rintro e w' ⟨rfl, rfl⟩)
  go_loop [6, 23] (fun n' i => ∃ j : Nat, j ≤ n ∧ i = .int .i64 j ∧ n' = .int .i64 (rowTo us j)) (fun _ i => us.length - (intOf i).toNat)
  case atStart => exact ⟨0, Nat.zero_le _, rfl, rfl⟩
  case round =>
    obtain ⟨j, hj, rfl, rfl⟩ := hrel
    have hr := HR.out j (by omega)
    have hf := rowTo_le us j
    have hs : Hid (rowTo us (j + 1) = if us.getD j false = true then 0 else rowTo us j + 1) := Lib.hid rfl
    by_cases hjn : j < n
    · have hno := HN.out (j + 1) (by omega)
      cases hu : us.getD j false
      · rw [hs.out, hu, if_neg (by simp)] at hno
        rw [hu] at hr
        have HU := Lib.hid hu
        clear hu
        go_wp2
        go_round
        case rel => exact ⟨j + 1, by omega, by go_num, by rw [hs.out, HU.out, if_neg (by simp)]; go_num⟩
        case measure => simp [intOf]; omega
      · rw [hu] at hr
        have HU := Lib.hid hu
        clear hu hno
        go_wp2
        go_round
        case rel => exact ⟨j + 1, by omega, by go_num, by rw [hs.out, HU.out, if_pos rfl]; rfl⟩
        case measure => simp [intOf]; omega
    · obtain rfl : j = n := by omega
      have hu : us.getD j false = false := by
        cases hu : us.getD j false
        · rfl
        · have := hs.out
          rw [hu, if_pos rfl, HY.out] at this
          omega
      have hy2 := hs.out
      rw [hu, if_neg (by simp), HY.out] at hy2
      rw [hu] at hr
      have e2 : rowTo us j = k - 1 := by omega
      have E2 := Lib.hid e2
      have h1 : k - 1 ≤ j := by omega
      clear hu hy2 hs
      rw [E2.out] at hf ⊢
      clear e2
      obtain ⟨q, rfl⟩ : ∃ q, k = q + 1 := ⟨k - 1, by omega⟩
      simp only [Nat.add_sub_cancel] at *
      obtain ⟨a, rfl⟩ : ∃ a, j = a + q := ⟨j - q, by omega⟩
      go_wp2
      go_loopw [9] (fun v wr => ∃ t : Nat, t ≤ q + 1 ∧ v = .int .i64 (a + t : Nat) ∧ MapAt wr b u (fillTo us a t) ∧ Chg (· = u) w wr) (fun v _ => a + q + 1 - (intOf v).toNat)
      case atStart => exact ⟨0, by omega, by congr 1; omega, H.out, Chg.refl _ _⟩
      case round =>
        obtain ⟨t, ht, rfl, hm, hg⟩ := hrel
        have mc := hm.1.cell (o := 0) rfl
        have mz := hm.1.lt
        have ml := hm.2.2
        have mu := hm.2.1.lt
        have mf := hm.2.1.free (a + t)
        rw [fillTo_len] at mc
        have HM := Lib.hid hm
        have HG := Lib.hid hg
        clear hm hg hc
        by_cases hlt : t < q + 1
        · have hr2 := HM.out.row (a + t) (by rw [fillTo_len]; omega)
          generalize (fillTo us a t).getD (a + t) false = qq at hr2
          have ha : a + t < us.length := by omega
          go_wp2
          go_roundw
          case rel => exact ⟨t + 1, by omega, by go_num, HM.out.store hne (a + t) true, Chg.set (S := (· = u)) HG.out (p := ⟨u, a + t, none⟩) (fun _ => rfl) _⟩
          case measure => simp [intOf]; omega
        · obtain rfl : t = q + 1 := by omega
          go_wp2
          go_ret2
          exact ⟨by congr 1; simp; omega, by rw [show a + q + 1 - (q + 1) = a by omega]; exact HM.out, HG.out⟩

theorem bmTake (b u : Nat) (us : List Bool) (n : Nat) (w : World) (h : MapAt w b u us) (hne : u ≠ b) (hn : n < us.length) (hno : ∀ j, j ≤ n → rowTo us j ≠ 1) (hy : rowTo us (n + 1) = 1) :
    Calls Try.prog 132 #[.pointer (some ⟨b, 0, none⟩)] w (RunPost n b u (fillTo us n 1) w) := by
  have K := Lib.hid (bmSize b u us w h)
  have K2 := Lib.hid (bmRun b u us 1 n w h hne (by omega) (by omega) hn hno hy)
  have hl : 0 < us.length := by omega
  have hl' : ((us.length : Int) == 0) = false := by rw [beq_eq_false_iff_ne]; omega
  clear h hno hy
  go_enter Try.func132, Try.ntmps132
  go_wp2_with (first | (go_at_call 80; refine K.out.mono ?_; rintro e w' ⟨rfl, rfl⟩) | (go_at_call 137; refine K2.out.mono ?_; rintro e w' ⟨rfl, hm, hg⟩))
  go_ret2
  exact ⟨rfl, hm, hg⟩

theorem Try.infoU8 : (Try.prog.info? 5).map (fun i => (i.zero, i.size, i.bytes)) = some (some (.int .u8 0), 1, 1) := by kernel_rfl
def BytesPost (us : List Bool) (w : World) (e : Ending) (w' : World) : Prop := ∃ B : Nat, w.heap.size ≤ B ∧ e = .returned (.slice (some ⟨B, 0, none⟩) ((us.length + 7) / 8) ((us.length + 7) / 8)) ∧ Blk w' B ((pack us).map (.int .u8)).toArray 5 ∧ Below w.heap.size w w'
theorem packs_set_blk {w : World} {B k m T : Nat} {us : List Bool} (h : Blk w B ((packs (us.take k) m).map (.int .u8)).toArray T) (hu : us.getD k false = true) : Blk (w.setCell ⟨B, k / 8, none⟩ (.int .u8 ((packB (us.take k) (k / 8) ||| 2 ^ (k % 8) : Nat) : Int))) B ((packs (us.take (k + 1)) m).map (.int .u8)).toArray T := by
  have := h.set (k / 8) (.int .u8 ((packB (us.take k) (k / 8) ||| 2 ^ (k % 8) : Nat) : Int))
  rw [packs_step_yes us k m hu]
  simpa using this
theorem or_u8_pow (x t : Nat) (hx : x < 256) (ht : t < 8) : bits .or .u8 (x : Int) ((2 : Int) ^ t % 256) = ((x ||| 2 ^ t : Nat) : Int) := by
  have h2 : 2 ^ t < 256 := Nat.lt_of_lt_of_le (Nat.pow_lt_pow_right (by omega) ht) (by decide)
  have e : (2 : Int) ^ t % 256 = ((2 ^ t : Nat) : Int) := by
    have e0 : (2 : Int) ^ t = ((2 ^ t : Nat) : Int) := by simp [Int.natCast_pow]
    rw [e0]; exact Int.emod_eq_of_lt (Int.natCast_nonneg _) (Int.ofNat_lt.2 h2)
  rw [e]
  exact u8_or_nat x (2 ^ t) hx h2
end Go.Proofs.Ytfcddpbpfckjfaa
