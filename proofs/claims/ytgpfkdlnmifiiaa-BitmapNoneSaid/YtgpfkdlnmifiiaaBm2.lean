/- Contracts of package bitmap, continued: Run, Take, Bytes. -/
import Derived.Test.YtgpfkdlnmifiiaaChecked
import Derived.WalkKit
import Derived.Outline
import Derived.WalkSpells
import Derived.WalkLawsBesides
import Derived.Deep.QuietTactic
import Derived.Deep.RegionWith
import Derived.Deep.DeepMust
import Derived.BigQuiet
import Derived.Test.YtgpfkdlnmifiiaaMem
import Derived.RegionTactic
import Derived.ChangeAlike
import Derived.StillTailTactics
import Derived.BigRegion
import Derived.Laws.NewBlocks
import Derived.Lib.Bytes
import Derived.Test.YtgpfkdlnmifiiaaBm
import Derived.Test.YtgpfkdlnmifiiaaBmP
namespace Go.Proofs.Ytgpfkdlnmifiiaa
open Go.RowKit
set_option linter.unusedVariables false
set_option linter.unusedSimpArgs false
def RunPost (a b u : Nat) (us : List Bool) (w : World) (e : Ending) (w' : World) : Prop := e = .returned (.tuple #[.int .i64 (a : Int), .int .i64 0]) ∧ MapAt w' b u us ∧ Chg (· = u) w w'
set_option maxHeartbeats 1000000 in
theorem bmRun (b u : Nat) (us : List Bool) (k n : Nat) (w : World) (h : MapAt w b u us) (hne : u ≠ b) (hk : 1 ≤ k) (hkl : k ≤ us.length) (hn : n < us.length) (hno : ∀ j, j ≤ n → rowTo us j ≠ k) (hy : rowTo us (n + 1) = k) :
    Calls Try.prog 73 #[.pointer (some ⟨b, 0, none⟩), .int .i64 k] w (RunPost (n + 1 - k) b u (fillTo us (n + 1 - k) k) w) := by
  have K := Lib.hid (bmSize b u us w h)
  have hc := h.1.cell (o := 0) rfl
  have hz := h.1.lt
  have hl := h.2.2
  have hzu := h.2.1.lt
  have HR := Lib.hid h.row
  have HY := Lib.hid hy
  have HN := Lib.hid hno
  have H := Lib.hid h
  clear h hy hno
  go_enter Try.func73, Try.ntmps73
  go_wp2_with (go_at_call 76; refine K.out.mono ?_; rintro e w' ⟨rfl, rfl⟩)
  go_loop [6, 23] (fun n' i => ∃ j : Nat, j ≤ n ∧ i = .int .i64 j ∧ n' = .int .i64 (rowTo us j)) (fun _ i => us.length - (intOf i).toNat)
  case atStart => exact ⟨0, Nat.zero_le _, rfl, rfl⟩
  case round =>
    obtain ⟨j, hj, rfl, rfl⟩ := hrel
    have hr := HR.out j (by omega)
    have hf := rowTo_le us j
    have hs : Hid (rowTo us (j + 1) = if us.getD j false = true then 0 else rowTo us j + 1) := Lib.hid rfl
    by_cases hjn : j < n
    · have hno := HN.out (j + 1) (by omega)
      cases hu : us.getD j false
      · rw [hs.out, hu, if_neg (by simp)] at hno
        rw [hu] at hr
        have HU := Lib.hid hu
        clear hu
        go_wp2
        go_round
        case rel => exact ⟨j + 1, by omega, by go_num, by rw [hs.out, HU.out, if_neg (by simp)]; go_num⟩
        case measure => simp [intOf]; omega
      · rw [hu] at hr
        have HU := Lib.hid hu
        clear hu hno
        go_wp2
        go_round
        case rel => exact ⟨j + 1, by omega, by go_num, by rw [hs.out, HU.out, if_pos rfl]; rfl⟩
        case measure => simp [intOf]; omega
    · obtain rfl : j = n := by omega
      have hu : us.getD j false = false := by
        cases hu : us.getD j false
        · rfl
        · have := hs.out
          rw [hu, if_pos rfl, HY.out] at this
          omega
      have hy2 := hs.out
      rw [hu, if_neg (by simp), HY.out] at hy2
      rw [hu] at hr
      have e2 : rowTo us j = k - 1 := by omega
      have E2 := Lib.hid e2
      have h1 : k - 1 ≤ j := by omega
      clear hu hy2 hs
      rw [E2.out] at hf ⊢
      clear e2
      obtain ⟨q, rfl⟩ : ∃ q, k = q + 1 := ⟨k - 1, by omega⟩
      simp only [Nat.add_sub_cancel] at *
      obtain ⟨a, rfl⟩ : ∃ a, j = a + q := ⟨j - q, by omega⟩
      go_wp2
      go_loopw [9] (fun v wr => ∃ t : Nat, t ≤ q + 1 ∧ v = .int .i64 (a + t : Nat) ∧ MapAt wr b u (fillTo us a t) ∧ Chg (· = u) w wr) (fun v _ => a + q + 1 - (intOf v).toNat)
      case atStart => exact ⟨0, by omega, by congr 1; omega, H.out, Chg.refl _ _⟩
      case round =>
        obtain ⟨t, ht, rfl, hm, hg⟩ := hrel
        have mc := hm.1.cell (o := 0) rfl
        have mz := hm.1.lt
        have ml := hm.2.2
        have mu := hm.2.1.lt
        have mf := hm.2.1.free (a + t)
        rw [fillTo_len] at mc
        have HM := Lib.hid hm
        have HG := Lib.hid hg
        clear hm hg hc
        by_cases hlt : t < q + 1
        · have hr2 := HM.out.row (a + t) (by rw [fillTo_len]; omega)
          generalize (fillTo us a t).getD (a + t) false = qq at hr2
          have ha : a + t < us.length := by omega
          go_wp2
          go_roundw
          case rel => exact ⟨t + 1, by omega, by go_num, HM.out.store hne (a + t) true, Chg.set (S := (· = u)) HG.out (p := ⟨u, a + t, none⟩) (fun _ => rfl) _⟩
          case measure => simp [intOf]; omega
        · obtain rfl : t = q + 1 := by omega
          go_wp2
          go_ret2
          exact ⟨by congr 1; simp; omega, by rw [show a + q + 1 - (q + 1) = a by omega]; exact HM.out, HG.out⟩

theorem bmTake (b u : Nat) (us : List Bool) (n : Nat) (w : World) (h : MapAt w b u us) (hne : u ≠ b) (hn : n < us.length) (hno : ∀ j, j ≤ n → rowTo us j ≠ 1) (hy : rowTo us (n + 1) = 1) :
    Calls Try.prog 72 #[.pointer (some ⟨b, 0, none⟩)] w (RunPost n b u (fillTo us n 1) w) := by
  have K := Lib.hid (bmSize b u us w h)
  have K2 := Lib.hid (bmRun b u us 1 n w h hne (by omega) (by omega) hn hno hy)
  have hl : 0 < us.length := by omega
  have hl' : ((us.length : Int) == 0) = false := by rw [beq_eq_false_iff_ne]; omega
  clear h hno hy
  go_enter Try.func72, Try.ntmps72
  go_wp2_with (first | (go_at_call 76; refine K.out.mono ?_; rintro e w' ⟨rfl, rfl⟩) | (go_at_call 73; refine K2.out.mono ?_; rintro e w' ⟨rfl, hm, hg⟩))
  go_ret2
  exact ⟨rfl, hm, hg⟩

theorem Try.infoU8 : (Try.prog.info? 5).map (fun i => (i.zero, i.size, i.bytes)) = some (some (.int .u8 0), 1, 1) := by kernel_rfl
def BytesPost (us : List Bool) (w : World) (e : Ending) (w' : World) : Prop := ∃ B : Nat, w.heap.size ≤ B ∧ e = .returned (.slice (some ⟨B, 0, none⟩) ((us.length + 7) / 8) ((us.length + 7) / 8)) ∧ Blk w' B ((pack us).map (.int .u8)).toArray 5 ∧ Below w.heap.size w w'
theorem packs_set_blk {w : World} {B k m T : Nat} {us : List Bool} (h : Blk w B ((packs (us.take k) m).map (.int .u8)).toArray T) (hu : us.getD k false = true) : Blk (w.setCell ⟨B, k / 8, none⟩ (.int .u8 ((packB (us.take k) (k / 8) ||| 2 ^ (k % 8) : Nat) : Int))) B ((packs (us.take (k + 1)) m).map (.int .u8)).toArray T := by
  have := h.set (k / 8) (.int .u8 ((packB (us.take k) (k / 8) ||| 2 ^ (k % 8) : Nat) : Int))
  rw [packs_step_yes us k m hu]
  simpa using this
theorem or_u8_pow (x t : Nat) (hx : x < 256) (ht : t < 8) : bits .or .u8 (x : Int) ((2 : Int) ^ t % 256) = ((x ||| 2 ^ t : Nat) : Int) := by
  have h2 : 2 ^ t < 256 := Nat.lt_of_lt_of_le (Nat.pow_lt_pow_right (by omega) ht) (by decide)
  have e : (2 : Int) ^ t % 256 = ((2 ^ t : Nat) : Int) := by
    have e0 : (2 : Int) ^ t = ((2 ^ t : Nat) : Int) := by simp [Int.natCast_pow]
    rw [e0]; exact Int.emod_eq_of_lt (Int.natCast_nonneg _) (Int.ofNat_lt.2 h2)
  rw [e]
  exact u8_or_nat x (2 ^ t) hx h2
set_option maxHeartbeats 1000000 in
set_option maxRecDepth 100000 in
theorem bmBytes (b u : Nat) (us : List Bool) (w : World) (h : MapAt w b u us) : Calls Try.prog 66 #[.pointer (some ⟨b, 0, none⟩)] w (BytesPost us w) := by
  obtain ⟨i0, hi, hz0, hz1, hz2⟩ := info_parts Try.infoU8
  have hc := h.1.cell (o := 0) rfl
  have hz := h.1.lt
  have hl := h.2.2
  have hzu := h.2.1.lt
  have H := Lib.hid h
  clear h
  obtain ⟨m, hm⟩ : ∃ m, m = (us.length + 7) / 8 := ⟨_, rfl⟩
  have hml : m ≤ 8192 := by omega
  have hm1 : us.length ≤ 8 * m := by omega
  have em : Hid (((us.length : Int) + 7) / 8 = (m : Int)) := Lib.hid (by omega)
  have HM := Lib.hid hm
  clear hm
  go_enter Try.func66, Try.ntmps66
  go_wp2_with (at_make; refine wpList_make_full _ rfl _ _ 46 rfl w.heap.size 5 i0 (.int .u8 0) 1 Try.underlying46 hi hz0 hz1 .i64 .i64 m m m ?c1 ?c2 rfl rfl ?c3 ?c4 (Nat.le_refl _) ?_)
  case c1 => exact congrArg (Value.int .i64) em.out
  case c2 => exact congrArg (Value.int .i64) em.out
  case c3 => rw [hz2]; omega
  case c4 => unfold maxLen; omega
  intro w1 o1 g1
  have o1' : w1.ownsRow w.heap.size 5 1 (.slice (some ⟨w.heap.size, 0, none⟩) m m) m ((List.replicate m 0).map (Value.int .u8)) := by
    have : (madeCells #[Value.int .u8 0] m).toList = (List.replicate m 0).map (Value.int .u8) := by
      rw [toList_madeCells_one]; simp
    rw [← this]; first | exact o1 | simpa using o1
  have hb := (owns_blk o1').1
  have b1 : Below w.heap.size w w1 := (Below.refl _ w).grown g1 (Nat.le_refl _) (fun k hk => by cases hk)
  have z1 := b1.size
  have hlt := hb.lt
  have H1 := Lib.hid (H.out.of_below b1)
  have hc1 := H1.out.1.cell (o := 0) rfl
  have hlt2 := H1.out.1.lt
  rw [← packs_start us m] at hb
  have HB := Lib.hid hb
  clear o1 o1' g1 hc hb em
  go_wp2
  go_loopw [21] (fun i wr => ∃ k : Nat, k ≤ us.length ∧ i = .int .i64 k ∧ Blk wr w.heap.size ((packs (us.take k) m).map (.int .u8)).toArray 5 ∧ Below w.heap.size w wr) (fun i _ => us.length - (intOf i).toNat)
  case atStart => exact ⟨0, by omega, rfl, HB.out, b1⟩
  case round =>
    obtain ⟨k, hk, rfl, hp, hb⟩ := hrel
    have HP := Lib.hid hp
    have H2 := Lib.hid (H.out.of_below hb)
    have hb2 := hb.size
    by_cases hlt : k < us.length
    · have hr := H2.out.row k hlt
      cases hu : us.getD k false
      · rw [hu] at hr
        have HU := Lib.hid hu
        clear hu hp
        go_wp2
        go_roundw
        case rel => exact ⟨k + 1, by omega, by go_num, by rw [packs_step_no us k m HU.out]; exact HP.out, hb⟩
        case measure => simp [intOf]; omega
      · rw [hu] at hr
        have HU := Lib.hid hu
        have hkm : k / 8 < m := by omega
        have pc := hp.cell (o := k / 8) (v := .int .u8 (packB (us.take k) (k / 8) : Nat)) (by simp [packs, hkm])
        have pf := hp.free (k / 8)
        have pl := packB_here_lt us k
        have pl2 := packB_lt (us.take k) (k / 8)
        clear hu hp
        go_wp2
        go_region
        all_goals go_wp2
        all_goals
          go_roundw
          case rel => exact ⟨k + 1, by omega, by go_num, by rw [or_u8_pow _ _ pl2 (by omega)]; exact (packs_set_blk HP.out HU.out).drew, (hb.setCell (by simp) _).drew⟩
          case measure => simp [intOf]; omega
    · obtain rfl : k = us.length := by omega
      have hp2 := Lib.hid hp
      clear hp
      go_wp2
      go_ret
      refine ⟨w.heap.size, Nat.le_refl _, by rw [HM.out]; rfl, ?_, hb⟩
      have := hp2.out
      rw [HM.out, List.take_length] at this
      exact this

theorem ofNums_inj : ∀ (xs ys : List Int), (∀ q ∈ xs, 0 ≤ q ∧ q < 256) → (∀ q ∈ ys, 0 ≤ q ∧ q < 256) → xs.map (fun n => UInt8.ofNat n.toNat) = ys.map (fun n => UInt8.ofNat n.toNat) → xs = ys
  | [], [], _, _, _ => rfl
  | [], y :: ys, _, _, h => by simp at h
  | x :: xs, [], _, _, h => by simp at h
  | x :: xs, y :: ys, hx, hy, h => by
    simp only [List.map_cons, List.cons.injEq] at h
    have h1 := hx x (by simp)
    have h2 := hy y (by simp)
    have e := congrArg UInt8.toNat h.1
    rw [UInt8.toNat_ofNat', UInt8.toNat_ofNat'] at e
    rw [ofNums_inj xs ys (fun q hq => hx q (by simp [hq])) (fun q hq => hy q (by simp [hq])) h.2, show x = y by omega]
theorem str_eq (xs ys : List Int) (hx : ∀ q ∈ xs, 0 ≤ q ∧ q < 256) (hy : ∀ q ∈ ys, 0 ≤ q ∧ q < 256) : ((strOfNums xs).toList == (strOfNums ys).toList) = decide (xs = ys) := by
  rw [Lib.strOfNums_toList, Lib.strOfNums_toList]
  by_cases e : xs = ys
  · subst e; simp
  · rw [decide_eq_false e, beq_eq_false_iff_ne]
    intro h
    exact e (ofNums_inj xs ys hx hy h)
theorem bytesEqual (u v : Value) (xs ys : List Int) (w : World) (hu : Rdv (.int .u8) w u xs) (hv : Rdv (.int .u8) w v ys) (hx : ∀ q ∈ xs, 0 ≤ q ∧ q < 256) (hy : ∀ q ∈ ys, 0 ≤ q ∧ q < 256) :
    Calls Try.prog 100 #[u, v] w fun e w' => e = .returned (.bool (decide (xs = ys))) ∧ w = w' := by
  have KU := conv_rdv (P := Try.prog) 46 5 Try.underlying46 Try.underlying5 hu 9 Try.underlying9
  have KV := conv_rdv (P := Try.prog) 46 5 Try.underlying46 Try.underlying5 hv 9 Try.underlying9
  go_enter Try.func100, Try.ntmps100
  go_wp2
  go_ret
  exact ⟨ret_b (str_eq xs ys hx hy), rfl⟩
end Go.Proofs.Ytgpfkdlnmifiiaa
