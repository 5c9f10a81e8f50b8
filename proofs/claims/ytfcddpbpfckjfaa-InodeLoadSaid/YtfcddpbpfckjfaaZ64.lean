/- Numbers of eight bytes (those below 2^32). -/
import Derived.Test.YtfcddpbpfckjfaaChecked
import Derived.WalkKit
import Derived.Outline
import Derived.WalkSpells
import Derived.WalkLawsBesides
import Derived.Deep.QuietTactic
import Derived.Deep.RegionWith
import Derived.Deep.DeepMust
import Derived.BigQuiet
import Derived.Test.YtfcddpbpfckjfaaMem
import Derived.RegionTactic
import Derived.ChangeAlike
import Derived.StillTailTactics
import Derived.Deep.LoopGhost
import Derived.Test.YtfcddpbpfckjfaaCrc2
namespace Go.Proofs.Ytfcddpbpfckjfaa
open Go.RowKit
set_option linter.unusedVariables false
set_option linter.unusedSimpArgs false
def le8 (x : Nat) : List Int := le4 x ++ [0, 0, 0, 0]
theorem le8_len (x : Nat) : (le8 x).length = 8 := rfl
theorem le8_byt (x : Nat) : Byt (le8 x) := fun q hq => by
  unfold le8 at hq
  rcases List.mem_append.1 hq with h | h
  · exact le4_byt x q h
  · simp at h; omega
def low8 (x : Int) : List Value := [.int .u8 (x % 256), .int .u8 (x / 256 % 256), .int .u8 (x / 65536 % 256), .int .u8 (x / 16777216), .int .u8 0, .int .u8 0, .int .u8 0, .int .u8 0]
set_option maxHeartbeats 1000000 in
set_option maxRecDepth 100000 in
theorem app64 (B : Nat) (v : Value) (xs : List Int) (x : Nat) (w : World) (hx : x ≤ 4294967295) (hown : w.ownsRow B 5 1 v xs.length (xs.map u8v)) (hB : B ≤ w.heap.size) (hl : xs.length ≤ 1000000000000) :
    Calls Try.prog 127 #[v, .int .u64 (x : Int)] w (OwnPost B (xs ++ le8 x) (fun k => some k = v.ownBlock) w) := by
  obtain ⟨i0, hi, hz0, hz1, hz2⟩ := info_parts Try.info5
  have hlt := fun k hk => (hown.lt k hk)
  have HL := Lib.hid hlt
  have e4 : (x : Int) / 4294967296 = 0 := by omega
  have e5 : (x : Int) / 1099511627776 = 0 := by omega
  have e6 : (x : Int) / 281474976710656 = 0 := by omega
  have e7 : (x : Int) / 72057594037927936 = 0 := by omega
  clear hlt
  go_enter Try.func127, Try.ntmps127
  have h24 : Hid ((x : Int) / 16777216 = (x : Int) / 16777216 % 256) := Lib.hid (by omega)
  go_wp2_with (at_builtin; refine wpList_append_own _ rfl _ _ 48 rfl B 5 i0 (.int .u8 0) 1 1 Try.underlying48 hi hz0 hz1 hz2 rfl (by decide) v _ _ rfl (hown.alloc _) ⟨w.heap.size, 0, none⟩ 8 8 (low8 x) rfl rfl ?c1 ?c2 ?c3 ?c4 ?c5 ?_)
  case c1 =>
    intro j u hu
    have hj : j < 8 := by
      rcases Nat.lt_or_ge j 8 with h | h
      · exact h
      · rw [List.getElem?_eq_none (by simpa [low8] using h)] at hu; cases hu
    have hb := Blk.new w (low8 x).toArray 5
    have e : (⟨w.heap.size, 0, none⟩ : Addr).add j = ⟨w.heap.size, j, none⟩ := by
      unfold Addr.add
      split
      · next h => rw [h]
      · simp
    rw [e]
    exact hb.cell (by simpa using hu)
  case c2 => intro u hu; simp [low8] at hu; rcases hu with rfl | rfl | rfl | rfl | rfl <;> rfl
  case c3 => unfold maxLen; omega
  case c4 => omega
  case c5 => simp; omega
  intro v' w1 hown1 hgrow1 _
  have hg : Chg (fun k => some k = v.ownBlock) w w1 := ((Chg.refl _ w).alloc _).grown hgrow1 (fun k hk _ => hk.symm)
  have HO := Lib.hid hown1
  have HG := Lib.hid hg
  clear hown1 hgrow1 hg
  go_wp2
  go_ret
  refine ⟨_, rfl, ?_, HG.out⟩
  have h := HO.out
  unfold low8 at h
  rw [h24.out] at h
  simpa [le8, le4] using h
theorem low8_cells (w : World) (x : Int) : ∀ (j : Nat) (u : Value), (low8 x)[j]? = some u → (w.alloc (.cells (low8 x).toArray 5)).cell? ((⟨w.heap.size, 0, none⟩ : Addr).add j) = some u := by
  intro j u hu
  have hb := Blk.new w (low8 x).toArray 5
  have e : (⟨w.heap.size, 0, none⟩ : Addr).add j = ⟨w.heap.size, j, none⟩ := by
    unfold Addr.add
    split
    · next h => rw [h]
    · simp
  rw [e]
  exact hb.cell (by simpa using hu)
set_option maxHeartbeats 1000000 in
set_option maxRecDepth 100000 in
/-- Behind bytes that leave no room. -/
theorem app64g (g n x : Nat) (xs : List Int) (w : World) (hx : x ≤ 4294967295) (hr : Rdv u8v w (.slice (some ⟨g, 0, none⟩) n n) xs) (hl : xs.length ≤ 1000000000000) :
    Calls Try.prog 127 #[.slice (some ⟨g, 0, none⟩) n n, .int .u64 (x : Int)] w (ClonePost (xs ++ le8 x) w) := by
  obtain ⟨i0, hi, hz0, hz1, hz2⟩ := info_parts Try.info5
  obtain ⟨hn, _, _, _⟩ := hr.cap
  have hnew := rdv_news (hr.alloc (.cells (low8 x).toArray 5))
  have e4 : (x : Int) / 4294967296 = 0 := by omega
  have e5 : (x : Int) / 1099511627776 = 0 := by omega
  have e6 : (x : Int) / 281474976710656 = 0 := by omega
  have e7 : (x : Int) / 72057594037927936 = 0 := by omega
  have h24 : Hid ((x : Int) / 16777216 = (x : Int) / 16777216 % 256) := Lib.hid (by omega)
  have HN := Lib.hid hnew
  subst hn
  clear hr hnew
  go_enter Try.func127, Try.ntmps127
  go_wp2_with (at_builtin; refine wpList_append_grows _ rfl (.tmp 5) (.tmp 29) 48 rfl 5 i0 (.int .u8 0) 1 1 Try.underlying48 hi hz0 hz1 hz2 rfl (by decide) (some ⟨g, 0, none⟩) xs.length xs.length (xs.map u8v) rfl (fun h => by cases h) (by simp) (fun b e => by injection e with e; subst e; exact HN.out) ⟨w.heap.size, 0, none⟩ 8 8 (low8 x) rfl rfl (low8_cells w x) ?c2 ?c3 ?c4 ?c5 ?_)
  case c2 => intro u hu; simp [low8] at hu; rcases hu with rfl | rfl | rfl | rfl | rfl <;> rfl
  case c3 => omega
  case c4 => unfold maxLen; omega
  case c5 => omega
  intro v' w1 hown1 hgrow1
  have HO := Lib.hid (own_mono hown1 (B' := w.heap.size) (by simp))
  have HG := Lib.hid (((Below.refl _ w).alloc (Nat.le_refl _) (.cells (low8 x).toArray 5)).grown hgrow1 (by simp) (fun k hk => by cases hk))
  clear hown1 hgrow1
  go_wp2
  go_ret
  refine ⟨_, rfl, ?_, HG.out⟩
  have h := HO.out
  unfold low8 at h
  rw [h24.out] at h
  simpa [le8, le4] using h
theorem or32_u64 (a b c d : Nat) (ha : a < 256) (hb : b < 256) (hc : c < 256) (hd : d < 256) :
    bits .or .u64 (bits .or .u64 (bits .or .u64 (a : Int) ((b : Int) * 256)) ((c : Int) * 65536)) ((d : Int) * 16777216) = ((v4 a b c d : Nat) : Int) := by
  have e1 := u64_or_nat a (b * 256) (by omega) (by omega)
  rw [or8 a b ha] at e1
  have e2 := u64_or_nat (a + b * 256) (c * 65536) (by omega) (by omega)
  rw [or16 _ c (by omega)] at e2
  have e3 := u64_or_nat (a + b * 256 + c * 65536) (d * 16777216) (by omega) (by omega)
  rw [or24 _ d (by omega)] at e3
  have c1 : ((b * 256 : Nat) : Int) = (b : Int) * 256 := Int.natCast_mul b 256
  have c2 : ((c * 65536 : Nat) : Int) = (c : Int) * 65536 := Int.natCast_mul c 65536
  have c3 : ((d * 16777216 : Nat) : Int) = (d : Int) * 16777216 := Int.natCast_mul d 16777216
  rw [c1] at e1
  rw [c2] at e2
  rw [c3] at e3
  rw [e1, e2, e3, v4]
theorem or0_u64 (x : Nat) (hx : x < 4294967296) : bits .or .u64 (x : Int) 0 = x := by
  have := u64_or_nat x 0 (by omega) (by omega)
  rw [Nat.or_zero] at this
  exact this
set_option maxRecDepth 100000 in
theorem get64 (v : Value) (l : List Int) (w : World) (h : Rdv u8v w v l) (hb : Byt l) (h8 : 8 ≤ l.length) (z4 : l.getD 4 0 = 0) (z5 : l.getD 5 0 = 0) (z6 : l.getD 6 0 = 0) (z7 : l.getD 7 0 = 0) :
    Calls Try.prog 128 #[v] w fun e w' => e = .returned (.int .u64 (get4 l : Nat)) ∧ Drw w w' := by
  obtain ⟨a, c, rfl, h1, h2, h3⟩ := h
  unfold maxLen at h2
  rcases h3 with rfl | ⟨b, o, rfl, h3⟩
  · simp at h8
  obtain ⟨x0, y0, b0⟩ := hb.at_ 0 (by omega)
  obtain ⟨x1, y1, b1⟩ := hb.at_ 1 (by omega)
  obtain ⟨x2, y2, b2⟩ := hb.at_ 2 (by omega)
  obtain ⟨x3, y3, b3⟩ := hb.at_ 3 (by omega)
  have c0 := h3 0 (by omega)
  have c1 := h3 1 (by omega)
  have c2 := h3 2 (by omega)
  have c3 := h3 3 (by omega)
  have c4 := h3 4 (by omega)
  have c5 := h3 5 (by omega)
  have c6 := h3 6 (by omega)
  have c7 := h3 7 (by omega)
  rw [y0, Nat.add_zero] at c0
  rw [y1] at c1
  rw [y2] at c2
  rw [y3] at c3
  rw [z4] at c4
  rw [z5] at c5
  rw [z6] at c6
  rw [z7] at c7
  have HG := Lib.hid (get4_of y0 y1 y2 y3)
  have HJ := Lib.hid (or32_u64 x0 x1 x2 x3 b0 b1 b2 b3)
  clear h3 y0 y1 y2 y3 z4 z5 z6 z7
  go_enter Try.func128, Try.ntmps128
  go_wp2
  go_quiet (fail)
  go_wp2
  go_ret
  have hv : v4 x0 x1 x2 x3 < 4294967296 := by unfold v4; omega
  refine ⟨ret_i ?_, _, rfl⟩
  show bits BinOp.or IntKind.u64 (bits BinOp.or IntKind.u64 (bits BinOp.or IntKind.u64 (bits BinOp.or IntKind.u64 (bits BinOp.or IntKind.u64 (bits BinOp.or IntKind.u64 (bits BinOp.or IntKind.u64 (x0 : Int) ((x1 : Int) * 256)) ((x2 : Int) * 65536)) ((x3 : Int) * 16777216)) 0) 0) 0) 0 = _
  rw [HJ.out, HG.out, or0_u64 _ hv, or0_u64 _ hv, or0_u64 _ hv, or0_u64 _ hv]
end Go.Proofs.Ytfcddpbpfckjfaa
