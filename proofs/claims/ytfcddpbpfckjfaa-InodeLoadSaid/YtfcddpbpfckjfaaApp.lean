/- append(dst, src...) onto a row of the call's own, the source as it reads (Rdv), nil or not; bits at int64. -/
import Derived.Test.YtfcddpbpfckjfaaMem
import Derived.Maps.AppendAt
import Derived.Laws.BitsAllLaws
import Derived.Laws.BitsLemmas
import Derived.Laws.BytesArg
import Derived.Lib.SlBytesConst
namespace Go.Proofs.Ytfcddpbpfckjfaa
open Go.RowKit
set_option linter.unusedVariables false
set_option linter.unusedSimpArgs false
theorem own_mono {w : World} {B B' e s n : Nat} {v : Value} {xs : List Value} (h : w.ownsRow B e s v n xs) (hB : B' ≤ B) : w.ownsRow B' e s v n xs := by
  refine ⟨h.1, ?_⟩
  rcases h.2 with h2 | ⟨g, c, cur, h1, h2, r⟩
  · exact .inl h2
  · exact .inr ⟨g, c, cur, h1, by omega, r⟩
theorem own_shape {w : World} {B e s : Nat} {v : Value} {n : Nat} {xs : List Value} (h : w.ownsRow B e s v n xs) : ∃ a c, v = .slice a n c ∧ n ≤ c ∧ c ≤ 9223372036854775807 ∧ (∀ x, a = some x → ∃ g, x = ⟨g, 0, none⟩) := by
  rcases h.2 with ⟨rfl, rfl⟩ | ⟨g, c, cur, rfl, _, _, h1, h2, _⟩
  · exact ⟨none, 0, rfl, Nat.le_refl _, by omega, fun x h => by cases h⟩
  · exact ⟨_, _, rfl, h1, by unfold maxLen at h2; omega, fun x h => by injection h with h; exact ⟨g, h.symm⟩⟩
theorem own_typ {w : World} {B e s : Nat} {v : Value} {n : Nat} {xs : List Value} (h : w.ownsRow B e s v n xs) {g : Nat} (hg : v.ownBlock = some g) : B ≤ g ∧ ∃ cur, Blk w g cur e := by
  rcases h.2 with ⟨rfl, _⟩ | ⟨g', c, cur, rfl, h0, h1, _⟩
  · cases hg
  · injection hg with hg
    have hg : g' = g := hg
    subst hg
    exact ⟨h0, cur, h1⟩
theorem blk_ne {w : World} {k : Nat} {c1 c2 : Array Value} {T1 T2 : Nat} (h1 : Blk w k c1 T1) (hn : T1 ≠ T2) : ¬ Blk w k c2 T2 := fun h2 => by
  have h1 : w.heap[k]? = _ := h1
  have h2 : w.heap[k]? = _ := h2
  rw [h1] at h2
  injection h2 with h2
  injection h2 with _ h2
  exact hn h2
theorem wanted_go {ops : Array Oper} {o : Oper} {a : Act} {w : World} {K : Act → World → Prop} {P : Program} {Q : Exit → Act → World → Prop} {E : Prop} (hg : o.guard = none) (h : Oper.wp P o a w K Q) : if Region.wanted o (yielded ops a.tmps) = true then Oper.wp P o a w K Q else E := by
  have hw : Region.wanted o (yielded ops a.tmps) = true := by simp [Region.wanted, hg]
  rw [if_pos hw]; exact h
theorem below_drewN {B : Nat} {a w : World} (h : Below B a w) (n : Nat) : Below B a (w.drewN n) := ⟨h.os, h.tape, h.output, h.size, h.block⟩
theorem own_cells {w : World} {B g n c : Nat} {T : TypeId} {xs : List Value} (h : w.ownsRow B T 1 (.slice (some ⟨g, 0, none⟩) n c) n xs) : B ≤ g ∧ g < w.heap.size ∧ n ≤ c ∧ c ≤ 9223372036854775807 ∧ ∃ cur, Blk w g cur T ∧ cur.size = c ∧ cur.toList.take n = xs := by
  rcases h.2 with ⟨e, _⟩ | ⟨g', c', cur, e, h1, h2, h3, h4, h5, h6⟩
  · cases e
  · injection e with e1 e2 e3
    injection e1 with e1
    injection e1 with e1
    subst e1
    subst e3
    rw [Nat.mul_one] at h5 h6
    exact ⟨h1, lt_of_block h2, h3, by unfold maxLen at h4; omega, cur, h2, h5, h6⟩
theorem run_append_nil_src {P : Program} {w : World} (base : Nat) (t ty e : TypeId) (i : TypeInfo) (size : Nat) (ht : P.underlying t = some (.slice e)) (hi : P.info? e = some i)
    (v : Value) (n : Nat) (xs : List Value) (hown : w.ownsRow base e size v n xs) (c : Nat) : (Builtin.append_ #[t, t] ty #[v, .slice none 0 c]).run P w = .ok v w := by
  rcases hown.2 with ⟨rfl, rfl⟩ | ⟨g, cap, cur, rfl, _, _, hnc, _⟩
  · simp [Builtin.append_, run_underlying ht, sizeOf, typeInfo, hi, Builtin.lenOf, Builtin.firstCells]
  · simp [Builtin.append_, run_underlying ht, sizeOf, typeInfo, hi, Builtin.lenOf, Builtin.firstCells, hnc, storeCells]
theorem rdv_news {enc : Int → Value} {w : World} {ad : Addr} {m c : Nat} {ys : List Int} (h : Rdv enc w (.slice (some ad) m c) ys) : ∀ j u, (ys.map enc)[j]? = some u → w.cell? (ad.add j) = some u := by
  obtain ⟨a', c', e, h1, h2, h3⟩ := h
  rw [Value.slice.injEq] at e
  obtain ⟨rfl, rfl, rfl⟩ := e
  intro j u hu
  rcases h3 with rfl | ⟨b, o, h3, h4⟩
  · simp at hu
  · injection h3 with h3
    subst h3
    have hj : j < ys.length := by
      rcases Nat.lt_or_ge j ys.length with h | h
      · exact h
      · rw [List.getElem?_eq_none (by simpa using h)] at hu; cases hu
    have := h4 j hj
    have e : (⟨b, o, none⟩ : Addr).add j = ⟨b, o + j, none⟩ := by
      unfold Addr.add
      split
      · next h => rw [h]; rfl
      · rfl
    rw [e, this]
    simp [List.getElem?_eq_getElem hj] at hu
    rw [← hu]
    simp [List.getElem?_eq_getElem hj]
theorem wpList_append_rd {P : Program} {w : World} {ops : Array Oper} {rest : List Oper} {o : Oper} {a : Act} {Q : Exit → Act → World → Prop} (hgd : o.guard = none) (s x : Operand) (t : TypeId)
    (ho : o.op = .call { callee := .builtin .append, args := #[s, x], argTypes := #[t, t] })
    (base : Nat) (e : TypeId) (i : TypeInfo) (z : Value) (bytes : Nat) (ht : P.underlying t = some (.slice e)) (hi : P.info? e = some i) (hz : i.zero = some z)
    (hsize : i.size = 1) (hby : i.bytes = bytes) (hzs : z.cells.size = 1)
    (v : Value) (n : Nat) (xs : List Value) (hs : a.eval s = v) (hown : w.ownsRow base e 1 v n xs)
    (y : Value) (enc : Int → Value) (ys : List Int) (hx : a.eval x = y) (hr : Rdv enc w y ys) (h1 : ∀ q, (enc q).oneCell' = true)
    (h63 : n + ys.length ≤ maxLen) (hbytes : (n + ys.length) * bytes ≤ 140737488355328) (hbase : base ≤ w.heap.size)
    (h : ∀ v' w', w'.ownsRow base e 1 v' (n + ys.length) (xs ++ ys.map enc) → w.grownBy w' v.ownBlock → (v'.ownBlock = v.ownBlock ∨ v'.ownBlock = some w.heap.size) → wpList P ops Q rest (a.put o.dst v') w') : wpList P ops Q (o :: rest) a w := by
  obtain ⟨ya, yn, yc, rfl⟩ := hr.shape
  have hl : ys.length = yn := by
    obtain ⟨_, _, e, _⟩ := hr
    rw [Value.slice.injEq] at e
    exact e.2.1.symm
  rcases ya with _ | ad
  · have hn : ys = [] := by
      obtain ⟨_, _, e, _, _, h3⟩ := hr
      rw [Value.slice.injEq] at e
      obtain ⟨rfl, _, _⟩ := e
      rcases h3 with h3 | ⟨b, o, h3, _⟩
      · exact h3
      · cases h3
    subst hn
    simp at hl
    subst hl
    refine wpList_plain hgd fun K hK => ?_
    have hrun := run_append_nil_src (P := P) (w := w) base t o.type e i 1 ht hi v n xs hown yc
    unfold Oper.wp execOp
    simp only [ho, resolve, invoke, builtin, Sem.run_bind, Sem.run_pure, Result.andThen_ok, List.map_toArray, List.map_cons, List.map_nil, hs, hx, hrun]
    exact hK _ _ (h v w (by simpa using hown) (World.grownBy.refl w _) (.inl rfl))
  · subst hl
    exact wpList_append_own_at w hgd s x t ho base e i z 1 bytes ht hi hz hsize hby hzs (by decide) v n xs hs hown ad ys.length yc (ys.map enc) hx (by simp) (rdv_news hr) (fun u hu => by
      obtain ⟨q, _, rfl⟩ := List.mem_map.1 hu; exact h1 q) h63 hbytes hbase fun v' w' g1 g2 _ g4 => h v' w' g1 g2 g4
theorem ofInt_i64 (a : Nat) (ha : a < 9223372036854775808) : (BitVec.ofInt 64 (a : Int)).toNat = a := by
  rw [BitVec.ofInt_natCast, BitVec.toNat_ofNat]; exact Nat.mod_eq_of_lt (by omega)
theorem i64_or_nat (a b : Nat) (ha : a < 9223372036854775808) (hb : b < 9223372036854775808) : bits .or .i64 (a : Int) (b : Int) = ((a ||| b : Nat) : Int) := by
  have hx : a ||| b < 2 ^ 63 := Nat.or_lt_two_pow (by omega) (by omega)
  show IntKind.i64.wrap ((BitVec.ofInt 64 (a : Int) ||| BitVec.ofInt 64 (b : Int)).toNat : Int) = _
  rw [BitVec.toNat_or, ofInt_i64 a ha, ofInt_i64 b hb, IntKind.wrap_i64]
  omega
/-- Four bytes as a number, the lowest first, and the other way. -/
def v4 (a b c d : Nat) : Nat := a + b * 256 + c * 65536 + d * 16777216
def le4 (x : Nat) : List Int := [(x : Int) % 256, (x : Int) / 256 % 256, (x : Int) / 65536 % 256, (x : Int) / 16777216 % 256]
theorem or8 (a b : Nat) (ha : a < 256) : a ||| b * 256 = a + b * 256 := by
  rw [Nat.or_comm, nat_join 8 (b * 256) a (by omega) (by omega)]; omega
theorem or16 (a b : Nat) (ha : a < 65536) : a ||| b * 65536 = a + b * 65536 := by
  rw [Nat.or_comm, nat_join 16 (b * 65536) a (by omega) (by omega)]; omega
theorem or24 (a b : Nat) (ha : a < 16777216) : a ||| b * 16777216 = a + b * 16777216 := by
  rw [Nat.or_comm, nat_join 24 (b * 16777216) a (by omega) (by omega)]; omega
theorem join_u32 (a b c d : Nat) (ha : a < 256) (hb : b < 256) (hc : c < 256) (hd : d < 256) :
    bits .or .u32 (bits .or .u32 (bits .or .u32 (a : Int) ((b : Int) * 256)) ((c : Int) * 65536)) ((d : Int) * 16777216) = ((v4 a b c d : Nat) : Int) := by
  have e1 := u32_or_nat a (b * 256) (by omega) (by omega)
  rw [or8 a b ha] at e1
  have e2 := u32_or_nat (a + b * 256) (c * 65536) (by omega) (by omega)
  rw [or16 _ c (by omega)] at e2
  have e3 := u32_or_nat (a + b * 256 + c * 65536) (d * 16777216) (by omega) (by omega)
  rw [or24 _ d (by omega)] at e3
  have c1 : ((b * 256 : Nat) : Int) = (b : Int) * 256 := Int.natCast_mul b 256
  have c2 : ((c * 65536 : Nat) : Int) = (c : Int) * 65536 := Int.natCast_mul c 65536
  have c3 : ((d * 16777216 : Nat) : Int) = (d : Int) * 16777216 := Int.natCast_mul d 16777216
  rw [c1] at e1
  rw [c2] at e2
  rw [c3] at e3
  rw [e1, e2, e3, v4]
theorem join_i64 (a b c d : Nat) (ha : a < 256) (hb : b < 256) (hc : c < 256) (hd : d < 256) :
    bits .or .i64 (bits .or .i64 (bits .or .i64 (a : Int) ((b : Int) * 256)) ((c : Int) * 65536)) ((d : Int) * 16777216) = ((v4 a b c d : Nat) : Int) := by
  have e1 := i64_or_nat a (b * 256) (by omega) (by omega)
  rw [or8 a b ha] at e1
  have e2 := i64_or_nat (a + b * 256) (c * 65536) (by omega) (by omega)
  rw [or16 _ c (by omega)] at e2
  have e3 := i64_or_nat (a + b * 256 + c * 65536) (d * 16777216) (by omega) (by omega)
  rw [or24 _ d (by omega)] at e3
  have c1 : ((b * 256 : Nat) : Int) = (b : Int) * 256 := Int.natCast_mul b 256
  have c2 : ((c * 65536 : Nat) : Int) = (c : Int) * 65536 := Int.natCast_mul c 65536
  have c3 : ((d * 16777216 : Nat) : Int) = (d : Int) * 16777216 := Int.natCast_mul d 16777216
  rw [c1] at e1
  rw [c2] at e2
  rw [c3] at e3
  rw [e1, e2, e3, v4]
theorem v4_le4 (x : Nat) (hx : x < 4294967296) : v4 (x % 256) (x / 256 % 256) (x / 65536 % 256) (x / 16777216 % 256) = x := by unfold v4; omega
/-- string(v), v as it reads. -/
theorem conv_rdv {P : Program} {w : World} (src e : TypeId) (hs : P.underlying src = some (.slice e)) (he : P.underlying e = some (.int .u8)) {v : Value} {l : List Int} (h : Rdv (.int .u8) w v l) :
    ∀ dst, P.underlying dst = some .string → (convert src dst v).run P w = .ok (.string (strOfNums l)) w := by
  obtain ⟨a, c, rfl, h1, h2, h3⟩ := h
  intro dst hd
  rcases h3 with rfl | ⟨b, o, rfl, h3⟩
  · rcases a with _ | x
    · exact run_convert_bytes_nil w src e hs he _ _ dst hd
    · have hl : (loadCells x ([] : List Int).length).run P w = .ok (([] : List Int).map (Value.int .u8)).toArray w := by simp [loadCells, loadCellsFrom]
      rw [run_convert_bytes_string w src dst e _ _ c hs he hd, run_bytesToString w _ _ c [] hl, foldl_push_bytes]
      simp [strOfNums, ByteArray.empty, ByteArray.emptyWithCapacity]
      rfl
  · exact run_convert_bytes_arg w src e hs he b o l.length c l rfl h3 dst hd
end Go.Proofs.Ytfcddpbpfckjfaa
