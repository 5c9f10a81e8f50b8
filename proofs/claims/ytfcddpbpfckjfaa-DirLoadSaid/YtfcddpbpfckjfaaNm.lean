/- Names: ops.Name, lagoonref12.Local and Name. -/
import Derived.Test.YtfcddpbpfckjfaaChecked
import Derived.WalkKit
import Derived.Outline
import Derived.WalkSpells
import Derived.WalkLawsBesides
import Derived.Deep.QuietTactic
import Derived.Deep.RegionWith
import Derived.Deep.DeepMust
import Derived.BigQuiet
import Derived.Test.YtfcddpbpfckjfaaMem
import Derived.RegionTactic
import Derived.ChangeAlike
import Derived.StillTailTactics
import Derived.Deep.LoopGhost
import Derived.Test.YtfcddpbpfckjfaaStr
namespace Go.Proofs.Ytfcddpbpfckjfaa
open Go.RowKit
set_option linter.unusedVariables false
set_option linter.unusedSimpArgs false
/-- What is told of a name: cs: the bytes that may not be in it. -/
def nameG (cs l : List UInt8) : Int := if l = [] ∨ l = [46] ∨ l = [46, 46] ∨ Lib.containsAny l cs = true then 22 else if 64 < l.length then 36 else 0
def nameE (l : List UInt8) : Int := nameG [0, 1, 47] l
def localE (l : List UInt8) : Int := nameG [0, 47] l
theorem contains2 (x : UInt8) (a b : UInt8) : ([a, b] : List UInt8).contains x = (decide (x = a) || decide (x = b)) := by
  rw [Bool.eq_iff_iff]; simp
theorem contains1 (x : UInt8) (a : UInt8) : ([a] : List UInt8).contains x = decide (x = a) := by
  rw [Bool.eq_iff_iff]; simp
theorem u8_eq (x : UInt8) (a : Nat) (h : a < 256) : ((x.toNat : Int) = a) ↔ x = UInt8.ofNat a := by
  constructor
  · intro e
    apply UInt8.toNat_inj.1
    rw [UInt8.toNat_ofNat_of_lt' (by simpa using h)]
    omega
  · rintro rfl
    rw [UInt8.toNat_ofNat_of_lt' (by simpa using h)]
theorem any_hit {s cs : List UInt8} {i : Nat} {x : UInt8} (h : Lib.NoAny s cs i) (hx : s[i]? = some x) (hc : cs.contains x = true) : Lib.containsAny s cs = true := by
  unfold Lib.containsAny; rw [Lib.indexAny_hit h hx hc]; simp
theorem any_none {s cs : List UInt8} (h : Lib.NoAny s cs s.length) : Lib.containsAny s cs = false := by
  unfold Lib.containsAny; rw [Lib.indexAny_none h]; rfl
set_option maxRecDepth 100000 in
theorem refLocal (s : ByteArray) (w : World) (hs : s.size < 4294967281) : Calls Try.prog 33 #[.string s] w fun e w' => e = .returned (.int .i64 (localE s.data.toList)) ∧ Below w.heap.size w w' := by
  have e2 := Lib.hid (Lib.size_eq s)
  have e3 := Lib.hid (Lib.toList_data s)
  by_cases c1 : s.data.toList = [] ∨ s.data.toList = [46] ∨ s.data.toList = [46, 46]
  · have HE : Hid (localE s.data.toList = 22) := Lib.hid (by unfold localE nameG; rw [if_pos (by rcases c1 with h | h | h <;> simp [h])])
    have c2 : s.toList = [] ∨ s.toList = [46] ∨ s.toList = [46, 46] := by rw [e3.out]; exact c1
    clear c1
    rcases c2 with h | h | h
    all_goals
      go_enter Try.func33, Try.ntmps33
      go_wp2
      go_ret
      exact ⟨ret_i HE.out.symm, Below.refl _ _⟩
  · have HE : Hid (∀ q, Lib.containsAny s.data.toList [0, 47] = q → localE s.data.toList = if q = true then 22 else if 64 < s.size then 36 else 0) := Lib.hid (by
      intro q hq
      unfold localE nameG
      rw [hq, e2.out]
      cases q
      · rw [if_neg (by simp only [Bool.false_eq_true, or_false]; exact c1)]; simp
      · rw [if_pos (by simp)]; simp)
    have h1 : ¬ s.toList = [] := by rw [e3.out]; exact fun h => c1 (.inl h)
    have h2 : ¬ s.toList = [46] := by rw [e3.out]; exact fun h => c1 (.inr (.inl h))
    have h3 : ¬ s.toList = [46, 46] := by rw [e3.out]; exact fun h => c1 (.inr (.inr h))
    have h4 : s.toList.isEmpty = false := by simpa using h1
    have h5 : (s.toList == [46]) = false := by simpa using h2
    have h6 : (s.toList == [46, 46]) = false := by simpa using h3
    clear c1
    go_enter Try.func33, Try.ntmps33
    go_wp2
    go_loopw [3] (fun i wr => ∃ k : Nat, k ≤ s.size ∧ i = .int .i64 k ∧ Lib.NoAny s.data.toList [0, 47] k ∧ w = wr) (fun i _ => s.size - (intOf i).toNat)
    case atStart => exact ⟨0, by omega, rfl, Lib.NoAny.zero _ _, rfl⟩
    case round =>
      obtain ⟨k, hk, rfl, hno, rfl⟩ := hrel
      have HN := Lib.hid hno
      clear hno
      by_cases hlt : k < s.size
      · obtain ⟨x, hx⟩ : ∃ x : UInt8, s[k]'hlt = x := ⟨_, rfl⟩
        have HX := Lib.hid (show s.data.toList[k]? = some x by rw [← hx]; exact Lib.data_getElem? s k hlt)
        have hc := Lib.hid (contains2 x 0 47)
        have u1 := Lib.hid (u8_eq x 0 (by omega))
        have u2 := Lib.hid (u8_eq x 47 (by omega))
        by_cases x0 : (x.toNat : Int) = 0
        · have b0 : ((x.toNat : Int) == 0) = true := beq_iff_eq.2 x0
          have HH := Lib.hid (any_hit HN.out HX.out (by rw [hc.out]; simp [u1.out.1 (by simpa using x0)]))
          clear x0
          go_wp2
          go_ret
          exact ⟨ret_i (by rw [HE.out _ HH.out]; rfl), Below.refl _ _⟩
        · by_cases x1 : (x.toNat : Int) = 47
          · have b0 : ((x.toNat : Int) == 0) = false := beq_eq_false_iff_ne.2 x0
            have b1 : ((x.toNat : Int) == 47) = true := beq_iff_eq.2 x1
            have HH := Lib.hid (any_hit HN.out HX.out (by rw [hc.out]; simp [u2.out.1 (by simpa using x1)]))
            clear x0 x1
            go_wp2
            go_ret
            exact ⟨ret_i (by rw [HE.out _ HH.out]; rfl), Below.refl _ _⟩
          · have b0 : ((x.toNat : Int) == 0) = false := beq_eq_false_iff_ne.2 x0
            have b1 : ((x.toNat : Int) == 47) = false := beq_eq_false_iff_ne.2 x1
            have HH := Lib.hid (HN.out.succ HX.out (by
              rw [hc.out, decide_eq_false (fun e => x0 (by simpa using u1.out.2 e)), decide_eq_false (fun e => x1 (by simpa using u2.out.2 e))]; rfl))
            clear x0 x1
            go_wp2
            go_roundw
            case rel => exact ⟨k + 1, by omega, by go_num, HH.out, trivial⟩
            case measure => simp [intOf]; omega
      · obtain rfl : k = s.size := by omega
        have HH := Lib.hid (any_none (s := s.data.toList) (cs := [0, 47]) (by rw [← e2.out]; exact HN.out))
        by_cases hl : 64 < s.size
        · have hl2 : (64 : Int) < s.size := by omega
          go_wp2
          go_ret
          exact ⟨ret_i (by rw [HE.out _ HH.out, if_neg (by decide), if_pos hl]), Below.refl _ _⟩
        · have hl2 : (s.size : Int) ≤ 64 := by omega
          go_wp2
          go_ret
          exact ⟨ret_i (by rw [HE.out _ HH.out, if_neg (by decide), if_neg hl]), Below.refl _ _⟩
theorem indexAny_any : ∀ (l cs : List UInt8), Lib.containsAny l cs = l.any fun b => cs.contains b
  | [], _ => rfl
  | b :: l, cs => by
    have ih := indexAny_any l cs
    have hg := Lib.indexAny_ge cs l
    unfold Lib.containsAny at *
    rw [List.any_cons, ← ih, show Lib.indexAny (b :: l) cs = if cs.contains b then 0 else if Lib.indexAny l cs == -1 then -1 else Lib.indexAny l cs + 1 by rw [Lib.indexAny]]
    by_cases hc : cs.contains b
    · rw [if_pos hc, hc]; rfl
    · rw [if_neg hc]
      have hc' : cs.contains b = false := by simpa using hc
      rw [hc', Bool.false_or]
      by_cases hm : Lib.indexAny l cs = -1
      · rw [hm]; rfl
      · rw [if_neg (by simpa using hm)]
        exact decide_eq_decide.2 (by omega)
theorem nameE_split (l : List UInt8) : nameE l = if Lib.containsAny l [1] = true then 22 else localE l := by
  have e : Lib.containsAny l [0, 1, 47] = (Lib.containsAny l [1] || Lib.containsAny l [0, 47]) := by
    rw [indexAny_any, indexAny_any, indexAny_any, Bool.eq_iff_iff]
    simp only [Bool.or_eq_true, List.any_eq_true]
    constructor
    · rintro ⟨x, h, hx⟩
      simp at hx
      rcases hx with rfl | rfl | rfl
      · exact .inr ⟨_, h, by decide⟩
      · exact .inl ⟨_, h, by decide⟩
      · exact .inr ⟨_, h, by decide⟩
    · rintro (⟨x, h, hx⟩ | ⟨x, h, hx⟩)
      · simp at hx; exact ⟨x, h, by simp [hx]⟩
      · simp at hx; exact ⟨x, h, by rcases hx with rfl | rfl <;> decide⟩
  unfold nameE localE nameG
  rw [e]
  cases Lib.containsAny l [1] <;> simp
end Go.Proofs.Ytfcddpbpfckjfaa
