/- The law CodecWrite: its walk. -/
import Derived.Test.YthbalmoafpggdaaChecked
import Derived.WalkKit
import Derived.Outline
import Derived.WalkSpells
import Derived.WalkLawsBesides
import Derived.Deep.QuietTactic
import Derived.Deep.RegionWith
import Derived.Deep.DeepMust
import Derived.BigQuiet
import Derived.Test.YthbalmoafpggdaaMem
import Derived.RegionTactic
import Derived.ChangeAlike
import Derived.StillTailTactics
import Derived.Deep.LoopGhost
import Derived.Test.YthbalmoafpggdaaWrL
import Derived.Test.YthbalmoafpggdaaCdL
import Derived.Test.YthbalmoafpggdaaSho
import Derived.Test.YthbalmoafpggdaaFr
import Derived.Test.YthbalmoafpggdaaCdR
namespace Go.Proofs.Ythbalmoafpggdaa
open Go.RowKit
set_option linter.unusedVariables false
set_option linter.unusedSimpArgs false
theorem Try.infoInt : (Try.prog.info? 3).map (fun i => (i.zero, i.size, i.bytes)) = some (some (.int .i64 0), 1, 8) := by kernel_rfl
theorem shortC4 (a : Option Addr) (l : List Int) (c n : Nat) (w : World) (hn : n ≤ 1000000) (h1 : l.length ≤ c) (h2 : c ≤ 9223372036854775807) :
    Calls Try.prog 19 #[.slice a l.length c, .int .i64 n] w fun e w' => e = .returned (.slice a (l.take n).length c) ∧ w = w' := by
  by_cases hc : n < l.length
  · have e : Hid ((l.take n).length = n) := Lib.hid (by simp; omega)
    go_enter Try.func19, Try.ntmps19
    go_wp2
    go_ret
    exact ⟨by rw [e.out]; rfl, rfl⟩
  · have e : Hid ((l.take n).length = l.length) := Lib.hid (by simp; omega)
    go_enter Try.func19, Try.ntmps19
    go_wp2
    go_ret
    exact ⟨by rw [e.out]; rfl, rfl⟩
structure Itm where
  k : Int
  n : Int
  bs : List Int
  t : Int
  nd : Int
  vs : List Int
  aB : Option Addr
  cB : Nat
  aV : Option Addr
  cV : Nat
def itmC (q : Itm) : List Value := [.int .i64 q.k, .int .i64 q.n, .slice q.aB q.bs.length q.cB, .int .i64 q.t, .int .i64 q.nd, .slice q.aV q.vs.length q.cV]
def itmW (q : Itm) : Option (List Int) := itemW q.k q.n (q.bs.take 300) q.t q.nd (q.vs.take 100)
structure ItmOk (w : World) (q : Itm) : Prop where
  rB : Rdv u8v w (.slice q.aB q.bs.length q.cB) q.bs
  byt : Byt q.bs
  lB : ∀ b o, q.aB = some ⟨b, o, none⟩ → q.bs ≠ [] → b < w.heap.size
  rV : Rdv i64c w (.slice q.aV q.vs.length q.cV) q.vs
  lV : ∀ b o, q.aV = some ⟨b, o, none⟩ → q.vs ≠ [] → b < w.heap.size
  nw : -9223372036854775808 ≤ q.n ∧ q.n ≤ 9223372036854775807
def ItemsRd (w : World) (a : Option Addr) (its : List Itm) : Prop := ∀ i q, its[i]? = some q → ItmOk w q ∧ ∃ b o, a = some ⟨b, o, none⟩ ∧ b < w.heap.size ∧ ∀ j u, (itmC q)[j]? = some u → w.cell? ⟨b, o + i * 6 + j, none⟩ = some u
def kindsL (its : List Itm) : List Int := its.map fun q => q.k
def outsL (its : List Itm) : List (Option (List Int)) := its.map itmW
/-- What the first loop keeps. -/
structure WRg (w : World) (p : Nat) (l : List Int) (bad : Bool) (wl kl : List Int) (want kinds : Value) (W : World) : Prop where
  hw : ∃ v, Wr W p v l bad ∧ (∀ k, v.ownBlock = some k → w.heap.size ≤ k) ∧ (∀ k, want.ownBlock = some k → v.ownBlock ≠ some k) ∧ (∀ k, kinds.ownBlock = some k → v.ownBlock ≠ some k)
  hwant : W.ownsRow w.heap.size 5 1 want wl.length (wl.map u8v)
  hkinds : W.ownsRow w.heap.size 3 1 kinds kl.length (kl.map i64c)
  nw : want.ownBlock ≠ some p
  nk : kinds.ownBlock ≠ some p
  nwk : ∀ k, want.ownBlock = some k → kinds.ownBlock ≠ some k
  hp : w.heap.size ≤ p
  below : Below w.heap.size w W
theorem WRg.under {w W W' : World} {p : Nat} {l wl kl : List Int} {bad : Bool} {want kinds : Value} (h : WRg w p l bad wl kl want kinds W) (g : Below W.heap.size W W') : WRg w p l bad wl kl want kinds W' := by
  obtain ⟨v, h1, h2, h3, h4⟩ := h.hw
  exact ⟨⟨v, h1.below g, h2, h3, h4⟩, ownsRow_below h.hwant g, ownsRow_below h.hkinds g, h.nw, h.nk, h.nwk, h.hp, cb_under h.below g⟩
theorem WRg.appWant {w W W' : World} {p : Nat} {l wl kl xs : List Int} {bad : Bool} {want kinds v2 : Value} (h : WRg w p l bad wl kl want kinds W) (o : W'.ownsRow w.heap.size 5 1 v2 (wl.length + xs.length) (wl.map u8v ++ xs.map u8v)) (g : W.grownBy W' want.ownBlock) (hb : v2.ownBlock = want.ownBlock ∨ v2.ownBlock = some W.heap.size) : WRg w p l bad (wl ++ xs) kl v2 kinds W' := by
  obtain ⟨v, h1, h2, h3, h4⟩ := h.hw
  have hz := h.below.size
  have C : Chg (fun k => want.ownBlock = some k) W W' := (Chg.refl _ W).grown g (fun k hk _ => hk)
  have hsep : ∀ k, v2.ownBlock = some k → want.ownBlock = some k ∨ k = W.heap.size := by
    intro k hk
    rcases hb with e | e
    · exact .inl (e ▸ hk)
    · rw [e] at hk; injection hk with hk; exact .inr hk.symm
  refine ⟨⟨v, h1.chg C h.nw (fun b hb hw => h3 b hw hb), h2, ?_, h4⟩, own_cast o (by simp) (by simp), ownsRow_chg h.hkinds C (fun b hb hw => h.nwk b hw hb), ?_, h.nk, ?_, h.hp, h.below.grown g hz (fun k hk => own_ge h.hwant hk)⟩
  · intro k hk e
    rcases hsep k hk with hk | rfl
    · exact h3 k hk e
    · have := own_lt h1.own e; omega
  · intro e
    rcases hsep p e with hk | hk
    · exact h.nw hk
    · have := h1.lt; omega
  · intro k hk e
    rcases hsep k hk with hk | rfl
    · exact h.nwk k hk e
    · have := own_lt h.hkinds e; omega
theorem WRg.appKinds {w W W' : World} {p : Nat} {l wl kl xs : List Int} {bad : Bool} {want kinds v2 : Value} (h : WRg w p l bad wl kl want kinds W) (o : W'.ownsRow w.heap.size 3 1 v2 (kl.length + xs.length) (kl.map i64c ++ xs.map i64c)) (g : W.grownBy W' kinds.ownBlock) (hb : v2.ownBlock = kinds.ownBlock ∨ v2.ownBlock = some W.heap.size) : WRg w p l bad wl (kl ++ xs) want v2 W' := by
  obtain ⟨v, h1, h2, h3, h4⟩ := h.hw
  have hz := h.below.size
  have C : Chg (fun k => kinds.ownBlock = some k) W W' := (Chg.refl _ W).grown g (fun k hk _ => hk)
  have hsep : ∀ k, v2.ownBlock = some k → kinds.ownBlock = some k ∨ k = W.heap.size := by
    intro k hk
    rcases hb with e | e
    · exact .inl (e ▸ hk)
    · rw [e] at hk; injection hk with hk; exact .inr hk.symm
  refine ⟨⟨v, h1.chg C h.nk (fun b hb hw => h4 b hw hb), h2, h3, ?_⟩, ownsRow_chg h.hwant C (fun b hb hw => h.nwk b hb hw), own_cast o (by simp) (by simp), h.nw, ?_, ?_, h.hp, h.below.grown g hz (fun k hk => own_ge h.hkinds hk)⟩
  · intro k hk e
    rcases hsep k hk with hk | rfl
    · exact h4 k hk e
    · have := own_lt h1.own e; omega
  · intro e
    rcases hsep p e with hk | hk
    · exact h.nk hk
    · have := h1.lt; omega
  · intro k hk e
    rcases hsep k e with e | rfl
    · exact h.nwk k hk e
    · have := own_lt h.hwant hk; omega
def PutPost2 (w : World) (p : Nat) (l : List Int) (bad : Bool) (o : Option (List Int)) (wl kl : List Int) (want kinds : Value) (n : Nat) (W1 : World) (e : Ending) (w' : World) : Prop := ∃ B u, e = .returned (.tuple #[u, .bool o.isSome]) ∧ WRg w p (wadd l bad o) (wbad bad o) wl kl want kinds w' ∧ (∀ cs T, Blk W1 n cs T → Blk w' n cs T) ∧ w'.ownsRow B 5 1 u (o.getD []).length ((o.getD []).map u8v)
theorem WRg.put {w W : World} {p : Nat} {l wl kl : List Int} {bad : Bool} {want kinds : Value} (h : WRg w p l bad wl kl want kinds W) (O : Obj) (q : Itm) (hq : ItmOk w q) (hl : l.length ≤ 600000000000) (mB mV : Nat) (hB : mB = (q.bs.take 300).length) (hV : mV = (q.vs.take 100).length) :
    Calls Try.prog 24 #[.pointer (some ⟨p, 0, none⟩), .agg #[.int .i64 q.k, .int .i64 q.n, .slice q.aB mB q.cB, .int .i64 q.t, .int .i64 q.nd, .slice q.aV mV q.cV]] (W.alloc O) (PutPost2 w p l bad (itmW q) wl kl want kinds W.heap.size (W.alloc O)) := by
  subst hB hV
  obtain ⟨v, g1, h2, h3, h4⟩ := h.hw
  have h1 := g1.below ((Below.refl _ W).alloc (Nat.le_refl _) O)
  have hbx : ¬ WS p v W.heap.size := by
    rintro (e | e)
    · have := g1.lt; omega
    · have := own_lt g1.own e; omega
  have h := h.under ((Below.refl _ W).alloc (Nat.le_refl _) O)
  generalize W.alloc O = W1 at *
  have hz := h.below.size
  have hp := h.hp
  have hin : PutIn p v (.slice q.aB (q.bs.take 300).length q.cB) (.slice q.aV (q.vs.take 100).length q.cV) (q.bs.take 300) (q.vs.take 100) l W1 := by
    have tB : Rdv u8v W1 (.slice q.aB (q.bs.take 300).length q.cB) (q.bs.take 300) := by
      have := hq.rB.below h.below
      obtain ⟨_, c1, c2, _⟩ := this.cap
      rw [List.length_take]
      rcases Nat.le_total 300 q.bs.length with e | e
      · rw [Nat.min_eq_left e]; exact this.take 300 q.cB e (by omega) (Nat.le_refl _)
      · rw [Nat.min_eq_right e, List.take_of_length_le e]; exact this
    have tV : Rdv i64c W1 (.slice q.aV (q.vs.take 100).length q.cV) (q.vs.take 100) := by
      have := hq.rV.below h.below
      obtain ⟨_, c1, c2, _⟩ := this.cap
      rw [List.length_take]
      rcases Nat.le_total 100 q.vs.length with e | e
      · rw [Nat.min_eq_left e]; exact this.take 100 q.cV e (by omega) (Nat.le_refl _)
      · rw [Nat.min_eq_right e, List.take_of_length_le e]; exact this
    have sB : ∀ b o n c, Value.slice q.aB (q.bs.take 300).length q.cB = .slice (some ⟨b, o, none⟩) n c → 0 < n → b < w.heap.size := fun b o n c e hn => by
      rw [Value.slice.injEq] at e; exact hq.lB b o e.1 (fun h => by rw [h] at e; have := e.2.1; simp at this; omega)
    have sV : ∀ b o n c, Value.slice q.aV (q.vs.take 100).length q.cV = .slice (some ⟨b, o, none⟩) n c → 0 < n → b < w.heap.size := fun b o n c e hn => by
      rw [Value.slice.injEq] at e; exact hq.lV b o e.1 (fun h => by rw [h] at e; have := e.2.1; simp at this; omega)
    exact ⟨tB, fun x hx => hq.byt x (List.mem_of_mem_take hx), fun b o n c e hn => ⟨by have := sB b o n c e hn; omega, fun e2 => by have := sB b o n c e hn; have := h2 b e2; omega⟩, fun b o n c e hn => Nat.lt_of_lt_of_le (sB b o n c e hn) hz,
      tV, fun b o n c e hn => ⟨by have := sV b o n c e hn; omega, fun e2 => by have := sV b o n c e hn; have := h2 b e2; omega⟩, fun b o n c e hn => Nat.lt_of_lt_of_le (sV b o n c e hn) hz, by rw [List.length_take]; omega, hl⟩
  refine (lawPut p v _ _ _ _ l bad q.k q.n q.t q.nd W1 h1 hin hq.nw).mono ?_
  rintro e w5 ⟨w4, u, rfl, ⟨v', hW4, hN, hC⟩, ho, hb⟩
  have hsz := hC.size
  have hv' : ∀ k, v'.ownBlock = some k → v.ownBlock = some k ∨ W1.heap.size ≤ k := by
    intro k hk
    rcases hN with e | e
    · exact .inl (e ▸ hk)
    · exact .inr (e k hk)
  refine ⟨w4.heap.size, u, rfl, ?_, fun cs T hB => blkBelow hb (hC.blk hB hbx) (hC.blk hB hbx).lt, ho⟩
  have R4 : WRg w p (wadd l bad (itmW q)) (wbad bad (itmW q)) wl kl want kinds w4 := by
    refine ⟨⟨v', hW4, ?_, ?_, ?_⟩, ?_, ?_, h.nw, h.nk, h.nwk, h.hp, ?_⟩
    · intro k hk
      rcases hv' k hk with e | e
      · exact h2 k e
      · omega
    · intro k hk e
      rcases hv' k e with e | e
      · exact h3 k hk e
      · have := own_lt h.hwant hk; omega
    · intro k hk e
      rcases hv' k e with e | e
      · exact h4 k hk e
      · have := own_lt h.hkinds hk; omega
    · exact ownsRow_chg h.hwant hC (fun b hb hs => by
        rcases hs with rfl | hs
        · exact h.nw hb
        · exact h3 b hb hs)
    · exact ownsRow_chg h.hkinds hC (fun b hb hs => by
        rcases hs with rfl | hs
        · exact h.nk hb
        · exact h4 b hb hs)
    · exact Chg.below_trans h.below hC hz (fun i hi hs => by
        rcases hs with rfl | hs
        · omega
        · have := h2 i hs; omega)
  exact R4.under hb
def WRel (w : World) (p : Nat) (its : List Itm) (want kinds : Value) (W : World) : Prop := WRg w p (wrL (outsL its)) (wordsB (outsL its)) (wordsL (outsL its)) (kindsL its) want kinds W
theorem itmW_len (q : Itm) : ((itmW q).getD []).length ≤ 1000 := by
  unfold itmW itemW
  split
  · cases h : numW q.n with
    | none => simp
    | some s => obtain ⟨_, _, rfl⟩ := numW_some h; have := numL_len q.n.toNat; simp; omega
  · split
    · unfold bytesW
      split
      · have := numL_len (q.bs.take 300).length
        have h2 : (q.bs.take 300).length ≤ 300 := by rw [List.length_take]; omega
        simp only [Option.getD_some, List.length_append]; omega
      · simp
    · split
      · cases odd q.n <;> simp [truthW]
      · split
        · unfold idW
          split
          · have := numL_len q.t.toNat; have := numL_len q.nd.toNat; simp only [Option.getD_some, List.length_append]; omega
          · simp
        · unfold vecW
          split
          · next h => have := numL_len (cutL (q.vs.take 100)).length; have := numsL_len (cutL (q.vs.take 100)); simp only [Option.getD_some, List.length_append]; omega
          · simp
theorem wrL_bd (os : List (Option (List Int))) (h : ∀ o ∈ os, (o.getD []).length ≤ 1000) : (wrL os).length ≤ 1000 * os.length ∧ (wordsL os).length ≤ 1000 * os.length := by
  constructor
  · unfold wrL
    suffices ∀ s : List Int × Bool, (os.foldl (fun s o => (wadd s.1 s.2 o, wbad s.2 o)) s).1.length ≤ s.1.length + 1000 * os.length by
      have := this ([], false); simpa using this
    induction os with
    | nil => intro s; simp
    | cons o os ih =>
      intro s
      rw [List.foldl_cons]
      have h1 := ih (fun o ho => h o (List.mem_cons_of_mem _ ho)) (wadd s.1 s.2 o, wbad s.2 o)
      have h2 := h o List.mem_cons_self
      have h3 : (wadd s.1 s.2 o).length ≤ s.1.length + 1000 := by unfold wadd; split <;> simp <;> omega
      simp only [List.length_cons] at *
      omega
  · induction os with
    | nil => simp [wordsL]
    | cons o os ih =>
      have h1 := ih (fun o ho => h o (List.mem_cons_of_mem _ ho))
      have h2 := h o List.mem_cons_self
      simp only [wordsL, List.flatMap_cons, List.length_append, List.length_cons] at *
      omega
theorem its_bd (its : List Itm) (k : Nat) (hk : k ≤ 12) : (wrL (outsL (its.take k))).length ≤ 12000 ∧ (wordsL (outsL (its.take k))).length ≤ 12000 ∧ (kindsL (its.take k)).length ≤ 12 := by
  have := wrL_bd (outsL (its.take k)) (fun o ho => by
    obtain ⟨q, _, rfl⟩ := List.mem_map.1 ho
    exact itmW_len q)
  have hl : (its.take k).length ≤ 12 := by rw [List.length_take]; omega
  simp only [outsL, kindsL, List.length_map] at *
  omega
theorem itmW_byt (q : Itm) (hb : Byt q.bs) : Byt ((itmW q).getD []) := by
  have nil : Byt [] := fun x hx => by simp at hx
  have app : ∀ a b : List Int, Byt a → Byt b → Byt (a ++ b) := fun a b ha hb x hx => (List.mem_append.1 hx).elim (ha x) (hb x)
  unfold itmW itemW
  split
  · cases h : numW q.n with
    | none => exact nil
    | some s => obtain ⟨_, _, rfl⟩ := numW_some h; exact numL_byt _
  · split
    · unfold bytesW
      split
      · exact app _ _ (numL_byt _) (fun x hx => hb x (List.mem_of_mem_take hx))
      · exact nil
    · split
      · cases odd q.n <;> (intro x hx; simp [truthW] at hx; omega)
      · split
        · unfold idW
          split
          · exact app _ _ (numL_byt _) (numL_byt _)
          · exact nil
        · unfold vecW
          split
          · exact app _ _ (numL_byt _) (numsL_byt _)
          · exact nil
theorem words_byt (its : List Itm) (h : ∀ q ∈ its, Byt q.bs) : Byt (wordsL (outsL its)) := by
  intro x hx
  obtain ⟨o, ho, hx⟩ := List.mem_flatMap.1 hx
  obtain ⟨q, hq, rfl⟩ := List.mem_map.1 ho
  exact itmW_byt q (h q hq) x hx
theorem takes_words : ∀ its : List Itm, wordsB (outsL its) = false → takesS (kindsL its) (some (wordsL (outsL its))) = some []
  | [], _ => rfl
  | q :: its, h => by
    simp only [outsL, List.map_cons, wordsB, List.any_cons, Bool.or_eq_false_iff] at h
    obtain ⟨h1, h2⟩ := h
    have ih := takes_words its h2
    cases hs : itmW q with
    | none => rw [hs] at h1; cases h1
    | some s =>
      have ht := takeS_item q.k q.n (q.bs.take 300) q.t q.nd (q.vs.take 100) s (wordsL (outsL its)) hs
      show takesS (kindsL its) (takeS q.k (some (((itmW q).getD []) ++ wordsL (outsL its)))) = some []
      rw [hs]
      show takesS (kindsL its) (takeS q.k (some (s ++ wordsL (outsL its)))) = some []
      rw [ht]
      exact ih
set_option maxHeartbeats 4000000 in
set_option maxRecDepth 100000 in
theorem codecWrite_walk (a : Option Addr) (c : Nat) (its : List Itm) (w : World) (hc : its.length ≤ c) (hc2 : c ≤ maxLen) (hx : ItemsRd w a its) : Calls Try.prog 5 #[.slice a its.length c] w (CdTrue w) := by
  obtain ⟨i0, hi, hz0, hz1, hz2⟩ := info_parts Try.info5
  obtain ⟨j0, ji, jz0, jz1, jz2⟩ := info_parts Try.infoInt
  unfold maxLen at hc2
  have HX := Lib.hid hx
  clear hx
  go_enter Try.func5, Try.ntmps5
  go_wp2_with fail
  refine (cdBegun w).mono ?_
  rintro e w1 ⟨rfl, b1⟩
  have B1 := Lib.hid b1
  clear b1
  go_wp2_with fail
  refine (wNew w1).mono ?_
  rintro e w2 ⟨p, rfl, hp, h2, b2⟩
  have B2 := Lib.hid (cb_under B1.out b2)
  have hp0 : w.heap.size ≤ p := Nat.le_trans B1.out.size hp
  have HR0 : Hid (WRel w p [] (.slice none 0 0) (.slice none 0 0) w2) := Lib.hid ⟨⟨_, h2, by simp [Value.ownBlock], by simp [Value.ownBlock], by simp [Value.ownBlock]⟩, World.ownsRow_nil _ _ _ _, World.ownsRow_nil _ _ _ _, by simp [Value.ownBlock], by simp [Value.ownBlock], by simp [Value.ownBlock], hp0, B2.out⟩
  clear b2 h2
  go_wp2_with fail
  go_loopw [5, 6, 7, 8] (fun want bad kinds i wr => ∃ k : Nat, k ≤ its.length ∧ k ≤ 12 ∧ i = .int .i64 k ∧ bad = .bool (wordsB (outsL (its.take k))) ∧ WRel w p (its.take k) want kinds wr) (fun _ _ _ i _ => 12 - (intOf i).toNat)
  case atStart => exact ⟨0, Nat.zero_le _, by omega, rfl, rfl, HR0.out⟩
  case round =>
    obtain ⟨k, hk, hk12, rfl, rfl, hR⟩ := hrel
    have HR := Lib.hid hR
    have hR : WRg w p (wrL (outsL (its.take k))) (wordsB (outsL (its.take k))) (wordsL (outsL (its.take k))) (kindsL (its.take k)) _ _ wr := hR
    obtain ⟨hbd, hbl, hkl⟩ := its_bd its k hk12
    by_cases hlt : k < its.length ∧ k < 12
    · obtain ⟨hlt1, hlt2⟩ := hlt
      obtain ⟨q, hq⟩ : ∃ q, its[k]? = some q := ⟨_, List.getElem?_eq_getElem hlt1⟩
      obtain ⟨hok, b, o, rfl, hb, hcell⟩ := HX.out k q hq
      have y0 := below_cell hR.below _ _ (hcell 0 _ rfl)
      have y1 := below_cell hR.below _ _ (hcell 1 _ rfl)
      have y2 := below_cell hR.below _ _ (hcell 2 _ rfl)
      have y3 := below_cell hR.below _ _ (hcell 3 _ rfl)
      have y4 := below_cell hR.below _ _ (hcell 4 _ rfl)
      have y5 := below_cell hR.below _ _ (hcell 5 _ rfl)
      simp only [Nat.add_zero] at y0
      obtain ⟨_, zB, zB2, _⟩ := hok.rB.cap
      obtain ⟨_, zV, zV2, _⟩ := hok.rV.cap
      unfold maxLen at zB2 zV2
      have KS := Lib.hid (fun w' => shortC4 q.aB q.bs q.cB 300 w' (by omega) zB zB2)
      have hq1000 := itmW_len q
      have KP := (fun O mB mV hB hV => WRg.put hR O q hok (Nat.le_trans hbd (by omega)) mB mV hB hV)
      have hmB : min 300 q.bs.length = (q.bs.take 300).length := by rw [List.length_take]
      have HMB := Lib.hid hmB
      have hst : its.take (k + 1) = its.take k ++ [q] := by rw [List.take_add_one, hq]; rfl
      have HW : ∀ want kinds W, WRg w p (wadd (wrL (outsL (its.take k))) (wordsB (outsL (its.take k))) (itmW q)) (wbad (wordsB (outsL (its.take k))) (itmW q)) (wordsL (outsL (its.take k)) ++ (itmW q).getD []) (kindsL (its.take k) ++ [q.k]) want kinds W → WRel w p (its.take (k + 1)) want kinds W := by
        intro want kinds W h
        unfold WRel
        rw [hst]
        simp only [outsL, kindsL, List.map_append, List.map_cons, List.map_nil]
        rw [wrL_snoc, wordsB_snoc, wordsL_snoc]
        exact h
      have HBB : wordsB (outsL (its.take (k + 1))) = (wordsB (outsL (its.take k)) || !(itmW q).isSome) := by
        rw [hst]
        simp only [outsL, List.map_append, List.map_cons, List.map_nil]
        rw [wordsB_snoc]
        unfold wbad
        cases itmW q <;> rfl
      have hwo := hR.hwant
      have hko := hR.hkinds
      clear hok hcell hq hR hbd hmB hst HR
      unfold PutPost2 at KP
      generalize wrL (outsL (its.take k)) = l at *
      generalize wordsB (outsL (its.take k)) = bb at *
      generalize wordsL (outsL (its.take k)) = wl at *
      generalize kindsL (its.take k) = kl at *
      generalize wbad bb (itmW q) = bb2 at *
      generalize wadd l bb (itmW q) = l2 at *
      generalize (itmW q).getD [] = xs at *
      generalize (itmW q).isSome = ok at *
      obtain ⟨wa, wc, rfl, hw1, hw2, _⟩ := own_shape hwo
      obtain ⟨ka, kc, rfl, hk1, hk2, _⟩ := own_shape hko
      replace KP := Lib.hid KP
      replace HW := Lib.hid HW
      replace HBB := Lib.hid HBB
      have hwlt : ∀ k, (Value.slice wa wl.length wc).ownBlock = some k → k < wr.heap.size := fun k hk => own_lt hwo hk
      have HWLT := Lib.hid hwlt
      clear hwo hko hwlt
      cases bb
      all_goals cases ok
      all_goals by_cases hv : 100 < q.vs.length
      all_goals
        go_wp2_with fail
        refine (KS.out _).mono ?_
        rintro e w4 ⟨rfl, rfl⟩
        go_wp2_with fail
        refine (KP.out _ _ _ HMB.out (by rw [List.length_take]; omega)).mono ?_
        rintro e w5 ⟨B5, u, rfl, hr5, hx5, ho5⟩
        have X5 := Lib.hid (hx5 _ _ (Blk.new wr _ _))
        obtain ⟨ua, uc, rfl, _⟩ := own_shape ho5
        have R5 := Lib.hid hr5
        have ro5 := Rdv.of_owns (enc := u8v) (xs := xs) ho5
        have hown5 := hr5.hwant
        have hsz5 := hr5.below.size
        clear hr5 ho5 hx5
        go_wp2_with (at_builtin; refine wpList_append_rd rfl _ _ 24 rfl w.heap.size 5 i0 (.int .u8 0) 1 Try.underlying24 hi hz0 hz1 hz2 rfl _ _ _ rfl hown5 (.slice ua xs.length uc) u8v xs rfl ro5 (fun _ => rfl) ?_ ?_ ?_ ?_)
        case _ => unfold maxLen; omega
        case _ => omega
        case _ => omega
        intro v6 w6 o6 g6 s6
        have R6 := Lib.hid (WRg.appWant R5.out o6 g6 s6)
        obtain ⟨a6, c6, rfl, _⟩ := own_shape o6
        have X6 := X5.out.of_eq (g6.block wr.heap.size X5.out.lt (fun e => by have := HWLT.out _ e.symm; omega))
        have x6 := X6.cell (o := 0) rfl
        have xz6 := X6.lt
        have hown6 := R6.out.hkinds
        have hsz6 := R6.out.below.size
        clear o6 g6 s6 hown5 ro5 X6
        go_wp2_with (at_builtin; refine wpList_append_own_at _ rfl _ _ 35 rfl w.heap.size 3 j0 (.int .i64 0) 1 8 Try.underlying35 ji jz0 jz1 jz2 rfl (by decide) _ _ _ rfl (hown6.alloc _) ⟨w6.heap.size, 0, none⟩ 1 1 [.int .i64 q.k] rfl rfl ?_ ?_ ?_ ?_ ?_ ?_)
        case _ => exact cell_one_new _ _ _
        case _ => intro u hu; simp at hu; subst hu; rfl
        case _ => unfold maxLen; omega
        case _ => omega
        case _ => simp; omega
        intro v7 w7 o7 g7 _ s7
        have R7 := Lib.hid (WRg.appKinds (xs := [q.k]) (R6.out.under ((Below.refl _ _).alloc (Nat.le_refl _) _)) o7 g7 (by simpa using s7))
        obtain ⟨a7, c7, rfl, _⟩ := own_shape o7
        clear o7 g7 s7 hown6
        go_wp2
        go_roundw
        case rel => exact ⟨k + 1, by omega, by omega, by go_num, by rw [HBB.out]; rfl, HW.out _ _ _ R7.out⟩
        case measure => simp [intOf]; omega
    · have hby : Byt (wordsL (outsL (its.take k))) := words_byt _ fun q hq => by
        obtain ⟨i, hi⟩ := List.mem_iff_getElem?.1 (List.mem_of_mem_take hq)
        exact (HX.out i q hi).1.byt
      have htk := takes_words (its.take k)
      have hgood := wrL_good (outsL (its.take k))
      obtain ⟨v, hv1, _, _, _⟩ := hR.hw
      have KD := wDone p v _ _ wr hv1 (by omega)
      have hwo := hR.hwant
      have hko := hR.hkinds
      have hB := hR.below
      have hBs := hB.size
      clear HR hv1
      have hstop : its.length ≤ k ∨ (k < its.length ∧ 12 ≤ k) := by omega
      clear hlt
      cases hbb : wordsB (outsL (its.take k))
      · rw [hbb] at KD
        have htk := htk hbb
        rw [hgood hbb] at KD
        clear hbb hgood hR hbd
        generalize wordsL (outsL (its.take k)) = wl at *
        generalize kindsL (its.take k) = kl at *
        obtain ⟨wa, wc, rfl, hw1, hw2, _⟩ := own_shape hwo
        obtain ⟨ka, kc, rfl, hk1, hk2, _⟩ := own_shape hko
        have KD := Lib.hid KD
        have HTK := Lib.hid htk
        have HBY := Lib.hid hby
        have RW := Lib.hid (Rdv.of_owns (enc := u8v) hwo)
        have RK := Lib.hid (Rdv.of_owns (enc := i64c) hko)
        have hkl2 : ∀ b, (Value.slice ka kl.length kc).ownBlock = some b → b < wr.heap.size := fun b hb => own_lt hko hb
        have HKL := Lib.hid hkl2
        clear hkl2
        have HB := Lib.hid hB
        clear hwo hko hB htk hby
        rcases hstop with hst | ⟨hst, hst2⟩
        all_goals
          go_wp2_with fail
          refine KD.out.mono ?_
          rintro e w5 ⟨v5, rfl, o5, b5⟩
          have r5 := Rdv.of_owns (enc := u8v) o5
          have RW5 := RW.out.below b5
          have RK5 := Lib.hid (RK.out.below b5)
          have HB5 := Lib.hid (cb_under HB.out b5)
          have hs05 := b5.size
          obtain ⟨a5, c5, rfl, _⟩ := own_shape o5
          have R5 := Lib.hid r5
          have kx := conv_rdv (P := Try.prog) 24 5 Try.underlying24 Try.underlying5 r5 9 Try.underlying9
          have ky := conv_rdv (P := Try.prog) 24 5 Try.underlying24 Try.underlying5 RW5 9 Try.underlying9
          clear o5 b5 r5 RW5
          have KR := Lib.hid (rNew _ wl w5 R5.out HBY.out (by omega))
          go_wp2_with fail
          refine KR.out.mono ?_
          rintro e w6 ⟨r1, B1, v2, rfl, hr1, hB1, hBl, h2', hb2⟩
          have H2 := Lib.hid h2'
          have hb5s := HB5.out.size
          have HB6 := Lib.hid (cb_under HB5.out hb2)
          have R6 := Lib.hid (R5.out.below hb2)
          have RK6 := Lib.hid (RK5.out.below hb2)
          have hs12 := hb2.size
          have hr1l := h2'.lt
          clear h2' hb2 KR kx ky
          have B2s := HB6.out.size
          go_wp2_with (at_builtin; refine wpList_append_rd rfl (.const (.slice none 0 0)) _ 24 rfl w6.heap.size 5 i0 (.int .u8 0) 1 Try.underlying24 hi hz0 hz1 hz2 rfl (.slice none 0 0) 0 [] rfl (World.ownsRow_nil _ _ _ _) (.slice a5 wl.length c5) u8v wl rfl R6.out (fun _ => rfl) ?_ ?_ ?_ ?_)
          case _ => unfold maxLen; omega
          case _ => omega
          case _ => omega
          intro v3 w3 o3 g3 _
          have hb3 : Below w6.heap.size w6 w3 := (Below.refl _ w6).grown g3 (Nat.le_refl _) (fun k hk => by simp [Value.ownBlock] at hk)
          have R3 : Rdv u8v w3 v3 wl := Rdv.of_owns (enc := u8v) (xs := wl) (by simpa using o3)
          have hin : v3 = .slice none 0 0 ∨ ∃ g n c, w6.heap.size ≤ g ∧ g < w3.heap.size ∧ v3 = .slice (some ⟨g, 0, none⟩) n c := by
            rcases o3.2 with ⟨h, _⟩ | ⟨g, c, cur, h, hg, hh, _⟩
            · exact .inl h
            · exact .inr ⟨g, _, c, hg, lt_of_block hh, h⟩
          have HIN := Lib.hid hin
          have H3 := Lib.hid (H2.out.below hb3)
          have HB3 := Lib.hid (cb_under HB6.out hb3)
          have RK3 := Lib.hid (RK6.out.below hb3)
          have hs23 := hb3.size
          have R3 := Lib.hid R3
          obtain ⟨v3a, v3c, rfl, _⟩ := own_shape o3
          (try simp only [Nat.zero_add] at *)
          clear o3 g3 hb3 hin
          have a4 : Below w3.heap.size w3 (w3.alloc (.cells #[.slice v3a wl.length v3c, .bool false] 40)) := (Below.refl _ _).alloc (Nat.le_refl _) _
          have B4' := Lib.hid (cb_under HB3.out a4)
          have RK4 := Lib.hid (RK3.out.below a4)
          have hT : ∃ B2, Two (w3.alloc (.cells #[.slice v3a wl.length v3c, .bool false] 40)) r1 B1 w3.heap.size B2 (some wl) ∧ w5.heap.size ≤ r1 := by
            have BK : Blk (w3.alloc (.cells #[.slice v3a wl.length v3c, .bool false] 40)) w3.heap.size #[.slice v3a wl.length v3c, .bool false] 40 := Blk.new w3 _ _
            rcases HIN.out with h | ⟨g, n, c, hg, hgl, h⟩
            · exact ⟨w3.heap.size, ⟨⟨_, H3.out.below a4⟩, ⟨_, ⟨BK, R3.out.below a4, .inl h, (fun ⟨_, _, _, e⟩ => by rw [h, Value.slice.injEq] at e; cases e.1), HBY.out, by show wl.length ≤ _; omega⟩⟩, by omega, by omega, by omega, by simp; omega, by simp⟩, by omega⟩
            · exact ⟨g, ⟨⟨_, H3.out.below a4⟩, ⟨_, ⟨BK, R3.out.below a4, .inr ⟨_, _, _, h⟩, (fun _ => by omega), HBY.out, by show wl.length ≤ _; omega⟩⟩, by omega, by omega, by omega, by simp; omega, by simp; omega⟩, by omega⟩
          obtain ⟨B2, hT, hwr⟩ := hT
          have HT := Lib.hid hT
          have B3s := HB3.out.size
          have RKL : Hid (∀ wr', Chg (RR r1 w3.heap.size) (w3.alloc (.cells #[.slice v3a wl.length v3c, .bool false] 40)) wr' → Rdv i64c wr' (.slice ka kl.length kc) kl) := Lib.hid (fun wr' hC => RK4.out.chg hC (fun b o n c e => by
            rw [Value.slice.injEq] at e
            have := HKL.out b (by rw [e.1]; rfl)
            rintro (h | h) <;> omega))
          have C4 : Chg (RR r1 w3.heap.size) (w3.alloc (.cells #[.slice v3a wl.length v3c, .bool false] 40)) (w3.alloc (.cells #[.slice v3a wl.length v3c, .bool false] 40)) := Chg.refl _ _
          generalize hW4 : w3.alloc (.cells #[.slice v3a wl.length v3c, .bool false] 40) = W4 at C4 RKL
          have HW4 := Lib.hid hW4
          rw [hW4] at hT
          clear hT a4 hW4
          go_wp2_with fail
          go_loopw [16] (fun i wr => ∃ k : Nat, k ≤ kl.length ∧ i = .int .i64 k ∧ Two wr r1 B1 w3.heap.size B2 (takesS (kl.take k) (some wl)) ∧ Below w.heap.size w wr ∧ Chg (RR r1 w3.heap.size) W4 wr) (fun i _ => kl.length - (intOf i).toNat)
          case atStart => exact ⟨0, Nat.zero_le _, rfl, HT.out, B4'.out, by rw [HW4.out]; exact C4⟩
          case round =>
            obtain ⟨m, hm, rfl, hT, hB, hC⟩ := hrel
            have HB := Lib.hid hB
            have HC := Lib.hid hC
            have HT := Lib.hid hT
            have rk := RKL.out _ hC
            by_cases hlt : m < kl.length
            · obtain ⟨bl, ol, rfl, hcell⟩ := rdv_at rk m hlt
              have HS := Lib.hid (takesS_snoc kl m hlt (some wl))
              generalize kl.getD m 0 = q at *
              have KT := Lib.hid (lawTake q r1 B1 _ B2 _ _ hT)
              clear hT hB hC rk
              go_wp2_with fail
              refine KT.out.mono ?_
              rintro e w8 ⟨rfl, hT8, hC8⟩
              have T8 := Lib.hid hT8
              have B8 := Lib.hid (Chg.below_trans HB.out hC8 HB.out.size (fun i hi hs => by rcases hs with hs | hs <;> omega))
              have C8 := Lib.hid (HC.out.trans hC8)
              clear hT8 hC8
              go_wp2
              go_roundw
              case rel => exact ⟨m + 1, by omega, by go_num, by rw [HS.out]; exact T8.out, B8.out, C8.out⟩
              case measure => simp [intOf]; omega
            · obtain rfl : m = kl.length := by omega
              rw [List.take_length, HTK.out] at hT
              obtain ⟨u1, hu1⟩ := hT.rd
              have KD := rDone r1 B1 u1 _ _ hu1
              have e0 : doneS (some []) = 0 := rfl
              rw [e0] at KD
              have KD := Lib.hid KD
              clear hT hB hC rk hu1 e0
              go_wp2_with fail
              refine KD.out.mono ?_
              rintro e w8 ⟨rfl, rfl⟩
              go_wp2
              go_ret
              exact ⟨rfl, HB.out⟩
      · rw [hbb] at KD
        have KD := Lib.hid KD
        have HB := Lib.hid hB
        clear hbb hgood htk hR hbd hwo hko hB
        rcases hstop with hst | ⟨hst, hst2⟩
        all_goals
          go_wp2_with fail
          refine KD.out.mono ?_
          rintro e w5 h5
          obtain ⟨rfl, rfl⟩ : e = .returned (.tuple #[.slice none 0 0, .int .i64 22]) ∧ wr = w5 := h5
          go_wp2
          go_ret
          exact ⟨rfl, HB.out⟩
end Go.Proofs.Ythbalmoafpggdaa
