/- Lemmas for a claim of the seat YtjpgcokdlopkaaaGreatDoor. Written in part by programs of the claim's repo. By an AI agent. -/
import Derived.Test.YtjpgcokdlopkaaaGreatDoorG01
import Derived.StillTailTactics
import Derived.OrdersHeld

/-! A REGION THAT DRAWS ITS ORDER: its first operations in the one order that there is, the rest by the quiet walk (the kit's), in the class of the worlds that grow out of the one that the head leaves. -/
namespace Go.Proofs.YtjpgcokdlopkaaaGreatDoor
open Go.RowKit

theorem letsOut_then {R : Act → World → Prop} {Q : Exit → Act → World → Prop} (h : LetsOut (Exit.then R Q)) : LetsOut Q := by
  obtain ⟨a, w, h⟩ := h
  exact ⟨a, w, h⟩
theorem wp_then {P : Program} {o : Oper} {a : Act} {w : World} {K : Act → World → Prop} {R : Act → World → Prop} {Q : Exit → Act → World → Prop} (h : o.wp P a w K (Exit.then R Q)) : o.wp P a w K Q := by
  unfold Oper.wp at *
  generalize (execOp a.eval o).run P w = r at *
  cases r with
  | ok n w' =>
    cases n <;> simp only [Oper.upon] at h ⊢
    case value u => exact h
    case skip => exact h
    case defer d => exact h
    case enter f args =>
      refine Calls.mono h fun e w'' he => ?_
      cases e with
      | returned u => exact he
      | panicked c => exact he
      | outgrown => exact letsOut_then he
    case row row args => exact h
  | halt x w' =>
    cases x <;> simp only [Oper.upon] at h ⊢
    case panic u => exact h
/-- the first n operations come up one by one; the rest may be walked in their order -/
def headB (md : Region.Mode) (ops : Array Oper) : Nat → Nat → Array Bool → Bool
  | 0, k, listed => Region.lexFrom md ops (ops.size - k) k listed
  | n + 1, k, listed => decide (Region.ready md ops listed = [k]) && headB md ops n (k + 1) (listed.setIfInBounds k true)
def restQ (P : Program) (ops : Array Oper) (Q : Exit → Act → World → Prop) (l : List Oper) (a : Act) (w : World) : Prop :=
  wpQuiet P ops (fun w' => ∃ x, w' = w.mod [] x) (fun a' => ∀ w', (∃ x, w' = w.mod [] x) → Q .normal a' w') l a
theorem wpAny_head {P : Program} {md : Region.Mode} {ops : Array Oper} {Q : Exit → Act → World → Prop} (hs : Region.noSelect ops = true) (tl : List Oper) :
    ∀ (hd : List Oper) (k : Nat) (listed : Array Bool) (a : Act) (w : World), (∀ j, (hd ++ tl)[j]? = ops[k + j]?) → k + (hd ++ tl).length = ops.size → headB md ops hd.length k listed = true →
      wpList P ops (Exit.then (restQ P ops Q tl) Q) hd a w → wpAny P md ops Q (hd ++ tl).length listed a w
  | [], k, listed, a, w, hl, hn, hB, h => by
    have hB' : Region.lexFrom md ops tl.length k listed = true := by
      have : ops.size - k = tl.length := by simp at hn; omega
      simpa [headB, this] using hB
    exact wpAny_of_quiet (C := fun w' => ∃ x, w' = w.mod [] x) (fun _ w' h' hq => hq w' h') _ _ _ _ (Mods.refl [] w).ex (wpAnyQ_lex (md := md) hs tl k listed a (by simpa using hl) hB' h)
  | o :: hd, k, listed, a, w, hl, hn, hB, h => by
    have h0 : ops[k]? = some o := by simpa using (hl 0).symm
    simp only [List.length_cons, headB, Bool.and_eq_true, decide_eq_true_eq] at hB
    have hn' : k + 1 + (hd ++ tl).length = ops.size := by simp at hn ⊢; omega
    have ih := fun a' w' => wpAny_head (P := P) (Q := Q) hs tl hd (k + 1) (listed.setIfInBounds k true) a' w' (fun j => by have := hl (j + 1); simpa [Nat.add_assoc, Nat.add_comm 1 j] using this) hn' hB.2
    show wpAny P md ops Q ((hd ++ tl).length + 1) listed a w
    refine ⟨fun h1 => (by rw [hB.1] at h1; cases h1), fun i hi => ?_⟩
    rw [hB.1] at hi
    have hik : i = k := by simpa using hi
    subst hik
    unfold wpOp
    simp only [h0]
    unfold wpList at h
    split
    · rename_i hw
      rw [if_pos hw] at h
      rcases h with h | ⟨h1, h2⟩
      · exact .inl (Oper.wp_mono ih (wp_then h))
      · exact .inr ⟨h1, letsOut_then h2⟩
    · rename_i hw
      rw [if_neg hw] at h
      exact ih _ _ h
theorem wp_region_head {P : Program} {id : Nat} {Q : Exit → Act → World → Prop} {a : Act} {w : World} {l : List Oper} (n : Nat) (hm : P.follows .mixedOrders = true) (hs : Region.noSelect l.toArray = true) (hn : n ≤ l.length)
    (hB : headB .any l.toArray n 0 (Array.replicate l.toArray.size false) = true) (h : wpList P l.toArray (Exit.then (restQ P l.toArray Q (l.drop n)) Q) (l.take n) a w.drew) : (Code.region id l.toArray true).wp P Q a w := by
  refine wp_region_any hm ?_
  have hl : (l.take n).length = n := by simp; omega
  have := wpAny_head (P := P) (md := .any) (Q := Q) hs (l.drop n) (l.take n) 0 (Array.replicate l.toArray.size false) a w.drew (by simp) (by simp) (by rw [hl]; exact hB) h
  simpa using this
theorem wp_region_still_drew {P : Program} {id : Nat} {Q : Exit → Act → World → Prop} {a : Act} {w : World} {l : List Oper} (n : Nat) (hm : P.follows .mixedOrders = true) (hB : Region.lexTailB .any l.toArray n = true)
    (h : wpStill P l.toArray w.drew (fun a' => wpList P l.toArray Q (l.drop n) a' w.drew) (l.take n) a) : (Code.region id l.toArray true).wp P Q a w := wp_region_still_tail n hm hB h
end Go.Proofs.YtjpgcokdlopkaaaGreatDoor


/-! A REGION THAT DRAWS ITS ORDER IN THREE PARTS: moves that may be taken at once; quiet operations and calls (in a class of worlds); behind them a row of operations in the one order that there is. -/
namespace Go.Proofs.YtjpgcokdlopkaaaGreatDoor
open Go.RowKit

section
variable {P : Program} {ops : Array Oper} {md : Region.Mode} {C : World → Prop}
/-- f operations more, all of the quiet part, in whatever order; then L -/
def wpAnyT (P : Program) (md : Region.Mode) (ops : Array Oper) (C : World → Prop) (n : Nat) (L : Array Bool → Act → Prop) : Nat → Array Bool → Act → Prop
  | 0, listed, a => L listed a
  | f + 1, listed, a => Region.ready md ops listed ≠ [] ∧ ∀ i ∈ Region.ready md ops listed, i < n ∧ qOp P ops C i (wpAnyT P md ops C n L f (listed.setIfInBounds i true)) a
theorem wpAny_of_T {n g : Nat} {L : Array Bool → Act → Prop} {Q : Exit → Act → World → Prop} (hL : ∀ listed a w, C w → L listed a → wpAny P md ops Q g listed a w) :
    ∀ (f : Nat) (listed : Array Bool) (a : Act) (w : World), C w → wpAnyT P md ops C n L f listed a → wpAny P md ops Q (f + g) listed a w
  | 0, listed, a, w, hw, h => by rw [Nat.zero_add]; exact hL _ _ _ hw h
  | f + 1, listed, a, w, hw, h => by
    rw [show f + 1 + g = (f + g) + 1 by omega]
    exact ⟨fun h0 => absurd h0 h.1, fun i hi => wpOp_of_qOp hw (fun a' w' hw' h' => wpAny_of_T hL f _ a' w' hw' h') (h.2 i hi).2⟩
/-- each operation of the quiet part is waited for by a later one of it, or by the tail's first; each of the tail waits for the one ahead -/
def sinkM (md : Region.Mode) (ops : Array Oper) (m n : Nat) : Bool := (List.range n).all fun i => decide (i < m) || (List.range (n + 1)).any fun j => decide (i < j) && Region.waitsFor md ops j i
structure InvM (md : Region.Mode) (ops : Array Oper) (n : Nat) (listed : Array Bool) : Prop where
  size : listed.size = ops.size
  closed : ∀ j oj, ops[j]? = some oj → listed.getD j false = true → ∀ e ∈ oj.after, Region.binds md e = true → listed.getD e.on false = true
  tail : ∀ t, n ≤ t → t < ops.size → listed.getD t true = false
theorem InvM.set {n i : Nat} {listed : Array Bool} (inv : InvM md ops n listed) (hi : i ∈ Region.ready md ops listed) (hin : i < n) : InvM md ops n (listed.setIfInBounds i true) := by
  obtain ⟨_, oi, hoi, hall⟩ := mem_ready.1 hi
  refine ⟨by simp [inv.size], fun j oj hj hl e he hb => ?_, fun t ht ht' => by rw [getD_set_ne true (by omega)]; exact inv.tail t ht ht'⟩
  by_cases hij : i = j
  · subst hij
    obtain rfl : oj = oi := Option.some.inj (hj.symm.trans hoi)
    exact getD_set_true (hall e he hb)
  · rw [getD_set_ne false hij] at hl
    exact getD_set_true (inv.closed j oj hj hl e he hb)
theorem tail_waitsM {m n : Nat} {listed : Array Bool} (hs : sinkM md ops m n = true) (hc : Region.chainB md ops n = true) (hn : n < ops.size) (inv : InvM md ops n listed) :
    ∀ (d i : Nat), n - i = d → m ≤ i → i < n → listed.getD i true = false → ∀ t, n ≤ t → t ∉ Region.ready md ops listed := by
  intro d
  induction d using Nat.strongRecOn with
  | _ d ih =>
    intro i hd hmi hi hun t ht hr
    obtain ⟨_, ot, hot, hall⟩ := mem_ready.1 hr
    have htlt : t < ops.size := (Array.getElem?_eq_some_iff.1 hot).1
    rcases Nat.lt_or_ge n t with htn | htn
    · have h1 := List.all_eq_true.1 hc t (List.mem_range.2 htlt)
      simp only [Bool.or_eq_true, decide_eq_true_eq] at h1
      rcases h1 with h1 | h1
      · omega
      · obtain ⟨o', ho', e, he, hb, hon⟩ := Region.waitsFor_spec h1
        obtain rfl : o' = ot := Option.some.inj (ho'.symm.trans hot)
        have h2 := hall e he hb
        rw [hon, getD_both (inv.tail (t - 1) (by omega) (by omega))] at h2
        cases h2
    · obtain rfl : t = n := by omega
      have h1 := List.all_eq_true.1 hs i (List.mem_range.2 hi)
      simp only [Bool.or_eq_true, decide_eq_true_eq] at h1
      rcases h1 with h1 | h1
      · omega
      obtain ⟨j, hj, hj2⟩ := List.any_eq_true.1 h1
      simp only [Bool.and_eq_true, decide_eq_true_eq] at hj2
      obtain ⟨oj, hoj, e, he, hb, hon⟩ := Region.waitsFor_spec hj2.2
      have hjle : j ≤ t := by have := List.mem_range.1 hj; omega
      rcases Nat.lt_or_ge j t with hjt | hjt
      · cases hl : listed.getD j false with
        | true =>
          have h2 := inv.closed j oj hoj hl e he hb
          rw [hon, getD_both hun] at h2
          cases h2
        | false => exact ih (t - j) (by omega) j rfl (by omega) hjt (getD_in (by rw [inv.size]; omega) hl) t (Nat.le_refl _) hr
      · obtain rfl : j = t := by omega
        obtain rfl : oj = ot := Option.some.inj (hoj.symm.trans hot)
        have h2 := hall e he hb
        rw [hon, getD_both hun] at h2
        cases h2
theorem wpAnyT_first {m n i : Nat} {oi : Oper} {v : Value} {L : Array Bool → Act → Prop} (hi : ops[i]? = some oi) (hsel : ∀ (j : Nat) (o : Oper) cs b, ops[j]? = some o → o.op ≠ .select cs b)
    (hs : sinkM md ops m n = true) (hc : Region.chainB md ops n = true) (hn : n < ops.size) (hmi : m ≤ i) (hin : i < n) (hdone : ∀ listed a, L listed a → ∀ j ∈ Region.ready md ops listed, n ≤ j) :
    ∀ (f : Nat) (listed : Array Bool) (a : Act), InvM md ops n listed →
      (∀ j oj, ops[j]? = some oj → j ≠ i → listed.getD j true = false → (∀ e ∈ oj.after, Region.binds md e = true → e.on ≠ i) → oi.apart ops oj = true) →
      i ∈ Region.ready md ops listed → YieldsIn P ops C oi v a → wpAnyT P md ops C n L f (listed.setIfInBounds i true) (a.put oi.dst v) → wpAnyT P md ops C n L (f + 1) listed a := by
  intro f
  induction f with
  | zero =>
    intro listed a inv _ hr hy H
    have hun := (mem_ready.1 hr).1
    refine ⟨fun h => (by rw [h] at hr; cases hr), fun j hj => ?_⟩
    have hjn : j < n := Nat.lt_of_not_le fun h => tail_waitsM hs hc hn inv _ i rfl hmi hin hun j h hj
    refine ⟨hjn, ?_⟩
    by_cases hji : j = i
    · subst hji; exact hy.qOp hi H
    · have := hdone _ _ H j (ready_mono hj hji)
      omega
  | succ f ih =>
    intro listed a inv hfree hr hy H
    have hun := (mem_ready.1 hr).1
    refine ⟨fun h => (by rw [h] at hr; cases hr), fun j hj => ?_⟩
    have hjn : j < n := Nat.lt_of_not_le fun h => tail_waitsM hs hc hn inv _ i rfl hmi hin hun j h hj
    refine ⟨hjn, ?_⟩
    by_cases hji : j = i
    · subst hji; exact hy.qOp hi H
    · have h1 := (H.2 j (ready_mono hj hji)).2
      obtain ⟨hjun, oj, hoj, hall⟩ := mem_ready.1 hj
      have hnot : ∀ e ∈ oj.after, Region.binds md e = true → e.on ≠ i := fun e he hb heq => by
        have h1 := hall e he hb
        rw [heq, getD_both hun] at h1
        cases h1
      have h2 := qOp_put hoj (hfree j oj hoj hji hjun hnot) (fun cs b => hsel i oi cs b hi) (fun cs b => hsel j oj cs b hoj) hy h1
      have hfree' : ∀ k ok, ops[k]? = some ok → k ≠ i → (listed.setIfInBounds j true).getD k true = false → (∀ e ∈ ok.after, Region.binds md e = true → e.on ≠ i) → oi.apart ops ok = true := fun k ok hk hki hunk hno => by
        refine hfree k ok hk hki ?_ hno
        by_cases hjk : j = k
        · subst hjk; exact hjun
        · rw [getD_set_ne true hjk] at hunk; exact hunk
      refine qOp_mono (fun a' h3 => ih (listed.setIfInBounds j true) a' (inv.set hj hjn) hfree' (ready_mono hr (Ne.symm hji)) h3.1 ?_) h2
      rw [Array.setIfInBounds_comm _ _ hji]
      exact h3.2
theorem wpAnyT_lex {m n g : Nat} {Lq : Act → Prop} (hsel : Region.noSelect ops = true) (hs : sinkM md ops m n = true) (hc : Region.chainB md ops n = true) (hn : n < ops.size) :
    ∀ (l : List Oper) (k : Nat) (listed : Array Bool) (a : Act), (∀ j, j < l.length → l[j]? = ops[k + j]?) → k + l.length = n → m ≤ k → InvM md ops n listed →
      Region.lexHead md ops g l.length k listed = true → wpQuiet P ops C Lq l a → wpAnyT P md ops C n (fun listed' a' => Region.seqB md ops g n listed' = true ∧ Lq a') l.length listed a
  | [], k, listed, a, _, hk, _, _, hB, h => by
    obtain rfl : k = n := by simpa using hk
    exact ⟨by simpa [Region.lexHead] using hB, h⟩
  | o :: l, k, listed, a, hl, hk, hmk, inv, hB, h => by
    have h0 : ops[k]? = some o := by simpa using (hl 0 (by simp)).symm
    simp only [List.length_cons, Region.lexHead, Bool.and_eq_true] at hB
    obtain ⟨⟨hr, hf⟩, hB'⟩ := hB
    have hkn : k < n := by simp only [List.length_cons] at hk; omega
    have hr' : k ∈ Region.ready md ops listed := by simpa using hr
    have hst : qOp P ops C k (wpQuiet P ops C Lq l) a := by unfold qOp; simp only [h0]; exact h
    obtain ⟨v, hy, hK⟩ := yieldsIn_of_qOp h0 hst
    exact wpAnyT_first h0 (Region.noSelect_spec hsel) hs hc hn hmk hkn (fun listed' a' hL => seqB_ready hL.1) l.length listed a inv (Region.free_spec h0 hf) hr' hy
      (wpAnyT_lex hsel hs hc hn l (k + 1) _ _ (fun j hj => by have := hl (j + 1) (by simp; omega); simpa [Nat.add_assoc, Nat.add_comm 1 j] using this) (by simp only [List.length_cons] at hk; omega) (by omega) (inv.set hr' hkn) hB' hK)
/-- the first operations are moves -/
def movesB (md : Region.Mode) (ops : Array Oper) (rest : Array Bool → Bool) : Nat → Nat → Array Bool → Bool
  | 0, _, listed => rest listed
  | m + 1, k, listed => (match ops[k]? with | some o => (match o.op with | .move _ => o.guard.isNone | _ => false) | none => false) && (Region.ready md ops listed).contains k && Region.free md ops listed k && movesB md ops rest m (k + 1) (listed.setIfInBounds k true)
def moved : List Oper → Act → Act
  | [], a => a
  | o :: l, a => moved l (match o.op with | .move x => a.put o.dst (a.eval x) | _ => a)
def tailQ (P : Program) (ops : Array Oper) (C : World → Prop) (Q : Exit → Act → World → Prop) (tl : List Oper) (a : Act) : Prop := ∀ w, C w → wpList P ops Q tl a w
theorem wpAny_moves {Q : Exit → Act → World → Prop} {rest : Array Bool → Bool} {n : Nat} (hsel : Region.noSelect ops = true) (hQ : ∀ c a d v w, Q (.panic c) (Act.put a d v) w → Q (.panic c) a w) {R : Act → Prop} {w : World} {g : Nat}
    (hrest : ∀ listed a, InvM md ops n listed → rest listed = true → R a → wpAny P md ops Q g listed a w) :
    ∀ (l : List Oper) (k : Nat) (listed : Array Bool) (a : Act), (∀ j, j < l.length → l[j]? = ops[k + j]?) → k + l.length ≤ n → InvM md ops n listed → movesB md ops rest l.length k listed = true → R (moved l a) → wpAny P md ops Q (l.length + g) listed a w
  | [], k, listed, a, _, _, inv, hB, h => by
    rw [List.length_nil, Nat.zero_add]
    exact hrest listed a inv hB h
  | o :: l, k, listed, a, hl, hk, inv, hB, h => by
    have h0 : ops[k]? = some o := by simpa using (hl 0 (by simp)).symm
    simp only [List.length_cons, movesB, h0, Bool.and_eq_true] at hB
    obtain ⟨⟨⟨hmv, hr⟩, hf⟩, hB'⟩ := hB
    have hr' : k ∈ Region.ready md ops listed := by simpa using hr
    cases hop : o.op with
    | move x =>
      rw [hop] at hmv
      have hg : o.guard = none := by simpa using hmv
      have hw : Region.wanted o (yielded ops a.tmps) = true := by simp [Region.wanted, hg]
      have hy : Yields P ops o (a.eval x) a := .inl ⟨hw, fun w => BigFrame.run_move x hop w⟩
      rw [List.length_cons, show l.length + 1 + g = (l.length + g) + 1 by omega]
      refine wpAny_take h0 hsel hf hr (fun c a' w' hq => hQ c a' _ _ w' hq) hy ?_
      refine wpAny_moves hsel hQ hrest l (k + 1) _ _ (fun j hj => by have := hl (j + 1) (by simp; omega); simpa [Nat.add_assoc, Nat.add_comm 1 j] using this) (by simp only [List.length_cons] at hk; omega) (inv.set hr' (by simp only [List.length_cons] at hk; omega)) hB' ?_
      simpa [moved, hop] using h
    | _ => rw [hop] at hmv; cases hmv
end
theorem wp_region_qtail {P : Program} {id : Nat} {Q : Exit → Act → World → Prop} {a : Act} {w : World} {l : List Oper} (m n : Nat) (hm : P.follows .mixedOrders = true) (hs : Region.noSelect l.toArray = true)
    (hQ : ∀ c a d v w, Q (.panic c) (Act.put a d v) w → Q (.panic c) a w) (hmn : m ≤ n) (hn : n < l.length) (hsk : sinkM .any l.toArray m n = true) (hc : Region.chainB .any l.toArray n = true)
    (hB : movesB .any l.toArray (fun listed => Region.lexHead .any l.toArray (l.toArray.size - n) (n - m) m listed) m 0 (Array.replicate l.toArray.size false) = true)
    (h : wpQuiet P l.toArray (fun w' => ∃ x, w' = w.mod [] x) (tailQ P l.toArray (fun w' => ∃ x, w' = w.mod [] x) Q (l.drop n)) ((l.drop m).take (n - m)) (moved (l.take m) a)) : (Code.region id l.toArray true).wp P Q a w := by
  refine wp_region_any hm ?_
  have hCd : ∃ x, ({ w with drawn := w.drawn + 1 } : World) = w.mod [] x := (Mods.refl [] w).drew.ex
  have hml : (l.take m).length = m := by simp; omega
  have hql : ((l.drop m).take (n - m)).length = n - m := by simp; omega
  have hn' : n < l.toArray.size := by simpa using hn
  have inv0 : InvM .any l.toArray n (Array.replicate l.toArray.size false) :=
    ⟨by simp, fun j oj _ hl => (by rw [getD_replicate_false] at hl; cases hl), fun t _ ht => getD_in (by simpa using ht) (getD_replicate_false _ _)⟩
  have key := wpAny_moves (P := P) (md := .any) (Q := Q) (n := n) (rest := fun listed => Region.lexHead .any l.toArray (l.toArray.size - n) (n - m) m listed) hs hQ (w := { w with drawn := w.drawn + 1 }) (g := l.toArray.size - m)
    (R := wpQuiet P l.toArray (fun w' => ∃ x, w' = w.mod [] x) (tailQ P l.toArray (fun w' => ∃ x, w' = w.mod [] x) Q (l.drop n)) ((l.drop m).take (n - m))) (fun listed a' inv hrest hR => by
      have H := wpAnyT_lex (C := fun w' => ∃ x, w' = w.mod [] x) (md := .any) (g := l.toArray.size - n) hs hsk hc hn' ((l.drop m).take (n - m)) m listed a' (fun j hj => by
        have hj' : j < n - m := by rw [hql] at hj; exact hj
        simp [hj', List.getElem?_drop]) (by rw [hql]; omega) (Nat.le_refl _) inv (by rw [hql]; exact hrest) hR
      have := wpAny_of_T (Q := Q) (g := l.toArray.size - n) (fun listed'' a'' w'' hw'' hL => by
        have hdl : (l.drop n).length = l.toArray.size - n := by simp
        have := wpAny_of_seq (md := .any) (Q' := Q) (l.drop n) n listed'' a'' w'' (fun j => by simp [List.getElem?_drop]) (by rw [hdl]; exact hL.1) (hL.2 w'' hw'')
        rwa [hdl] at this) _ _ _ _ hCd H
      rw [hql, show n - m + (l.toArray.size - n) = l.toArray.size - m by omega] at this
      exact this)
    (l.take m) 0 _ a (fun j hj => by
      have hj' : j < m := by rw [hml] at hj; exact hj
      simp [hj']) (by rw [hml]; omega) inv0 (by rw [hml]; exact hB) h
  rw [hml, show m + (l.toArray.size - m) = l.toArray.size by omega] at key
  exact key
end Go.Proofs.YtjpgcokdlopkaaaGreatDoor


/-! A REGION THAT DRAWS ITS ORDER: loads and the like, taken first; three 'make's of slices, in whatever order; a row of operations behind them. -/
namespace Go.Proofs.YtjpgcokdlopkaaaGreatDoor
open Go.RowKit

section
variable {P : Program} {ops : Array Oper} {md : Region.Mode} {Q : Exit → Act → World → Prop} {S : World → Prop}
/-- operations that give a value and do nothing else -/
def valB (o : Oper) : Bool := match o.op with
  | .move _ | .load _ _ | .fieldAddr _ _ _ | .indexAddr _ _ _ => true
  | .call c => match c.callee with | .builtin .len => true | _ => false
  | _ => false
theorem val_of {o : Oper} (h : valB o = true) {ρ : Operand → Value} {w w' : World} {n : Next} (hr : (execOp ρ o).run P w = .ok n w') : ∃ u, n = .value u := by
  have bindv : ∀ (s : Sem Value), (Bind.bind s fun x => Pure.pure (Next.value x) : Sem Next).run P w = .ok n w' → ∃ u, n = .value u := fun s hs => by
    rw [Sem.run_bind] at hs
    cases hx : s.run P w with
    | ok x w1 => rw [hx] at hs; simp only [Result.andThen_ok, Sem.run_pure] at hs; cases hs; exact ⟨x, rfl⟩
    | halt x w1 => rw [hx] at hs; cases hs
  unfold valB at h
  unfold execOp at hr
  cases hop : o.op <;> rw [hop] at h hr <;> first | (cases h; done) | skip
  case move x => simp only [Sem.run_pure] at hr; cases hr; exact ⟨_, rfl⟩
  case load t x => exact bindv _ hr
  case fieldAddr s x f => exact bindv _ hr
  case indexAddr t x ix => exact bindv _ hr
  case call c =>
    cases hc : c.callee with
    | builtin b =>
      cases b <;> simp only [hc] at h <;> first | (cases h; done) | skip
      simp only [resolve, hc, invoke, builtin, Sem.run_bind, Sem.run_pure, Result.andThen_ok] at hr
      cases hx : (Builtin.len_ c.argTypes o.type (Array.map ρ c.args)).run P w with
      | ok x w1 => rw [hx] at hr; simp only [Result.andThen_ok] at hr; cases hr; exact ⟨x, rfl⟩
      | halt x w1 => rw [hx] at hr; cases hr
    | _ => simp only [hc] at h; cases h
def wpAnyK (P : Program) (md : Region.Mode) (ops : Array Oper) (Q : Exit → Act → World → Prop) (S : World → Prop) (n : Nat) (L : Array Bool → Act → World → Prop) : Nat → Array Bool → Act → World → Prop
  | 0, listed, a, w => L listed a w
  | f + 1, listed, a, w => Region.ready md ops listed ≠ [] ∧ ∀ i ∈ Region.ready md ops listed, i < n ∧ wpOp P ops Q i (fun a' w' => S w' ∧ wpAnyK P md ops Q S n L f (listed.setIfInBounds i true) a' w') a w
theorem wp_false {o : Oper} {a : Act} {w : World} {K : Act → World → Prop} (h : o.wp P a w K fun _ _ _ => False) : o.wp P a w K Q := by
  unfold Oper.wp at *
  generalize (execOp a.eval o).run P w = r at *
  cases r with
  | ok n w' =>
    cases n <;> simp only [Oper.upon] at h ⊢
    case value u => exact h
    case skip => exact h
    case defer d => exact h
    case enter f args =>
      refine Calls.mono h fun e w'' he => ?_
      cases e with
      | returned u => exact he
      | panicked c => exact he.elim
      | outgrown => exact he.elim fun _ h => h.elim fun _ h => h.elim
    case row row args => exact h
  | halt x w' =>
    cases x <;> simp only [Oper.upon] at h ⊢
theorem wpOp_false {i : Nat} {a : Act} {w : World} {K : Act → World → Prop} (h : wpOp P ops (fun _ _ _ => False) i K a w) : wpOp P ops Q i K a w := by
  unfold wpOp at *
  cases ho : ops[i]? with
  | none => simp only [ho] at h ⊢; exact h
  | some o =>
    simp only [ho] at h ⊢
    split
    · rename_i hw
      rw [if_pos hw] at h
      rcases h with h | ⟨h1, h2⟩
      · exact .inl (wp_false h)
      · exact h2.elim fun _ h => h.elim fun _ h => h.elim
    · rename_i hw
      rw [if_neg hw] at h
      exact h
theorem wpAny_of_K {n g : Nat} {L : Array Bool → Act → World → Prop} (hL : ∀ listed a w, L listed a w → wpAny P md ops Q g listed a w) : ∀ (f : Nat) (listed : Array Bool) (a : Act) (w : World), wpAnyK P md ops (fun _ _ _ => False) S n L f listed a w → wpAny P md ops Q (f + g) listed a w
  | 0, listed, a, w, h => by rw [Nat.zero_add]; exact hL _ _ _ h
  | f + 1, listed, a, w, h => by
    rw [show f + 1 + g = (f + g) + 1 by omega]
    exact ⟨fun h0 => absurd h0 h.1, fun i hi => wpOp_mono (fun a' w' h' => wpAny_of_K hL f _ a' w' h'.2) (wpOp_false (h.2 i hi).2)⟩
theorem wpAnyK_first {n i : Nat} {oi : Oper} {v : Value} {L : Array Bool → Act → World → Prop} (hi : ops[i]? = some oi) (hsel : ∀ (j : Nat) (o : Oper) cs b, ops[j]? = some o → o.op ≠ .select cs b)
    (hQ : ∀ c a w, Q (.panic c) (a.put oi.dst v) w → Q (.panic c) a w) (hs : sinkM md ops 0 n = true) (hc : Region.chainB md ops n = true) (hn : n < ops.size) (hin : i < n) (hdone : ∀ listed a w, L listed a w → ∀ j ∈ Region.ready md ops listed, n ≤ j) :
    ∀ (f : Nat) (listed : Array Bool) (a : Act) (w : World), InvM md ops n listed →
      (∀ j oj, ops[j]? = some oj → j ≠ i → listed.getD j true = false → (∀ e ∈ oj.after, Region.binds md e = true → e.on ≠ i) → oi.apart ops oj = true) →
      i ∈ Region.ready md ops listed → YieldsIf P ops S oi v a → S w → wpAnyK P md ops Q S n L f (listed.setIfInBounds i true) (a.put oi.dst v) w → wpAnyK P md ops Q S n L (f + 1) listed a w := by
  intro f
  induction f with
  | zero =>
    intro listed a w inv _ hr hy hS H
    have hun := (mem_ready.1 hr).1
    refine ⟨fun h => (by rw [h] at hr; cases hr), fun j hj => ?_⟩
    have hjn : j < n := Nat.lt_of_not_le fun h => tail_waitsM hs hc hn inv _ i rfl (Nat.zero_le _) hin hun j h hj
    refine ⟨hjn, ?_⟩
    by_cases hji : j = i
    · subst hji; exact hy.wpOp hi hS ⟨hS, H⟩
    · have := hdone _ _ _ H j (ready_mono hj hji)
      omega
  | succ f ih =>
    intro listed a w inv hfree hr hy hS H
    have hun := (mem_ready.1 hr).1
    refine ⟨fun h => (by rw [h] at hr; cases hr), fun j hj => ?_⟩
    have hjn : j < n := Nat.lt_of_not_le fun h => tail_waitsM hs hc hn inv _ i rfl (Nat.zero_le _) hin hun j h hj
    refine ⟨hjn, ?_⟩
    by_cases hji : j = i
    · subst hji; exact hy.wpOp hi hS ⟨hS, H⟩
    · have h1 := (H.2 j (ready_mono hj hji)).2
      obtain ⟨hjun, oj, hoj, hall⟩ := mem_ready.1 hj
      have hnot : ∀ e ∈ oj.after, Region.binds md e = true → e.on ≠ i := fun e he hb heq => by
        have h1 := hall e he hb
        rw [heq, getD_both hun] at h1
        cases h1
      have h2 := wpOp_putIf hoj (hfree j oj hoj hji hjun hnot) (fun cs b => hsel i oi cs b hi) (fun cs b => hsel j oj cs b hoj) hQ hy h1
      have hfree' : ∀ k ok, ops[k]? = some ok → k ≠ i → (listed.setIfInBounds j true).getD k true = false → (∀ e ∈ ok.after, Region.binds md e = true → e.on ≠ i) → oi.apart ops ok = true := fun k ok hk hki hunk hno => by
        refine hfree k ok hk hki ?_ hno
        by_cases hjk : j = k
        · subst hjk; exact hjun
        · rw [getD_set_ne true hjk] at hunk; exact hunk
      refine wpOp_mono (fun a' w' h3 => ⟨h3.2.1, ih (listed.setIfInBounds j true) a' w' (inv.set hj hjn) hfree' (ready_mono hr (Ne.symm hji)) h3.1 h3.2.1 ?_⟩) h2
      rw [Array.setIfInBounds_comm _ _ hji]
      exact h3.2.2
/-- the operations of a list, taken first -/
def takesB (md : Region.Mode) (ops : Array Oper) (n : Nat) (rest : Array Bool → Bool) : List Nat → Array Bool → Bool
  | [], listed => rest listed
  | i :: is, listed => decide (i < n) && (match ops[i]? with | some o => valB o && o.guard.isNone | none => false) && (Region.ready md ops listed).contains i && Region.free md ops listed i && takesB md ops n rest is (listed.setIfInBounds i true)
theorem wpAnyK_takes {n f : Nat} {L : Array Bool → Act → World → Prop} {rest : Array Bool → Bool} {R : Act → Prop} {w : World} (hsel : Region.noSelect ops = true) (hQ : ∀ c a d v w, Q (.panic c) (Act.put a d v) w → Q (.panic c) a w)
    (hs : sinkM md ops 0 n = true) (hc : Region.chainB md ops n = true) (hn : n < ops.size) (hdone : ∀ listed a w, L listed a w → ∀ j ∈ Region.ready md ops listed, n ≤ j) (hS : S w)
    (hrest : ∀ listed a, InvM md ops n listed → rest listed = true → R a → wpAnyK P md ops Q S n L f listed a w) :
    ∀ (is : List Nat) (l : List Oper) (listed : Array Bool) (a : Act), is.map (fun i => ops[i]?) = l.map some → InvM md ops n listed → takesB md ops n rest is listed = true → wpQuiet P ops S R l a → wpAnyK P md ops Q S n L (is.length + f) listed a w
  | [], l, listed, a, hl, inv, hB, h => by
    have : l = [] := by cases l with | nil => rfl | cons o l => simp at hl
    subst this
    rw [List.length_nil, Nat.zero_add]
    exact hrest listed a inv hB h
  | i :: is, [], listed, a, hl, _, _, _ => by simp at hl
  | i :: is, o :: l, listed, a, hl, inv, hB, h => by
    simp only [List.map_cons, List.cons.injEq] at hl
    obtain ⟨h0, hl⟩ := hl
    simp only [takesB, h0, Bool.and_eq_true, decide_eq_true_eq] at hB
    obtain ⟨⟨⟨⟨hin, hv, hg⟩, hr⟩, hf⟩, hB'⟩ := hB
    have hr' : i ∈ Region.ready md ops listed := by simpa using hr
    have hgn : o.guard = none := by simpa using hg
    have hw : Region.wanted o (yielded ops a.tmps) = true := by simp [Region.wanted, hgn]
    unfold wpQuiet at h
    rw [if_pos hw] at h
    obtain ⟨v, h1, h2⟩ := h
    have hy : YieldsIf P ops S o v a := .inl ⟨hw, fun w' hw' => by
      have h3 := h1 w' hw'
      unfold Oper.quietAt at h3
      cases hx : (execOp a.eval o).run P w' with
      | ok nx w1 =>
        obtain ⟨u, rfl⟩ := val_of hv hx
        rw [hx] at h3
        simp only [Oper.quietUpon] at h3
        rw [h3.1, h3.2]
      | halt x w1 => rw [hx] at h3; simp only [Oper.quietUpon] at h3⟩
    rw [List.length_cons, show is.length + 1 + f = (is.length + f) + 1 by omega]
    exact wpAnyK_first h0 (Region.noSelect_spec hsel) (fun c a' w' hq => hQ c a' _ _ w' hq) hs hc hn hin hdone _ listed a w inv (Region.free_spec h0 hf) hr' hy hS
      (wpAnyK_takes hsel hQ hs hc hn hdone hS hrest is l _ _ hl (inv.set hr' hin) hB' h2)
/-- an operation 'make([]T, s)' -/
structure MakeAt (ops : Array Oper) (i : Nat) (t : TypeId) (s d : Nat) : Prop where
  out : ∃ o, ops[i]? = some o ∧ o.op = .makeSlice t (.tmp s) (.tmp s) ∧ o.guard = none ∧ o.dst = some d
theorem MakeAt.wp {i t s d nn e : Nat} {cs : Array Value} {a a' : Act} {w : World} {K : Act → World → Prop} (h : MakeAt ops i t s d) (hm : ∀ W, (Instr.makeSlice t (a.eval (.tmp s)) (a.eval (.tmp s))).run P W = .ok (.slice (some ⟨W.heap.size, 0, none⟩) nn nn) (W.alloc (.cells cs e)))
    (he : a'.eval (.tmp s) = a.eval (.tmp s)) (hK : K (a'.put (some d) (.slice (some ⟨w.heap.size, 0, none⟩) nn nn)) (w.alloc (.cells cs e))) : wpOp P ops Q i K a' w := by
  obtain ⟨o, h0, h1, h2, h3⟩ := h.out
  unfold wpOp
  simp only [h0]
  rw [if_pos (by simp [Region.wanted, h2])]
  refine .inl ?_
  unfold Oper.wp execOp
  simp only [h1, he, Sem.run_bind, hm, Result.andThen_ok, Sem.run_pure, Oper.upon, h3]
  exact hK
end
/-- three new rows -/
structure New3 (w w' : World) (b1 b2 b3 : Nat) (c1 c2 c3 : Array Value) (e1 e2 e3 : Nat) : Prop where
  mods : Mods [] w w'
  one : w'.heap[b1]? = some (.cells c1 e1 (0, 0))
  two : w'.heap[b2]? = some (.cells c2 e2 (0, 0))
  three : w'.heap[b3]? = some (.cells c3 e3 (0, 0))
  ge1 : w.heap.size ≤ b1
  ge2 : w.heap.size ≤ b2
  ge3 : w.heap.size ≤ b3
  ne12 : b1 ≠ b2
  ne13 : b1 ≠ b3
  ne23 : b2 ≠ b3
theorem eval_put_ne {a : Act} {d s : Nat} {v : Value} (h : d ≠ s) : (a.put (some d) v).eval (.tmp s) = a.eval (.tmp s) := Act.eval_put fun e he => by cases he; intro hh; cases hh; exact h rfl
theorem heap3 (w : World) (x y z : Obj) : (((w.alloc x).alloc y).alloc z).heap[w.heap.size]? = some x ∧ (((w.alloc x).alloc y).alloc z).heap[w.heap.size + 1]? = some y ∧ (((w.alloc x).alloc y).alloc z).heap[w.heap.size + 1 + 1]? = some z := by
  have n0 : ∀ (W : World) (o : Obj) (k : Nat), k = W.heap.size → (W.alloc o).heap[k]? = some o := fun W o k hk => by subst hk; exact heap_alloc_new W o
  exact ⟨(Below.heap_alloc _ _ _ (by simp; omega)).trans ((Below.heap_alloc _ _ _ (by simp)).trans (n0 _ _ _ rfl)), (Below.heap_alloc _ _ _ (by simp)).trans (n0 _ _ _ (by simp)), n0 _ _ _ (by simp)⟩
theorem alloc_size (w : World) (o : Obj) : (w.alloc o).heap.size = w.heap.size + 1 := by simp
theorem wpAnyK_makes {P : Program} {ops : Array Oper} {md : Region.Mode} {Q : Exit → Act → World → Prop} {S : World → Prop} {n i j k t1 t2 t3 s1 s2 s3 d1 d2 d3 n1 n2 n3 e1 e2 e3 : Nat} {c1 c2 c3 : Array Value} {L : Array Bool → Act → World → Prop} {listed : Array Bool} {a : Act} {w : World}
    (hb : (decide (Region.ready md ops listed = [i, j, k]) && decide (Region.ready md ops (listed.setIfInBounds i true) = [j, k]) && decide (Region.ready md ops (listed.setIfInBounds j true) = [i, k]) && decide (Region.ready md ops (listed.setIfInBounds k true) = [i, j]) &&
      decide (Region.ready md ops ((listed.setIfInBounds i true).setIfInBounds j true) = [k]) && decide (Region.ready md ops ((listed.setIfInBounds i true).setIfInBounds k true) = [j]) && decide (Region.ready md ops ((listed.setIfInBounds j true).setIfInBounds k true) = [i])) = true)
    (hlt : i < n ∧ j < n ∧ k < n) (hij : i ≠ j) (hik : i ≠ k) (hjk : j ≠ k) (m1 : MakeAt ops i t1 s1 d1) (m2 : MakeAt ops j t2 s2 d2) (m3 : MakeAt ops k t3 s3 d3) (hd : d1 ≠ d2 ∧ d1 ≠ d3 ∧ d2 ≠ d3) (hds : d1 ≠ s2 ∧ d1 ≠ s3 ∧ d2 ≠ s1 ∧ d2 ≠ s3 ∧ d3 ≠ s1 ∧ d3 ≠ s2)
    (r1 : ∀ W, (Instr.makeSlice t1 (a.eval (.tmp s1)) (a.eval (.tmp s1))).run P W = .ok (.slice (some ⟨W.heap.size, 0, none⟩) n1 n1) (W.alloc (.cells c1 e1))) (r2 : ∀ W, (Instr.makeSlice t2 (a.eval (.tmp s2)) (a.eval (.tmp s2))).run P W = .ok (.slice (some ⟨W.heap.size, 0, none⟩) n2 n2) (W.alloc (.cells c2 e2)))
    (r3 : ∀ W, (Instr.makeSlice t3 (a.eval (.tmp s3)) (a.eval (.tmp s3))).run P W = .ok (.slice (some ⟨W.heap.size, 0, none⟩) n3 n3) (W.alloc (.cells c3 e3))) (hS : ∀ W, Mods [] w W → S W)
    (H : ∀ b1 b2 b3 w', New3 w w' b1 b2 b3 c1 c2 c3 e1 e2 e3 → L (((listed.setIfInBounds i true).setIfInBounds j true).setIfInBounds k true) (((a.put (some d1) (.slice (some ⟨b1, 0, none⟩) n1 n1)).put (some d2) (.slice (some ⟨b2, 0, none⟩) n2 n2)).put (some d3) (.slice (some ⟨b3, 0, none⟩) n3 n3)) w') : wpAnyK P md ops Q S n L 3 listed a w := by
  simp only [Bool.and_eq_true, decide_eq_true_eq] at hb
  obtain ⟨⟨⟨⟨⟨⟨q0, q1⟩, q2⟩, q3⟩, q12⟩, q13⟩, q23⟩ := hb
  obtain ⟨hd12, hd13, hd23⟩ := hd
  obtain ⟨f12, f13, f21, f23, f31, f32⟩ := hds
  have pc : ∀ (x y : Nat) (u v : Value) (b : Act), x ≠ y → (b.put (some x) u).put (some y) v = (b.put (some y) v).put (some x) u := fun x y u v b h => (Act.put_comm b (x := some y) (y := some x) v u (fun d hd he => by cases hd; cases he; exact h rfl)).symm
  have s3 : ∀ (x y z : Obj), Mods [] w (((w.alloc x).alloc y).alloc z) := fun x y z => (((Mods.refl [] w).alloc x).alloc y).alloc z
  have cases3 : ∀ m, m ∈ [i, j, k] → m = i ∨ m = j ∨ m = k := fun m hm => by simpa using hm
  refine ⟨by rw [q0]; simp, fun m hm => ?_⟩
  rw [q0] at hm
  rcases cases3 m hm with rfl | rfl | rfl
  · refine ⟨hlt.1, m1.wp r1 rfl ⟨hS _ ((Mods.refl [] w).alloc _), by rw [q1]; simp, fun m' hm' => ?_⟩⟩
    rw [q1] at hm'
    rcases (show m' = j ∨ m' = k by simpa using hm') with rfl | rfl
    · refine ⟨hlt.2.1, m2.wp r2 (eval_put_ne f12) ⟨hS _ (((Mods.refl [] w).alloc _).alloc _), by rw [q12]; simp, fun m'' hm'' => ?_⟩⟩
      rw [q12] at hm''
      obtain rfl : m'' = k := by simpa using hm''
      refine ⟨hlt.2.2, m3.wp r3 ((eval_put_ne f23).trans (eval_put_ne f13)) ⟨hS _ (s3 _ _ _), ?_⟩⟩
      simp only [alloc_size]
      obtain ⟨x, y, z⟩ := heap3 w (.cells c1 e1) (.cells c2 e2) (.cells c3 e3)
      exact H _ _ _ _ ⟨s3 _ _ _, x, y, z, by omega, by omega, by omega, by omega, by omega, by omega⟩
    · refine ⟨hlt.2.2, m3.wp r3 (eval_put_ne f13) ⟨hS _ (((Mods.refl [] w).alloc _).alloc _), by rw [q13]; simp, fun m'' hm'' => ?_⟩⟩
      rw [q13] at hm''
      obtain rfl : m'' = j := by simpa using hm''
      refine ⟨hlt.2.1, m2.wp r2 ((eval_put_ne f32).trans (eval_put_ne f12)) ⟨hS _ (s3 _ _ _), ?_⟩⟩
      simp only [alloc_size]
      obtain ⟨x, y, z⟩ := heap3 w (.cells c1 e1) (.cells c3 e3) (.cells c2 e2)
      rw [Array.setIfInBounds_comm _ _ hjk.symm, pc d3 d2 _ _ _ hd23.symm]
      exact H _ _ _ _ ⟨s3 _ _ _, x, z, y, by omega, by omega, by omega, by omega, by omega, by omega⟩
  · refine ⟨hlt.2.1, m2.wp r2 rfl ⟨hS _ ((Mods.refl [] w).alloc _), by rw [q2]; simp, fun m' hm' => ?_⟩⟩
    rw [q2] at hm'
    rcases (show m' = i ∨ m' = k by simpa using hm') with rfl | rfl
    · have qq : Region.ready md ops ((listed.setIfInBounds m true).setIfInBounds m' true) = [k] := by rw [Array.setIfInBounds_comm _ _ hij.symm]; exact q12
      refine ⟨hlt.1, m1.wp r1 (eval_put_ne f21) ⟨hS _ (((Mods.refl [] w).alloc _).alloc _), by rw [qq]; simp, fun m'' hm'' => ?_⟩⟩
      rw [qq] at hm''
      obtain rfl : m'' = k := by simpa using hm''
      refine ⟨hlt.2.2, m3.wp r3 ((eval_put_ne f13).trans (eval_put_ne f23)) ⟨hS _ (s3 _ _ _), ?_⟩⟩
      simp only [alloc_size]
      obtain ⟨x, y, z⟩ := heap3 w (.cells c2 e2) (.cells c1 e1) (.cells c3 e3)
      rw [Array.setIfInBounds_comm (i := m) (j := m') _ _ hij.symm, pc d2 d1 _ _ _ hd12.symm]
      exact H _ _ _ _ ⟨s3 _ _ _, y, x, z, by omega, by omega, by omega, by omega, by omega, by omega⟩
    · refine ⟨hlt.2.2, m3.wp r3 (eval_put_ne f23) ⟨hS _ (((Mods.refl [] w).alloc _).alloc _), by rw [q23]; simp, fun m'' hm'' => ?_⟩⟩
      rw [q23] at hm''
      obtain rfl : m'' = i := by simpa using hm''
      refine ⟨hlt.1, m1.wp r1 ((eval_put_ne f31).trans (eval_put_ne f21)) ⟨hS _ (s3 _ _ _), ?_⟩⟩
      simp only [alloc_size]
      obtain ⟨x, y, z⟩ := heap3 w (.cells c2 e2) (.cells c3 e3) (.cells c1 e1)
      rw [Array.setIfInBounds_comm (i := m') (j := m'') _ _ hik.symm, Array.setIfInBounds_comm (i := m) (j := m'') _ _ hij.symm, pc d3 d1 _ _ _ hd13.symm, pc d2 d1 _ _ _ hd12.symm]
      exact H _ _ _ _ ⟨s3 _ _ _, z, x, y, by omega, by omega, by omega, by omega, by omega, by omega⟩
  · refine ⟨hlt.2.2, m3.wp r3 rfl ⟨hS _ ((Mods.refl [] w).alloc _), by rw [q3]; simp, fun m' hm' => ?_⟩⟩
    rw [q3] at hm'
    rcases (show m' = i ∨ m' = j by simpa using hm') with rfl | rfl
    · have qq : Region.ready md ops ((listed.setIfInBounds m true).setIfInBounds m' true) = [j] := by rw [Array.setIfInBounds_comm _ _ hik.symm]; exact q13
      refine ⟨hlt.1, m1.wp r1 (eval_put_ne f31) ⟨hS _ (((Mods.refl [] w).alloc _).alloc _), by rw [qq]; simp, fun m'' hm'' => ?_⟩⟩
      rw [qq] at hm''
      obtain rfl : m'' = j := by simpa using hm''
      refine ⟨hlt.2.1, m2.wp r2 ((eval_put_ne f12).trans (eval_put_ne f32)) ⟨hS _ (s3 _ _ _), ?_⟩⟩
      simp only [alloc_size]
      obtain ⟨x, y, z⟩ := heap3 w (.cells c3 e3) (.cells c1 e1) (.cells c2 e2)
      rw [Array.setIfInBounds_comm (i := m) (j := m') _ _ hik.symm, Array.setIfInBounds_comm (i := m) (j := m'') _ _ hjk.symm, pc d3 d1 _ _ _ hd13.symm, pc d3 d2 _ _ _ hd23.symm]
      exact H _ _ _ _ ⟨s3 _ _ _, y, z, x, by omega, by omega, by omega, by omega, by omega, by omega⟩
    · have qq : Region.ready md ops ((listed.setIfInBounds m true).setIfInBounds m' true) = [i] := by rw [Array.setIfInBounds_comm _ _ hjk.symm]; exact q23
      refine ⟨hlt.2.1, m2.wp r2 (eval_put_ne f32) ⟨hS _ (((Mods.refl [] w).alloc _).alloc _), by rw [qq]; simp, fun m'' hm'' => ?_⟩⟩
      rw [qq] at hm''
      obtain rfl : m'' = i := by simpa using hm''
      refine ⟨hlt.1, m1.wp r1 ((eval_put_ne f21).trans (eval_put_ne f31)) ⟨hS _ (s3 _ _ _), ?_⟩⟩
      simp only [alloc_size]
      obtain ⟨x, y, z⟩ := heap3 w (.cells c3 e3) (.cells c2 e2) (.cells c1 e1)
      rw [Array.setIfInBounds_comm (i := m') (j := m'') _ _ hij.symm, Array.setIfInBounds_comm (i := m) (j := m'') _ _ hik.symm, Array.setIfInBounds_comm (i := m) (j := m') _ _ hjk.symm, pc d2 d1 _ _ _ hd12.symm, pc d3 d1 _ _ _ hd13.symm, pc d3 d2 _ _ _ hd23.symm]
      exact H _ _ _ _ ⟨s3 _ _ _, z, y, x, by omega, by omega, by omega, by omega, by omega, by omega⟩
end Go.Proofs.YtjpgcokdlopkaaaGreatDoor
