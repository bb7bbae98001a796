/- Lemmas for a claim of the seat YtjpgcokdlopkaaaGreatDoor. Written in part by programs of the claim's repo. By an AI agent. -/
import Derived.Test.YtjpgcokdlopkaaaGreatDoorG07
import Derived.Test.YtjpgcokdlopkaaaGreatDoorG09

namespace Go.Proofs.YtjpgcokdlopkaaaGreatDoor
open Go.RowKit

def moreI (n : Int) : Int := min (n + 1) 1073741824
def callArgP (a : ArgP) (x : Int) : ArgP := if a.same = 0 ∧ a.other = 0 then { a with value := x, same := 1 } else if a.value = x then { a with same := moreI a.same } else { a with other := moreI a.other }
def calledTo (l : List ArgP) (xs : List Int) : Nat → List ArgP
  | 0 => l
  | k + 1 => match (calledTo l xs k)[k]?, xs[k]? with
    | some a, some x => (calledTo l xs k).set k (callArgP a x)
    | _, _ => calledTo l xs k
theorem calledTo_len (l : List ArgP) (xs : List Int) : ∀ k, (calledTo l xs k).length = l.length
  | 0 => rfl
  | k + 1 => by
    unfold calledTo
    split
    · rw [List.length_set, calledTo_len l xs k]
    · exact calledTo_len l xs k
theorem calledTo_get (l : List ArgP) (xs : List Int) : ∀ k j, k ≤ j → (calledTo l xs k)[j]? = l[j]?
  | 0, j, _ => rfl
  | k + 1, j, h => by
    unfold calledTo
    split
    · rw [List.getElem?_set, if_neg (by omega), calledTo_get l xs k j (by omega)]
    · exact calledTo_get l xs k j (by omega)
theorem calledTo_step {l : List ArgP} {xs : List Int} {k : Nat} {a : ArgP} {x : Int} (ha : l[k]? = some a) (hx : xs[k]? = some x) : calledTo l xs (k + 1) = (calledTo l xs k).set k (callArgP a x) := by
  conv => lhs; unfold calledTo
  rw [calledTo_get l xs k k (Nat.le_refl _), ha, hx]
def calledF (x : FunP) (xs : List Int) : FunP := { x with calls := moreI x.calls, args := calledTo x.args xs xs.length }
theorem countB_range {n : Int} (h : countB n = true) : 0 ≤ n ∧ n ≤ 1073741824 := by simpa [countB] using h

set_option maxHeartbeats 1000000 in
theorem more_calls (b o : Nat) (n : Int) (w : World) (hc : w.cell? ⟨b, o, none⟩ = some (.int .i64 n)) (hf : w.frozen? ⟨b, o, none⟩ = false) (h0 : 0 ≤ n) (h1 : n ≤ 1073741824) : Calls Tryz.prog 42 #[.pointer (some ⟨b, o, none⟩)] w fun e w' => e = .returned (.tuple #[]) ∧ w' = w.setCell ⟨b, o, none⟩ (.int .i64 (moreI n)) := by
  rcases Int.lt_or_le (n + 1) 1073741824 with h | h
  all_goals
    go_enter Tryz.func42, Tryz.ntmps42
    go_wp2
  all_goals
    go_end0
    first | exact ⟨rfl, by rw [show moreI n = n + 1 by unfold moreI; omega]⟩ | exact ⟨rfl, by rw [show moreI n = 1073741824 by unfold moreI; omega]⟩
/-- a list that is read out of memory that stays -/
structure Lent (w0 w : World) (B : Nat) (u : Value) (xs : List Int) : Prop where
  ints : Ints w0 u xs
  mods : Mods [] w0 w
  low : w0.heap.size ≤ B
theorem argV_set {l : List ArgP} {k j : Nat} {a a' : ArgP} {u : Value} (hk : l[k]? = some a) (hj : j < 3) (he : a'.cells = a.cells.set j u) : (argV l).set (k * 3 + j) u = argV (l.set k a') := flat_set ArgP.cells 3 ArgP.cells_len l k j hj hk he
theorem ProfF.arg {B : Nat} {w w' : World} {v : Value} {fs : List FV} {rs : List FunP} {n ga : Nat} {fv : FV} {y : FunP} {l : List ArgP} (h : ProfF B w v fs (rs.set n y)) (hn : n < rs.length) (hf : fs[n]? = some fv) (hg : fv.a.ownBlock = some ga) (hm : Mods [ga] w w') (ho : Own w' 62 3 fv.a l.length (argV l)) :
    ProfF B w' v fs (rs.set n { y with args := l }) := by
  have hx : (rs.set n y)[n]? = some y := by simp [hn]
  have hv := h.2.each n fv y hf hx
  have hm' : Mods fv.a.ownBlock.toList w w' := by rw [hg]; exact hm
  have := h.rows hf hm' (fun k hk => .inr (.inr (by simpa using hk))) (hv.updA hm' ho)
  rwa [List.set_set] at this
theorem arg_first {w : World} {ga oa n qa k : Nat} {L : List ArgP} {a : ArgP} {y : Int} (h : Own w 62 3 (.slice (some ⟨ga, oa, none⟩) n qa) n (argV L)) (hk : L[k]? = some a) (h0 : a.same = 0 ∧ a.other = 0) :
    Own ((w.setCell ⟨ga, oa + k * 3, none⟩ (.int .i64 y)).setCell ⟨ga, oa + k * 3 + 1, none⟩ (.int .i64 (moreI a.same))) 62 3 (.slice (some ⟨ga, oa, none⟩) n qa) n (argV (L.set k (callArgP a y))) ∧ Mods [ga] w ((w.setCell ⟨ga, oa + k * 3, none⟩ (.int .i64 y)).setCell ⟨ga, oa + k * 3 + 1, none⟩ (.int .i64 (moreI a.same))) := by
  refine ⟨?_, ((Mods.refl [ga] w).setCell (p := ⟨ga, oa + k * 3, none⟩) (fun _ => by simp) _).setCell (p := ⟨ga, oa + k * 3 + 1, none⟩) (fun _ => by simp) _⟩
  have e1 := (h.set (j := k * 3) (.int .i64 y)).set (j := k * 3 + 1) (.int .i64 (moreI a.same))
  have g1 : (L.set k { a with value := y })[k]? = some { a with value := y } := by simp [(List.getElem?_eq_some_iff.1 hk).1]
  have s1 : (argV L).set (k * 3) (.int .i64 y) = argV (L.set k { a with value := y }) := argV_set (j := 0) hk (by omega) rfl
  have s2 : (argV (L.set k { a with value := y })).set (k * 3 + 1) (.int .i64 (moreI a.same)) = argV ((L.set k { a with value := y }).set k { a with value := y, same := moreI a.same }) := argV_set g1 (by omega) rfl
  rw [s1, s2, List.set_set, ← Nat.add_assoc] at e1
  have e2 : callArgP a y = { a with value := y, same := moreI a.same } := by
    unfold callArgP; rw [if_pos h0, h0.1]; rfl
  rw [e2]; exact e1
theorem arg_same {w : World} {ga oa n qa k : Nat} {L : List ArgP} {a : ArgP} {y : Int} (h : Own w 62 3 (.slice (some ⟨ga, oa, none⟩) n qa) n (argV L)) (hk : L[k]? = some a) (h0 : ¬ (a.same = 0 ∧ a.other = 0)) (h1 : a.value = y) :
    Own (w.setCell ⟨ga, oa + k * 3 + 1, none⟩ (.int .i64 (moreI a.same))) 62 3 (.slice (some ⟨ga, oa, none⟩) n qa) n (argV (L.set k (callArgP a y))) ∧ Mods [ga] w (w.setCell ⟨ga, oa + k * 3 + 1, none⟩ (.int .i64 (moreI a.same))) := by
  refine ⟨?_, (Mods.refl [ga] w).setCell (p := ⟨ga, oa + k * 3 + 1, none⟩) (fun _ => by simp) _⟩
  have e1 := h.set (j := k * 3 + 1) (.int .i64 (moreI a.same))
  have s2 : (argV L).set (k * 3 + 1) (.int .i64 (moreI a.same)) = argV (L.set k { a with same := moreI a.same }) := argV_set hk (by omega) rfl
  rw [s2, ← Nat.add_assoc] at e1
  have e2 : callArgP a y = { a with same := moreI a.same } := by unfold callArgP; rw [if_neg h0, if_pos h1]
  rw [e2]; exact e1
theorem arg_other {w : World} {ga oa n qa k : Nat} {L : List ArgP} {a : ArgP} {y : Int} (h : Own w 62 3 (.slice (some ⟨ga, oa, none⟩) n qa) n (argV L)) (hk : L[k]? = some a) (h0 : ¬ (a.same = 0 ∧ a.other = 0)) (h1 : ¬ a.value = y) :
    Own (w.setCell ⟨ga, oa + k * 3 + 2, none⟩ (.int .i64 (moreI a.other))) 62 3 (.slice (some ⟨ga, oa, none⟩) n qa) n (argV (L.set k (callArgP a y))) ∧ Mods [ga] w (w.setCell ⟨ga, oa + k * 3 + 2, none⟩ (.int .i64 (moreI a.other))) := by
  refine ⟨?_, (Mods.refl [ga] w).setCell (p := ⟨ga, oa + k * 3 + 2, none⟩) (fun _ => by simp) _⟩
  have e1 := h.set (j := k * 3 + 2) (.int .i64 (moreI a.other))
  have s2 : (argV L).set (k * 3 + 2) (.int .i64 (moreI a.other)) = argV (L.set k { a with other := moreI a.other }) := argV_set hk (by omega) rfl
  rw [s2, ← Nat.add_assoc] at e1
  have e2 : callArgP a y = { a with other := moreI a.other } := by unfold callArgP; rw [if_neg h0, if_neg h1]
  rw [e2]; exact e1
/-- what prof.Call comes to -/
def CallPost (B : Nat) (w0 w : World) (v : Value) (rs : List FunP) (E : Ending) (w' : World) : Prop := E = .returned (.tuple #[]) ∧ (∃ fs, ProfF B w' v fs rs) ∧ Mods [] w0 w' ∧ ∀ b u, PBox b u w → PBox b u w'
set_option maxHeartbeats 8000000 in
set_option maxRecDepth 100000 in
theorem call_calls (B g o c n : Nat) (fs : List FV) (rs : List FunP) (x : FunP) (u : Value) (xs : List Int) (w0 w : World) (h : ProfF B w (.slice (some ⟨g, o, none⟩) rs.length c) fs rs) (hx : rs[n]? = some x) (hu : Lent w0 w B u xs) (hl : xs.length = x.args.length)
    (hc : countB x.calls = true) (ha : ∀ (i : Nat) (a : ArgP), x.args[i]? = some a → argMay a = true) : Calls Tryz.prog 22 #[.pointer (some ⟨g, o + n * 4, none⟩), u] w (CallPost B w0 w (.slice (some ⟨g, o, none⟩) rs.length c) (rs.set n (calledF x xs))) := by
  obtain ⟨A, d, rfl, k1, k2⟩ := hu.ints.form
  obtain ⟨fv, hf, ho⟩ := h.each hx
  obtain ⟨hc0, hc1⟩ := countB_range hc
  have hq : Own w 47 4 (.slice (some ⟨g, o, none⟩) rs.length c) rs.length (fvV fs) := h.1.1
  obtain ⟨c0, c1, c2, c3⟩ := hq.fps hf
  have e0 : fv.calls = x.calls := ho.1
  rw [e0] at c0
  obtain ⟨g', o', c', e', _, _, _, q4⟩ := hq.form (by have := (List.getElem?_eq_some_iff.1 hx).1; omega)
  cases e'
  have f0 := q4 (o + n * 4)
  have hw1 := h.calls hf hx (moreI x.calls)
  have hm1 : Mods [] w0 (w.setCell ⟨g, o + n * 4, none⟩ (.int .i64 (moreI x.calls))) := (hu.mods.nil.trans ((Mods.refl [g] w).setCell (p := ⟨g, o + n * 4, none⟩) (fun _ => by simp) _)).new fun b hb => by
    obtain rfl := List.mem_singleton.1 hb
    have h1 : B ≤ b := h.1.2 _ rfl
    have := hu.low; omega
  have hpb : ∀ b u, PBox b u w → PBox b u (w.setCell ⟨g, o + n * 4, none⟩ (.int .i64 (moreI x.calls))) := fun b u hb => hb.mods ((Mods.refl [g] w).setCell (p := ⟨g, o + n * 4, none⟩) (fun _ => by simp) _) fun k hk => by
    obtain rfl := List.mem_singleton.1 hk
    exact .inr (.inr (hq.blockOf rfl))
  have HPB := Lib.hid hpb
  have hn : n < fs.length := (List.getElem?_eq_some_iff.1 hf).1
  have hn2 : n < rs.length := (List.getElem?_eq_some_iff.1 hx).1
  have hf1 : (fs.set n { fv with calls := moreI x.calls })[n]? = some { fv with calls := moreI x.calls } := by simp [hn]
  have HU := Lib.hid hu
  have HW1 := Lib.hid hw1
  have HM1 := Lib.hid hm1
  have HF1 := Lib.hid hf1
  have HA := Lib.hid ha
  have HL := Lib.hid hl
  have HN2 := Lib.hid hn2
  clear hpb hu hw1 hm1 hf1 ha hc h hx hf ho hq e0 q4 hl
  go_enter Tryz.func22, Tryz.ntmps22
  go_wp2_with (go_at_call 42; (with_reducible refine (more_calls _ _ x.calls _ c0 f0 hc0 hc1).mono ?_); rintro e w1 ⟨rfl, rfl⟩)
  generalize fs.set n { fv with calls := moreI x.calls } = fs1 at *
  obtain ⟨fv1, hfv1⟩ : ∃ fv1, fs1[n]? = some fv1 := ⟨_, HF1.out⟩
  have HFV := Lib.hid hfv1
  clear hfv1
  go_loopw [4, 5, 6, 13, 24, 37] (fun _ _ _ i _ _ wr => ∃ k : Nat, i = .int .i64 k ∧ k ≤ xs.length ∧ Hid (ProfF B wr (.slice (some ⟨g, o, none⟩) rs.length c) fs1 (rs.set n { x with calls := moreI x.calls, args := calledTo x.args xs k })) ∧ Hid (Mods [] w0 wr) ∧ Hid (∀ b u, PBox b u w → PBox b u wr)) (fun _ _ _ i _ _ _ => xs.length - (intOf i).toNat)
  case atStart => exact ⟨0, rfl, Nat.zero_le _, HW1.out, HM1.out, HPB.out⟩
  case round =>
    obtain ⟨k, rfl, hk, HP, HM, HB⟩ := hrel
    by_cases hlt : k < xs.length
    · obtain ⟨b, ob, rfl, hy⟩ := HU.out.ints.at_ (get_some hlt)
      have hy' := HM.out.cell hy
      rw [Nat.mul_one] at hy'
      obtain ⟨y, hye⟩ : ∃ y, xs[k] = y := ⟨_, rfl⟩
      rw [hye] at hy'
      have hka : k < x.args.length := by have := HL.out; omega
      obtain ⟨a, hae⟩ : ∃ a, x.args[k]? = some a := ⟨_, get_some hka⟩
      have hLk : (calledTo x.args xs k)[k]? = some a := (calledTo_get _ _ _ _ (Nat.le_refl _)).trans hae
      have hstep := calledTo_step (l := x.args) (xs := xs) hae ((get_some hlt).trans (by rw [hye]))
      have ham := HA.out k a hae
      have ham2 : countB a.same = true ∧ countB a.other = true := by simp [argMay] at ham; exact ⟨ham.1.2, ham.2⟩
      obtain ⟨as0, as1⟩ := countB_range ham2.1
      obtain ⟨ao0, ao1⟩ := countB_range ham2.2
      have hll : (calledTo x.args xs k).length = x.args.length := calledTo_len _ _ _
      obtain ⟨L, hL⟩ : ∃ L, calledTo x.args xs k = L := ⟨_, rfl⟩
      rw [hL] at HP hLk hstep hll
      have hkL : k < L.length := by omega
      have hP := HP.out
      have hx1 : (rs.set n { x with calls := moreI x.calls, args := L })[n]? = some { x with calls := moreI x.calls, args := L } := by simp [HN2.out]
      have hv := hP.2.each n fv1 _ HFV.out hx1
      have hq1 : Own wr 47 4 (.slice (some ⟨g, o, none⟩) rs.length c) rs.length (fvV fs1) := by have := hP.1.1; rw [List.length_set] at this; exact this
      obtain ⟨d0, d1, d2, d3⟩ := hq1.fps HFV.out
      have hoa : Own wr 62 3 fv1.a L.length (argV L) := hv.2.2.2.1.1
      obtain ⟨ga, oa, qa, hfa, _, _, z3, z4⟩ := hoa.form (by omega)
      rw [hfa] at d3 hoa
      have y0 := z3 (k * 3 + 0) _ (argV_get hLk (by omega))
      have y1 := z3 (k * 3 + 1) _ (argV_get hLk (by omega))
      have y2 := z3 (k * 3 + 2) _ (argV_get hLk (by omega))
      rw [Nat.add_zero] at y0
      rw [← Nat.add_assoc] at y1 y2
      have t0 := z4 (oa + k * 3)
      have t1 := z4 (oa + k * 3 + 1)
      have t2 := z4 (oa + k * 3 + 2)
      have l0 : (0 : Int) ≤ (k : Int) := by omega
      have l1 : (k : Int) < (L.length : Int) := by omega
      have hown : fv1.a.ownBlock = some ga := by rw [hfa]; rfl
      have hB : w0.heap.size ≤ ga := Nat.le_trans HU.out.low (hv.2.2.2.1.2 ga hown)
      have fin : ∀ (w' : World) (L' : List ArgP), Mods [ga] wr w' → L' = L.set k (callArgP a y) → Own w' 62 3 (.slice (some ⟨ga, oa, none⟩) L.length qa) L.length (argV L') → ProfF B w' (.slice (some ⟨g, o, none⟩) rs.length c) fs1 (rs.set n { x with calls := moreI x.calls, args := calledTo x.args xs (k + 1) }) ∧ Mods [] w0 w' ∧ ∀ b u, PBox b u w → PBox b u w' := fun w' L' h1 h2 h3 => by
        refine ⟨?_, (HM.out.nil.trans h1).new fun b hb => by obtain rfl := List.mem_singleton.1 hb; exact hB, fun b u hb => (HB.out b u hb).mods h1 fun k hk => by obtain rfl := List.mem_singleton.1 hk; exact .inr (.inl (hv.2.2.2.1.1.blockOf hown))⟩
        have hlen : L'.length = L.length := by rw [h2, List.length_set]
        have := ProfF.arg (l := L') hP HN2.out HFV.out hown h1 (by rw [hfa, hlen]; exact h3)
        rw [hstep, ← h2]
        exact this
      have FIN := Lib.hid fin
      have HLK := Lib.hid hLk
      have HOA := Lib.hid hoa
      clear fin hLk hoa hP hv hx1 hq1 z3 z4 hown hB hstep hL hll hfa ham ham2 hae hye hy
      by_cases q1 : a.same = 0 ∧ a.other = 0
      · obtain ⟨qs, qo⟩ := q1
        have qs' : (a.same == 0) = true := by simp [qs]
        have qo' : (a.other == 0) = true := by simp [qo]
        have QS := Lib.hid qs
        have QO := Lib.hid qo
        clear qs qo
        go_wp2_with (go_at_call 42; (with_reducible refine (more_calls _ _ a.same _ ?_ ?_ as0 as1).mono ?_); (go_simp); (go_simp); rintro e w1 ⟨rfl, rfl⟩)
        go_roundw
        case rel =>
          go_light
          obtain ⟨r1, r2⟩ := arg_first (y := y) HOA.out HLK.out ⟨QS.out, QO.out⟩
          obtain ⟨r3, r4, r5⟩ := FIN.out _ _ r2 rfl r1
          exact ⟨k + 1, by go_num, by omega, r3, r4, r5⟩
        case measure => simp [intOf]; omega
      · have Q1 := Lib.hid q1
        by_cases q2 : a.value = y
        · have q2' : (a.value == y) = true := by simp [q2]
          have Q2 := Lib.hid q2
          clear q2
          by_cases q3 : a.same = 0
          · have q3' : (a.same == 0) = true := by simp [q3]
            have q4' : (a.other == 0) = false := by simp; omega
            clear q3 q1
            go_wp2_with (go_at_call 42; (with_reducible refine (more_calls _ _ a.same _ ?_ ?_ as0 as1).mono ?_); (go_simp); (go_simp); rintro e w1 ⟨rfl, rfl⟩)
            go_roundw
            case rel =>
              go_light
              obtain ⟨r1, r2⟩ := arg_same HOA.out HLK.out Q1.out Q2.out
              obtain ⟨r3, r4, r5⟩ := FIN.out _ _ r2 rfl r1
              exact ⟨k + 1, by go_num, by omega, r3, r4, r5⟩
            case measure => simp [intOf]; omega
          · have q3' : (a.same == 0) = false := by simp [q3]
            clear q3 q1
            go_wp2_with (go_at_call 42; (with_reducible refine (more_calls _ _ a.same _ ?_ ?_ as0 as1).mono ?_); (go_simp); (go_simp); rintro e w1 ⟨rfl, rfl⟩)
            go_roundw
            case rel =>
              go_light
              obtain ⟨r1, r2⟩ := arg_same HOA.out HLK.out Q1.out Q2.out
              obtain ⟨r3, r4, r5⟩ := FIN.out _ _ r2 rfl r1
              exact ⟨k + 1, by go_num, by omega, r3, r4, r5⟩
            case measure => simp [intOf]; omega
        · have q2' : (a.value == y) = false := by simp [q2]
          have Q2 := Lib.hid q2
          clear q2
          by_cases q3 : a.same = 0
          · have q3' : (a.same == 0) = true := by simp [q3]
            have q4' : (a.other == 0) = false := by simp; omega
            clear q3 q1
            go_wp2_with (go_at_call 42; (with_reducible refine (more_calls _ _ a.other _ ?_ ?_ ao0 ao1).mono ?_); (go_simp); (go_simp); rintro e w1 ⟨rfl, rfl⟩)
            go_roundw
            case rel =>
              go_light
              obtain ⟨r1, r2⟩ := arg_other HOA.out HLK.out Q1.out Q2.out
              obtain ⟨r3, r4, r5⟩ := FIN.out _ _ r2 rfl r1
              exact ⟨k + 1, by go_num, by omega, r3, r4, r5⟩
            case measure => simp [intOf]; omega
          · have q3' : (a.same == 0) = false := by simp [q3]
            clear q3 q1
            go_wp2_with (go_at_call 42; (with_reducible refine (more_calls _ _ a.other _ ?_ ?_ ao0 ao1).mono ?_); (go_simp); (go_simp); rintro e w1 ⟨rfl, rfl⟩)
            go_roundw
            case rel =>
              go_light
              obtain ⟨r1, r2⟩ := arg_other HOA.out HLK.out Q1.out Q2.out
              obtain ⟨r3, r4, r5⟩ := FIN.out _ _ r2 rfl r1
              exact ⟨k + 1, by go_num, by omega, r3, r4, r5⟩
            case measure => simp [intOf]; omega
    · have hke : k = xs.length := by omega
      subst hke
      go_wp2
      go_end0
      exact ⟨rfl, ⟨_, HP.out⟩, HM.out, HB.out⟩
end Go.Proofs.YtjpgcokdlopkaaaGreatDoor


namespace Go.Proofs.YtjpgcokdlopkaaaGreatDoor
open Go.RowKit

theorem own_new1 (w : World) (e sz g : Nat) (hg : g = w.heap.size) : Own (w.alloc (.cells #[] e)) e sz (.slice (some ⟨g, 0, none⟩) 0 0) 0 [] := hg ▸ own_new0 w e sz
theorem grown_new1 {w w' : World} {e sz n g : Nat} {v' : Value} {news : List Value} (hq : g = w.heap.size) (h : Own w' e sz v' (0 + n) ([] ++ news)) (hg : (w.alloc (.cells #[] e)).grownBy w' (Value.slice (some ⟨g, 0, none⟩) 0 0).ownBlock)
    (ha : v'.ownBlock = (Value.slice (some ⟨g, 0, none⟩) 0 0).ownBlock ∨ v'.ownBlock = some (w.alloc (.cells #[] e)).heap.size) : OwnF w.heap.size w' e sz v' n news ∧ Mods [] w w' := by
  subst hq; exact grown_new h hg ha
theorem pbox3 (w : World) (x y z : Value) : PBox w.heap.size x (((w.alloc (.cells #[x] 27)).alloc (.cells #[y] 27)).alloc (.cells #[z] 27)) ∧ PBox (w.heap.size + 1) y (((w.alloc (.cells #[x] 27)).alloc (.cells #[y] 27)).alloc (.cells #[z] 27)) ∧ PBox (w.heap.size + 1 + 1) z (((w.alloc (.cells #[x] 27)).alloc (.cells #[y] 27)).alloc (.cells #[z] 27)) :=
  ⟨(Below.heap_alloc _ _ _ (by simp; omega)).trans ((Below.heap_alloc _ _ _ (by simp)).trans (heap_alloc_new _ _)), (Below.heap_alloc _ _ _ (by simp)).trans (alloc_new_at (by simp)), alloc_new_at (by simp)⟩

set_option maxHeartbeats 8000000 in
set_option maxRecDepth 100000 in
theorem copyProf0_calls (u : Value) (rs : List FunP) (w : World) (hu : Profs w u rs) (hfit : PFits rs) : Calls Tryz.prog 4 #[.agg #[u]] w (CopyProfPost w rs) := by
  obtain ⟨A, c, rfl, k1, k2⟩ := hu.form
  have HU := Lib.hid hu
  have HFN := Lib.hid hfit.n
  have HFE := Lib.hid hfit.each
  clear hu hfit
  go_enter Tryz.func4, Tryz.ntmps4
  go_wp2
  go_loopw [4] (fun i wr => ∃ k : Nat, i = .int .i64 k ∧ k ≤ rs.length ∧ Hid (CRel w w.heap.size (w.heap.size + 1) (w.heap.size + 1 + 1) (.slice A rs.length c) rs k wr)) (fun i _ => rs.length - (intOf i).toNat)
  case atStart =>
    obtain ⟨h1, h2, h3⟩ := pbox3 w (.slice A rs.length c) (.slice none 0 0) (.slice none 0 0)
    exact ⟨0, rfl, Nat.zero_le _, _, [], h1, h2, h3, ⟨Own.nil, fun b hb => by simp [Value.ownBlock] at hb⟩, FreshFs.nil, (by repeat (first | exact Mods.refl _ _ | refine Mods.alloc ?_ _ | refine Mods.ext ?_ _ | refine Mods.drew ?_ | refine Mods.drewN ?_ _))⟩
  case round =>
    obtain ⟨k, rfl, hk, HR⟩ := hrel
    obtain ⟨v, fs, hbx0, hrb0, hob0, ho, hf, hw⟩ := HR.out
    obtain ⟨Av, cv, rfl, _, _⟩ := ho.1.slice
    have bx := hbx0.cell
    have bo := hob0.cell
    have fo := hob0.frozen
    have HBX := Lib.hid hbx0
    have HRB := Lib.hid hrb0
    have HOB := Lib.hid hob0
    have HO := Lib.hid ho
    have HFS := Lib.hid hf
    have HW := Lib.hid hw
    clear hbx0 hrb0 hob0 ho hf
    by_cases hlt : k < rs.length
    · obtain ⟨b, o, rfl, hx⟩ := HU.out.at_ (get_some hlt)
      obtain ⟨c0, ⟨vj, c1, hj⟩, ⟨vf, c2, hfl⟩, va, c3, ha⟩ := fpR_grows.ext hw hx
      obtain ⟨J, cj, rfl, k3, k4⟩ := hj.form
      obtain ⟨F, cf, rfl, k5, k6⟩ := hfl.form
      obtain ⟨D, ca, rfl, k7, k8⟩ := ha.form
      have HJ := Lib.hid hj
      have HF := Lib.hid hfl
      have HA := Lib.hid ha
      have HFT := Lib.hid (HFE.out k _ (get_some hlt))
      have KB : ∀ (wb : World) {wa : World} (_ : Mods [] (wr.alloc (Obj.cells #[.int .i64 rs[k].calls, .slice J rs[k].jumps.length cj, .slice F rs[k].falls.length cf, .slice D rs[k].args.length ca] 47)) wa) {u1 : Value} (_ : Mods [] (wa.setCell ⟨wr.heap.size, 1, none⟩ u1) wb) (u : Value), Mods [] wr (wb.setCell ⟨wr.heap.size, 2, none⟩ u) := fun wb wa h u1 h2 u => ((((((Mods.refl [] wr).alloc _).trans h).setCell (fun hlt => by simp at hlt) u1).trans h2).setCell (fun hlt => by simp at hlt) u)
      have KC : ∀ (wa wb wc : World) {u1 u2 : Value} (_ : Mods [] (wr.alloc (Obj.cells #[.int .i64 rs[k].calls, .slice J rs[k].jumps.length cj, .slice F rs[k].falls.length cf, .slice D rs[k].args.length ca] 47)) wa) (_ : Mods [] (wa.setCell ⟨wr.heap.size, 1, none⟩ u1) wb) (_ : Mods [] (wb.setCell ⟨wr.heap.size, 2, none⟩ u2) wc), Mods [wr.heap.size] wr wc := fun wa wb wc u1 u2 h1 h2 h3 => ((((((Mods.refl [wr.heap.size] wr).alloc _).trans h1.nil).setCell (fun _ => by simp) u1).trans h2.nil).setCell (fun _ => by simp) u2).trans h3.nil
      have KD : ∀ b, (Value.slice Av k cv).ownBlock = some b → b ∈ [wr.heap.size] → False := fun b hb hs => by
        have h1 := HO.out.1.lt hb
        have h2 := List.mem_singleton.1 hs
        omega
      have HKB := Lib.hid KB
      have HKC := Lib.hid KC
      have HKD := Lib.hid KD
      clear hj hfl ha hw hx KB KC KD
      go_wp2_with (first | (at_builtin; refine wpList_app_i _ rfl _ _ rfl _ 0 [] rfl ?_ _ rs[k].jumps.length _ (intV rs[k].jumps) rfl ?_ (one_int _) ?_ ?_; (exact own_new1 _ _ _ _ (by simp)); (exact (Ints.cellsAt HJ.out).ext (by repeat (first | exact Mods.refl _ _ | refine Mods.alloc ?_ _ | refine Mods.ext ?_ _ | refine Mods.drew ?_ | refine Mods.drewN ?_ _))); (have := HFT.out; omega); (intro v1 wa ho1 hg1 ha1; obtain ⟨hO1, hM1⟩ := grown_new1 (by simp) ho1 hg1 ha1; obtain ⟨A1, q1, rfl, _, _⟩ := hO1.1.slice; have hF1 : FBox wr.heap.size rs[k].calls (.slice J rs[k].jumps.length cj) (.slice F rs[k].falls.length cf) (.slice D rs[k].args.length ca) wa := FBox.keep (alloc_new_at rfl) hM1 (by simp); obtain ⟨p0, p1, p2, p3, r0, r1, r2, r3⟩ := hF1.cells; have HF1 := Lib.hid hF1; have HO1 := Lib.hid hO1; have HM1 := Lib.hid hM1; clear hF1 hO1 hM1 ho1 hg1 ha1)) | (at_builtin; refine wpList_app_i _ rfl _ _ rfl _ 0 [] rfl ?_ _ rs[k].falls.length _ (intV rs[k].falls) rfl ?_ (one_int _) ?_ ?_; (exact own_new1 _ _ _ _ (by simp [World.setCell])); (exact ((Ints.cellsAt HF.out).ext ((((((Mods.refl [] wr).alloc _).trans HM1.out).setCell (fun hlt => by simp at hlt) _).alloc _)))); (have := HFT.out; omega); (intro v2 wb ho2 hg2 ha2; obtain ⟨hO2, hM2⟩ := grown_new1 (by simp [World.setCell]) ho2 hg2 ha2; obtain ⟨A2, q2, rfl, _, _⟩ := hO2.1.slice; have hF2 : FBox wr.heap.size rs[k].calls (.slice A1 rs[k].jumps.length q1) (.slice F rs[k].falls.length cf) (.slice D rs[k].args.length ca) wb := (HF1.out.setJ _).keep hM2 (by simp); obtain ⟨s0, s1, s2, s3, t0, t1, t2, t3⟩ := hF2.cells; have HF2 := Lib.hid hF2; have HO2 := Lib.hid hO2; have HM2 := Lib.hid hM2; clear hF2 hO2 hM2 ho2 hg2 ha2)) | (go_at_call 17; (with_reducible refine (copyArgs _ _ _ (argV rs[k].args) _ ?_ (one_arg _) ?_).mono ?_); (exact ((ArgPs.cellsAt HA.out).ext (HKB.out wb HM1.out HM2.out _))); (have := HFT.out; omega); rintro e wc ⟨v3, rfl, hO3, x3, hx3⟩; have hM3 := mods_of hx3; clear hx3; obtain ⟨A3, q3, rfl, _, _⟩ := hO3.1.slice; have hF3 : FBox wr.heap.size rs[k].calls (.slice A1 rs[k].jumps.length q1) (.slice A2 rs[k].falls.length q2) (.slice D rs[k].args.length ca) wc := (HF2.out.setF _).keep hM3 (by simp); obtain ⟨x0, x1, x2, x3', y0, y1, y2, y3⟩ := hF3.cells; have hMc : Mods [wr.heap.size] wr wc := HKC.out wa wb wc HM1.out HM2.out hM3; have hobw := HOB.out.keep hMc (by have := PBox.lt HOB.out; simp; omega); have zo := hobw.cell; have zf := hobw.frozen; clear hobw; have HF3 := Lib.hid hF3; have HO3 := Lib.hid hO3; have HM3 := Lib.hid hM3; have HMC := Lib.hid hMc; clear hF3 hO3 hM3 hMc) | (at_builtin; refine wpList_app_fp _ rfl _ _ rfl _ k (fvV fs) rfl ?_ (some ⟨wc.heap.size, 0, none⟩) 1 1 [.int .i64 rs[k].calls, .slice A1 rs[k].jumps.length q1, .slice A2 rs[k].falls.length q2, .slice A3 rs[k].args.length q3] rfl ?_ ?_ ?_ ?_; (exact HO.out.1.mods (((HMC.out.setCell (fun _ => by simp) _).alloc _)) (fun b hb hs => HKD.out b hb hs)); (exact fv_cellsAt (x := ⟨rs[k].calls, .slice A1 rs[k].jumps.length q1, .slice A2 rs[k].falls.length q2, .slice A3 rs[k].args.length q3⟩) (alloc_new_at (by simp [World.setCell]))); (exact one_fv (x := ⟨rs[k].calls, .slice A1 rs[k].jumps.length q1, .slice A2 rs[k].falls.length q2, .slice A3 rs[k].args.length q3⟩) rfl rfl rfl); (have := HFN.out; omega); (intro v4 wf ho4 hg4 ha4; obtain ⟨A4, q4, rfl, _, _⟩ := ho4.slice; have HO4 := Lib.hid ho4; have HG4 := Lib.hid hg4; have HA4 := Lib.hid ha4; have hobf : PBox (w.heap.size + 1 + 1) (.slice Av k cv) wf := PBox.grownFP hg4 (HOB.out.keep ((HMC.out.setCell (fun _ => by simp) _).alloc _) (by have := PBox.lt HOB.out; simp; omega)) (fun b hb => (HO.out.1.mods ((HMC.out.setCell (fun _ => by simp) _).alloc _) (fun b hb hs => HKD.out b hb hs)).blockOf hb); have zo4 := hobf.cell; have zf4 := hobf.frozen; clear hobf ho4 hg4 ha4)))
      go_roundw
      case rel =>
        go_light
        exact ⟨k + 1, by go_num, by omega, CRel.step (get_some hlt) HBX.out HRB.out HOB.out HO.out HFS.out HW.out ⟨by omega, by omega⟩ (by omega) (fvo_mk rfl HO1.out HM1.out HO2.out HM2.out HO3.out HM3.out) (HMC.out.setCell (fun _ => by simp) _) (fun b hb => by have := List.mem_singleton.1 hb; omega) HO4.out HG4.out HA4.out (by simp)⟩
      case measure => simp [intOf]; omega
    · have hke : k = rs.length := by omega
      have HKE := Lib.hid hke
      have fr := HRB.out.frozen
      have cr := HRB.out.cell
      have ce := (HRB.out.set (.slice Av k cv)).cell
      have hset : Mods [w.heap.size + 1] wr (wr.setCell ⟨w.heap.size + 1, 0, none⟩ (.slice Av k cv)) := (Mods.refl _ _).setCell (by simp) _
      have HSET := Lib.hid hset
      clear hke hset
      go_wp2
      refine bodyPost_ret (v := .agg #[.slice Av k cv]) (by simp [results, Tryz.results4, go_sem, ce]) rfl ⟨_, rfl, ⟨fs, ?_, ?_⟩, (HW.out.setCell (fun hq => by have hq' : w.heap.size + 1 < w.heap.size := hq; omega) _).ex⟩
      · have h1 := HO.out.mods HSET.out fun b hb hs => by
          obtain rfl := List.mem_singleton.1 hs
          have h3 : BlockOf wr 27 (w.heap.size + 1) := ⟨_, _, HRB.out⟩
          exact absurd ((HO.out.1.blockOf hb).ne h3) (by decide)
        rw [← HKE.out]; exact h1
      · have h1 := HFS.out.others HSET.out fun b hb => by
          obtain rfl := List.mem_singleton.1 hb
          exact HRB.out.other
        have e : rs.take k = rs := by rw [HKE.out, List.take_length]
        rw [e] at h1
        exact h1

set_option maxHeartbeats 8000000 in
set_option maxRecDepth 100000 in
theorem rCopyProf_calls (u : Value) (rs : List FunP) (w : World) (hu : Profs w u rs) (hfit : PFits rs) : Calls Tryz.prog 24 #[.agg #[u]] w (CopyProfPost w rs) := by
  obtain ⟨A, c, rfl, k1, k2⟩ := hu.form
  have HU := Lib.hid hu
  have HFN := Lib.hid hfit.n
  have HFE := Lib.hid hfit.each
  clear hu hfit
  go_enter Tryz.func24, Tryz.ntmps24
  go_wp2
  go_loopw [4] (fun i wr => ∃ k : Nat, i = .int .i64 k ∧ k ≤ rs.length ∧ Hid (CRel w w.heap.size (w.heap.size + 1) (w.heap.size + 1 + 1) (.slice A rs.length c) rs k wr)) (fun i _ => rs.length - (intOf i).toNat)
  case atStart =>
    obtain ⟨h1, h2, h3⟩ := pbox3 w (.slice A rs.length c) (.slice none 0 0) (.slice none 0 0)
    exact ⟨0, rfl, Nat.zero_le _, _, [], h1, h2, h3, ⟨Own.nil, fun b hb => by simp [Value.ownBlock] at hb⟩, FreshFs.nil, (by repeat (first | exact Mods.refl _ _ | refine Mods.alloc ?_ _ | refine Mods.ext ?_ _ | refine Mods.drew ?_ | refine Mods.drewN ?_ _))⟩
  case round =>
    obtain ⟨k, rfl, hk, HR⟩ := hrel
    obtain ⟨v, fs, hbx0, hrb0, hob0, ho, hf, hw⟩ := HR.out
    obtain ⟨Av, cv, rfl, _, _⟩ := ho.1.slice
    have bx := hbx0.cell
    have bo := hob0.cell
    have fo := hob0.frozen
    have HBX := Lib.hid hbx0
    have HRB := Lib.hid hrb0
    have HOB := Lib.hid hob0
    have HO := Lib.hid ho
    have HFS := Lib.hid hf
    have HW := Lib.hid hw
    clear hbx0 hrb0 hob0 ho hf
    by_cases hlt : k < rs.length
    · obtain ⟨b, o, rfl, hx⟩ := HU.out.at_ (get_some hlt)
      obtain ⟨c0, ⟨vj, c1, hj⟩, ⟨vf, c2, hfl⟩, va, c3, ha⟩ := fpR_grows.ext hw hx
      obtain ⟨J, cj, rfl, k3, k4⟩ := hj.form
      obtain ⟨F, cf, rfl, k5, k6⟩ := hfl.form
      obtain ⟨D, ca, rfl, k7, k8⟩ := ha.form
      have HJ := Lib.hid hj
      have HF := Lib.hid hfl
      have HA := Lib.hid ha
      have HFT := Lib.hid (HFE.out k _ (get_some hlt))
      have KB : ∀ (wb : World) {wa : World} (_ : Mods [] (wr.alloc (Obj.cells #[.int .i64 rs[k].calls, .slice J rs[k].jumps.length cj, .slice F rs[k].falls.length cf, .slice D rs[k].args.length ca] 47)) wa) {u1 : Value} (_ : Mods [] (wa.setCell ⟨wr.heap.size, 1, none⟩ u1) wb) (u : Value), Mods [] wr (wb.setCell ⟨wr.heap.size, 2, none⟩ u) := fun wb wa h u1 h2 u => ((((((Mods.refl [] wr).alloc _).trans h).setCell (fun hlt => by simp at hlt) u1).trans h2).setCell (fun hlt => by simp at hlt) u)
      have KC : ∀ (wa wb wc : World) {u1 u2 : Value} (_ : Mods [] (wr.alloc (Obj.cells #[.int .i64 rs[k].calls, .slice J rs[k].jumps.length cj, .slice F rs[k].falls.length cf, .slice D rs[k].args.length ca] 47)) wa) (_ : Mods [] (wa.setCell ⟨wr.heap.size, 1, none⟩ u1) wb) (_ : Mods [] (wb.setCell ⟨wr.heap.size, 2, none⟩ u2) wc), Mods [wr.heap.size] wr wc := fun wa wb wc u1 u2 h1 h2 h3 => ((((((Mods.refl [wr.heap.size] wr).alloc _).trans h1.nil).setCell (fun _ => by simp) u1).trans h2.nil).setCell (fun _ => by simp) u2).trans h3.nil
      have KD : ∀ b, (Value.slice Av k cv).ownBlock = some b → b ∈ [wr.heap.size] → False := fun b hb hs => by
        have h1 := HO.out.1.lt hb
        have h2 := List.mem_singleton.1 hs
        omega
      have HKB := Lib.hid KB
      have HKC := Lib.hid KC
      have HKD := Lib.hid KD
      clear hj hfl ha hw hx KB KC KD
      go_wp2_with (first | (at_builtin; refine wpList_app_i _ rfl _ _ rfl _ 0 [] rfl ?_ _ rs[k].jumps.length _ (intV rs[k].jumps) rfl ?_ (one_int _) ?_ ?_; (exact own_new1 _ _ _ _ (by simp)); (exact (Ints.cellsAt HJ.out).ext (by repeat (first | exact Mods.refl _ _ | refine Mods.alloc ?_ _ | refine Mods.ext ?_ _ | refine Mods.drew ?_ | refine Mods.drewN ?_ _))); (have := HFT.out; omega); (intro v1 wa ho1 hg1 ha1; obtain ⟨hO1, hM1⟩ := grown_new1 (by simp) ho1 hg1 ha1; obtain ⟨A1, q1, rfl, _, _⟩ := hO1.1.slice; have hF1 : FBox wr.heap.size rs[k].calls (.slice J rs[k].jumps.length cj) (.slice F rs[k].falls.length cf) (.slice D rs[k].args.length ca) wa := FBox.keep (alloc_new_at rfl) hM1 (by simp); obtain ⟨p0, p1, p2, p3, r0, r1, r2, r3⟩ := hF1.cells; have HF1 := Lib.hid hF1; have HO1 := Lib.hid hO1; have HM1 := Lib.hid hM1; clear hF1 hO1 hM1 ho1 hg1 ha1)) | (at_builtin; refine wpList_app_i _ rfl _ _ rfl _ 0 [] rfl ?_ _ rs[k].falls.length _ (intV rs[k].falls) rfl ?_ (one_int _) ?_ ?_; (exact own_new1 _ _ _ _ (by simp [World.setCell])); (exact ((Ints.cellsAt HF.out).ext ((((((Mods.refl [] wr).alloc _).trans HM1.out).setCell (fun hlt => by simp at hlt) _).alloc _)))); (have := HFT.out; omega); (intro v2 wb ho2 hg2 ha2; obtain ⟨hO2, hM2⟩ := grown_new1 (by simp [World.setCell]) ho2 hg2 ha2; obtain ⟨A2, q2, rfl, _, _⟩ := hO2.1.slice; have hF2 : FBox wr.heap.size rs[k].calls (.slice A1 rs[k].jumps.length q1) (.slice F rs[k].falls.length cf) (.slice D rs[k].args.length ca) wb := (HF1.out.setJ _).keep hM2 (by simp); obtain ⟨s0, s1, s2, s3, t0, t1, t2, t3⟩ := hF2.cells; have HF2 := Lib.hid hF2; have HO2 := Lib.hid hO2; have HM2 := Lib.hid hM2; clear hF2 hO2 hM2 ho2 hg2 ha2)) | (at_builtin; refine wpList_app_ap _ rfl _ _ rfl _ 0 [] rfl ?_ _ rs[k].args.length _ (argV rs[k].args) rfl ?_ (one_arg _) ?_ ?_; (exact own_new1 _ _ _ _ (by simp [World.setCell])); (exact ((ArgPs.cellsAt HA.out).ext ((HKB.out wb HM1.out HM2.out _).alloc _))); (have := HFT.out; omega); (intro v3 wc ho3 hg3 ha3; obtain ⟨hO3, hM3⟩ := grown_new1 (by simp [World.setCell]) ho3 hg3 ha3; obtain ⟨A3, q3, rfl, _, _⟩ := hO3.1.slice; clear ho3 hg3 ha3; have hF3 : FBox wr.heap.size rs[k].calls (.slice A1 rs[k].jumps.length q1) (.slice A2 rs[k].falls.length q2) (.slice D rs[k].args.length ca) wc := (HF2.out.setF _).keep hM3 (by simp); obtain ⟨x0, x1, x2, x3', y0, y1, y2, y3⟩ := hF3.cells; have hMc : Mods [wr.heap.size] wr wc := HKC.out wa wb wc HM1.out HM2.out hM3; have hobw := HOB.out.keep hMc (by have := PBox.lt HOB.out; simp; omega); have zo := hobw.cell; have zf := hobw.frozen; clear hobw; have HF3 := Lib.hid hF3; have HO3 := Lib.hid hO3; have HM3 := Lib.hid hM3; have HMC := Lib.hid hMc; clear hF3 hO3 hM3 hMc)) | (at_builtin; refine wpList_app_fp _ rfl _ _ rfl _ k (fvV fs) rfl ?_ (some ⟨wc.heap.size, 0, none⟩) 1 1 [.int .i64 rs[k].calls, .slice A1 rs[k].jumps.length q1, .slice A2 rs[k].falls.length q2, .slice A3 rs[k].args.length q3] rfl ?_ ?_ ?_ ?_; (exact HO.out.1.mods (((HMC.out.setCell (fun _ => by simp) _).alloc _)) (fun b hb hs => HKD.out b hb hs)); (exact fv_cellsAt (x := ⟨rs[k].calls, .slice A1 rs[k].jumps.length q1, .slice A2 rs[k].falls.length q2, .slice A3 rs[k].args.length q3⟩) (alloc_new_at (by simp [World.setCell]))); (exact one_fv (x := ⟨rs[k].calls, .slice A1 rs[k].jumps.length q1, .slice A2 rs[k].falls.length q2, .slice A3 rs[k].args.length q3⟩) rfl rfl rfl); (have := HFN.out; omega); (intro v4 wf ho4 hg4 ha4; obtain ⟨A4, q4, rfl, _, _⟩ := ho4.slice; have HO4 := Lib.hid ho4; have HG4 := Lib.hid hg4; have HA4 := Lib.hid ha4; have hobf : PBox (w.heap.size + 1 + 1) (.slice Av k cv) wf := PBox.grownFP hg4 (HOB.out.keep ((HMC.out.setCell (fun _ => by simp) _).alloc _) (by have := PBox.lt HOB.out; simp; omega)) (fun b hb => (HO.out.1.mods ((HMC.out.setCell (fun _ => by simp) _).alloc _) (fun b hb hs => HKD.out b hb hs)).blockOf hb); have zo4 := hobf.cell; have zf4 := hobf.frozen; clear hobf ho4 hg4 ha4)))
      go_roundw
      case rel =>
        go_light
        exact ⟨k + 1, by go_num, by omega, CRel.step (get_some hlt) HBX.out HRB.out HOB.out HO.out HFS.out HW.out ⟨by omega, by omega⟩ (by omega) (fvo_mk rfl HO1.out HM1.out HO2.out HM2.out HO3.out HM3.out) (HMC.out.setCell (fun _ => by simp) _) (fun b hb => by have := List.mem_singleton.1 hb; omega) HO4.out HG4.out HA4.out (by simp)⟩
      case measure => simp [intOf]; omega
    · have hke : k = rs.length := by omega
      have HKE := Lib.hid hke
      have fr := HRB.out.frozen
      have cr := HRB.out.cell
      have ce := (HRB.out.set (.slice Av k cv)).cell
      have hset : Mods [w.heap.size + 1] wr (wr.setCell ⟨w.heap.size + 1, 0, none⟩ (.slice Av k cv)) := (Mods.refl _ _).setCell (by simp) _
      have HSET := Lib.hid hset
      clear hke hset
      go_wp2
      refine bodyPost_ret (v := .agg #[.slice Av k cv]) (by simp [results, Tryz.results24, go_sem, ce]) rfl ⟨_, rfl, ⟨fs, ?_, ?_⟩, (HW.out.setCell (fun hq => by have hq' : w.heap.size + 1 < w.heap.size := hq; omega) _).ex⟩
      · have h1 := HO.out.mods HSET.out fun b hb hs => by
          obtain rfl := List.mem_singleton.1 hs
          have h3 : BlockOf wr 27 (w.heap.size + 1) := ⟨_, _, HRB.out⟩
          exact absurd ((HO.out.1.blockOf hb).ne h3) (by decide)
        rw [← HKE.out]; exact h1
      · have h1 := HFS.out.others HSET.out fun b hb => by
          obtain rfl := List.mem_singleton.1 hb
          exact HRB.out.other
        have e : rs.take k = rs := by rw [HKE.out, List.take_length]
        rw [e] at h1
        exact h1

end Go.Proofs.YtjpgcokdlopkaaaGreatDoor
