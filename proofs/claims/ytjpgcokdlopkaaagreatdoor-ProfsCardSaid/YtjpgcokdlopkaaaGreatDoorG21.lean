/- Lemmas for a claim of the seat YtjpgcokdlopkaaaGreatDoor. Written in part by programs of the claim's repo. By an AI agent. -/
import Derived.Test.YtjpgcokdlopkaaaGreatDoorG16
import Derived.Test.YtjpgcokdlopkaaaGreatDoorG20
import Derived.Test.YtjpgcokdlopkaaaGreatDoorG10
import Derived.Test.YtjpgcokdlopkaaaGreatDoorG18

namespace Go.Proofs.YtjpgcokdlopkaaaGreatDoor
open Go.RowKit

theorem rProfMay_is (v u : Value) (p : List Fun) (rs : List FunP) (b : Bool) (w : World) (hb : profMay p rs = b) (hv : Funs w v p) (hu : Profs w u rs) : Calls Tryz.prog 14 #[.agg #[v], .agg #[u]] w fun e w' => e = .returned (.bool b) ∧ ∃ x, w' = w.ext x := hb ▸ rProfMay_calls v u p rs w hv hu
theorem rNumbers_is (v : Value) (xs : List Int) (n : Int) (b : Bool) (w : World) (hb : numbersB xs n = b) (h : Ints w v xs) : Calls Tryz.prog 23 #[v, .int .i64 n] w fun e w' => e = .returned (.bool b) ∧ ∃ x, w' = w.ext x := hb ▸ rNumbers_calls v xs n w h
set_option maxHeartbeats 1000000 in
theorem rMore_calls (n : Int) (w : World) (h0 : 0 ≤ n) (h1 : n ≤ 1073741824) : Calls Tryz.prog 25 #[.int .i64 n] w fun e w' => e = .returned (.int .i64 (moreI n)) ∧ w' = w := by
  rcases Int.lt_or_le (n + 1) 1073741824 with h | h
  all_goals
    go_enter Tryz.func25, Tryz.ntmps25
    go_wp2
  all_goals
    go_ret
    first | exact ⟨ret_int (by unfold moreI; omega), rfl⟩ | exact ⟨ret_int (by rw [show moreI n = n + 1 by unfold moreI; omega]), rfl⟩ | exact ⟨ret_int (by rw [show moreI n = 1073741824 by unfold moreI; omega]), rfl⟩
/-- the three cells of an argument's profile, written anew -/
theorem arg_three {w : World} {ga oa n qa k : Nat} {L : List ArgP} {a b : ArgP} (h : Own w 62 3 (.slice (some ⟨ga, oa, none⟩) n qa) n (argV L)) (hk : L[k]? = some a) :
    Own (((w.setCell ⟨ga, oa + k * 3, none⟩ (.int .i64 b.value)).setCell ⟨ga, oa + k * 3 + 1, none⟩ (.int .i64 b.same)).setCell ⟨ga, oa + k * 3 + 2, none⟩ (.int .i64 b.other)) 62 3 (.slice (some ⟨ga, oa, none⟩) n qa) n (argV (L.set k b)) ∧
      Mods [ga] w (((w.setCell ⟨ga, oa + k * 3, none⟩ (.int .i64 b.value)).setCell ⟨ga, oa + k * 3 + 1, none⟩ (.int .i64 b.same)).setCell ⟨ga, oa + k * 3 + 2, none⟩ (.int .i64 b.other)) := by
  refine ⟨?_, (((Mods.refl [ga] w).setCell (p := ⟨ga, oa + k * 3, none⟩) (fun _ => by simp) _).setCell (p := ⟨ga, oa + k * 3 + 1, none⟩) (fun _ => by simp) _).setCell (p := ⟨ga, oa + k * 3 + 2, none⟩) (fun _ => by simp) _⟩
  have hlt := (List.getElem?_eq_some_iff.1 hk).1
  have e1 := ((h.set (j := k * 3) (.int .i64 b.value)).set (j := k * 3 + 1) (.int .i64 b.same)).set (j := k * 3 + 2) (.int .i64 b.other)
  have g1 : (L.set k { a with value := b.value })[k]? = some { a with value := b.value } := by simp [hlt]
  have g2 : ((L.set k { a with value := b.value }).set k { a with value := b.value, same := b.same })[k]? = some { a with value := b.value, same := b.same } := by simp [hlt]
  have s1 : (argV L).set (k * 3) (.int .i64 b.value) = argV (L.set k { a with value := b.value }) := argV_set (j := 0) hk (by omega) rfl
  have s2 : (argV (L.set k { a with value := b.value })).set (k * 3 + 1) (.int .i64 b.same) = argV ((L.set k { a with value := b.value }).set k { a with value := b.value, same := b.same }) := argV_set g1 (by omega) rfl
  have s3 : (argV ((L.set k { a with value := b.value }).set k { a with value := b.value, same := b.same })).set (k * 3 + 2) (.int .i64 b.other) = argV (((L.set k { a with value := b.value }).set k { a with value := b.value, same := b.same }).set k b) := argV_set g2 (by omega) rfl
  rw [s1, s2, s3, List.set_set, List.set_set, ← Nat.add_assoc, ← Nat.add_assoc] at e1
  exact e1
/-- a function's profile, written back: its counts alone have turned -/
theorem ProfF.back {B : Nat} {w : World} {g o c n : Nat} {fs : List FV} {rs : List FunP} {fv : FV} {y : FunP} (h : ProfF B w (.slice (some ⟨g, o, none⟩) rs.length c) fs (rs.set n y)) (hn : n < rs.length) (hf : fs[n]? = some fv) (z : Int) :
    (∃ fs', ProfF B ((((w.setCell ⟨g, o + n * 4, none⟩ (.int .i64 z)).setCell ⟨g, o + n * 4 + 1, none⟩ fv.j).setCell ⟨g, o + n * 4 + 2, none⟩ fv.f).setCell ⟨g, o + n * 4 + 3, none⟩ fv.a) (.slice (some ⟨g, o, none⟩) rs.length c) fs' (rs.set n { y with calls := z })) ∧
      Mods [g] w ((((w.setCell ⟨g, o + n * 4, none⟩ (.int .i64 z)).setCell ⟨g, o + n * 4 + 1, none⟩ fv.j).setCell ⟨g, o + n * 4 + 2, none⟩ fv.f).setCell ⟨g, o + n * 4 + 3, none⟩ fv.a) := by
  have hx : (rs.set n y)[n]? = some y := by simp [hn]
  have hnf : n < fs.length := (List.getElem?_eq_some_iff.1 hf).1
  have h' : ProfF B w (.slice (some ⟨g, o, none⟩) (rs.set n y).length c) fs (rs.set n y) := by rw [List.length_set]; exact h
  have h1 := h'.calls hf hx z
  rw [List.set_set, List.length_set] at h1
  have hf1 : (fs.set n { fv with calls := z })[n]? = some { fv with calls := z } := by simp [hnf]
  have hm1 : Mods [g] w (w.setCell ⟨g, o + n * 4, none⟩ (.int .i64 z)) := (Mods.refl [g] w).setCell (p := ⟨g, o + n * 4, none⟩) (fun _ => by simp) _
  have hm2 : Mods [g] (w.setCell ⟨g, o + n * 4, none⟩ (.int .i64 z)) ((((w.setCell ⟨g, o + n * 4, none⟩ (.int .i64 z)).setCell ⟨g, o + n * 4 + 1, none⟩ fv.j).setCell ⟨g, o + n * 4 + 2, none⟩ fv.f).setCell ⟨g, o + n * 4 + 3, none⟩ fv.a) := (((Mods.refl [g] _).setCell (p := ⟨g, o + n * 4 + 1, none⟩) (fun _ => by simp) _).setCell (p := ⟨g, o + n * 4 + 2, none⟩) (fun _ => by simp) _).setCell (p := ⟨g, o + n * 4 + 3, none⟩) (fun _ => by simp) _
  refine ⟨⟨fs.set n { fv with calls := z }, ⟨?_, h1.1.2⟩, h1.2.others hm2 fun b hb => ?_⟩, hm1.trans hm2⟩
  · have hl : (rs.set n { y with calls := z }).length = rs.length := by simp
    have ho : Own (w.setCell ⟨g, o + n * 4, none⟩ (.int .i64 z)) 47 4 (.slice (some ⟨g, o, none⟩) rs.length c) rs.length (fvV (fs.set n { fv with calls := z })) := by have := h1.1.1; rw [hl] at this; exact this
    have q1 : (fvV (fs.set n { fv with calls := z })).set (n * 4 + 1) fv.j = fvV (fs.set n { fv with calls := z }) := set_same (by rw [fvV_get hf1 (by omega)]; rfl)
    have q2 : (fvV (fs.set n { fv with calls := z })).set (n * 4 + 2) fv.f = fvV (fs.set n { fv with calls := z }) := set_same (by rw [fvV_get hf1 (by omega)]; rfl)
    have q3 : (fvV (fs.set n { fv with calls := z })).set (n * 4 + 3) fv.a = fvV (fs.set n { fv with calls := z }) := set_same (by rw [fvV_get hf1 (by omega)]; rfl)
    have e1 := ho.set (j := n * 4 + 1) fv.j
    rw [q1] at e1
    have e2 := e1.set (j := n * 4 + 2) fv.f
    rw [q2] at e2
    have e3 := e2.set (j := n * 4 + 3) fv.a
    rw [q3] at e3
    rw [hl]
    simpa only [Nat.add_assoc] using e3
  · obtain rfl := List.mem_singleton.1 hb
    exact ⟨47, h1.1.1.blockOf rfl, by decide, by decide⟩
end Go.Proofs.YtjpgcokdlopkaaaGreatDoor


namespace Go.Proofs.YtjpgcokdlopkaaaGreatDoor
open Go.RowKit

set_option maxHeartbeats 8000000 in
set_option maxRecDepth 100000 in
theorem rCalled_calls (v u va : Value) (p : List Fun) (rs : List FunP) (fn : Int) (xs : List Int) (w : World) (hv : Funs w v p) (hu : Profs w u rs) (ha : Ints w va xs) : Calls Tryz.prog 8 #[.agg #[v], .agg #[u], .int .i64 fn, va] w (ResPost w (calledR p rs fn xs)) := by
  obtain ⟨A, c, rfl, k1, k2⟩ := hv.form
  obtain ⟨B, d, rfl, k3, k4⟩ := hu.form
  obtain ⟨D, q, rfl, k5, k6⟩ := ha.form
  have HV := Lib.hid hv
  have HU := Lib.hid hu
  have HA := Lib.hid ha
  clear hv hu ha
  cases h1 : profMay p rs with
  | false =>
    have HN := Lib.hid (calledR_no (p := p) (rs := rs) (fn := fn) (xs := xs) (fun ⟨n', f', x', h'⟩ => by have := profMay_true h'.may; rw [h1] at this; cases this))
    go_enter Tryz.func8, Tryz.ntmps8
    go_wp2_with (first | (go_at_call 14; (with_reducible refine (rProfMay_is _ _ p rs _ _ h1 ?_ ?_).mono ?_); (exact HV.out.ext funR_grows (by repeat (first | exact Mods.refl _ _ | refine Mods.alloc ?_ _ | refine Mods.ext ?_ _ | refine Mods.drew ?_ | refine Mods.drewN ?_ _))); (exact HU.out.ext fpR_grows (by repeat (first | exact Mods.refl _ _ | refine Mods.alloc ?_ _ | refine Mods.ext ?_ _ | refine Mods.drew ?_ | refine Mods.drewN ?_ _))); rintro e w1 ⟨rfl, x1, hx1⟩; have hM0 := mods_of hx1; have hM1 : Mods [] w w1 := Mods.trans (by repeat (first | exact Mods.refl _ _ | refine Mods.alloc ?_ _)) hM0; have bb0 := hM0.cell (boxes3 w _ _ _ _).1; have pb1 := PBox.keep (boxes3 w _ _ _ _).2.1 hM0 (by simp); have pb2 := PBox.keep (boxes3 w _ _ _ _).2.2 hM0 (by simp); have bb1 := pb1.cell; have bb2 := pb2.cell; have bf2 := pb2.frozen; have HM1 := Lib.hid hM1; have PB1 := Lib.hid pb1; have PB2 := Lib.hid pb2; clear hM0 hM1 hx1 pb1 pb2))
    have ce := (PB2.out.set (.slice none 0 0)).cell
    refine bodyPost_ret (v := .tuple #[.agg #[.slice none 0 0], .int .i64 900]) (by simp [results, Tryz.results8, go_sem, ce]) rfl ?_
    rw [HN.out]
    exact ⟨_, rfl, ProfO.nil, (HM1.out.setCell (fun hq => by have hq' : w.heap.size + 1 + 1 < w.heap.size := hq; omega) _).ex⟩
  | true =>
  have HPM := Lib.hid (profMay_iff.1 h1)
  rcases dec_cases (fn < 0) with ⟨h2, h2d⟩ | ⟨h2, h2d⟩
  · have HN := Lib.hid (calledR_no (p := p) (rs := rs) (fn := fn) (xs := xs) (fun ⟨n', f', x', h'⟩ => by have := h'.fnE; omega))
    go_enter Tryz.func8, Tryz.ntmps8
    go_wp2_with (first | (go_at_call 14; (with_reducible refine (rProfMay_is _ _ p rs _ _ h1 ?_ ?_).mono ?_); (exact HV.out.ext funR_grows (by repeat (first | exact Mods.refl _ _ | refine Mods.alloc ?_ _ | refine Mods.ext ?_ _ | refine Mods.drew ?_ | refine Mods.drewN ?_ _))); (exact HU.out.ext fpR_grows (by repeat (first | exact Mods.refl _ _ | refine Mods.alloc ?_ _ | refine Mods.ext ?_ _ | refine Mods.drew ?_ | refine Mods.drewN ?_ _))); rintro e w1 ⟨rfl, x1, hx1⟩; have hM0 := mods_of hx1; have hM1 : Mods [] w w1 := Mods.trans (by repeat (first | exact Mods.refl _ _ | refine Mods.alloc ?_ _)) hM0; have bb0 := hM0.cell (boxes3 w _ _ _ _).1; have pb1 := PBox.keep (boxes3 w _ _ _ _).2.1 hM0 (by simp); have pb2 := PBox.keep (boxes3 w _ _ _ _).2.2 hM0 (by simp); have bb1 := pb1.cell; have bb2 := pb2.cell; have bf2 := pb2.frozen; have HM1 := Lib.hid hM1; have PB1 := Lib.hid pb1; have PB2 := Lib.hid pb2; clear hM0 hM1 hx1 pb1 pb2))
    have ce := (PB2.out.set (.slice none 0 0)).cell
    refine bodyPost_ret (v := .tuple #[.agg #[.slice none 0 0], .int .i64 900]) (by simp [results, Tryz.results8, go_sem, ce]) rfl ?_
    rw [HN.out]
    exact ⟨_, rfl, ProfO.nil, (HM1.out.setCell (fun hq => by have hq' : w.heap.size + 1 + 1 < w.heap.size := hq; omega) _).ex⟩
  obtain ⟨n, rfl⟩ : ∃ n : Nat, fn = n := ⟨fn.toNat, by omega⟩
  by_cases h3 : p.length ≤ n
  · have h3d : decide ((p.length : Int) ≤ (n : Int)) = true := by simp; omega
    have HN := Lib.hid (calledR_no (p := p) (rs := rs) (fn := (n : Int)) (xs := xs) (fun ⟨n', f', x', h'⟩ => by have := h'.fnE; have := (List.getElem?_eq_some_iff.1 h'.fE).1; omega))
    go_enter Tryz.func8, Tryz.ntmps8
    go_wp2_with (first | (go_at_call 14; (with_reducible refine (rProfMay_is _ _ p rs _ _ h1 ?_ ?_).mono ?_); (exact HV.out.ext funR_grows (by repeat (first | exact Mods.refl _ _ | refine Mods.alloc ?_ _ | refine Mods.ext ?_ _ | refine Mods.drew ?_ | refine Mods.drewN ?_ _))); (exact HU.out.ext fpR_grows (by repeat (first | exact Mods.refl _ _ | refine Mods.alloc ?_ _ | refine Mods.ext ?_ _ | refine Mods.drew ?_ | refine Mods.drewN ?_ _))); rintro e w1 ⟨rfl, x1, hx1⟩; have hM0 := mods_of hx1; have hM1 : Mods [] w w1 := Mods.trans (by repeat (first | exact Mods.refl _ _ | refine Mods.alloc ?_ _)) hM0; have bb0 := hM0.cell (boxes3 w _ _ _ _).1; have pb1 := PBox.keep (boxes3 w _ _ _ _).2.1 hM0 (by simp); have pb2 := PBox.keep (boxes3 w _ _ _ _).2.2 hM0 (by simp); have bb1 := pb1.cell; have bb2 := pb2.cell; have bf2 := pb2.frozen; have HM1 := Lib.hid hM1; have PB1 := Lib.hid pb1; have PB2 := Lib.hid pb2; clear hM0 hM1 hx1 pb1 pb2))
    have ce := (PB2.out.set (.slice none 0 0)).cell
    refine bodyPost_ret (v := .tuple #[.agg #[.slice none 0 0], .int .i64 900]) (by simp [results, Tryz.results8, go_sem, ce]) rfl ?_
    rw [HN.out]
    exact ⟨_, rfl, ProfO.nil, (HM1.out.setCell (fun hq => by have hq' : w.heap.size + 1 + 1 < w.heap.size := hq; omega) _).ex⟩
  have hlt : n < p.length := by omega
  have h3d : decide ((p.length : Int) ≤ (n : Int)) = false := by simp; omega
  have i0 : (0 : Int) ≤ (n : Int) := by omega
  have i1 : (n : Int) < (p.length : Int) := by omega
  obtain ⟨f, hf⟩ : ∃ f, p[n]? = some f := ⟨_, get_some hlt⟩
  obtain ⟨x, hx⟩ : ∃ x, rs[n]? = some x := ⟨_, get_some (by rw [HPM.out.len]; exact hlt)⟩
  obtain ⟨b, o, rfl, hfr⟩ := HV.out.at_ hf
  obtain ⟨f1, f2, fv, f3, _⟩ := hfr
  have F1 := Lib.hid f1
  cases h5 : numbersB xs f.args with
  | false =>
    have HN := Lib.hid (calledR_no (p := p) (rs := rs) (fn := (n : Int)) (xs := xs) (fun ⟨n', f', x', h'⟩ => by have e1 := h'.fnE; have e2 : n' = n := (by omega); subst e2; have e3 := h'.fE; rw [hf] at e3; have e4 := Option.some.inj e3; subst e4; have e5 := h'.nums; unfold numbersB at h5; rw [decide_eq_true h'.len, e5] at h5; cases h5))
    go_enter Tryz.func8, Tryz.ntmps8
    go_wp2_with (first | (go_at_call 14; (with_reducible refine (rProfMay_is _ _ p rs _ _ h1 ?_ ?_).mono ?_); (exact HV.out.ext funR_grows (by repeat (first | exact Mods.refl _ _ | refine Mods.alloc ?_ _ | refine Mods.ext ?_ _ | refine Mods.drew ?_ | refine Mods.drewN ?_ _))); (exact HU.out.ext fpR_grows (by repeat (first | exact Mods.refl _ _ | refine Mods.alloc ?_ _ | refine Mods.ext ?_ _ | refine Mods.drew ?_ | refine Mods.drewN ?_ _))); rintro e w1 ⟨rfl, x1, hx1⟩; have hM0 := mods_of hx1; have hM1 : Mods [] w w1 := Mods.trans (by repeat (first | exact Mods.refl _ _ | refine Mods.alloc ?_ _)) hM0; have bb0 := hM0.cell (boxes3 w _ _ _ _).1; have pb1 := PBox.keep (boxes3 w _ _ _ _).2.1 hM0 (by simp); have pb2 := PBox.keep (boxes3 w _ _ _ _).2.2 hM0 (by simp); have bb1 := pb1.cell; have bb2 := pb2.cell; have bf2 := pb2.frozen; have HM1 := Lib.hid hM1; have PB1 := Lib.hid pb1; have PB2 := Lib.hid pb2; clear hM0 hM1 hx1 pb1 pb2; have g1 := HM1.out.cell F1.out) | (go_at_call 23; (with_reducible refine (rNumbers_is _ xs _ _ _ h5 ?_).mono ?_); (exact HA.out.ext intR_grows HM1.out); rintro e w2 ⟨rfl, x2, hx2⟩; have hM2 := mods_of hx2; have pb2 := PB2.out.keep hM2 (by simp); have bb2' := pb2.cell; have bf2' := pb2.frozen; have pb1 := PB1.out.keep hM2 (by simp); have bb1' := pb1.cell; have PB1 := Lib.hid pb1; have PB2l := Lib.hid pb2.lt; have PB2 := Lib.hid pb2; have HM1 := Lib.hid (HM1.out.trans hM2); clear hx2 hM2 pb1 pb2))
    have ce := (PB2.out.set (.slice none 0 0)).cell
    refine bodyPost_ret (v := .tuple #[.agg #[.slice none 0 0], .int .i64 900]) (by simp [results, Tryz.results8, go_sem, ce]) rfl ?_
    rw [HN.out]
    exact ⟨_, rfl, ProfO.nil, (HM1.out.setCell (fun hq => by have hq' : w.heap.size + 1 + 1 < w.heap.size := hq; omega) _).ex⟩
  | true =>
    have h6 : (xs.length : Int) = f.args ∧ xs.all numB = true := by unfold numbersB at h5; simpa using h5
    have hok : CalledOk p rs n xs n f x := ⟨HPM.out, rfl, hf, hx, h6.1, h6.2⟩
    have HR := Lib.hid (calledR_yes hok)
    obtain ⟨a1, a2, a3, a4, a5, a6, a7⟩ := HPM.out.at hf hx
    have hxl : xs.length = x.args.length := by have := h6.1; omega
    obtain ⟨cc0, cc1⟩ := countB_range a1
    have HAS := Lib.hid a5
    have HXL := Lib.hid hxl
    have HX := Lib.hid hx
    have HRL := Lib.hid HPM.out.len
    have j1 : (n : Int) < (rs.length : Int) := by have := HPM.out.len; omega
    clear hok a1 a2 a3 a4 a5 a6 a7 hxl hx hf h6
    go_enter Tryz.func8, Tryz.ntmps8
    go_wp2_with (first
      | (go_at_call 14; (with_reducible refine (rProfMay_is _ _ p rs _ _ h1 ?_ ?_).mono ?_); (exact HV.out.ext funR_grows (by repeat (first | exact Mods.refl _ _ | refine Mods.alloc ?_ _ | refine Mods.ext ?_ _ | refine Mods.drew ?_ | refine Mods.drewN ?_ _))); (exact HU.out.ext fpR_grows (by repeat (first | exact Mods.refl _ _ | refine Mods.alloc ?_ _ | refine Mods.ext ?_ _ | refine Mods.drew ?_ | refine Mods.drewN ?_ _))); rintro e w1 ⟨rfl, x1, hx1⟩; have hM0 := mods_of hx1; have hM1 : Mods [] w w1 := Mods.trans (by repeat (first | exact Mods.refl _ _ | refine Mods.alloc ?_ _)) hM0; have bb0 := hM0.cell (boxes3 w _ _ _ _).1; have pb1 := PBox.keep (boxes3 w _ _ _ _).2.1 hM0 (by simp); have pb2 := PBox.keep (boxes3 w _ _ _ _).2.2 hM0 (by simp); have bb1 := pb1.cell; have bb2 := pb2.cell; have bf2 := pb2.frozen; have HM1 := Lib.hid hM1; have PB1 := Lib.hid pb1; have PB2 := Lib.hid pb2; clear hM0 hM1 hx1 pb1 pb2; have g1 := HM1.out.cell F1.out)
      | (go_at_call 23; (with_reducible refine (rNumbers_is _ xs _ _ _ h5 ?_).mono ?_); (exact HA.out.ext intR_grows HM1.out); rintro e w2 ⟨rfl, x2, hx2⟩; have hM2 := mods_of hx2; have pb2 := PB2.out.keep hM2 (by simp); have bb2' := pb2.cell; have bf2' := pb2.frozen; have pb1 := PB1.out.keep hM2 (by simp); have bb1' := pb1.cell; have PB1 := Lib.hid pb1; have PB2l := Lib.hid pb2.lt; have PB2 := Lib.hid pb2; have HM1 := Lib.hid (HM1.out.trans hM2); clear hx2 hM2 pb1 pb2)
      | (go_at_call 24; (with_reducible refine (rCopyProf_calls _ rs _ ?_ HPM.out.fits).mono ?_); (exact HU.out.ext fpR_grows HM1.out); rintro e w3 ⟨v3, rfl, ho3, x3, hx3⟩; have hM3 := mods_of hx3; obtain ⟨fs3, hp3⟩ := ho3; obtain ⟨g3, o3, q3, rfl, _, _, _, _⟩ := hp3.1.1.form (by omega); have hp3' : ProfF w2.heap.size w3 (.slice (some ⟨g3, o3, none⟩) rs.length q3) fs3 rs := hp3; obtain ⟨⟨vc, vj, vf, va⟩, hfv, hfo⟩ := hp3'.each HX.out; obtain ⟨J, cj, rfl, _, _⟩ := hfo.2.1.1.slice; obtain ⟨F, cf, rfl, _, _⟩ := hfo.2.2.1.1.slice; obtain ⟨D3, ca, rfl, _, _⟩ := hfo.2.2.2.1.1.slice; have hvc : vc = x.calls := hfo.1; subst hvc; obtain ⟨s0, s1, s2, s3⟩ := hp3'.1.1.fps hfv; have pb2 := PB2.out.keep hM3 (by simp); have PB2 := Lib.hid pb2; have HM3 := Lib.hid hM3; have HP3 := Lib.hid hp3'; have HFV := Lib.hid hfv; clear hx3 hM3 pb2 hp3 hp3' hfv hfo bb1' bb2' bf2')
      | (go_at_call 25; (with_reducible refine (rMore_calls x.calls _ cc0 cc1).mono ?_); rintro e w' ⟨rfl, rfl⟩))
    have hA0 := alloc_new_at (W := w3.alloc (Obj.cells #[.slice (some ⟨g3, o3, none⟩) rs.length q3] 27)) (n := w3.heap.size + 1) (o := Obj.cells #[.int .i64 (moreI x.calls), .slice J x.jumps.length cj, .slice F x.falls.length cf, .slice D3 x.args.length ca] 47) (by simp)
    have hMw : Mods [] w3 ((w3.alloc (Obj.cells #[.slice (some ⟨g3, o3, none⟩) rs.length q3] 27)).alloc (Obj.cells #[.int .i64 (moreI x.calls), .slice J x.jumps.length cj, .slice F x.falls.length cf, .slice D3 x.args.length ca] 47)) := (by repeat (first | exact Mods.refl _ _ | refine Mods.alloc ?_ _ | refine Mods.ext ?_ _ | refine Mods.drew ?_ | refine Mods.drewN ?_ _))
    have hpo : PBox w3.heap.size (.slice (some ⟨g3, o3, none⟩) rs.length q3) ((w3.alloc (Obj.cells #[.slice (some ⟨g3, o3, none⟩) rs.length q3] 27)).alloc (Obj.cells #[.int .i64 (moreI x.calls), .slice J x.jumps.length cj, .slice F x.falls.length cf, .slice D3 x.args.length ca] 47)) := PBox.keep (show PBox w3.heap.size (.slice (some ⟨g3, o3, none⟩) rs.length q3) (w3.alloc (Obj.cells #[.slice (some ⟨g3, o3, none⟩) rs.length q3] 27)) from heap_alloc_new _ _) (S := []) (by repeat (first | exact Mods.refl _ _ | refine Mods.alloc ?_ _ | refine Mods.ext ?_ _ | refine Mods.drew ?_ | refine Mods.drewN ?_ _)) (by simp)
    have HA0 := Lib.hid hA0
    have HMW := Lib.hid hMw
    have HPO := Lib.hid hpo
    clear hA0 hMw hpo
    go_loopw [12, 13, 67, 82] (fun i _ _ _ wr => ∃ k : Nat, i = .int .i64 k ∧ k ≤ xs.length ∧ Hid (ProfF w2.heap.size wr (.slice (some ⟨g3, o3, none⟩) rs.length q3) fs3 (rs.set n { x with args := calledTo x.args xs k })) ∧ Hid (Mods [] w2 wr) ∧ Hid (FBox (w3.heap.size + 1) (moreI x.calls) (.slice J x.jumps.length cj) (.slice F x.falls.length cf) (.slice D3 x.args.length ca) wr) ∧ Hid (PBox w3.heap.size (.slice (some ⟨g3, o3, none⟩) rs.length q3) wr) ∧ Hid (PBox (w.heap.size + 1 + 1) (.slice none 0 0) wr)) (fun i _ _ _ _ => xs.length - (intOf i).toNat)
    case atStart =>
      have e : rs.set n { x with args := calledTo x.args xs 0 } = rs := set_same HX.out
      exact ⟨0, rfl, Nat.zero_le _, by rw [e]; exact HP3.out.mods (S := []) HMW.out (by simp), HM3.out.trans HMW.out, HA0.out, HPO.out, PB2.out.keep (S := []) HMW.out (by simp)⟩
    case round =>
      obtain ⟨k, rfl, hk, HP, HM, HFB, HOB, HRB⟩ := hrel
      obtain ⟨z0, z1, z2, z3, v0, v1, v2, v3⟩ := HFB.out.cells
      by_cases hlt : k < xs.length
      · obtain ⟨b5, o5, rfl, hy⟩ := HA.out.at_ (get_some hlt)
        have hy' := (HM1.out.trans HM.out).cell hy
        rw [Nat.mul_one] at hy'
        obtain ⟨y, hye⟩ : ∃ y, xs[k] = y := ⟨_, rfl⟩
        rw [hye] at hy'
        have hka : k < x.args.length := by have := HXL.out; omega
        obtain ⟨a, hae⟩ : ∃ a, x.args[k]? = some a := ⟨_, get_some hka⟩
        have hLk : (calledTo x.args xs k)[k]? = some a := (calledTo_get _ _ _ _ (Nat.le_refl _)).trans hae
        have hstep := calledTo_step (l := x.args) (xs := xs) hae ((get_some hlt).trans (by rw [hye]))
        have ham := HAS.out k a hae
        have ham2 : countB a.same = true ∧ countB a.other = true := by simp [argMay] at ham; exact ⟨ham.1.2, ham.2⟩
        obtain ⟨as0, as1⟩ := countB_range ham2.1
        obtain ⟨ao0, ao1⟩ := countB_range ham2.2
        have hll : (calledTo x.args xs k).length = x.args.length := calledTo_len _ _ _
        obtain ⟨L, hL⟩ : ∃ L, calledTo x.args xs k = L := ⟨_, rfl⟩
        rw [hL] at HP hLk hstep hll
        have hP := HP.out
        have hn2 : n < rs.length := by omega
        have hx1 : (rs.set n { x with args := L })[n]? = some { x with args := L } := by simp [hn2]
        have hv := hP.2.each n _ _ HFV.out hx1
        have hoa : Own wr 62 3 (.slice D3 x.args.length ca) L.length (argV L) := hv.2.2.2.1.1
        rw [hll] at hoa
        obtain ⟨ga, oa, qa, hfa, _, _, zz3, zz4⟩ := hoa.form (by omega)
        cases hfa
        have y0 := zz3 (k * 3 + 0) _ (argV_get hLk (by omega))
        have y1 := zz3 (k * 3 + 1) _ (argV_get hLk (by omega))
        have y2 := zz3 (k * 3 + 2) _ (argV_get hLk (by omega))
        rw [Nat.add_zero] at y0
        rw [← Nat.add_assoc] at y1 y2
        have t0 := zz4 (oa + k * 3)
        have t1 := zz4 (oa + k * 3 + 1)
        have t2 := zz4 (oa + k * 3 + 2)
        have l0 : (0 : Int) ≤ (k : Int) := by omega
        have l1 : (k : Int) < (x.args.length : Int) := by omega
        have l2 : (k : Int) < (xs.length : Int) := by omega
        have hB : w2.heap.size ≤ ga := hv.2.2.2.1.2 ga rfl
        have hga : BlockOf wr 62 ga := hoa.blockOf rfl
        have fin : ∀ (W : World) (bb : ArgP), Mods [] wr W → bb = callArgP a y → ∃ w'', w'' = ((W.setCell ⟨ga, oa + k * 3, none⟩ (.int .i64 bb.value)).setCell ⟨ga, oa + k * 3 + 1, none⟩ (.int .i64 bb.same)).setCell ⟨ga, oa + k * 3 + 2, none⟩ (.int .i64 bb.other) ∧ ProfF w2.heap.size w'' (.slice (some ⟨g3, o3, none⟩) rs.length q3) fs3 (rs.set n { x with args := calledTo x.args xs (k + 1) }) ∧ Mods [] w2 w'' ∧ FBox (w3.heap.size + 1) (moreI x.calls) (.slice J x.jumps.length cj) (.slice F x.falls.length cf) (.slice (some ⟨ga, oa, none⟩) x.args.length ca) w'' ∧ PBox w3.heap.size (.slice (some ⟨g3, o3, none⟩) rs.length q3) w'' ∧ PBox (w.heap.size + 1 + 1) (.slice none 0 0) w'' := fun W bb hW hbb => by
          subst hbb
          obtain ⟨r1, r2⟩ := arg_three (b := callArgP a y) (hoa.mods hW (fun _ _ => by simp)) hLk
          have hmw : Mods [ga] wr _ := hW.nil.trans r2
          have hne : ∀ (b : Nat) (u : Value), PBox b u wr → b ∉ [ga] := fun b u hb hs => by
            obtain rfl := List.mem_singleton.1 hs
            have h3 : BlockOf wr 27 b := ⟨_, _, hb⟩
            exact absurd (hga.ne h3) (by decide)
          refine ⟨_, rfl, ?_, (HM.out.nil.trans hmw).new fun b hb => by obtain rfl := List.mem_singleton.1 hb; exact hB, HFB.out.keep hmw fun hs => ?_, HOB.out.keep hmw (hne _ _ HOB.out), HRB.out.keep hmw (hne _ _ HRB.out)⟩
          · have hlen : (L.set k (callArgP a y)).length = x.args.length := by rw [List.length_set]; exact hll
            have := ProfF.arg (l := L.set k (callArgP a y)) (ga := ga) (fv := ⟨x.calls, .slice J x.jumps.length cj, .slice F x.falls.length cf, .slice (some ⟨ga, oa, none⟩) x.args.length ca⟩) hP hn2 HFV.out rfl hmw (by rw [hlen]; exact r1)
            rw [hstep]
            exact this
          · have h3 := HFB.out.blockOf
            rw [List.mem_singleton.1 hs] at h3
            exact absurd (hga.ne h3) (by decide)
        have hgl : ga < wr.heap.size := cell_lt (a := ⟨ga, oa + k * 3, none⟩) (by rw [y0]; rfl)
        have hfz : ∀ (q : Obj) (j : Nat), (wr.alloc q).frozen? ⟨ga, j, none⟩ = false := fun q j => (frozen?_of_block (Below.heap_alloc wr q ga hgl)).trans (zz4 j)
        have FIN := Lib.hid fin
        clear fin hLk hoa hP hv hx1 zz3 zz4 hB hstep hL hll ham ham2 hae hye hy hga
        by_cases q1 : a.same = 0 ∧ a.other = 0
        · obtain ⟨qs, qo⟩ := q1
          have qs' : (a.same == 0) = true := by simp [qs]
          have qo' : (a.other == 0) = true := by simp [qo]
          have QB := Lib.hid (show (⟨y, 1, a.other⟩ : ArgP) = callArgP a y by unfold callArgP; rw [if_pos ⟨qs, qo⟩])
          clear qs qo
          go_wp2
          go_roundw
          case rel =>
            go_light
            obtain ⟨w'', hw'', r1, r2, r3, r4, r5⟩ := FIN.out wr _ (Mods.refl _ _) QB.out
            have hA := (Mods.refl [] w'').alloc (Obj.cells #[.int .i64 y, .int .i64 1, .int .i64 a.other] 62)
            have q1 := r1.mods (S := []) hA (by simp)
            have q2 := r2.trans hA
            have q3 := r3.keep (S := []) hA (by simp)
            have q4 := r4.keep (S := []) hA (by simp)
            have q5 := r5.keep (S := []) hA (by simp)
            subst hw''
            exact ⟨k + 1, by go_num, by omega, q1, q2, q3, q4, q5⟩
          case measure => simp [intOf]; omega
        · by_cases q2 : a.value = y
          · have q2' : (a.value == y) = true := by simp [q2]
            have QB := Lib.hid (show ({ a with same := moreI a.same } : ArgP) = callArgP a y by unfold callArgP; rw [if_neg q1, if_pos q2])
            clear q2
            by_cases q3 : a.same = 0
            · have q3' : (a.same == 0) = true := by simp [q3]
              have q4' : (a.other == 0) = false := by simp; omega
              clear q3 q1
              go_wp2
              (refine wp_region_ext (by kernel_rfl) (by kernel_rfl) ?_; (repeat (go_big_quiet_step (fail))); refine wpQuiet_nil ?_; rintro _ ⟨xq, rfl⟩)
              go_wp2_with (go_at_call 25; (with_reducible refine (rMore_calls a.same _ as0 as1).mono ?_); rintro e w' ⟨rfl, rfl⟩)
              go_roundw
              case rel =>
                go_light
                obtain ⟨w'', hw'', r1, r2, r3, r4, r5⟩ := FIN.out (((wr.alloc (Obj.cells #[.int .i64 a.value, .int .i64 a.same, .int .i64 a.other] 62)).mod [] xq).setCell ⟨wr.heap.size, 1, none⟩ (.int .i64 (moreI a.same))) { a with same := moreI a.same } (Mods.setCell (((Mods.refl [] wr).alloc _).ext _) (p := ⟨wr.heap.size, 1, none⟩) (fun hq => absurd hq (Nat.lt_irrefl _)) _) QB.out
                subst hw''
                exact ⟨k + 1, by go_num, by omega, r1, r2, r3, r4, r5⟩
              case measure => simp [intOf]; omega
            · have q3' : (a.same == 0) = false := by simp [q3]
              clear q3 q1
              go_wp2
              (refine wp_region_ext (by kernel_rfl) (by kernel_rfl) ?_; (repeat (go_big_quiet_step (fail))); refine wpQuiet_nil ?_; rintro _ ⟨xq, rfl⟩)
              go_wp2_with (go_at_call 25; (with_reducible refine (rMore_calls a.same _ as0 as1).mono ?_); rintro e w' ⟨rfl, rfl⟩)
              go_roundw
              case rel =>
                go_light
                obtain ⟨w'', hw'', r1, r2, r3, r4, r5⟩ := FIN.out (((wr.alloc (Obj.cells #[.int .i64 a.value, .int .i64 a.same, .int .i64 a.other] 62)).mod [] xq).setCell ⟨wr.heap.size, 1, none⟩ (.int .i64 (moreI a.same))) { a with same := moreI a.same } (Mods.setCell (((Mods.refl [] wr).alloc _).ext _) (p := ⟨wr.heap.size, 1, none⟩) (fun hq => absurd hq (Nat.lt_irrefl _)) _) QB.out
                subst hw''
                exact ⟨k + 1, by go_num, by omega, r1, r2, r3, r4, r5⟩
              case measure => simp [intOf]; omega
          · have q2' : (a.value == y) = false := by simp [q2]
            have QB := Lib.hid (show ({ a with other := moreI a.other } : ArgP) = callArgP a y by unfold callArgP; rw [if_neg q1, if_neg q2])
            clear q2
            by_cases q3 : a.same = 0
            · have q3' : (a.same == 0) = true := by simp [q3]
              have q4' : (a.other == 0) = false := by simp; omega
              clear q3 q1
              go_wp2
              (refine wp_region_ext (by kernel_rfl) (by kernel_rfl) ?_; (repeat (go_big_quiet_step (fail))); refine wpQuiet_nil ?_; rintro _ ⟨xq, rfl⟩)
              go_wp2_with (go_at_call 25; (with_reducible refine (rMore_calls a.other _ ao0 ao1).mono ?_); rintro e w' ⟨rfl, rfl⟩)
              go_roundw
              case rel =>
                go_light
                obtain ⟨w'', hw'', r1, r2, r3, r4, r5⟩ := FIN.out (((wr.alloc (Obj.cells #[.int .i64 a.value, .int .i64 a.same, .int .i64 a.other] 62)).mod [] xq).setCell ⟨wr.heap.size, 2, none⟩ (.int .i64 (moreI a.other))) { a with other := moreI a.other } (Mods.setCell (((Mods.refl [] wr).alloc _).ext _) (p := ⟨wr.heap.size, 2, none⟩) (fun hq => absurd hq (Nat.lt_irrefl _)) _) QB.out
                subst hw''
                exact ⟨k + 1, by go_num, by omega, r1, r2, r3, r4, r5⟩
              case measure => simp [intOf]; omega
            · have q3' : (a.same == 0) = false := by simp [q3]
              clear q3 q1
              go_wp2
              (refine wp_region_ext (by kernel_rfl) (by kernel_rfl) ?_; (repeat (go_big_quiet_step (fail))); refine wpQuiet_nil ?_; rintro _ ⟨xq, rfl⟩)
              go_wp2_with (go_at_call 25; (with_reducible refine (rMore_calls a.other _ ao0 ao1).mono ?_); rintro e w' ⟨rfl, rfl⟩)
              go_roundw
              case rel =>
                go_light
                obtain ⟨w'', hw'', r1, r2, r3, r4, r5⟩ := FIN.out (((wr.alloc (Obj.cells #[.int .i64 a.value, .int .i64 a.same, .int .i64 a.other] 62)).mod [] xq).setCell ⟨wr.heap.size, 2, none⟩ (.int .i64 (moreI a.other))) { a with other := moreI a.other } (Mods.setCell (((Mods.refl [] wr).alloc _).ext _) (p := ⟨wr.heap.size, 2, none⟩) (fun hq => absurd hq (Nat.lt_irrefl _)) _) QB.out
                subst hw''
                exact ⟨k + 1, by go_num, by omega, r1, r2, r3, r4, r5⟩
              case measure => simp [intOf]; omega
      · have hke : k = xs.length := by omega
        have HKE := Lib.hid hke
        have hn2 : n < rs.length := by omega
        have hq5 : Own wr 47 4 (.slice (some ⟨g3, o3, none⟩) rs.length q3) rs.length (fvV fs3) := by have := HP.out.1.1; rw [List.length_set] at this; exact this
        obtain ⟨e0, e1, e2, e3⟩ := hq5.fps HFV.out
        obtain ⟨_, _, _, e5, _, _, _, zz4⟩ := hq5.form (by omega)
        cases e5
        have ff0 := zz4 (o3 + n * 4)
        have ff1 := zz4 (o3 + n * 4 + 1)
        have ff2 := zz4 (o3 + n * 4 + 2)
        have ff3 := zz4 (o3 + n * 4 + 3)
        have co := HOB.out.cell
        have cr := HRB.out.cell
        have fr := HRB.out.frozen
        obtain ⟨hbk, hbm⟩ := HP.out.back hn2 HFV.out (moreI x.calls)
        have hgb : BlockOf wr 47 g3 := hq5.blockOf rfl
        have hne : ∀ (b : Nat) (u : Value), PBox b u wr → b ∉ [g3] := fun b u hb hs => by
          obtain rfl := List.mem_singleton.1 hs
          have h3 : BlockOf wr 27 b := ⟨_, _, hb⟩
          exact absurd (hgb.ne h3) (by decide)
        have hco2 := (HOB.out.keep hbm (hne _ _ HOB.out)).cell
        have hrb2 := HRB.out.keep hbm (hne _ _ HRB.out)
        have hcr2 := hrb2.cell
        have hfr2 := hrb2.frozen
        have ce := (hrb2.set (.slice (some ⟨g3, o3, none⟩) rs.length q3)).cell
        have hg0 : w2.heap.size ≤ g3 := HP.out.1.2 _ rfl
        have HBK := Lib.hid hbk
        have HBM := Lib.hid hbm
        clear hbk hbm hke hne hgb zz4 hq5 hrb2
        go_wp2
        refine bodyPost_ret (v := .tuple #[.agg #[.slice (some ⟨g3, o3, none⟩) rs.length q3], .int .i64 0]) (by simp [results, Tryz.results8, go_sem, ce]) rfl ?_
        rw [HR.out]
        obtain ⟨fs4, hp4⟩ := HBK.out
        have e : rs.set n { x with args := calledTo x.args xs k, calls := moreI x.calls } = rs.set n (calledF x xs) := by rw [HKE.out]; rfl
        rw [e] at hp4
        have hs2 := HM1.out.size
        have hr2 : w.heap.size + 1 + 1 < w2.heap.size := PB2l.out
        have hset : ∀ W : World, Mods [w.heap.size + 1 + 1] W (W.setCell ⟨w.heap.size + 1 + 1, 0, none⟩ (.slice (some ⟨g3, o3, none⟩) rs.length q3)) := fun W => (Mods.refl _ _).setCell (fun _ => by simp) _
        exact ⟨_, rfl, ((hp4.mods (hset _) (fun b hb => by obtain rfl := List.mem_singleton.1 hb; exact hr2)).o).low hs2, ((((HM1.out.trans HM.out).nil.trans HBM.out).new (fun b hb => by obtain rfl := List.mem_singleton.1 hb; omega)).setCell (fun hq => by have hq' : w.heap.size + 1 + 1 < w.heap.size := hq; omega) _).ex⟩

end Go.Proofs.YtjpgcokdlopkaaaGreatDoor
