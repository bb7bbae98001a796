/- Lemmas for a claim of the seat YtjpgcokdlopkaaaGreatDoor. Written in part by programs of the claim's repo. By an AI agent. -/
import Derived.Test.YtjpgcokdlopkaaaGreatDoorG10

/-! prof.Copy: the rows are copied where they lie. -/
namespace Go.Proofs.YtjpgcokdlopkaaaGreatDoor
open Go.RowKit

/-- a function's profile whose rows may lie anywhere -/
def FVR (w : World) (v : FV) (x : FunP) : Prop := v.calls = x.calls ∧ Ints w v.j x.jumps ∧ Ints w v.f x.falls ∧ ArgPs w v.a x.args
theorem FVR.ext {w w' : World} {v : FV} {x : FunP} (h : FVR w v x) (hm : Mods [] w w') : FVR w' v x := ⟨h.1, h.2.1.ext intR_grows hm, h.2.2.1.ext intR_grows hm, h.2.2.2.ext argR_grows hm⟩
theorem FVR.one {w : World} {v : FV} {x : FunP} (h : FVR w v x) : ∀ u ∈ v.cells, u.oneCell' = true := by
  obtain ⟨A1, c1, e1, _, _⟩ := h.2.1.form
  obtain ⟨A2, c2, e2, _, _⟩ := h.2.2.1.form
  obtain ⟨A3, c3, e3, _, _⟩ := h.2.2.2.form
  exact one_fv e1 e2 e3
theorem fpR_fv {w : World} {b o : Nat} {x : FunP} (h : fpR w b o x) : ∃ v : FV, FVR w v x ∧ ∀ (j : Nat) (u : Value), v.cells[j]? = some u → w.cell? ⟨b, o + j, none⟩ = some u := by
  obtain ⟨h0, ⟨vj, h1, hj⟩, ⟨vf, h2, hf⟩, va, h3, ha⟩ := h
  refine ⟨⟨x.calls, vj, vf, va⟩, ⟨rfl, hj, hf, ha⟩, fun j u hu => ?_⟩
  match j, hu with
  | 0, hu => cases hu; exact h0
  | 1, hu => cases hu; exact h1
  | 2, hu => cases hu; exact h2
  | 3, hu => cases hu; exact h3
  | j + 4, hu => simp [FV.cells] at hu
theorem choose_list {α β : Type} {P : Nat → α → β → Prop} : ∀ (xs : List α), (∀ (i : Nat) (x : α), xs[i]? = some x → ∃ y, P i x y) → ∃ ys : List β, ys.length = xs.length ∧ ∀ (i : Nat) (x : α) (y : β), xs[i]? = some x → ys[i]? = some y → P i x y := by
  intro xs
  induction xs generalizing P with
  | nil => exact fun _ => ⟨[], rfl, fun i x y h => by simp at h⟩
  | cons a xs ih =>
    intro h
    obtain ⟨b, hb⟩ := h 0 a rfl
    obtain ⟨ys, hl, hy⟩ := ih (P := fun i => P (i + 1)) fun i x hx => h (i + 1) x hx
    refine ⟨b :: ys, by simp [hl], fun i x y hx hy' => ?_⟩
    cases i with
    | zero =>
      have e1 : a = x := by simpa using hx
      have e2 : b = y := by simpa using hy'
      subst e1; subst e2; exact hb
    | succ i => exact hy i x y (by simpa using hx) (by simpa using hy')
theorem profs_fs {w : World} {A : Option Addr} {n c : Nat} {rs : List FunP} (h : Profs w (.slice A n c) rs) : ∃ fs : List FV, fs.length = rs.length ∧ CellsAt w A n 4 (fvV fs) ∧ (∀ (i : Nat) (v : FV) (x : FunP), fs[i]? = some v → rs[i]? = some x → FVR w v x) ∧ ∀ u ∈ fvV fs, u.oneCell' = true := by
  have hn : n = rs.length := by
    obtain ⟨c, _, _, ⟨rfl, A, e⟩ | ⟨b, o, e, _⟩⟩ := h <;> cases e <;> rfl
  subst hn
  obtain ⟨fs, hl, hf⟩ := choose_list (P := fun i x (v : FV) => FVR w v x ∧ ∃ b o, A = some ⟨b, o, none⟩ ∧ ∀ (j : Nat) (u : Value), v.cells[j]? = some u → w.cell? ⟨b, o + i * 4 + j, none⟩ = some u) rs fun i x hx => by
    obtain ⟨b, o, rfl, hr⟩ := h.at_ hx
    obtain ⟨v, h1, h2⟩ := fpR_fv hr
    exact ⟨v, h1, b, o, rfl, h2⟩
  have both : ∀ (i : Nat) (v : FV), fs[i]? = some v → ∃ x, rs[i]? = some x := fun i v hv => by
    have := (List.getElem?_eq_some_iff.1 hv).1
    exact ⟨_, get_some (by omega)⟩
  refine ⟨fs, hl, ⟨by rw [fvV_len, hl], fun i u hu => ?_⟩, fun i v x hv hx => (hf i x v hx hv).1, fun u hu => ?_⟩
  · have hi : i / 4 * 4 + i % 4 = i := Nat.div_add_mod' i 4
    have hlt : i % 4 < 4 := Nat.mod_lt _ (by omega)
    rw [← hi, fvV, flat_get _ 4 FV.cells_len _ _ _ hlt] at hu
    obtain ⟨v, hv, hu⟩ := Option.bind_eq_some_iff.1 hu
    obtain ⟨x, hx⟩ := both _ v hv
    obtain ⟨_, b, o, rfl, hc⟩ := hf _ x v hx hv
    refine ⟨b, o, rfl, ?_⟩
    have := hc _ u hu
    rwa [Nat.add_assoc, hi] at this
  · obtain ⟨v, hv, hu⟩ := List.mem_flatMap.1 hu
    obtain ⟨i, hi⟩ := List.getElem?_of_mem hv
    obtain ⟨x, hx⟩ := both i v hi
    exact (hf i x v hx hi).1.one u hu
def CRel2 (w : World) (rb ob : Nat) (v : Value) (rs : List FunP) (k : Nat) (wr : World) : Prop :=
  ∃ gs, gs.length = rs.length ∧ PBox rb (.slice none 0 0) wr ∧ PBox ob v wr ∧ OwnF w.heap.size wr 47 4 v rs.length (fvV gs) ∧ FreshFs w.heap.size wr (gs.take k) (rs.take k) ∧ (∀ (i : Nat) (fv : FV) (x : FunP), k ≤ i → gs[i]? = some fv → rs[i]? = some x → FVR w fv x) ∧ Mods [] w wr
theorem take_snoc {α : Type} {l : List α} {k : Nat} {x : α} (h : l[k]? = some x) : l.take (k + 1) = l.take k ++ [x] := by rw [List.take_add_one, h]; rfl
theorem set_take {α : Type} {l : List α} {k : Nat} {x : α} : (l.set k x).take k = l.take k := by
  refine List.ext_getElem? fun i => ?_
  simp only [List.getElem?_take]
  split
  · rw [List.getElem?_set, if_neg (by omega)]
  · rfl
theorem CRel2.step {w : World} {rb ob k g o c : Nat} {rs : List FunP} {gs : List FV} {wr wa wb wc : World} {fv : FV} {x : FunP} {v1 v2 v3 : Value}
    (hl : gs.length = rs.length) (hrb : PBox rb (.slice none 0 0) wr) (hob : PBox ob (.slice (some ⟨g, o, none⟩) rs.length c) wr) (ho : OwnF w.heap.size wr 47 4 (.slice (some ⟨g, o, none⟩) rs.length c) rs.length (fvV gs)) (hf : FreshFs w.heap.size wr (gs.take k) (rs.take k))
    (hr : ∀ (i : Nat) (fv : FV) (x : FunP), k ≤ i → gs[i]? = some fv → rs[i]? = some x → FVR w fv x) (hw : Mods [] w wr) (hg : gs[k]? = some fv) (hx : rs[k]? = some x)
    (hM1 : Mods [] wr wa) (h1 : OwnF wr.heap.size wa 3 1 v1 x.jumps.length (intV x.jumps)) (hM2 : Mods [] wa wb) (h2 : OwnF wa.heap.size wb 3 1 v2 x.falls.length (intV x.falls)) (hM3 : Mods [] wb wc) (h3 : OwnF wb.heap.size wc 62 3 v3 x.args.length (argV x.args)) :
    CRel2 w rb ob (.slice (some ⟨g, o, none⟩) rs.length c) rs (k + 1) (((wc.setCell ⟨g, o + k * 4 + 1, none⟩ v1).setCell ⟨g, o + k * 4 + 2, none⟩ v2).setCell ⟨g, o + k * 4 + 3, none⟩ v3) := by
  have hkr : k < rs.length := (List.getElem?_eq_some_iff.1 hx).1
  have hkg : k < gs.length := by omega
  have hgb : BlockOf wr 47 g := ho.1.blockOf rfl
  have hglt : g < wr.heap.size := ho.1.lt rfl
  have hMc : Mods [] wr wc := (hM1.trans hM2).trans hM3
  have hM : Mods [g] wc (((wc.setCell ⟨g, o + k * 4 + 1, none⟩ v1).setCell ⟨g, o + k * 4 + 2, none⟩ v2).setCell ⟨g, o + k * 4 + 3, none⟩ v3) := (((Mods.refl [g] wc).setCell (fun _ => by simp) v1).setCell (fun _ => by simp) v2).setCell (fun _ => by simp) v3
  have hgc : BlockOf wc 47 g := hgb.mods hMc (by simp)
  have box : ∀ (b : Nat) (u : Value), PBox b u wr → PBox b u (((wc.setCell ⟨g, o + k * 4 + 1, none⟩ v1).setCell ⟨g, o + k * 4 + 2, none⟩ v2).setCell ⟨g, o + k * 4 + 3, none⟩ v3) := fun b u hb => by
    refine (hb.keep hMc (by simp)).keep hM fun hs => ?_
    obtain rfl := List.mem_singleton.1 hs
    have h3 : BlockOf wr 27 b := ⟨_, _, hb⟩
    exact absurd (hgb.ne h3) (by decide)
  have s1 := hM1.size
  have s2 := hM2.size
  have s3 := hM3.size
  have hfv : FVO wr.heap.size wc ⟨x.calls, v1, v2, v3⟩ x := ⟨rfl, h1.ext (hM2.trans hM3), (h2.low (by omega)).ext hM3, h3.low (by omega), fun b hb hb' => by have := h1.1.lt hb; have := h2.2 b hb'; omega⟩
  have hset : (((fvV gs).set (k * 4 + 1) v1).set (k * 4 + 2) v2).set (k * 4 + 3) v3 = fvV (gs.set k ⟨x.calls, v1, v2, v3⟩) := by
    have e0 : fv.calls = x.calls := (hr k fv x (Nat.le_refl _) hg hx).1
    have g1 : (gs.set k { fv with j := v1 })[k]? = some { fv with j := v1 } := by simp [hkg]
    have g2 : ((gs.set k { fv with j := v1 }).set k { fv with j := v1, f := v2 })[k]? = some { fv with j := v1, f := v2 } := by simp [hkg]
    have a1 : (fvV gs).set (k * 4 + 1) v1 = fvV (gs.set k { fv with j := v1 }) := flat_set FV.cells 4 FV.cells_len gs k 1 (by omega) hg rfl
    have a2 : (fvV (gs.set k { fv with j := v1 })).set (k * 4 + 2) v2 = fvV ((gs.set k { fv with j := v1 }).set k { fv with j := v1, f := v2 }) := flat_set FV.cells 4 FV.cells_len _ k 2 (by omega) g1 rfl
    have a3 : (fvV ((gs.set k { fv with j := v1 }).set k { fv with j := v1, f := v2 })).set (k * 4 + 3) v3 = fvV (((gs.set k { fv with j := v1 }).set k { fv with j := v1, f := v2 }).set k ⟨x.calls, v1, v2, v3⟩) := flat_set FV.cells 4 FV.cells_len _ k 3 (by omega) g2 (by simp [FV.cells, e0])
    rw [a1, a2, a3, List.set_set, List.set_set]
  refine ⟨gs.set k ⟨x.calls, v1, v2, v3⟩, by simp [hl], box rb _ hrb, box ob _ hob, ⟨?_, ho.2⟩, ?_, fun i fv' x' hi hi1 hi2 => ?_, (hw.trans hMc |>.nil (S := [g]) |>.trans hM).new fun b hb => ?_⟩
  · rw [← hset]
    have hc := ho.1.mods hMc fun _ _ => by simp
    have q1 := (hc.set (j := k * 4 + 1) v1)
    have q2 := q1.set (j := k * 4 + 2) v2
    have q3 := q2.set (j := k * 4 + 3) v3
    simpa only [Nat.add_assoc] using q3
  · have e1 : (gs.set k ⟨x.calls, v1, v2, v3⟩).take (k + 1) = gs.take k ++ [⟨x.calls, v1, v2, v3⟩] := by
      rw [take_snoc (x := ⟨x.calls, v1, v2, v3⟩) (by simp [hkg]), set_take]
    rw [e1, take_snoc hx]
    exact (hf.snoc hMc hfv hw.size).mods hM fun b hb => by
      obtain rfl := List.mem_singleton.1 hb
      exact hgc
  · rw [List.getElem?_set, if_neg (by omega)] at hi1
    exact hr i fv' x' (by omega) hi1 hi2
  · obtain rfl := List.mem_singleton.1 hb
    exact ho.2 _ rfl
end Go.Proofs.YtjpgcokdlopkaaaGreatDoor
