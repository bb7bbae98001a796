/- Lemmas for a claim of the seat YtjpgcokdlopkaaaGreatDoor. Written in part by programs of the claim's repo. By an AI agent. -/
import Derived.Test.YtjpgcokdlopkaaaGreatDoorG05
import Derived.Test.YtjpgcokdlopkaaaGreatDoorG02
import Derived.Test.YtjpgcokdlopkaaaGreatDoorG01
import Derived.Lib.SliceRun

/-! APPEND OF A ROW OF WHOLE NUMBERS, as long as it may be. -/
namespace Go.Proofs.YtjpgcokdlopkaaaGreatDoor
open Go.RowKit

def IntsAt (w : World) (A : Option Addr) (us : List Int) : Prop := ∀ (i : Nat) (x : Int), us[i]? = some x → ∃ b o, A = some ⟨b, o, none⟩ ∧ w.cell? ⟨b, o + i, none⟩ = some (.int .i64 x)
theorem IntsAt.ext {w w' : World} {A : Option Addr} {us : List Int} (h : IntsAt w A us) (hw : Mods [] w w') : IntsAt w' A us := fun i x hx => by
  obtain ⟨b, o, e, hc⟩ := h i x hx
  exact ⟨b, o, e, hw.cell hc⟩
theorem Ints.at {w : World} {A : Option Addr} {n c : Nat} {us : List Int} (h : Ints w (.slice A n c) us) : IntsAt w A us := fun i x hx => by
  obtain ⟨b, o, e, hr⟩ := h.at_ hx
  exact ⟨b, o, e, by simpa [intR] using hr⟩
theorem grownBy_refl (w : World) (r : Option Nat) : w.grownBy w r := ⟨rfl, rfl, rfl, Nat.le_refl _, fun _ _ _ => rfl⟩
theorem run_append_ints (w : World) (ty : TypeId) (v : Value) (n : Nat) (xs : List Value) (hown : Own w 3 1 v n xs) (A : Option Addr) (c : Nat) (us : List Int) (hu : IntsAt w A us) (hn : n + us.length ≤ 17592186044416) :
    ∃ v' w', (Builtin.append_ #[28, 28] ty #[v, .slice A us.length c]).run Tryz.prog w = .ok v' w' ∧ Own w' 3 1 v' (n + us.length) (xs ++ intV us) ∧ w.grownBy w' v.ownBlock ∧ (v'.ownBlock = v.ownBlock ∨ v'.ownBlock = some w.heap.size) := by
  obtain ⟨i0, hi, hz0, hz1, hz2⟩ := info_parts info_int
  cases us with
  | nil =>
    refine ⟨v, w, ?_, by simpa [intV] using hown, grownBy_refl _ _, .inl rfl⟩
    have ht := Tryz.underlying28
    have hA : (Builtin.firstCells 1 0 (.slice A 0 c)).run Tryz.prog w = .ok #[] w := by
      cases A with
      | none => simp [Builtin.firstCells]
      | some a => exact run_firstCells_some w 1 0 a 0 c [] rfl (fun j u h => by simp at h)
    rcases hown.2 with ⟨rfl, rfl⟩ | ⟨g, o, cap, cur, rfl, _, hnc, _⟩
    · simp [Builtin.append_, run_underlying ht, sizeOf, typeInfo, hi, hz1, Builtin.lenOf, hA]
    · simp [Builtin.append_, run_underlying ht, sizeOf, typeInfo, hi, hz1, Builtin.lenOf, hA, hnc, storeCells]
  | cons u us =>
    obtain ⟨b, o, rfl, _⟩ := hu 0 u rfl
    refine run_append_q (P := Tryz.prog) w 28 ty 3 i0 (.int .i64 0) 1 8 Tryz.underlying28 hi hz0 hz1 hz2 rfl v n xs hown ⟨b, o, none⟩ (u :: us).length c (intV (u :: us)) (by simp) (by simp [intV]) ?_ ?_ (by simp [maxLen] at *; omega) (by omega)
    · intro j y hy
      obtain ⟨x, hx, rfl⟩ : ∃ x, (u :: us)[j]? = some x ∧ Value.int .i64 x = y := by simpa only [intV, List.getElem?_map, Option.map_eq_some_iff] using hy
      obtain ⟨b', o', e, hc⟩ := hu j x hx
      cases e
      rw [addr_add]; exact hc
    · intro y hy
      obtain ⟨x, _, rfl⟩ := List.mem_map.1 hy
      rfl
theorem wpList_append_us (w : World) {ops : Array Oper} {rest : List Oper} {o : Oper} {a : Act} {Q : Exit → Act → World → Prop} (hgd : o.guard = none) (s x : Operand)
    (ho : o.op = .call { callee := .builtin .append, args := #[s, x], argTypes := #[28, 28] })
    (v : Value) (n : Nat) (xs : List Value) (hs : a.eval s = v) (hown : Own w 3 1 v n xs) (A : Option Addr) (c : Nat) (us : List Int) (hx : a.eval x = .slice A us.length c) (hu : IntsAt w A us) (hn : n + us.length ≤ 17592186044416)
    (h : ∀ v' w', Own w' 3 1 v' (n + us.length) (xs ++ intV us) → w.grownBy w' v.ownBlock → (v'.ownBlock = v.ownBlock ∨ v'.ownBlock = some w.heap.size) → wpList Tryz.prog ops Q rest (a.put o.dst v') w') :
    wpList Tryz.prog ops Q (o :: rest) a w := by
  refine wpList_plain hgd fun K hK => ?_
  obtain ⟨v', w', hr, h2, h3, h5⟩ := run_append_ints w o.type v n xs hown A c us hu hn
  unfold Oper.wp execOp
  simp only [ho, resolve, invoke, builtin, Sem.run_bind, Sem.run_pure, Result.andThen_ok, List.map_toArray, List.map_cons, List.map_nil, hs, hx, hr]
  exact hK _ _ (h v' w' h2 h3 h5)
end Go.Proofs.YtjpgcokdlopkaaaGreatDoor


/-! PROFILES: what they read as; profiles of the call's own. -/
namespace Go.Proofs.YtjpgcokdlopkaaaGreatDoor
open Go.RowKit

structure ArgP where
  value : Int
  same : Int
  other : Int
  deriving DecidableEq
structure FunP where
  calls : Int
  jumps : List Int
  falls : List Int
  args : List ArgP
  deriving DecidableEq
def argR (w : World) (b o : Nat) (x : ArgP) : Prop := w.cell? ⟨b, o, none⟩ = some (.int .i64 x.value) ∧ w.cell? ⟨b, o + 1, none⟩ = some (.int .i64 x.same) ∧ w.cell? ⟨b, o + 2, none⟩ = some (.int .i64 x.other)
def fpR (w : World) (b o : Nat) (x : FunP) : Prop :=
  w.cell? ⟨b, o, none⟩ = some (.int .i64 x.calls) ∧ (∃ v, w.cell? ⟨b, o + 1, none⟩ = some v ∧ Ints w v x.jumps) ∧ (∃ v, w.cell? ⟨b, o + 2, none⟩ = some v ∧ Ints w v x.falls) ∧ ∃ v, w.cell? ⟨b, o + 3, none⟩ = some v ∧ SlR 3 argR w v x.args
abbrev ArgPs (w : World) (v : Value) (xs : List ArgP) : Prop := SlR 3 argR w v xs
abbrev Profs (w : World) (v : Value) (rs : List FunP) : Prop := SlR 4 fpR w v rs
theorem argR_grows : Grows argR := ⟨fun h hr => ⟨h.cell hr.1, h.cell hr.2.1, h.cell hr.2.2⟩⟩
theorem fpR_grows : Grows fpR := ⟨fun h ⟨h1, ⟨v1, h2, h3⟩, ⟨v2, h4, h5⟩, v3, h6, h7⟩ => ⟨h.cell h1, ⟨v1, h.cell h2, h3.ext intR_grows h⟩, ⟨v2, h.cell h4, h5.ext intR_grows h⟩, v3, h.cell h6, h7.ext argR_grows h⟩⟩

/-! lists of cells -/
section flat
variable {α β : Type} (f : α → List β) (k : Nat)
theorem flat_len (hk : ∀ x, (f x).length = k) : ∀ l : List α, (l.flatMap f).length = l.length * k
  | [] => by simp
  | x :: l => by rw [List.flatMap_cons, List.length_append, flat_len hk l, hk, List.length_cons, Nat.add_mul, Nat.one_mul, Nat.add_comm]
theorem flat_get (hk : ∀ x, (f x).length = k) : ∀ (l : List α) (i j : Nat), j < k → (l.flatMap f)[i * k + j]? = (l[i]?).bind fun x => (f x)[j]?
  | [], i, j, _ => by simp
  | x :: l, 0, j, hj => by
    rw [List.flatMap_cons, Nat.zero_mul, Nat.zero_add, List.getElem?_append_left (by rw [hk]; exact hj)]; rfl
  | x :: l, i + 1, j, hj => by
    rw [List.flatMap_cons, Nat.add_mul, Nat.one_mul, Nat.add_right_comm, List.getElem?_append_right (by rw [hk]; omega), hk, Nat.add_sub_cancel, flat_get hk l i j hj]; rfl
theorem flat_set (hk : ∀ x, (f x).length = k) {x y : α} {u : β} : ∀ (l : List α) (i j : Nat), j < k → l[i]? = some x → f y = (f x).set j u → (l.flatMap f).set (i * k + j) u = (l.set i y).flatMap f
  | [], i, j, _, h, _ => by simp at h
  | z :: l, 0, j, hj, h, he => by
    have : z = x := by simpa using h
    subst this
    rw [Nat.zero_mul, Nat.zero_add, List.set_cons_zero, List.flatMap_cons, List.flatMap_cons, he, List.set_append_left _ _ (by rw [hk]; exact hj)]
  | z :: l, i + 1, j, hj, h, he => by
    rw [List.set_cons_succ, List.flatMap_cons, List.flatMap_cons, Nat.add_mul, Nat.one_mul, Nat.add_right_comm, List.set_append_right _ _ (by rw [hk]; omega), hk, Nat.add_sub_cancel, flat_set hk l i j hj (by simpa using h) he]
end flat

def ArgP.cells (a : ArgP) : List Value := [.int .i64 a.value, .int .i64 a.same, .int .i64 a.other]
def argV (l : List ArgP) : List Value := l.flatMap ArgP.cells
structure FV where
  calls : Int
  j : Value
  f : Value
  a : Value
def FV.cells (x : FV) : List Value := [.int .i64 x.calls, x.j, x.f, x.a]
def fvV (l : List FV) : List Value := l.flatMap FV.cells
theorem ArgP.cells_len (a : ArgP) : a.cells.length = 3 := rfl
theorem FV.cells_len (a : FV) : a.cells.length = 4 := rfl
theorem argV_len (l : List ArgP) : (argV l).length = l.length * 3 := flat_len _ _ ArgP.cells_len l
theorem fvV_len (l : List FV) : (fvV l).length = l.length * 4 := flat_len _ _ FV.cells_len l
theorem intV_len (l : List Int) : (intV l).length = l.length * 1 := by simp [intV]

/-! rows of the call's own -/
def Apart (u v : Value) : Prop := ∀ k, u.ownBlock = some k → v.ownBlock ≠ some k
theorem Apart.symm {u v : Value} (h : Apart u v) : Apart v u := fun k hv hu => h k hu hv
def OwnF (B : Nat) (w : World) (e sz : Nat) (v : Value) (n : Nat) (xs : List Value) : Prop := Own w e sz v n xs ∧ ∀ k, v.ownBlock = some k → B ≤ k
theorem Own.block {w : World} {e sz n k : Nat} {v : Value} {xs : List Value} (h : Own w e sz v n xs) (hk : v.ownBlock = some k) : ∃ cur, w.heap[k]? = some (.cells cur e (0, 0)) := by
  obtain ⟨_, ⟨rfl, _⟩ | ⟨g, o, cap, cur, rfl, h3, _⟩⟩ := h
  · simp [Value.ownBlock] at hk
  · have : g = k := by simpa [Value.ownBlock] using hk
    subst this; exact ⟨cur, h3⟩
def BlockOf (w : World) (e k : Nat) : Prop := ∃ cur fz, w.heap[k]? = some (.cells cur e fz)
theorem Own.blockOf {w : World} {e sz n k : Nat} {v : Value} {xs : List Value} (h : Own w e sz v n xs) (hk : v.ownBlock = some k) : BlockOf w e k := by
  obtain ⟨cur, h⟩ := h.block hk; exact ⟨cur, _, h⟩
theorem BlockOf.ne {w : World} {e e' k : Nat} (h : BlockOf w e k) (h' : BlockOf w e' k) : e = e' := by
  obtain ⟨c, z, h⟩ := h
  obtain ⟨c', z', h'⟩ := h'
  rw [h] at h'
  injection h' with h'
  injection h'
theorem OwnF.mods {B : Nat} {w w' : World} {e sz n : Nat} {v : Value} {xs : List Value} {S : List Nat} (h : OwnF B w e sz v n xs) (hm : Mods S w w') (hs : ∀ k, v.ownBlock = some k → k ∉ S) : OwnF B w' e sz v n xs := ⟨h.1.mods hm hs, h.2⟩
theorem OwnF.ext {B : Nat} {w w' : World} {e sz n : Nat} {v : Value} {xs : List Value} (h : OwnF B w e sz v n xs) (hm : Mods [] w w') : OwnF B w' e sz v n xs := h.mods hm fun _ _ => by simp
theorem OwnF.low {B B' : Nat} {w : World} {e sz n : Nat} {v : Value} {xs : List Value} (h : OwnF B w e sz v n xs) (hB : B' ≤ B) : OwnF B' w e sz v n xs := ⟨h.1, fun k hk => Nat.le_trans hB (h.2 k hk)⟩
theorem Own.set {w : World} {e sz n g o cap j : Nat} {xs : List Value} (h : Own w e sz (.slice (some ⟨g, o, none⟩) n cap) n xs) (u : Value) :
    Own (w.setCell ⟨g, o + j, none⟩ u) e sz (.slice (some ⟨g, o, none⟩) n cap) n (xs.set j u) := by
  obtain ⟨h1, h2 | ⟨g', o', cap', cur, e1, h3, h4, h5, h6, h7⟩⟩ := h
  · cases h2.1
  · cases e1
    refine ⟨by simpa using h1, .inr ⟨g, o, cap, cur.setIfInBounds (o + j) u, rfl, heap_setCell_at h3 u, h4, h5, by simpa using h6, ?_⟩⟩
    subst h7
    simp only [Array.toList_setIfInBounds, List.drop_set, if_neg (show ¬ o + j < o by omega), Nat.add_sub_cancel_left, List.take_set]
theorem Own.ints {w : World} {v : Value} {xs : List Int} (h : Own w 3 1 v xs.length (intV xs)) : Ints w v xs := by
  obtain ⟨A, c, rfl, h1, h2⟩ := h.slice
  refine ⟨c, h1, by simpa [maxLen] using h2, ?_⟩
  cases xs with
  | nil => exact .inl ⟨rfl, A, rfl⟩
  | cons x xs =>
    obtain ⟨g, o, c', e, _, _, h4, _⟩ := h.form (by simp)
    cases e
    exact .inr ⟨g, o, rfl, fun i y hy => by rw [Nat.mul_one]; exact h4 i _ (by simp only [intV, List.getElem?_map, hy, Option.map_some])⟩
theorem Own.argPs {w : World} {v : Value} {xs : List ArgP} (h : Own w 62 3 v xs.length (argV xs)) : ArgPs w v xs := by
  obtain ⟨A, c, rfl, h1, h2⟩ := h.slice
  refine ⟨c, h1, by simpa [maxLen] using h2, ?_⟩
  cases xs with
  | nil => exact .inl ⟨rfl, A, rfl⟩
  | cons x xs =>
    obtain ⟨g, o, c', e, _, _, h4, _⟩ := h.form (by simp)
    cases e
    have key : ∀ (i j : Nat) (y : ArgP) (u : Value), (x :: xs)[i]? = some y → y.cells[j]? = some u → w.cell? ⟨g, o + (i * 3 + j), none⟩ = some u := fun i j y u hy hu => by
      have hj : j < 3 := (List.getElem?_eq_some_iff.1 hu).1
      refine h4 _ u ?_
      rw [argV, flat_get _ _ ArgP.cells_len _ _ _ hj, hy]; exact hu
    exact .inr ⟨g, o, rfl, fun i y hy => ⟨key i 0 y _ hy rfl, by have := key i 1 y _ hy rfl; rwa [← Nat.add_assoc] at this, by have := key i 2 y _ hy rfl; rwa [← Nat.add_assoc] at this⟩⟩

/-! profiles of the call's own -/
def FVO (B : Nat) (w : World) (v : FV) (x : FunP) : Prop :=
  v.calls = x.calls ∧ OwnF B w 3 1 v.j x.jumps.length (intV x.jumps) ∧ OwnF B w 3 1 v.f x.falls.length (intV x.falls) ∧ OwnF B w 62 3 v.a x.args.length (argV x.args) ∧ Apart v.j v.f
def FVapart (x y : FV) : Prop := Apart x.j y.j ∧ Apart x.j y.f ∧ Apart x.f y.j ∧ Apart x.f y.f ∧ Apart x.a y.a
structure FreshFs (B : Nat) (w : World) (fs : List FV) (rs : List FunP) : Prop where
  len : fs.length = rs.length
  each : ∀ (i : Nat) (v : FV) (x : FunP), fs[i]? = some v → rs[i]? = some x → FVO B w v x
  apart : ∀ (i k : Nat) (x y : FV), i ≠ k → fs[i]? = some x → fs[k]? = some y → FVapart x y
theorem FVO.mods {B : Nat} {w w' : World} {v : FV} {x : FunP} {S : List Nat} (h : FVO B w v x) (hm : Mods S w w') (hs : ∀ k, v.j.ownBlock = some k ∨ v.f.ownBlock = some k ∨ v.a.ownBlock = some k → k ∉ S) : FVO B w' v x :=
  ⟨h.1, h.2.1.mods hm fun k hk => hs k (.inl hk), h.2.2.1.mods hm fun k hk => hs k (.inr (.inl hk)), h.2.2.2.1.mods hm fun k hk => hs k (.inr (.inr hk)), h.2.2.2.2⟩
theorem FVO.ext {B : Nat} {w w' : World} {v : FV} {x : FunP} (h : FVO B w v x) (hm : Mods [] w w') : FVO B w' v x := h.mods hm fun _ _ => by simp
theorem FVO.low {B B' : Nat} {w : World} {v : FV} {x : FunP} (h : FVO B w v x) (hB : B' ≤ B) : FVO B' w v x := ⟨h.1, h.2.1.low hB, h.2.2.1.low hB, h.2.2.2.1.low hB, h.2.2.2.2⟩
theorem FVO.lt {B : Nat} {w : World} {v : FV} {x : FunP} (h : FVO B w v x) {k : Nat} (hk : v.j.ownBlock = some k ∨ v.f.ownBlock = some k ∨ v.a.ownBlock = some k) : k < w.heap.size := by
  rcases hk with hk | hk | hk
  · exact h.2.1.1.lt hk
  · exact h.2.2.1.1.lt hk
  · exact h.2.2.2.1.1.lt hk
theorem FVO.ge {B : Nat} {w : World} {v : FV} {x : FunP} (h : FVO B w v x) {k : Nat} (hk : v.j.ownBlock = some k ∨ v.f.ownBlock = some k ∨ v.a.ownBlock = some k) : B ≤ k := by
  rcases hk with hk | hk | hk
  · exact h.2.1.2 k hk
  · exact h.2.2.1.2 k hk
  · exact h.2.2.2.1.2 k hk
theorem FVO.notFP {B : Nat} {w : World} {v : FV} {x : FunP} (h : FVO B w v x) {k : Nat} (hk : v.j.ownBlock = some k ∨ v.f.ownBlock = some k ∨ v.a.ownBlock = some k) (hf : BlockOf w 47 k) : False := by
  rcases hk with hk | hk | hk
  · exact absurd ((h.2.1.1.blockOf hk).ne hf) (by decide)
  · exact absurd ((h.2.2.1.1.blockOf hk).ne hf) (by decide)
  · exact absurd ((h.2.2.2.1.1.blockOf hk).ne hf) (by decide)
theorem FreshFs.nil {B : Nat} {w : World} : FreshFs B w [] [] := ⟨rfl, fun i v x h => by simp at h, fun i k x y _ h => by simp at h⟩
theorem FreshFs.mods {B : Nat} {w w' : World} {fs : List FV} {rs : List FunP} {S : List Nat} (h : FreshFs B w fs rs) (hm : Mods S w w') (hS : ∀ k ∈ S, BlockOf w 47 k) : FreshFs B w' fs rs :=
  ⟨h.len, fun i v x hv hx => (h.each i v x hv hx).mods hm fun _ hk hs => (h.each i v x hv hx).notFP hk (hS _ hs), h.apart⟩
theorem FreshFs.ext {B : Nat} {w w' : World} {fs : List FV} {rs : List FunP} (h : FreshFs B w fs rs) (hm : Mods [] w w') : FreshFs B w' fs rs := h.mods hm fun _ hk => by cases hk
theorem FreshFs.low {B B' : Nat} {w : World} {fs : List FV} {rs : List FunP} (h : FreshFs B w fs rs) (hB : B' ≤ B) : FreshFs B' w fs rs := ⟨h.len, fun i v x hv hx => (h.each i v x hv hx).low hB, h.apart⟩
theorem fv_apart_of {x y : FV} {B : Nat} (hx : ∀ k, x.j.ownBlock = some k ∨ x.f.ownBlock = some k ∨ x.a.ownBlock = some k → k < B) (hy : ∀ k, y.j.ownBlock = some k ∨ y.f.ownBlock = some k ∨ y.a.ownBlock = some k → B ≤ k) : FVapart x y := by
  have key : ∀ u v : Value, (u = x.j ∨ u = x.f ∨ u = x.a) → (v = y.j ∨ v = y.f ∨ v = y.a) → Apart u v := fun u v hu hv k hk hk' => by
    have h1 := hx k (by rcases hu with rfl | rfl | rfl <;> simp [hk])
    have h2 := hy k (by rcases hv with rfl | rfl | rfl <;> simp [hk'])
    omega
  exact ⟨key _ _ (by simp) (by simp), key _ _ (by simp) (by simp), key _ _ (by simp) (by simp), key _ _ (by simp) (by simp), key _ _ (by simp) (by simp)⟩
theorem FVapart.symm {x y : FV} (h : FVapart x y) : FVapart y x := ⟨h.1.symm, h.2.2.1.symm, h.2.1.symm, h.2.2.2.1.symm, h.2.2.2.2.symm⟩
theorem FreshFs.snoc {B : Nat} {w w' : World} {fs : List FV} {rs : List FunP} {v : FV} {x : FunP} (h : FreshFs B w fs rs) (hw : Mods [] w w') (hn : FVO w.heap.size w' v x) (hB : B ≤ w.heap.size) : FreshFs B w' (fs ++ [v]) (rs ++ [x]) := by
  have hl := h.len
  have old : ∀ (i : Nat) (y : FV), (fs ++ [v])[i]? = some y → (i < fs.length ∧ fs[i]? = some y) ∨ (i = fs.length ∧ y = v) := fun i y hy => by
    rcases Nat.lt_or_ge i fs.length with h1 | h1
    · rw [List.getElem?_append_left h1] at hy; exact .inl ⟨h1, hy⟩
    · have h2 := (List.getElem?_eq_some_iff.1 hy).1
      simp at h2
      have h3 : i = fs.length := by omega
      subst h3
      simp at hy
      exact .inr ⟨rfl, hy.symm⟩
  have far : ∀ (i : Nat) (y : FV), fs[i]? = some y → FVapart y v := fun i y hy => by
    have hi := (List.getElem?_eq_some_iff.1 hy).1
    have hf := h.each i y _ hy (get_some (by omega))
    exact fv_apart_of (B := w.heap.size) (fun k hk => hf.lt hk) (fun k hk => hn.ge hk)
  refine ⟨by simp [hl], fun i y z hy hz => ?_, fun i k y z hik hy hz => ?_⟩
  · rcases old i y hy with ⟨h1, h2⟩ | ⟨rfl, rfl⟩
    · rw [List.getElem?_append_left (by omega)] at hz
      exact (h.each i y z h2 hz).ext hw
    · rw [hl] at hz; simp at hz; subst hz
      exact hn.low hB
  · rcases old i y hy with ⟨h1, h2⟩ | ⟨rfl, rfl⟩ <;> rcases old k z hz with ⟨h3, h4⟩ | ⟨h3, rfl⟩
    · exact h.apart i k y z hik h2 h4
    · exact far i y h2
    · exact (far k z h4).symm
    · exact absurd h3.symm hik
/-- One function's rows have turned. -/
theorem FreshFs.upd {B : Nat} {w w' : World} {fs : List FV} {rs : List FunP} {i : Nat} {v v' : FV} {x' : FunP} {S : List Nat} (h : FreshFs B w fs rs) (hi : fs[i]? = some v) (hm : Mods S w w')
    (hS : ∀ k ∈ S, v.j.ownBlock = some k ∨ v.f.ownBlock = some k ∨ v.a.ownBlock = some k ∨ BlockOf w 47 k) (hn : FVO B w' v' x') (hj : v'.j = v.j) (hf : v'.f = v.f) (ha : v'.a = v.a) : FreshFs B w' (fs.set i v') (rs.set i x') := by
  have hlt := (List.getElem?_eq_some_iff.1 hi).1
  have hlt' : i < rs.length := by rw [← h.len]; exact hlt
  have hix := get_some hlt'
  have hv := h.each i v _ hi hix
  have get : ∀ (k : Nat) (y : FV), (fs.set i v')[k]? = some y → (k = i ∧ y = v') ∨ (k ≠ i ∧ fs[k]? = some y) := fun k y hy => by
    rw [List.getElem?_set] at hy
    split at hy
    · rename_i e; exact .inl ⟨e.symm, (Option.some.inj hy).symm⟩
    · rename_i e; exact .inr ⟨fun e' => e e'.symm, hy⟩
  have ap : ∀ y, FVapart v y → FVapart v' y := fun y hy => by unfold FVapart at *; rw [hj, hf, ha]; exact hy
  refine ⟨by simp [h.len], fun k y z hy hz => ?_, fun k l y z hkl hy hz => ?_⟩
  · rcases get k y hy with ⟨rfl, rfl⟩ | ⟨hne, hy'⟩
    · rw [List.getElem?_set] at hz; simp [hlt'] at hz; subst hz; exact hn
    · rw [List.getElem?_set, if_neg (Ne.symm hne)] at hz
      have ho := h.each k y z hy' hz
      have hap := h.apart i k v y (Ne.symm hne) hi hy'
      refine ho.mods hm fun b hb hbS => ?_
      rcases hS b hbS with e | e | e | e
      · rcases hb with hb | hb | hb
        · exact hap.1 b e hb
        · exact hap.2.1 b e hb
        · exact absurd ((hv.2.1.1.blockOf e).ne (ho.2.2.2.1.1.blockOf hb)) (by decide)
      · rcases hb with hb | hb | hb
        · exact hap.2.2.1 b e hb
        · exact hap.2.2.2.1 b e hb
        · exact absurd ((hv.2.2.1.1.blockOf e).ne (ho.2.2.2.1.1.blockOf hb)) (by decide)
      · rcases hb with hb | hb | hb
        · exact absurd ((hv.2.2.2.1.1.blockOf e).ne (ho.2.1.1.blockOf hb)) (by decide)
        · exact absurd ((hv.2.2.2.1.1.blockOf e).ne (ho.2.2.1.1.blockOf hb)) (by decide)
        · exact hap.2.2.2.2 b e hb
      · exact ho.notFP hb e
  · rcases get k y hy with ⟨rfl, rfl⟩ | ⟨hne, hy'⟩ <;> rcases get l z hz with ⟨h2, rfl⟩ | ⟨hne2, hz'⟩
    · exact absurd h2.symm hkl
    · exact ap _ (h.apart k l v z hkl hi hz')
    · subst h2; exact (ap _ (h.apart l k v y (Ne.symm hkl) hi hy')).symm
    · exact h.apart k l y z hkl hy' hz'
def ProfO (B : Nat) (w : World) (v : Value) (rs : List FunP) : Prop := ∃ fs, OwnF B w 47 4 v rs.length (fvV fs) ∧ FreshFs B w fs rs
theorem ProfO.ext {B : Nat} {w w' : World} {v : Value} {rs : List FunP} (h : ProfO B w v rs) (hm : Mods [] w w') : ProfO B w' v rs := by
  obtain ⟨fs, h1, h2⟩ := h
  exact ⟨fs, h1.ext hm, h2.ext hm⟩
theorem ProfO.low {B B' : Nat} {w : World} {v : Value} {rs : List FunP} (h : ProfO B w v rs) (hB : B' ≤ B) : ProfO B' w v rs := by
  obtain ⟨fs, h1, h2⟩ := h
  exact ⟨fs, h1.low hB, h2.low hB⟩
theorem fvV_get {fs : List FV} {i j : Nat} {x : FV} (h : fs[i]? = some x) (hj : j < 4) : (fvV fs)[i * 4 + j]? = x.cells[j]? := by
  rw [fvV, flat_get _ _ FV.cells_len _ _ _ hj, h]; rfl
/-- What slot i of an own row of functions' profiles holds. -/
theorem Own.fps {w : World} {n g o c : Nat} {fs : List FV} (h : Own w 47 4 (.slice (some ⟨g, o, none⟩) n c) n (fvV fs)) {i : Nat} {x : FV} (hx : fs[i]? = some x) :
    w.cell? ⟨g, o + i * 4, none⟩ = some (.int .i64 x.calls) ∧ w.cell? ⟨g, o + i * 4 + 1, none⟩ = some x.j ∧ w.cell? ⟨g, o + i * 4 + 2, none⟩ = some x.f ∧ w.cell? ⟨g, o + i * 4 + 3, none⟩ = some x.a := by
  have hi := (List.getElem?_eq_some_iff.1 hx).1
  have hl := h.1
  rw [fvV_len] at hl
  obtain ⟨g', o', c', e, _, _, h4, _⟩ := h.form (by omega)
  cases e
  have key : ∀ (j : Nat) (u : Value), x.cells[j]? = some u → j < 4 → w.cell? ⟨g, o + (i * 4 + j), none⟩ = some u := fun j u hu hj => h4 _ u (by rw [fvV_get hx hj]; exact hu)
  exact ⟨key 0 _ rfl (by omega), by have := key 1 _ rfl (by omega); rwa [← Nat.add_assoc] at this, by have := key 2 _ rfl (by omega); rwa [← Nat.add_assoc] at this, by have := key 3 _ rfl (by omega); rwa [← Nat.add_assoc] at this⟩
theorem ProfO.profs {B : Nat} {w : World} {v : Value} {rs : List FunP} (h : ProfO B w v rs) : Profs w v rs := by
  obtain ⟨fs, ⟨h1, _⟩, h2⟩ := h
  obtain ⟨A, c, rfl, h3, h4⟩ := h1.slice
  refine ⟨c, h3, by simpa [maxLen] using h4, ?_⟩
  cases rs with
  | nil => exact .inl ⟨rfl, A, rfl⟩
  | cons x xs =>
    obtain ⟨g, o, c', e, _, _, _, _⟩ := h1.form (by simp)
    cases e
    refine .inr ⟨g, o, rfl, fun i y hy => ?_⟩
    have hi := (List.getElem?_eq_some_iff.1 hy).1
    have hfi := get_some (show i < fs.length by rw [h2.len]; exact hi)
    obtain ⟨c0, c1, c2, c3⟩ := h1.fps hfi
    obtain ⟨e0, e1, e2, e3, _⟩ := h2.each i _ y hfi hy
    rw [e0] at c0
    exact ⟨c0, ⟨_, c1, e1.1.ints⟩, ⟨_, c2, e2.1.ints⟩, _, c3, e3.1.argPs⟩
end Go.Proofs.YtjpgcokdlopkaaaGreatDoor


namespace Go.Proofs.YtjpgcokdlopkaaaGreatDoor
open Go.RowKit

def Ins.cells (i : Ins) : List Value := [.int .i64 i.kind, .int .i64 i.a]
theorem cell_of_block {w : World} {b t j : Nat} {cs : List Value} {u : Value} (h : w.heap[b]? = some (.cells cs.toArray t (0, 0))) (hu : cs[j]? = some u) : w.cell? ⟨b, j, none⟩ = some u := by simp [World.cell?, h, hu]
theorem inss_block {w : World} {b t : Nat} {code : List Ins} (hl : code.length ≤ 64) (h : w.heap[b]? = some (.cells (code.flatMap Ins.cells).toArray t (0, 0))) : Inss w (.slice (some ⟨b, 0, none⟩) code.length code.length) code := by
  refine ⟨code.length, Nat.le_refl _, by omega, .inr ⟨b, 0, rfl, fun i x hx => ?_⟩⟩
  have key : ∀ (j : Nat) (u : Value), x.cells[j]? = some u → w.cell? ⟨b, i * 2 + j, none⟩ = some u := fun j u hu => by
    have hj : j < 2 := (List.getElem?_eq_some_iff.1 hu).1
    refine cell_of_block h ?_
    rw [flat_get Ins.cells 2 (fun _ => rfl) _ _ _ hj, hx]; exact hu
  rw [Nat.zero_add]
  exact ⟨key 0 _ rfl, key 1 _ rfl⟩
theorem two_funs {w : World} {b1 b2 b3 t s : Nat} (h1 : w.heap[b1]? = some (.cells (two1.code.flatMap Ins.cells).toArray t (0, 0))) (h2 : w.heap[b2]? = some (.cells (two2.code.flatMap Ins.cells).toArray t (0, 0)))
    (h3 : w.heap[b3]? = some (.cells [Value.int IntKind.i64 1, Value.int IntKind.i64 1, Value.slice (some ⟨b1, 0, none⟩) 6 6, Value.int IntKind.i64 2, Value.int IntKind.i64 2, Value.slice (some ⟨b2, 0, none⟩) 4 4].toArray s (0, 0))) : Funs w (.slice (some ⟨b3, 0, none⟩) 2 2) twoP := by
  have i1 : Inss w (.slice (some ⟨b1, 0, none⟩) 6 6) two1.code := inss_block (code := two1.code) (by decide) h1
  have i2 : Inss w (.slice (some ⟨b2, 0, none⟩) 4 4) two2.code := inss_block (code := two2.code) (by decide) h2
  refine ⟨2, Nat.le_refl _, by omega, .inr ⟨b3, 0, rfl, fun i x hx => ?_⟩⟩
  match i, hx with
  | 0, hx => cases hx; exact ⟨cell_of_block h3 rfl, cell_of_block h3 rfl, _, cell_of_block h3 rfl, i1⟩
  | 1, hx => cases hx; exact ⟨cell_of_block h3 rfl, cell_of_block h3 rfl, _, cell_of_block h3 rfl, i2⟩
  | n + 2, hx => simp [twoP] at hx
set_option maxHeartbeats 4000000 in
set_option maxRecDepth 100000 in
theorem two_calls (w : World) : Calls Tryz.prog 34 #[] w fun e w' => ∃ v, e = .returned (.agg #[v]) ∧ Funs w' v twoP ∧ ∃ x, w' = w.ext x := by
  go_enter Tryz.func34, Tryz.ntmps34
  go_wp2
  refine bodyPost_ret (v := .agg #[.slice (some ⟨w.heap.size + 1 + 1 + 1, 0, none⟩) 2 2]) (by simp [results, Tryz.results34, go_sem]) rfl ⟨_, rfl, two_funs (t := 64) (s := 52) (b1 := w.heap.size + 1) (b2 := w.heap.size + 1 + 1) ?_ ?_ ?_, Mods.ex (by repeat (first | exact Mods.refl _ _ | refine Mods.alloc ?_ _ | refine Mods.ext ?_ _ | refine Mods.drew ?_ | refine Mods.drewN ?_ _))⟩
  · exact (Below.heap_alloc _ _ _ (by simp <;> omega)).trans ((Below.heap_alloc _ _ _ (by simp)).trans (alloc_new_at (by simp)))
  · exact (Below.heap_alloc _ _ _ (by simp)).trans (alloc_new_at (by simp))
  · exact alloc_new_at (by simp)
end Go.Proofs.YtjpgcokdlopkaaaGreatDoor


/-! APPEND OF WHATEVER ROW onto a row of the call's own; copies by append. -/
namespace Go.Proofs.YtjpgcokdlopkaaaGreatDoor
open Go.RowKit

/-- n elements (sz cells each) at A. -/
def CellsAt (w : World) (A : Option Addr) (n sz : Nat) (xs : List Value) : Prop := xs.length = n * sz ∧ ∀ (i : Nat) (u : Value), xs[i]? = some u → ∃ b o, A = some ⟨b, o, none⟩ ∧ w.cell? ⟨b, o + i, none⟩ = some u
theorem CellsAt.ext {w w' : World} {A : Option Addr} {n sz : Nat} {xs : List Value} (h : CellsAt w A n sz xs) (hw : Mods [] w w') : CellsAt w' A n sz xs :=
  ⟨h.1, fun i u hu => by obtain ⟨b, o, e, hc⟩ := h.2 i u hu; exact ⟨b, o, e, hw.cell hc⟩⟩
theorem SlR.cellsAt {α : Type} {sz : Nat} {R : World → Nat → Nat → α → Prop} {w : World} {A : Option Addr} {n c : Nat} {xs : List α} (f : α → List Value) (hk : ∀ x, (f x).length = sz) (hsz : 0 < sz)
    (hR : ∀ (b o i : Nat) (x : α), xs[i]? = some x → R w b o x → ∀ (j : Nat) (u : Value), (f x)[j]? = some u → w.cell? ⟨b, o + j, none⟩ = some u) (h : SlR sz R w (.slice A n c) xs) : CellsAt w A n sz (xs.flatMap f) := by
  have hn : n = xs.length := by
    obtain ⟨c, _, _, ⟨rfl, A, e⟩ | ⟨b, o, e, _⟩⟩ := h <;> cases e <;> rfl
  subst hn
  refine ⟨flat_len f sz hk xs, fun i u hu => ?_⟩
  have hi : i / sz * sz + i % sz = i := Nat.div_add_mod' i sz
  have hlt : i % sz < sz := Nat.mod_lt _ hsz
  rw [← hi, flat_get f sz hk _ _ _ hlt] at hu
  obtain ⟨x, hx, hu⟩ := Option.bind_eq_some_iff.1 hu
  obtain ⟨b, o, rfl, hr⟩ := h.at_ hx
  refine ⟨b, o, rfl, ?_⟩
  have := hR _ _ _ x hx hr _ u hu
  rwa [Nat.add_assoc, hi] at this
theorem Ints.cellsAt {w : World} {A : Option Addr} {n c : Nat} {xs : List Int} (h : Ints w (.slice A n c) xs) : CellsAt w A n 1 (intV xs) := by
  have := SlR.cellsAt (sz := 1) (fun x => [Value.int .i64 x]) (fun _ => rfl) (by omega) (fun b o i x _ hr j u hu => by
    cases j with
    | zero => have : Value.int .i64 x = u := by simpa using hu
              subst this; exact hr
    | succ j => simp at hu) h
  have e : intV xs = xs.flatMap (fun x => [Value.int .i64 x]) := List.map_eq_flatMap
  rw [e]; exact this
theorem ArgPs.cellsAt {w : World} {A : Option Addr} {n c : Nat} {xs : List ArgP} (h : ArgPs w (.slice A n c) xs) : CellsAt w A n 3 (argV xs) :=
  SlR.cellsAt ArgP.cells ArgP.cells_len (by omega) (fun b o i x _ hr j u hu => by
    match j, hu with
    | 0, hu => cases hu; exact hr.1
    | 1, hu => cases hu; exact hr.2.1
    | 2, hu => cases hu; exact hr.2.2
    | j + 3, hu => simp [ArgP.cells] at hu) h
theorem one_int (xs : List Int) : ∀ u ∈ intV xs, u.oneCell' = true := fun u hu => by
  obtain ⟨x, _, rfl⟩ := List.mem_map.1 hu; rfl
theorem one_arg (xs : List ArgP) : ∀ u ∈ argV xs, u.oneCell' = true := fun u hu => by
  obtain ⟨x, _, hu⟩ := List.mem_flatMap.1 hu
  simp only [ArgP.cells, List.mem_cons, List.not_mem_nil, or_false] at hu
  rcases hu with rfl | rfl | rfl <;> rfl
theorem own_new0 (w : World) (e sz : Nat) : Own (w.alloc (.cells #[] e)) e sz (.slice (some ⟨w.heap.size, 0, none⟩) 0 0) 0 [] :=
  ⟨by simp, .inr ⟨w.heap.size, 0, 0, #[], rfl, heap_alloc_new w _, by omega, by simp [maxLen], by simp, by simp⟩⟩
section
variable {P : Program} (w : World)
theorem run_append_any (t ty e : TypeId) (i : TypeInfo) (z : Value) (size bytes : Nat) (ht : P.underlying t = some (.slice e)) (hi : P.info? e = some i) (hz : i.zero = some z)
    (hsize : i.size = size) (hby : i.bytes = bytes) (hzs : z.cells.size = size) (hsz : 0 < size)
    (v : Value) (n : Nat) (xs : List Value) (hown : Own w e size v n xs) (A : Option Addr) (m c : Nat) (news : List Value) (hr : CellsAt w A m size news) (h1 : ∀ u ∈ news, u.oneCell' = true)
    (h63 : n + m ≤ maxLen) (hbytes : (n + m) * bytes ≤ 140737488355328) :
    ∃ v' w', (Builtin.append_ #[t, t] ty #[v, .slice A m c]).run P w = .ok v' w' ∧ Own w' e size v' (n + m) (xs ++ news) ∧ w.grownBy w' v.ownBlock ∧ (v'.ownBlock = v.ownBlock ∨ v'.ownBlock = some w.heap.size) := by
  rcases Nat.eq_zero_or_pos m with h0 | h0
  · subst h0
    have hn : news = [] := List.eq_nil_of_length_eq_zero (by simpa using hr.1)
    subst hn
    refine ⟨v, w, ?_, by simpa using hown, grownBy_refl _ _, .inl rfl⟩
    have hA : (Builtin.firstCells size 0 (.slice A 0 c)).run P w = .ok #[] w := by
      cases A with
      | none => simp [Builtin.firstCells]
      | some a => exact run_firstCells_some w size 0 a 0 c [] (by simp) (fun j u h => by simp at h)
    rcases hown.2 with ⟨rfl, rfl⟩ | ⟨g, o, cap, cur, rfl, _, hnc, _⟩
    · simp [Builtin.append_, run_underlying ht, sizeOf, typeInfo, hi, hsize, Builtin.lenOf, hA]
    · simp [Builtin.append_, run_underlying ht, sizeOf, typeInfo, hi, hsize, Builtin.lenOf, hA, hnc, storeCells]
  · have hp : 0 < news.length := by rw [hr.1]; exact Nat.mul_pos h0 hsz
    obtain ⟨b, o, rfl, _⟩ := hr.2 0 news[0] (get_some hp)
    refine run_append_q (P := P) w t ty e i z size bytes ht hi hz hsize hby hzs v n xs hown ⟨b, o, none⟩ m c news h0 hr.1 (fun j y hy => ?_) h1 h63 hbytes
    obtain ⟨b', o', e, hc⟩ := hr.2 j y hy
    cases e
    rw [addr_add]; exact hc
end


theorem info_i : (Tryz.prog.info? 3).map (fun i => (i.zero, i.size, i.bytes)) = some (some (.int .i64 0), 1, 8) := by kernel_rfl
theorem wpList_app_i (w : World) {ops : Array Oper} {rest : List Oper} {o : Oper} {a : Act} {Q : Exit → Act → World → Prop} (hgd : o.guard = none) (s x : Operand)
    (ho : o.op = .call { callee := .builtin .append, args := #[s, x], argTypes := #[28, 28] })
    (v : Value) (n : Nat) (xs : List Value) (hs : a.eval s = v) (hown : Own w 3 1 v n xs) (A : Option Addr) (m c : Nat) (news : List Value) (hx : a.eval x = .slice A m c) (hr : CellsAt w A m 1 news) (h1 : ∀ u ∈ news, u.oneCell' = true) (hn : (n + m) * 8 ≤ 140737488355328)
    (h : ∀ v' w', Own w' 3 1 v' (n + m) (xs ++ news) → w.grownBy w' v.ownBlock → (v'.ownBlock = v.ownBlock ∨ v'.ownBlock = some w.heap.size) → wpList Tryz.prog ops Q rest (a.put o.dst v') w') :
    wpList Tryz.prog ops Q (o :: rest) a w := by
  refine wpList_plain hgd fun K hK => ?_
  obtain ⟨i0, hi, hz0, hz1, hz2⟩ := info_parts info_i
  obtain ⟨v', w', hr, h2, h3, h5⟩ := run_append_any (P := Tryz.prog) w 28 o.type 3 i0 _ 1 8 Tryz.underlying28 hi hz0 hz1 hz2 rfl (by omega) v n xs hown A m c news hr h1 (by simp only [maxLen]; omega) hn
  unfold Oper.wp execOp
  simp only [ho, resolve, invoke, builtin, Sem.run_bind, Sem.run_pure, Result.andThen_ok, List.map_toArray, List.map_cons, List.map_nil, hs, hx, hr]
  exact hK _ _ (h v' w' h2 h3 h5)


theorem info_ap : (Tryz.prog.info? 62).map (fun i => (i.zero, i.size, i.bytes)) = some (some (.agg #[.int .i64 0, .int .i64 0, .int .i64 0]), 3, 24) := by kernel_rfl
theorem wpList_app_ap (w : World) {ops : Array Oper} {rest : List Oper} {o : Oper} {a : Act} {Q : Exit → Act → World → Prop} (hgd : o.guard = none) (s x : Operand)
    (ho : o.op = .call { callee := .builtin .append, args := #[s, x], argTypes := #[45, 45] })
    (v : Value) (n : Nat) (xs : List Value) (hs : a.eval s = v) (hown : Own w 62 3 v n xs) (A : Option Addr) (m c : Nat) (news : List Value) (hx : a.eval x = .slice A m c) (hr : CellsAt w A m 3 news) (h1 : ∀ u ∈ news, u.oneCell' = true) (hn : (n + m) * 24 ≤ 140737488355328)
    (h : ∀ v' w', Own w' 62 3 v' (n + m) (xs ++ news) → w.grownBy w' v.ownBlock → (v'.ownBlock = v.ownBlock ∨ v'.ownBlock = some w.heap.size) → wpList Tryz.prog ops Q rest (a.put o.dst v') w') :
    wpList Tryz.prog ops Q (o :: rest) a w := by
  refine wpList_plain hgd fun K hK => ?_
  obtain ⟨i0, hi, hz0, hz1, hz2⟩ := info_parts info_ap
  obtain ⟨v', w', hr, h2, h3, h5⟩ := run_append_any (P := Tryz.prog) w 45 o.type 62 i0 _ 3 24 Tryz.underlying45 hi hz0 hz1 hz2 rfl (by omega) v n xs hown A m c news hr h1 (by simp only [maxLen]; omega) hn
  unfold Oper.wp execOp
  simp only [ho, resolve, invoke, builtin, Sem.run_bind, Sem.run_pure, Result.andThen_ok, List.map_toArray, List.map_cons, List.map_nil, hs, hx, hr]
  exact hK _ _ (h v' w' h2 h3 h5)


theorem info_fp : (Tryz.prog.info? 47).map (fun i => (i.zero, i.size, i.bytes)) = some (some (.agg #[.int .i64 0, .slice none 0 0, .slice none 0 0, .slice none 0 0]), 4, 80) := by kernel_rfl
theorem wpList_app_fp (w : World) {ops : Array Oper} {rest : List Oper} {o : Oper} {a : Act} {Q : Exit → Act → World → Prop} (hgd : o.guard = none) (s x : Operand)
    (ho : o.op = .call { callee := .builtin .append, args := #[s, x], argTypes := #[25, 25] })
    (v : Value) (n : Nat) (xs : List Value) (hs : a.eval s = v) (hown : Own w 47 4 v n xs) (A : Option Addr) (m c : Nat) (news : List Value) (hx : a.eval x = .slice A m c) (hr : CellsAt w A m 4 news) (h1 : ∀ u ∈ news, u.oneCell' = true) (hn : (n + m) * 80 ≤ 140737488355328)
    (h : ∀ v' w', Own w' 47 4 v' (n + m) (xs ++ news) → w.grownBy w' v.ownBlock → (v'.ownBlock = v.ownBlock ∨ v'.ownBlock = some w.heap.size) → wpList Tryz.prog ops Q rest (a.put o.dst v') w') :
    wpList Tryz.prog ops Q (o :: rest) a w := by
  refine wpList_plain hgd fun K hK => ?_
  obtain ⟨i0, hi, hz0, hz1, hz2⟩ := info_parts info_fp
  obtain ⟨v', w', hr, h2, h3, h5⟩ := run_append_any (P := Tryz.prog) w 25 o.type 47 i0 _ 4 80 Tryz.underlying25 hi hz0 hz1 hz2 rfl (by omega) v n xs hown A m c news hr h1 (by simp only [maxLen]; omega) hn
  unfold Oper.wp execOp
  simp only [ho, resolve, invoke, builtin, Sem.run_bind, Sem.run_pure, Result.andThen_ok, List.map_toArray, List.map_cons, List.map_nil, hs, hx, hr]
  exact hK _ _ (h v' w' h2 h3 h5)


/-- a copy: a row of the call's own, in new memory -/
def CopyPost (w : World) (e sz n : Nat) (news : List Value) (E : Ending) (w' : World) : Prop := ∃ v', E = .returned v' ∧ OwnF w.heap.size w' e sz v' n news ∧ ∃ x, w' = w.ext x
theorem CopyPost.mk {w w' : World} {e sz n : Nat} {news : List Value} {v' : Value} (h : Own w' e sz v' (0 + n) ([] ++ news)) (hg : (w.alloc (.cells #[] e)).grownBy w' (Value.slice (some ⟨w.heap.size, 0, none⟩) 0 0).ownBlock)
    (ha : v'.ownBlock = (Value.slice (some ⟨w.heap.size, 0, none⟩) 0 0).ownBlock ∨ v'.ownBlock = some (w.alloc (.cells #[] e)).heap.size) : CopyPost w e sz n news (.returned v') w' := by
  refine ⟨v', rfl, ⟨by simpa using h, fun k hk => ?_⟩, (((Mods.refl [] w).alloc _).grown hg (fun k hk hlt => ?_)).ex⟩
  · rcases ha with e | e <;> rw [e] at hk
    · have : w.heap.size = k := by simpa [Value.ownBlock] using hk
      omega
    · have := Option.some.inj hk
      simp at this; omega
  · have : w.heap.size = k := by simpa [Value.ownBlock] using hk
    omega
set_option maxHeartbeats 1000000 in
theorem cloneI (A : Option Addr) (n c : Nat) (news : List Value) (w : World) (hr : CellsAt w A n 1 news) (h1 : ∀ u ∈ news, u.oneCell' = true) (hn : n * 8 ≤ 140737488355328) :
    Calls Tryz.prog 40 #[.slice A n c] w (CopyPost w 3 1 n news) := by
  have hq := fun (W : World) => Lib.run_eql_slice_nil (P := Tryz.prog) W 28 3 A n c 0 0 Tryz.underlying28
  have HR := Lib.hid hr
  have H1 := Lib.hid h1
  clear hr h1
  cases A with
  | none =>
    have hnn : news = [] := by
      cases hx : news with
      | nil => rfl
      | cons u us => obtain ⟨b, o, e, _⟩ := HR.out.2 0 u (by rw [hx]; rfl); cases e
    have hn0 : n = 0 := by have := HR.out.1; rw [hnn] at this; simp at this; omega
    subst hn0
    have HNN := Lib.hid hnn
    clear hnn
    go_enter Tryz.func40, Tryz.ntmps40
    go_wp2
    go_ret
    exact ⟨_, rfl, ⟨by rw [HNN.out]; exact Own.nil, fun k hk => by simp [Value.ownBlock] at hk⟩, (Mods.refl [] w).ex⟩
  | some a =>
    go_enter Tryz.func40, Tryz.ntmps40
    go_wp2_with (at_builtin; refine wpList_app_i _ rfl _ _ rfl _ 0 [] rfl (own_new0 _ _ _) _ n _ news rfl ?_ H1.out ?_ ?_; (exact HR.out.ext ((Mods.refl [] w).alloc _)); (omega); (intro v' w1 hown1 hg1 ha1; have HO := Lib.hid hown1; have HG := Lib.hid hg1; have HA := Lib.hid ha1; clear hown1 hg1 ha1))
    go_ret
    exact CopyPost.mk HO.out HG.out HA.out

set_option maxHeartbeats 1000000 in
theorem cloneA (A : Option Addr) (n c : Nat) (news : List Value) (w : World) (hr : CellsAt w A n 3 news) (h1 : ∀ u ∈ news, u.oneCell' = true) (hn : n * 24 ≤ 140737488355328) :
    Calls Tryz.prog 41 #[.slice A n c] w (CopyPost w 62 3 n news) := by
  have hq := fun (W : World) => Lib.run_eql_slice_nil (P := Tryz.prog) W 45 62 A n c 0 0 Tryz.underlying45
  have HR := Lib.hid hr
  have H1 := Lib.hid h1
  clear hr h1
  cases A with
  | none =>
    have hnn : news = [] := by
      cases hx : news with
      | nil => rfl
      | cons u us => obtain ⟨b, o, e, _⟩ := HR.out.2 0 u (by rw [hx]; rfl); cases e
    have hn0 : n = 0 := by have := HR.out.1; rw [hnn] at this; simp at this; omega
    subst hn0
    have HNN := Lib.hid hnn
    clear hnn
    go_enter Tryz.func41, Tryz.ntmps41
    go_wp2
    go_ret
    exact ⟨_, rfl, ⟨by rw [HNN.out]; exact Own.nil, fun k hk => by simp [Value.ownBlock] at hk⟩, (Mods.refl [] w).ex⟩
  | some a =>
    go_enter Tryz.func41, Tryz.ntmps41
    go_wp2_with (at_builtin; refine wpList_app_ap _ rfl _ _ rfl _ 0 [] rfl (own_new0 _ _ _) _ n _ news rfl ?_ H1.out ?_ ?_; (exact HR.out.ext ((Mods.refl [] w).alloc _)); (omega); (intro v' w1 hown1 hg1 ha1; have HO := Lib.hid hown1; have HG := Lib.hid hg1; have HA := Lib.hid ha1; clear hown1 hg1 ha1))
    go_ret
    exact CopyPost.mk HO.out HG.out HA.out

set_option maxHeartbeats 1000000 in
theorem cloneF (A : Option Addr) (n c : Nat) (news : List Value) (w : World) (hr : CellsAt w A n 4 news) (h1 : ∀ u ∈ news, u.oneCell' = true) (hn : n * 80 ≤ 140737488355328) :
    Calls Tryz.prog 39 #[.slice A n c] w (CopyPost w 47 4 n news) := by
  have hq := fun (W : World) => Lib.run_eql_slice_nil (P := Tryz.prog) W 25 47 A n c 0 0 Tryz.underlying25
  have HR := Lib.hid hr
  have H1 := Lib.hid h1
  clear hr h1
  cases A with
  | none =>
    have hnn : news = [] := by
      cases hx : news with
      | nil => rfl
      | cons u us => obtain ⟨b, o, e, _⟩ := HR.out.2 0 u (by rw [hx]; rfl); cases e
    have hn0 : n = 0 := by have := HR.out.1; rw [hnn] at this; simp at this; omega
    subst hn0
    have HNN := Lib.hid hnn
    clear hnn
    go_enter Tryz.func39, Tryz.ntmps39
    go_wp2
    go_ret
    exact ⟨_, rfl, ⟨by rw [HNN.out]; exact Own.nil, fun k hk => by simp [Value.ownBlock] at hk⟩, (Mods.refl [] w).ex⟩
  | some a =>
    go_enter Tryz.func39, Tryz.ntmps39
    go_wp2_with (at_builtin; refine wpList_app_fp _ rfl _ _ rfl _ 0 [] rfl (own_new0 _ _ _) _ n _ news rfl ?_ H1.out ?_ ?_; (exact HR.out.ext ((Mods.refl [] w).alloc _)); (omega); (intro v' w1 hown1 hg1 ha1; have HO := Lib.hid hown1; have HG := Lib.hid hg1; have HA := Lib.hid ha1; clear hown1 hg1 ha1))
    go_ret
    exact CopyPost.mk HO.out HG.out HA.out

set_option maxHeartbeats 1000000 in
theorem copyArgs (A : Option Addr) (n c : Nat) (news : List Value) (w : World) (hr : CellsAt w A n 3 news) (h1 : ∀ u ∈ news, u.oneCell' = true) (hn : n * 24 ≤ 140737488355328) :
    Calls Tryz.prog 17 #[.slice A n c] w (CopyPost w 62 3 n news) := by
  have HR := Lib.hid hr
  have H1 := Lib.hid h1
  clear hr h1
  go_enter Tryz.func17, Tryz.ntmps17
  go_wp2_with (at_builtin; refine wpList_app_ap _ rfl _ _ rfl _ 0 [] rfl (own_new0 _ _ _) _ n _ news rfl ?_ H1.out ?_ ?_; (exact HR.out.ext ((Mods.refl [] w).alloc _)); (omega); (intro v' w1 hown1 hg1 ha1; have HO := Lib.hid hown1; have HG := Lib.hid hg1; have HA := Lib.hid ha1; clear hown1 hg1 ha1))
  go_ret
  exact CopyPost.mk HO.out HG.out HA.out

end Go.Proofs.YtjpgcokdlopkaaaGreatDoor
