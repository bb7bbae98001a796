/- Lemmas for a claim of the seat YtjpgcokdlopkaaaGreatDoor. Written in part by programs of the claim's repo. By an AI agent. -/
import Derived.Test.YtjpgcokdlopkaaaGreatDoorG06
import Derived.BigRegion

/-! PROFILES OF THE CALL's OWN, WRITTEN. -/
namespace Go.Proofs.YtjpgcokdlopkaaaGreatDoor
open Go.RowKit

def ProfF (B : Nat) (w : World) (v : Value) (fs : List FV) (rs : List FunP) : Prop := OwnF B w 47 4 v rs.length (fvV fs) ∧ FreshFs B w fs rs
theorem ProfF.o {B : Nat} {w : World} {v : Value} {fs : List FV} {rs : List FunP} (h : ProfF B w v fs rs) : ProfO B w v rs := ⟨fs, h⟩
theorem set_same {α : Type} {l : List α} {i : Nat} {x : α} (h : l[i]? = some x) : l.set i x = l := by
  refine List.ext_getElem? fun j => ?_
  rw [List.getElem?_set]
  split
  · rename_i e; subst e
    have := (List.getElem?_eq_some_iff.1 h).1
    rw [if_pos this, h]
  · rfl
theorem FVO.updJ {B : Nat} {w w' : World} {v : FV} {x : FunP} {ys : List Int} (h : FVO B w v x) (hm : Mods v.j.ownBlock.toList w w') (ho : Own w' 3 1 v.j ys.length (intV ys)) : FVO B w' v { x with jumps := ys } :=
  ⟨h.1, ⟨ho, h.2.1.2⟩, h.2.2.1.mods hm fun k hk hs => h.2.2.2.2 k (by simpa using hs) hk, h.2.2.2.1.mods hm fun k hk hs => absurd ((h.2.1.1.blockOf (k := k) (by simpa using hs)).ne (h.2.2.2.1.1.blockOf hk)) (by decide), h.2.2.2.2⟩
theorem FVO.updF {B : Nat} {w w' : World} {v : FV} {x : FunP} {ys : List Int} (h : FVO B w v x) (hm : Mods v.f.ownBlock.toList w w') (ho : Own w' 3 1 v.f ys.length (intV ys)) : FVO B w' v { x with falls := ys } :=
  ⟨h.1, h.2.1.mods hm fun k hk hs => h.2.2.2.2 k hk (by simpa using hs), ⟨ho, h.2.2.1.2⟩, h.2.2.2.1.mods hm fun k hk hs => absurd ((h.2.2.1.1.blockOf (k := k) (by simpa using hs)).ne (h.2.2.2.1.1.blockOf hk)) (by decide), h.2.2.2.2⟩
theorem FVO.updA {B : Nat} {w w' : World} {v : FV} {x : FunP} {ys : List ArgP} (h : FVO B w v x) (hm : Mods v.a.ownBlock.toList w w') (ho : Own w' 62 3 v.a ys.length (argV ys)) : FVO B w' v { x with args := ys } :=
  ⟨h.1, h.2.1.mods hm fun k hk hs => absurd ((h.2.1.1.blockOf hk).ne (h.2.2.2.1.1.blockOf (k := k) (by simpa using hs))) (by decide), h.2.2.1.mods hm fun k hk hs => absurd ((h.2.2.1.1.blockOf hk).ne (h.2.2.2.1.1.blockOf (k := k) (by simpa using hs))) (by decide), ⟨ho, h.2.2.2.1.2⟩, h.2.2.2.2⟩
theorem ProfF.each {B : Nat} {w : World} {v : Value} {fs : List FV} {rs : List FunP} {i : Nat} {x : FunP} (h : ProfF B w v fs rs) (hx : rs[i]? = some x) : ∃ fv, fs[i]? = some fv ∧ FVO B w fv x := by
  have hi := (List.getElem?_eq_some_iff.1 hx).1
  have hf := get_some (show i < fs.length by rw [h.2.len]; exact hi)
  exact ⟨_, hf, h.2.each i _ x hf hx⟩
theorem ProfF.rows {B : Nat} {w w' : World} {v : Value} {fs : List FV} {rs : List FunP} {i : Nat} {fv : FV} {x' : FunP} {S : List Nat} (h : ProfF B w v fs rs) (hi : fs[i]? = some fv) (hm : Mods S w w')
    (hS : ∀ k ∈ S, fv.j.ownBlock = some k ∨ fv.f.ownBlock = some k ∨ fv.a.ownBlock = some k) (hn : FVO B w' fv x') : ProfF B w' v fs (rs.set i x') := by
  have hx := get_some (show i < rs.length by rw [← h.2.len]; exact (List.getElem?_eq_some_iff.1 hi).1)
  have hv := h.2.each i fv _ hi hx
  refine ⟨?_, ?_⟩
  · have := h.1.mods hm fun k hk hs => hv.notFP (hS k hs) (h.1.1.blockOf hk)
    simpa using this
  · have := h.2.upd hi hm (fun k hk => by rcases hS k hk with e | e | e <;> simp [e]) hn rfl rfl rfl
    rwa [set_same hi] at this
theorem ProfF.calls {B : Nat} {w : World} {g o c : Nat} {fs : List FV} {rs : List FunP} {i : Nat} {fv : FV} {x : FunP} (h : ProfF B w (.slice (some ⟨g, o, none⟩) rs.length c) fs rs) (hi : fs[i]? = some fv) (hx : rs[i]? = some x) (z : Int) :
    ProfF B (w.setCell ⟨g, o + i * 4, none⟩ (.int .i64 z)) (.slice (some ⟨g, o, none⟩) rs.length c) (fs.set i { fv with calls := z }) (rs.set i { x with calls := z }) := by
  have hv := h.2.each i fv x hi hx
  have hg : BlockOf w 47 g := h.1.1.blockOf rfl
  have hm : Mods [g] w (w.setCell ⟨g, o + i * 4, none⟩ (.int .i64 z)) := (Mods.refl _ w).setCell (by simp) _
  refine ⟨⟨?_, h.1.2⟩, h.2.upd hi hm (fun k hk => ?_) ?_ rfl rfl rfl⟩
  · have := h.1.1.set (j := i * 4) (.int .i64 z)
    rw [List.length_set]
    have e : (fvV fs).set (i * 4) (.int .i64 z) = fvV (fs.set i { fv with calls := z }) := flat_set FV.cells 4 FV.cells_len fs i 0 (by omega) hi rfl
    rwa [e] at this
  · obtain rfl := List.mem_singleton.1 hk
    exact .inr (.inr (.inr hg))
  · have := hv.mods hm fun k hk hs => by
      obtain rfl := List.mem_singleton.1 hs
      exact hv.notFP hk hg
    exact ⟨rfl, this.2⟩
theorem ProfF.mods {B : Nat} {w w' : World} {v : Value} {fs : List FV} {rs : List FunP} {S : List Nat} (h : ProfF B w v fs rs) (hm : Mods S w w') (hS : ∀ k ∈ S, k < B) : ProfF B w' v fs rs := by
  refine ⟨h.1.mods hm fun k hk hs => ?_, h.2.len, fun i fv x hi hx => ?_, h.2.apart⟩
  · have := h.1.2 k hk; have := hS k hs; omega
  · have hv := h.2.each i fv x hi hx
    exact hv.mods hm fun k hk hs => by have := hv.ge hk; have := hS k hs; omega
end Go.Proofs.YtjpgcokdlopkaaaGreatDoor


namespace Go.Proofs.YtjpgcokdlopkaaaGreatDoor
open Go.RowKit

def SpoiledI (w : World) (v : Value) (n : Nat) (E : Ending) (w' : World) : Prop := E = .returned (.tuple #[]) ∧ ∃ ys : List Int, ys.length = n ∧ Own w' 3 1 v n (intV ys) ∧ Mods v.ownBlock.toList w w'
def SpoiledA (w : World) (v : Value) (n : Nat) (E : Ending) (w' : World) : Prop := E = .returned (.tuple #[]) ∧ ∃ ys : List ArgP, ys.length = n ∧ Own w' 62 3 v n (argV ys) ∧ Mods v.ownBlock.toList w w'
theorem intV_get {xs : List Int} {i : Nat} {x : Int} (h : xs[i]? = some x) : (intV xs)[i]? = some (.int .i64 x) := by simp only [intV, List.getElem?_map, h, Option.map_some]
theorem intV_set (xs : List Int) (i : Nat) (x : Int) : (intV xs).set i (.int .i64 x) = intV (xs.set i x) := by simp [intV, List.map_set]
theorem argV_get {xs : List ArgP} {i j : Nat} {x : ArgP} (h : xs[i]? = some x) (hj : j < 3) : (argV xs)[i * 3 + j]? = x.cells[j]? := by rw [argV, flat_get _ _ ArgP.cells_len _ _ _ hj, h]; rfl
set_option maxHeartbeats 1000000 in
theorem spoilInts_calls (v : Value) (xs : List Int) (w : World) (h : Own w 3 1 v xs.length (intV xs)) : Calls Tryz.prog 32 #[v] w (SpoiledI w v xs.length) := by
  obtain ⟨A, c, rfl, k1, k2⟩ := h.slice
  have H := Lib.hid h
  clear h
  unfold maxLen at k2
  obtain ⟨n, hn⟩ : ∃ n, xs.length = n := ⟨_, rfl⟩
  rw [hn] at H k1 ⊢
  have HN := Lib.hid hn
  clear hn
  go_enter Tryz.func32, Tryz.ntmps32
  go_wp2
  go_loopw [2] (fun i wr => ∃ (k : Nat) (ys : List Int), i = .int .i64 k ∧ k ≤ n ∧ Hid (ys.length = n ∧ Own wr 3 1 (.slice A n c) n (intV ys)) ∧ Hid (Mods (Value.slice A n c).ownBlock.toList w wr)) (fun i _ => n - (intOf i).toNat)
  case atStart => exact ⟨0, xs, rfl, Nat.zero_le _, ⟨HN.out, H.out⟩, Mods.refl _ _⟩
  case round =>
    obtain ⟨k, ys, rfl, hk, HO, HW⟩ := hrel
    by_cases hlt : k < n
    · obtain ⟨g, o, c', e, _, _, q3, q4⟩ := HO.out.2.form (by omega)
      cases e
      have hc := q3 k _ (intV_get (get_some (show k < ys.length by have := HO.out.1; omega)))
      have hf := q4 (o + k)
      clear q3 q4
      go_wp2
      go_roundw
      case rel =>
        go_light
        refine ⟨k + 1, ys.set k (wrap64 (-9 - ys[k]'(by have := HO.out.1; omega))), by go_num, by omega, ⟨by rw [List.length_set]; exact HO.out.1, ?_⟩, HW.out.setCell (fun _ => by simp [Value.ownBlock]) _⟩
        have := HO.out.2.set (j := k) (.int .i64 (wrap64 (-9 - ys[k]'(by have := HO.out.1; omega))))
        rwa [intV_set] at this
      case measure => simp [intOf]; omega
    · go_wp2
      go_end0
      exact ⟨rfl, ys, HO.out.1, HO.out.2, HW.out⟩
set_option maxHeartbeats 1000000 in
theorem spoilArgs_calls (v : Value) (xs : List ArgP) (w : World) (h : Own w 62 3 v xs.length (argV xs)) : Calls Tryz.prog 33 #[v] w (SpoiledA w v xs.length) := by
  obtain ⟨A, c, rfl, k1, k2⟩ := h.slice
  have H := Lib.hid h
  clear h
  unfold maxLen at k2
  obtain ⟨n, hn⟩ : ∃ n, xs.length = n := ⟨_, rfl⟩
  rw [hn] at H k1 ⊢
  have HN := Lib.hid hn
  clear hn
  go_enter Tryz.func33, Tryz.ntmps33
  go_wp2
  go_loopw [2] (fun i wr => ∃ (k : Nat) (ys : List ArgP), i = .int .i64 k ∧ k ≤ n ∧ Hid (ys.length = n ∧ Own wr 62 3 (.slice A n c) n (argV ys)) ∧ Hid (Mods (Value.slice A n c).ownBlock.toList w wr)) (fun i _ => n - (intOf i).toNat)
  case atStart => exact ⟨0, xs, rfl, Nat.zero_le _, ⟨HN.out, H.out⟩, Mods.refl _ _⟩
  case round =>
    obtain ⟨k, ys, rfl, hk, HO, HW⟩ := hrel
    by_cases hlt : k < n
    · obtain ⟨g, o, c', e, _, _, q3, q4⟩ := HO.out.2.form (by omega)
      cases e
      have hkl : k < ys.length := by have := HO.out.1; omega
      have hc := q3 (k * 3 + 1) _ (argV_get (get_some hkl) (by omega))
      have hf := q4 (o + k * 3 + 1)
      rw [← Nat.add_assoc] at hc
      clear q3 q4
      go_wp2
      go_roundw
      case rel =>
        go_light
        refine ⟨k + 1, ys.set k { ys[k] with same := bits .xor .i64 ys[k].same 90 }, by go_num, by omega, ⟨by rw [List.length_set]; exact HO.out.1, ?_⟩, HW.out.setCell (fun _ => by simp [Value.ownBlock]) _⟩
        have := HO.out.2.set (j := k * 3 + 1) (.int .i64 (bits .xor .i64 ys[k].same 90))
        rw [← Nat.add_assoc] at this
        rw [show (argV ys).set (k * 3 + 1) (.int .i64 (bits .xor .i64 ys[k].same 90)) = argV (ys.set k { ys[k] with same := bits .xor .i64 ys[k].same 90 }) from flat_set ArgP.cells 3 ArgP.cells_len ys k 1 (by omega) (get_some hkl) rfl] at this
        exact this
      case measure => simp [intOf]; omega
    · go_wp2
      go_end0
      exact ⟨rfl, ys, HO.out.1, HO.out.2, HW.out⟩

/-- only blocks from B up to C may have changed -/
def Mid (B C : Nat) (w w' : World) : Prop := ∃ S, Mods S w w' ∧ ∀ k ∈ S, B ≤ k ∧ k < C
theorem Mid.trans {B C : Nat} {a b c : World} (h : Mid B C a b) (k : Mid B C b c) : Mid B C a c := by
  obtain ⟨S, h1, h2⟩ := h
  obtain ⟨T, k1, k2⟩ := k
  refine ⟨S ++ T, (h1.mono fun x hx => List.mem_append_left _ hx).trans (k1.mono fun x hx => List.mem_append_right _ hx), fun x hx => ?_⟩
  rcases List.mem_append.1 hx with hx | hx
  · exact h2 x hx
  · exact k2 x hx
theorem mid_of {B C : Nat} {a w : World} {S : List Nat} (h : Mods S a w) (hS : ∀ k ∈ S, B ≤ k ∧ k < C) : Mid B C a w := ⟨S, h, hS⟩
/-- every block of the profile lies below C -/
def HiP (C : Nat) (v : Value) (fs : List FV) : Prop := (∀ k, v.ownBlock = some k → k < C) ∧ ∀ (i : Nat) (fv : FV), fs[i]? = some fv → ∀ k, fv.j.ownBlock = some k ∨ fv.f.ownBlock = some k ∨ fv.a.ownBlock = some k → k < C
theorem ProfF.hi {B : Nat} {w : World} {v : Value} {fs : List FV} {rs : List FunP} (h : ProfF B w v fs rs) : HiP w.heap.size v fs :=
  ⟨fun k hk => h.1.1.lt hk, fun i fv hf k hk => (h.2.each i fv _ hf (get_some (show i < rs.length by rw [← h.2.len]; exact (List.getElem?_eq_some_iff.1 hf).1))).lt hk⟩
theorem HiP.calls {C : Nat} {v : Value} {fs : List FV} {i : Nat} {fv : FV} (h : HiP C v fs) (hf : fs[i]? = some fv) (z : Int) : HiP C v (fs.set i { fv with calls := z }) := ⟨h.1, fun j gv hg k hk => by
  rw [List.getElem?_set] at hg
  split at hg
  · split at hg
    · cases hg; exact h.2 i fv hf k hk
    · cases hg
  · exact h.2 j gv hg k hk⟩
def SpoiledP (B C : Nat) (w : World) (E : Ending) (w' : World) : Prop := E = .returned (.tuple #[]) ∧ Mid B C w w'
theorem below_of {B : Nat} {a w : World} {S : List Nat} (h : Mods S a w) (hB : B ≤ a.heap.size) (hS : ∀ k ∈ S, B ≤ k) : Below B a w := ⟨h.os, h.tape, h.output, by have := h.size; omega, fun k hk => h.block k (by omega) fun hs => by have := hS k hs; omega⟩
theorem FVO.geJ {B : Nat} {w : World} {v : FV} {x : FunP} (h : FVO B w v x) : ∀ k ∈ v.j.ownBlock.toList, B ≤ k := fun k hk => h.ge (.inl (by simpa using hk))
theorem FVO.geF {B : Nat} {w : World} {v : FV} {x : FunP} (h : FVO B w v x) : ∀ k ∈ v.f.ownBlock.toList, B ≤ k := fun k hk => h.ge (.inr (.inl (by simpa using hk)))
theorem FVO.geA {B : Nat} {w : World} {v : FV} {x : FunP} (h : FVO B w v x) : ∀ k ∈ v.a.ownBlock.toList, B ≤ k := fun k hk => h.ge (.inr (.inr (by simpa using hk)))
def PBox (bx : Nat) (v : Value) (w : World) : Prop := w.heap[bx]? = some (.cells #[v] 27 (0, 0))
theorem PBox.cell {bx : Nat} {v : Value} {w : World} (h : PBox bx v w) : w.cell? ⟨bx, 0, none⟩ = some v := by unfold PBox at h; simp [World.cell?, h]
theorem PBox.mods {bx : Nat} {v : Value} {w w' : World} {S : List Nat} (h : PBox bx v w) (hm : Mods S w w') (hS : ∀ k ∈ S, BlockOf w 3 k ∨ BlockOf w 62 k ∨ BlockOf w 47 k) : PBox bx v w' := by
  have hb : BlockOf w 27 bx := ⟨_, _, h⟩
  refine (hm.block _ (Array.getElem?_eq_some_iff.1 h).1 fun hs => ?_).trans h
  rcases hS _ hs with e | e | e <;> exact absurd (hb.ne e) (by decide)
theorem FVO.typJ {B : Nat} {w : World} {v : FV} {x : FunP} (h : FVO B w v x) : ∀ k ∈ v.j.ownBlock.toList, BlockOf w 3 k ∨ BlockOf w 62 k ∨ BlockOf w 47 k := fun k hk => .inl (h.2.1.1.blockOf (by simpa using hk))
theorem FVO.typF {B : Nat} {w : World} {v : FV} {x : FunP} (h : FVO B w v x) : ∀ k ∈ v.f.ownBlock.toList, BlockOf w 3 k ∨ BlockOf w 62 k ∨ BlockOf w 47 k := fun k hk => .inl (h.2.2.1.1.blockOf (by simpa using hk))
theorem FVO.typA {B : Nat} {w : World} {v : FV} {x : FunP} (h : FVO B w v x) : ∀ k ∈ v.a.ownBlock.toList, BlockOf w 3 k ∨ BlockOf w 62 k ∨ BlockOf w 47 k := fun k hk => .inr (.inl (h.2.2.2.1.1.blockOf (by simpa using hk)))
def SpSt (B C : Nat) (w : World) (bx g o n c : Nat) (gs : List FV) (wr : World) : Prop := ∃ ss : List FunP, ss.length = n ∧ ProfF B wr (.slice (some ⟨g, o, none⟩) n c) gs ss ∧ PBox bx (.slice (some ⟨g, o, none⟩) n c) wr ∧ Mid B C w wr ∧ HiP C (.slice (some ⟨g, o, none⟩) n c) gs
theorem SpSt.at {B C : Nat} {w : World} {bx g o n c k : Nat} {gs : List FV} {wr : World} {fv : FV} (h : SpSt B C w bx g o n c gs wr) (hf : gs[k]? = some fv) :
    wr.cell? ⟨bx, 0, none⟩ = some (.slice (some ⟨g, o, none⟩) n c) ∧ wr.cell? ⟨g, o + k * 4, none⟩ = some (.int .i64 fv.calls) ∧ wr.cell? ⟨g, o + k * 4 + 1, none⟩ = some fv.j ∧ wr.cell? ⟨g, o + k * 4 + 2, none⟩ = some fv.f ∧ wr.cell? ⟨g, o + k * 4 + 3, none⟩ = some fv.a ∧ wr.frozen? ⟨g, o + k * 4, none⟩ = false := by
  obtain ⟨ss, rfl, h1, h2, _⟩ := h
  obtain ⟨c0, c1, c2, c3⟩ := h1.1.1.fps hf
  refine ⟨h2.cell, c0, c1, c2, c3, ?_⟩
  obtain ⟨cur, hb⟩ := h1.1.1.block (k := g) rfl
  simp [World.frozen?, hb]
theorem ProfF.room {B : Nat} {w : World} {g o n c : Nat} {fs : List FV} {rs : List FunP} (h : ProfF B w (.slice (some ⟨g, o, none⟩) n c) fs rs) : B ≤ w.heap.size := by
  have h1 := h.1.2 g rfl
  have h2 := h.1.1.lt (k := g) rfl
  omega
theorem SpSt.rows {B C : Nat} {w : World} {bx g o n c k : Nat} {gs : List FV} {wr wa : World} {fv : FV} {S : List Nat} {x x' : FunP} {ss : List FunP} (hl : ss.length = n) (h1 : ProfF B wr (.slice (some ⟨g, o, none⟩) n c) gs ss) (h2 : PBox bx (.slice (some ⟨g, o, none⟩) n c) wr) (h3 : Mid B C w wr) (h4 : HiP C (.slice (some ⟨g, o, none⟩) n c) gs)
    (hf : gs[k]? = some fv) (hx : ss[k]? = some x) (hm : Mods S wr wa) (hS : ∀ k ∈ S, fv.j.ownBlock = some k ∨ fv.f.ownBlock = some k ∨ fv.a.ownBlock = some k) (hn : FVO B wa fv x') : SpSt B C w bx g o n c gs wa := by
  have ho := h1.2.each k fv x hf hx
  refine ⟨_, by rw [List.length_set]; exact hl, h1.rows hf hm hS hn, h2.mods hm fun b hb => ?_, h3.trans (mid_of hm fun b hb => ⟨ho.ge (hS b hb), h4.2 k fv hf b (hS b hb)⟩), h4⟩
  rcases hS b hb with e | e | e
  · exact .inl (ho.2.1.1.blockOf e)
  · exact .inl (ho.2.2.1.1.blockOf e)
  · exact .inr (.inl (ho.2.2.2.1.1.blockOf e))
theorem SpSt.j {B C : Nat} {w : World} {bx g o n c k : Nat} {gs : List FV} {wr : World} {fv : FV} (h : SpSt B C w bx g o n c gs wr) (hf : gs[k]? = some fv) : ∃ xs : List Int, Own wr 3 1 fv.j xs.length (intV xs) ∧ ∀ E wa, SpoiledI wr fv.j xs.length E wa → SpSt B C w bx g o n c gs wa := by
  obtain ⟨ss, hl, h1, h2, h3, h4⟩ := h
  have hx := get_some (show k < ss.length by rw [← h1.2.len]; exact (List.getElem?_eq_some_iff.1 hf).1)
  have ho := h1.2.each k fv _ hf hx
  refine ⟨_, ho.2.1.1, fun E wa ⟨_, ys, hy, hoy, hm⟩ => SpSt.rows hl h1 h2 h3 h4 hf hx hm (fun b hb => .inl (by simpa using hb)) (ho.updJ hm (hy ▸ hoy))⟩
theorem SpSt.f {B C : Nat} {w : World} {bx g o n c k : Nat} {gs : List FV} {wr : World} {fv : FV} (h : SpSt B C w bx g o n c gs wr) (hf : gs[k]? = some fv) : ∃ xs : List Int, Own wr 3 1 fv.f xs.length (intV xs) ∧ ∀ E wa, SpoiledI wr fv.f xs.length E wa → SpSt B C w bx g o n c gs wa := by
  obtain ⟨ss, hl, h1, h2, h3, h4⟩ := h
  have hx := get_some (show k < ss.length by rw [← h1.2.len]; exact (List.getElem?_eq_some_iff.1 hf).1)
  have ho := h1.2.each k fv _ hf hx
  refine ⟨_, ho.2.2.1.1, fun E wa ⟨_, ys, hy, hoy, hm⟩ => SpSt.rows hl h1 h2 h3 h4 hf hx hm (fun b hb => .inr (.inl (by simpa using hb))) (ho.updF hm (hy ▸ hoy))⟩
theorem SpSt.a {B C : Nat} {w : World} {bx g o n c k : Nat} {gs : List FV} {wr : World} {fv : FV} (h : SpSt B C w bx g o n c gs wr) (hf : gs[k]? = some fv) : ∃ xs : List ArgP, Own wr 62 3 fv.a xs.length (argV xs) ∧ ∀ E wa, SpoiledA wr fv.a xs.length E wa → SpSt B C w bx g o n c gs wa := by
  obtain ⟨ss, hl, h1, h2, h3, h4⟩ := h
  have hx := get_some (show k < ss.length by rw [← h1.2.len]; exact (List.getElem?_eq_some_iff.1 hf).1)
  have ho := h1.2.each k fv _ hf hx
  refine ⟨_, ho.2.2.2.1.1, fun E wa ⟨_, ys, hy, hoy, hm⟩ => SpSt.rows hl h1 h2 h3 h4 hf hx hm (fun b hb => .inr (.inr (by simpa using hb))) (ho.updA hm (hy ▸ hoy))⟩
theorem SpSt.ext {B C : Nat} {w : World} {bx g o n c : Nat} {gs : List FV} {wr wa : World} (h : SpSt B C w bx g o n c gs wr) (hm : Mods [] wr wa) : SpSt B C w bx g o n c gs wa := by
  obtain ⟨ss, hl, h1, h2, h3, h4⟩ := h
  exact ⟨ss, hl, h1.mods hm (by simp), h2.mods hm (by simp), h3.trans (mid_of hm (by simp)), h4⟩
theorem SpSt.calls {B C : Nat} {w : World} {bx g o n c k : Nat} {gs : List FV} {wr : World} {fv : FV} (h : SpSt B C w bx g o n c gs wr) (hf : gs[k]? = some fv) (z : Int) : SpSt B C w bx g o n c (gs.set k { fv with calls := z }) (wr.setCell ⟨g, o + k * 4, none⟩ (.int .i64 z)) := by
  obtain ⟨ss, rfl, h1, h2, h3, h4⟩ := h
  have hx := get_some (show k < ss.length by rw [← h1.2.len]; exact (List.getElem?_eq_some_iff.1 hf).1)
  have hm : Mods [g] wr (wr.setCell ⟨g, o + k * 4, none⟩ (.int .i64 z)) := (Mods.refl _ wr).setCell (by simp) _
  refine ⟨_, by rw [List.length_set], h1.calls hf hx z, h2.mods hm fun b hb => ?_, h3.trans (mid_of hm fun b hb => ?_), h4.calls hf z⟩
  · obtain rfl := List.mem_singleton.1 hb; exact .inr (.inr (h1.1.1.blockOf rfl))
  · obtain rfl := List.mem_singleton.1 hb; exact ⟨h1.1.2 _ rfl, h4.1 _ rfl⟩
theorem SpSt.len {B C : Nat} {w : World} {bx g o n c : Nat} {gs : List FV} {wr : World} (h : SpSt B C w bx g o n c gs wr) : gs.length = n := by
  obtain ⟨ss, rfl, h1, _⟩ := h; exact h1.2.len
/-- the loop's relation: nothing to spoil, or the state above -/
def SpRel (B C : Nat) (w : World) (bx : Nat) (A : Option Addr) (n c : Nat) (wr : World) : Prop := PBox bx (.slice A n c) wr ∧ Mid B C w wr ∧ (0 < n → ∃ g o gs, A = some ⟨g, o, none⟩ ∧ SpSt B C w bx g o n c gs wr)
theorem SpSt.rel {B C : Nat} {w : World} {bx g o n c : Nat} {gs : List FV} {wr : World} (h : SpSt B C w bx g o n c gs wr) : SpRel B C w bx (some ⟨g, o, none⟩) n c wr := by
  have h' := h
  obtain ⟨ss, _, _, h2, h3, _⟩ := h'
  exact ⟨h2, h3, fun _ => ⟨g, o, gs, rfl, h⟩⟩
set_option maxHeartbeats 4000000 in
set_option maxRecDepth 100000 in
theorem spoilProf_calls (B C : Nat) (v : Value) (fs : List FV) (rs : List FunP) (w : World) (h : ProfF B w v fs rs) (hC : HiP C v fs) : Calls Tryz.prog 15 #[.agg #[v]] w (SpoiledP B C w) := by
  obtain ⟨A, c, rfl, k1, k2⟩ := h.1.1.slice
  unfold maxLen at k2
  have HC := Lib.hid hC
  clear hC
  have H := Lib.hid (show ProfF B w (.slice A rs.length c) fs rs from h)
  clear h
  obtain ⟨n, hn⟩ : ∃ n, rs.length = n := ⟨_, rfl⟩
  rw [hn] at H HC k1 ⊢
  have HN := Lib.hid hn
  clear hn
  go_enter Tryz.func15, Tryz.ntmps15
  go_wp2
  go_loopw [2] (fun i wr => ∃ (k : Nat), i = .int .i64 k ∧ k ≤ n ∧ Hid (SpRel B C w w.heap.size A n c wr)) (fun i _ => n - (intOf i).toNat)
  case atStart =>
    have hM : Mods [] w (w.alloc (Obj.cells #[Value.slice A n c] 27)) := (by repeat (first | exact Mods.refl _ _ | refine Mods.alloc ?_ _ | refine Mods.ext ?_ _ | refine Mods.drew ?_ | refine Mods.drewN ?_ _))
    refine ⟨0, rfl, Nat.zero_le _, heap_alloc_new _ _, mid_of (S := []) hM (by simp), fun hp => ?_⟩
    obtain ⟨g, o, c', e, _, _, _, _⟩ := H.out.1.1.form (by rw [HN.out]; exact hp)
    have hAe : A = some ⟨g, o, none⟩ := by cases e; rfl
    subst hAe
    exact ⟨g, o, fs, rfl, rs, HN.out, H.out.mods hM (by simp), heap_alloc_new _ _, mid_of (S := []) hM (by simp), HC.out⟩
  case round =>
    obtain ⟨k, rfl, hk, HR⟩ := hrel
    by_cases hlt : k < n
    · obtain ⟨g, o, gs, rfl, hs⟩ := HR.out.2.2 (by omega)
      obtain ⟨fv, hf⟩ : ∃ fv, gs[k]? = some fv := ⟨_, get_some (show k < gs.length by rw [hs.len]; exact hlt)⟩
      obtain ⟨bb, c0, c1, c2, c3, cf⟩ := hs.at hf
      obtain ⟨xsJ, hoJ, hnJ⟩ := hs.j hf
      have HF := Lib.hid hf
      have HOJ := Lib.hid hoJ
      have HNJ := Lib.hid hnJ
      clear hf hs hoJ hnJ
      have i0 : (0 : Int) ≤ (k : Int) := by omega
      have i1 : (k : Int) < (n : Int) := by omega
      go_wp2_with (go_at_call 32; (with_reducible refine (spoilInts_calls _ xsJ _ HOJ.out).mono ?_); rintro e w1 hsp; have he := hsp.1; subst he; have hs1 := HNJ.out _ _ hsp; obtain ⟨bb1, d0, d1, d2, d3, df⟩ := hs1.at HF.out; obtain ⟨xsF, hoF, hnF⟩ := hs1.f HF.out; have HOF := Lib.hid hoF; have HNF := Lib.hid hnF; clear hs1 hoF hnF hsp)
      go_wp2_with (go_at_call 32; (with_reducible refine (spoilInts_calls _ xsF _ HOF.out).mono ?_); rintro e w2 hsp; have he := hsp.1; subst he; have hs1 := HNF.out _ _ hsp; obtain ⟨bb2, e0, e1, e2, e3, ef⟩ := hs1.at HF.out; obtain ⟨xsA, hoA, hnA⟩ := hs1.a HF.out; have HOA := Lib.hid hoA; have HNA := Lib.hid hnA; clear hs1 hoA hnA hsp)
      go_wp2_with (go_at_call 33; (with_reducible refine (spoilArgs_calls _ xsA _ HOA.out).mono ?_); rintro e w3 hsp; have he := hsp.1; subst he; have hs1 := HNA.out _ _ hsp; obtain ⟨bb3, f0, f1, f2, f3, ff⟩ := hs1.at HF.out; have HS3 := Lib.hid hs1; clear hs1 hsp)
      go_region
      go_wp2
      go_roundw
      case rel =>
        go_light
        exact ⟨k + 1, by go_num, by omega, ((HS3.out.calls HF.out _).ext ((Mods.refl [] _).drew)).rel⟩
      case measure => simp [intOf]; omega
    · have hbx := HR.out.1.cell
      go_wp2
      go_end0
      exact ⟨rfl, HR.out.2.1⟩
end Go.Proofs.YtjpgcokdlopkaaaGreatDoor


/-! COPIES OF PROFILES: what a round of the copying loops keeps. -/
namespace Go.Proofs.YtjpgcokdlopkaaaGreatDoor
open Go.RowKit

def OtherBlock (w : World) (k : Nat) : Prop := ∃ e, BlockOf w e k ∧ e ≠ 3 ∧ e ≠ 62
theorem FVO.notOther {B : Nat} {w : World} {v : FV} {x : FunP} (h : FVO B w v x) {k : Nat} (hk : v.j.ownBlock = some k ∨ v.f.ownBlock = some k ∨ v.a.ownBlock = some k) (hf : OtherBlock w k) : False := by
  obtain ⟨e, he, h1, h2⟩ := hf
  rcases hk with hk | hk | hk
  · exact h1 ((h.2.1.1.blockOf hk).ne he).symm
  · exact h1 ((h.2.2.1.1.blockOf hk).ne he).symm
  · exact h2 ((h.2.2.2.1.1.blockOf hk).ne he).symm
theorem FreshFs.others {B : Nat} {w w' : World} {fs : List FV} {rs : List FunP} {S : List Nat} (h : FreshFs B w fs rs) (hm : Mods S w w') (hS : ∀ k ∈ S, OtherBlock w k) : FreshFs B w' fs rs :=
  ⟨h.len, fun i v x hv hx => (h.each i v x hv hx).mods hm fun _ hk hs => (h.each i v x hv hx).notOther hk (hS _ hs), h.apart⟩
theorem Mods.new {S : List Nat} {w x : World} (h : Mods S w x) (hS : ∀ k ∈ S, w.heap.size ≤ k) : Mods [] w x :=
  ⟨h.os, h.tape, h.output, h.size, fun k hk _ => h.block k hk fun hs => by have := hS k hs; omega⟩
theorem BlockOf.mods {w w' : World} {e k : Nat} {S : List Nat} (h : BlockOf w e k) (hm : Mods S w w') (hk : k ∉ S) : BlockOf w' e k := by
  obtain ⟨cur, fz, h⟩ := h
  exact ⟨cur, fz, (hm.block k (Array.getElem?_eq_some_iff.1 h).1 hk).trans h⟩
theorem PBox.set {b : Nat} {v : Value} {w : World} (h : PBox b v w) (u : Value) : PBox b u (w.setCell ⟨b, 0, none⟩ u) := by
  unfold PBox at *
  rw [heap_setCell_at h u]; rfl
theorem PBox.keep {b : Nat} {v : Value} {w w' : World} {S : List Nat} (h : PBox b v w) (hm : Mods S w w') (hb : b ∉ S) : PBox b v w' := (hm.block b (Array.getElem?_eq_some_iff.1 h).1 hb).trans h
theorem PBox.lt {b : Nat} {v : Value} {w : World} (h : PBox b v w) : b < w.heap.size := (Array.getElem?_eq_some_iff.1 h).1
theorem PBox.frozen {b : Nat} {v : Value} {w : World} (h : PBox b v w) : w.frozen? ⟨b, 0, none⟩ = false := by unfold PBox at h; simp [World.frozen?, h]
theorem PBox.other {b : Nat} {v : Value} {w : World} (h : PBox b v w) : OtherBlock w b := ⟨27, ⟨_, _, h⟩, by decide, by decide⟩
theorem PBox.grownFP {W wf : World} {row : Option Nat} {b : Nat} {v : Value} (hg : W.grownBy wf row) (h : PBox b v W) (hr : ∀ k, row = some k → BlockOf W 47 k) : PBox b v wf := by
  refine (hg.block b h.lt fun e => ?_).trans h
  have h3 : BlockOf W 27 b := ⟨_, _, h⟩
  exact absurd ((hr b e.symm).ne h3) (by decide)
/-- a function's profile as a variable -/
def FBox (b : Nat) (c : Int) (J F A : Value) (w : World) : Prop := w.heap[b]? = some (.cells #[.int .i64 c, J, F, A] 47 (0, 0))
theorem FBox.cells {b : Nat} {c : Int} {J F A : Value} {w : World} (h : FBox b c J F A w) :
    w.cell? ⟨b, 0, none⟩ = some (.int .i64 c) ∧ w.cell? ⟨b, 1, none⟩ = some J ∧ w.cell? ⟨b, 2, none⟩ = some F ∧ w.cell? ⟨b, 3, none⟩ = some A ∧ w.frozen? ⟨b, 0, none⟩ = false ∧ w.frozen? ⟨b, 1, none⟩ = false ∧ w.frozen? ⟨b, 2, none⟩ = false ∧ w.frozen? ⟨b, 3, none⟩ = false := by
  unfold FBox at h
  simp [World.cell?, World.frozen?, h]
theorem FBox.keep {b : Nat} {c : Int} {J F A : Value} {w w' : World} {S : List Nat} (h : FBox b c J F A w) (hm : Mods S w w') (hb : b ∉ S) : FBox b c J F A w' := (hm.block b (Array.getElem?_eq_some_iff.1 h).1 hb).trans h
theorem FBox.setJ {b : Nat} {c : Int} {J F A : Value} {w : World} (h : FBox b c J F A w) (u : Value) : FBox b c u F A (w.setCell ⟨b, 1, none⟩ u) := by unfold FBox at *; rw [heap_setCell_at h u]; rfl
theorem FBox.setF {b : Nat} {c : Int} {J F A : Value} {w : World} (h : FBox b c J F A w) (u : Value) : FBox b c J u A (w.setCell ⟨b, 2, none⟩ u) := by unfold FBox at *; rw [heap_setCell_at h u]; rfl
theorem FBox.setA {b : Nat} {c : Int} {J F A : Value} {w : World} (h : FBox b c J F A w) (u : Value) : FBox b c J F u (w.setCell ⟨b, 3, none⟩ u) := by unfold FBox at *; rw [heap_setCell_at h u]; rfl
theorem FBox.blockOf {b : Nat} {c : Int} {J F A : Value} {w : World} (h : FBox b c J F A w) : BlockOf w 47 b := ⟨_, _, h⟩
theorem FBox.lt {b : Nat} {c : Int} {J F A : Value} {w : World} (h : FBox b c J F A w) : b < w.heap.size := (Array.getElem?_eq_some_iff.1 h).1
/-- append(rows) to a new empty row: what came of it. -/
theorem grown_new {w w' : World} {e sz n : Nat} {v' : Value} {news : List Value} (h : Own w' e sz v' (0 + n) ([] ++ news)) (hg : (w.alloc (.cells #[] e)).grownBy w' (Value.slice (some ⟨w.heap.size, 0, none⟩) 0 0).ownBlock)
    (ha : v'.ownBlock = (Value.slice (some ⟨w.heap.size, 0, none⟩) 0 0).ownBlock ∨ v'.ownBlock = some (w.alloc (.cells #[] e)).heap.size) : OwnF w.heap.size w' e sz v' n news ∧ Mods [] w w' := by
  obtain ⟨v2, he, h2, x, hx⟩ := CopyPost.mk h hg ha
  cases he
  exact ⟨h2, hx ▸ mod_mods _ _ _⟩
theorem fv_cellsAt {w : World} {g : Nat} {x : FV} (h : w.heap[g]? = some (.cells x.cells.toArray 47 (0, 0))) : CellsAt w (some ⟨g, 0, none⟩) 1 4 x.cells :=
  ⟨rfl, fun i u hu => ⟨g, 0, rfl, by simpa [World.cell?, h] using hu⟩⟩
theorem one_fv {x : FV} {A1 A2 A3 : Option Addr} {n1 n2 n3 c1 c2 c3 : Nat} (h1 : x.j = .slice A1 n1 c1) (h2 : x.f = .slice A2 n2 c2) (h3 : x.a = .slice A3 n3 c3) : ∀ u ∈ x.cells, u.oneCell' = true := fun u hu => by
  simp only [FV.cells, List.mem_cons, List.not_mem_nil, or_false] at hu
  rcases hu with rfl | rfl | rfl | rfl
  · rfl
  · rw [h1]; rfl
  · rw [h2]; rfl
  · rw [h3]; rfl
theorem fvV_snoc (fs : List FV) (x : FV) : fvV (fs ++ [x]) = fvV fs ++ x.cells := by simp [fvV]
/-- How large a profile may be. -/
structure PFits (rs : List FunP) : Prop where
  n : rs.length * 80 ≤ 140737488355328
  each : ∀ (i : Nat) (x : FunP), rs[i]? = some x → x.jumps.length * 8 ≤ 140737488355328 ∧ x.falls.length * 8 ≤ 140737488355328 ∧ x.args.length * 24 ≤ 140737488355328
def CopyProfPost (w : World) (rs : List FunP) (E : Ending) (w' : World) : Prop := ∃ v', E = .returned (.agg #[v']) ∧ ProfO w.heap.size w' v' rs ∧ ∃ x, w' = w.ext x
/-- the copying loop at k: the copies so far, in variable ob -/
def CRel (w : World) (bx rb ob : Nat) (src : Value) (rs : List FunP) (k : Nat) (wr : World) : Prop :=
  ∃ v fs, PBox bx src wr ∧ PBox rb (.slice none 0 0) wr ∧ PBox ob v wr ∧ OwnF w.heap.size wr 47 4 v k (fvV fs) ∧ FreshFs w.heap.size wr fs (rs.take k) ∧ Mods [] w wr
theorem CRel.step {w : World} {bx rb ob k : Nat} {src v v' : Value} {rs : List FunP} {fs : List FV} {wr wd wf : World} {fv : FV} {x : FunP} {S : List Nat} {gb : Nat}
    (hx : rs[k]? = some x) (hbx : PBox bx src wr) (hrb : PBox rb (.slice none 0 0) wr) (hob : PBox ob v wr) (ho : OwnF w.heap.size wr 47 4 v k (fvV fs)) (hf : FreshFs w.heap.size wr fs (rs.take k)) (hw : Mods [] w wr)
    (hne : bx ≠ ob ∧ rb ≠ ob) (hob0 : w.heap.size ≤ ob) (hn : FVO wr.heap.size wd fv x) (hm : Mods S wr wd) (hS : ∀ b ∈ S, wr.heap.size ≤ b)
    (hown : Own wf 47 4 v' (k + 1) (fvV fs ++ fv.cells)) (hg : (wd.alloc (.cells fv.cells.toArray 47)).grownBy wf v.ownBlock) (ha : v'.ownBlock = v.ownBlock ∨ v'.ownBlock = some gb) (hgb : wd.heap.size ≤ gb) :
    CRel w bx rb ob src rs (k + 1) (wf.setCell ⟨ob, 0, none⟩ v') := by
  have hws : w.heap.size ≤ wr.heap.size := hw.size
  have hm0 : Mods [] wr wd := hm.new hS
  have hme : Mods [] wr (wd.alloc (.cells fv.cells.toArray 47)) := hm0.alloc _
  have hv : ∀ b, v.ownBlock = some b → BlockOf wr 47 b := fun b hb => ho.1.blockOf hb
  have hmf : Mods v.ownBlock.toList wr wf := (hme.nil).grown hg fun b hb _ => by simp [hb.symm]
  have hdf : Mods v.ownBlock.toList wd wf := (((Mods.refl [] wd).alloc _).nil).grown hg fun b hb _ => by simp [hb.symm]
  have notv : ∀ (b : Nat) (u : Value), PBox b u wr → b ∉ v.ownBlock.toList := fun b u hb hs => by
    have h1 := hv b (by simpa using hs)
    obtain ⟨e, h2, _, _⟩ := hb.other
    have h3 : BlockOf wr 27 b := ⟨_, _, hb⟩
    exact absurd (h1.ne h3) (by decide)
  have hset : Mods [ob] wf (wf.setCell ⟨ob, 0, none⟩ v') := (Mods.refl _ _).setCell (by simp) _
  have hob' := hob.keep hmf (notv ob v hob)
  have htk : rs.take (k + 1) = rs.take k ++ [x] := by rw [List.take_add_one, hx]; rfl
  have hown' : OwnF w.heap.size wf 47 4 v' (k + 1) (fvV (fs ++ [fv])) := ⟨by rw [fvV_snoc]; exact hown, fun b hb => by
    rcases ha with e | e
    · exact ho.2 b (e ▸ hb)
    · rw [e] at hb
      have := Option.some.inj hb
      have := hm0.size
      omega⟩
  refine ⟨v', fs ++ [fv], (hbx.keep hmf (notv bx _ hbx)).keep hset (by simpa using hne.1), (hrb.keep hmf (notv rb _ hrb)).keep hset (by simpa using hne.2), hob'.set v', ?_, ?_, ?_⟩
  · refine hown'.mods hset fun b hb hs => ?_
    obtain rfl := List.mem_singleton.1 hs
    have h3 : BlockOf wf 27 b := ⟨_, _, hob'⟩
    exact absurd ((hown'.1.blockOf hb).ne h3) (by decide)
  · rw [htk]
    have h1 := hf.snoc hm0 hn hws
    have h2 : FreshFs w.heap.size wf (fs ++ [fv]) (rs.take k ++ [x]) := h1.others hdf fun b hb => by
      have hb' : v.ownBlock = some b := by simpa using hb
      have h4 := (hv b hb').mods hm0 (by simp)
      exact ⟨47, h4, by decide, by decide⟩
    exact h2.others hset fun b hb => by
      obtain rfl := List.mem_singleton.1 hb
      exact hob'.other
  · have h1 : Mods (ob :: v.ownBlock.toList) w wf := (hw.nil (S := ob :: v.ownBlock.toList)).trans (hmf.mono fun b hb => List.mem_cons_of_mem _ hb)
    exact (h1.setCell (fun _ => by simp) v').new fun b hb => by
      rcases List.mem_cons.1 hb with rfl | hb
      · exact hob0
      · exact ho.2 b (by simpa using hb)
theorem fvo_mk {wr wa wb wc : World} {fb : Nat} {F0 : Obj} {x : FunP} {v1 v2 v3 u1 u2 u3 : Value} (hfb : fb = wr.heap.size) (h1 : OwnF (wr.alloc F0).heap.size wa 3 1 v1 x.jumps.length (intV x.jumps)) (hM1 : Mods [] (wr.alloc F0) wa)
    (h2 : OwnF (wa.setCell ⟨fb, 1, none⟩ u1).heap.size wb 3 1 v2 x.falls.length (intV x.falls)) (hM2 : Mods [] (wa.setCell ⟨fb, 1, none⟩ u1) wb) (h3 : OwnF (wb.setCell ⟨fb, 2, none⟩ u2).heap.size wc 62 3 v3 x.args.length (argV x.args)) (hM3 : Mods [] (wb.setCell ⟨fb, 2, none⟩ u2) wc) :
    FVO wr.heap.size (wc.setCell ⟨fb, 3, none⟩ u3) ⟨x.calls, v1, v2, v3⟩ x := by
  subst hfb
  have s1 := hM1.size
  have s2 := hM2.size
  have s3 := hM3.size
  simp [World.setCell] at s1 s2 s3
  have b1 : ∀ k, v1.ownBlock = some k → wr.heap.size + 1 ≤ k := fun k hk => by have := h1.2 k hk; simpa using this
  have b2 : ∀ k, v2.ownBlock = some k → wa.heap.size ≤ k := fun k hk => by have := h2.2 k hk; simpa [World.setCell] using this
  have b3 : ∀ k, v3.ownBlock = some k → wb.heap.size ≤ k := fun k hk => by have := h3.2 k hk; simpa [World.setCell] using this
  have c3 : Mods [wr.heap.size] wc (wc.setCell ⟨wr.heap.size, 3, none⟩ u3) := (Mods.refl _ _).setCell (fun _ => by simp) _
  have c2 : Mods [wr.heap.size] wb (wc.setCell ⟨wr.heap.size, 3, none⟩ u3) := (((Mods.refl [wr.heap.size] wb).setCell (fun _ => by simp) u2).trans hM3.nil).trans c3
  have c1 : Mods [wr.heap.size] wa (wc.setCell ⟨wr.heap.size, 3, none⟩ u3) := (((Mods.refl [wr.heap.size] wa).setCell (fun _ => by simp) u1).trans hM2.nil).trans c2
  refine ⟨rfl, (h1.low (by simp)).mods c1 fun k hk hs => ?_, (h2.low (by simp [World.setCell]; omega)).mods c2 fun k hk hs => ?_, (h3.low (by simp [World.setCell]; omega)).mods c3 fun k hk hs => ?_, fun k hk hk' => ?_⟩
  · have := b1 k hk; have := List.mem_singleton.1 hs; omega
  · have := b2 k hk; have := List.mem_singleton.1 hs; omega
  · have := b3 k hk; have := List.mem_singleton.1 hs; omega
  · have := h1.1.lt hk; have := b2 k hk'; omega
end Go.Proofs.YtjpgcokdlopkaaaGreatDoor
