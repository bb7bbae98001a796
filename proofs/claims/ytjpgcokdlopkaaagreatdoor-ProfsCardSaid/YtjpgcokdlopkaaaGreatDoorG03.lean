/- Lemmas for a claim of the seat YtjpgcokdlopkaaaGreatDoor. Written in part by programs of the claim's repo. By an AI agent. -/
import Derived.Test.YtjpgcokdlopkaaaGreatDoorG02
import Derived.Test.YtjpgcokdlopkaaaGreatDoorG01
import Derived.Lib.SliceRun

namespace Go.Proofs.YtjpgcokdlopkaaaGreatDoor
open Go.RowKit

theorem zero_i64 (w : World) : (zeroValue 3).run Tryz.prog w = .ok (.int .i64 0) w := by kernel_rfl
theorem clr1 (W : World) (g o c : Nat) (h : (W.cell? ⟨g, o, none⟩).isSome = true) (hf : W.frozen? ⟨g, o, none⟩ = false) :
    (Builtin.clear_ #[28] 0 #[.slice (some ⟨g, o, none⟩) 1 c]).run Tryz.prog W = .ok (.tuple #[]) (W.setCell ⟨g, o, none⟩ (.int .i64 0)) := by
  have one : ∀ {p : Nat → Prop}, p o → ∀ j, j < 1 → p (o + j) := fun a j hj => by
    obtain rfl : j = 0 := by omega
    exact a
  rw [Lib.run_clear_slice W 28 3 0 (.int .i64 0) Tryz.underlying28 zero_i64 rfl rfl g o 1 c (by omega) (one (p := fun j => (W.cell? ⟨g, j, none⟩).isSome = true) h) (one (p := fun j => W.frozen? ⟨g, j, none⟩ = false) hf)]
  rfl
theorem clr2 (W : World) (g c : Nat) (h : (W.cell? ⟨g, 0, none⟩).isSome = true) (h1 : (W.cell? ⟨g, 1, none⟩).isSome = true) (hf : W.frozen? ⟨g, 0, none⟩ = false) (hf1 : W.frozen? ⟨g, 1, none⟩ = false) :
    (Builtin.clear_ #[28] 0 #[.slice (some ⟨g, 0, none⟩) 2 c]).run Tryz.prog W = .ok (.tuple #[]) ((W.setCell ⟨g, 0, none⟩ (.int .i64 0)).setCell ⟨g, 1, none⟩ (.int .i64 0)) := by
  have two : ∀ {p : Nat → Prop}, p 0 → p 1 → ∀ j, j < 2 → p j := fun a b j hj => by
    rcases (by omega : j = 0 ∨ j = 1) with rfl | rfl
    · exact a
    · exact b
  rw [Lib.run_clear_slice W 28 3 0 (.int .i64 0) Tryz.underlying28 zero_i64 rfl rfl g 0 2 c (by omega) (by simpa using two (p := fun j => (W.cell? ⟨g, j, none⟩).isSome = true) h h1) (by simpa using two (p := fun j => W.frozen? ⟨g, j, none⟩ = false) hf hf1)]
  rfl
theorem ints1 {w : World} {g c : Nat} {x : Int} (h : w.cell? ⟨g, 0, none⟩ = some (.int .i64 x)) (hc : 1 ≤ c) (hc2 : c ≤ 2) : Ints w (.slice (some ⟨g, 0, none⟩) 1 c) [x] :=
  ⟨c, by simpa using hc, by omega, .inr ⟨g, 0, rfl, fun i y hy => by
    obtain ⟨hi, rfl⟩ := List.getElem?_eq_some_iff.1 hy
    have : i = 0 := by simpa using hi
    subst this; exact h⟩⟩
theorem ints0 {w : World} {A : Option Addr} {c : Nat} (hc : c ≤ 2) : Ints w (.slice A 0 c) [] := ⟨c, by simp, by omega, .inl ⟨rfl, A, rfl⟩⟩
theorem ints2 {w : World} {g : Nat} {x y : Int} (h : w.cell? ⟨g, 0, none⟩ = some (.int .i64 x)) (h2 : w.cell? ⟨g, 1, none⟩ = some (.int .i64 y)) : Ints w (.slice (some ⟨g, 0, none⟩) 2 2) [x, y] :=
  ⟨2, by simp, by omega, .inr ⟨g, 0, rfl, fun i z hz => by
    obtain ⟨hi, rfl⟩ := List.getElem?_eq_some_iff.1 hz
    have : i = 0 ∨ i = 1 := by simp at hi; omega
    rcases this with rfl | rfl
    · exact h
    · exact h2⟩⟩
theorem fints1 {w : World} {B g c : Nat} {x : Int} (h : w.cell? ⟨g, 0, none⟩ = some (.int .i64 x)) (hc : 1 ≤ c) (hc2 : c ≤ 2) (hB : B ≤ g) : SlF B 1 intR w (.slice (some ⟨g, 0, none⟩) 1 c) [x] :=
  ⟨c, by simpa using hc, by omega, .inr ⟨g, 0, hB, rfl, fun i y hy => by
    obtain ⟨hi, rfl⟩ := List.getElem?_eq_some_iff.1 hy
    have : i = 0 := by simpa using hi
    subst this; exact h⟩⟩
theorem fints0 {w : World} {B : Nat} {A : Option Addr} {c : Nat} (hc : c ≤ 2) : SlF B 1 intR w (.slice A 0 c) [] := ⟨c, by simp, by omega, .inl ⟨rfl, A, rfl⟩⟩
theorem fints2 {w : World} {B g : Nat} {x y : Int} (h : w.cell? ⟨g, 0, none⟩ = some (.int .i64 x)) (h2 : w.cell? ⟨g, 1, none⟩ = some (.int .i64 y)) (hB : B ≤ g) : SlF B 1 intR w (.slice (some ⟨g, 0, none⟩) 2 2) [x, y] :=
  ⟨2, by simp, by omega, .inr ⟨g, 0, hB, rfl, fun i z hz => by
    obtain ⟨hi, rfl⟩ := List.getElem?_eq_some_iff.1 hz
    have : i = 0 ∨ i = 1 := by simp at hi; omega
    rcases this with rfl | rfl
    · exact h
    · exact h2⟩⟩
/-- block g's cells are these, none of them frozen -/
def Cells1 (w : World) (g : Nat) (x : Int) : Prop := w.cell? ⟨g, 0, none⟩ = some (.int .i64 x) ∧ w.frozen? ⟨g, 0, none⟩ = false
def Cells2 (w : World) (g : Nat) (x y : Int) : Prop := w.cell? ⟨g, 0, none⟩ = some (.int .i64 x) ∧ w.cell? ⟨g, 1, none⟩ = some (.int .i64 y) ∧ w.frozen? ⟨g, 0, none⟩ = false ∧ w.frozen? ⟨g, 1, none⟩ = false

set_option maxHeartbeats 1000000 in
set_option maxRecDepth 100000 in
theorem del1_k (x : Int) (q n g : Nat) (w : World) (h : NoneAt w q n) (hx : Cells1 w g x) (lx : x < n) : Calls Tryz.prog 83 #[.slice (some ⟨g, 0, none⟩) 1 1, nf q] w fun e w' => e = .returned (.slice (some ⟨g, 0, none⟩) 1 1) ∧ Cells1 w' g x ∧ ∃ z, w' = w.mod [g] z := by
  have dx : decide ((n : Int) ≤ x) = false := by simp; omega
  have hi : idxFrom (fun y => decide ((n : Int) ≤ y)) [x] 0 = -1 := by simp [idxFrom]; omega
  obtain ⟨c0, f0⟩ := hx
  have clr := clr1
  have clrr := clr2
  go_enter Tryz.func83, Tryz.ntmps83
  go_wp2_with (go_at_call 65; refine (idxIntN_calls _ [x] _ (ints1 c0 (by omega) (by omega)) _ _ h).mono ?_; rintro e w' ⟨rfl, z, rfl⟩)
  go_ret
  exact ⟨rfl, ⟨by go_simp, by go_simp⟩, Mods.ex (by repeat (first | exact Mods.refl _ _ | refine Mods.ext ?_ _ | refine Mods.setCell ?_ (by simp) _))⟩

set_option maxHeartbeats 1000000 in
set_option maxRecDepth 100000 in
theorem del1_d (x : Int) (q n g : Nat) (w : World) (h : NoneAt w q n) (hx : Cells1 w g x) (lx : n ≤ x) : Calls Tryz.prog 83 #[.slice (some ⟨g, 0, none⟩) 1 1, nf q] w fun e w' => e = .returned (.slice (some ⟨g, 0, none⟩) 0 1) ∧ ∃ z, w' = w.mod [g] z := by
  have dx : decide ((n : Int) ≤ x) = true := by simp; omega
  have hi : idxFrom (fun y => decide ((n : Int) ≤ y)) [x] 0 = 0 := by simp [idxFrom]; omega
  obtain ⟨c0, f0⟩ := hx
  have clr := clr1
  have clrr := clr2
  go_enter Tryz.func83, Tryz.ntmps83
  go_wp2_with (go_at_call 65; refine (idxIntN_calls _ [x] _ (ints1 c0 (by omega) (by omega)) _ _ h).mono ?_; rintro e w' ⟨rfl, z, rfl⟩)
  refine wp_loop_rounds 1 ?_
  rw [rounds_succ]
  go_wp2_with (go_at_call 81; refine (next1_calls _ _ _ _ (h.ext (by repeat (first | exact Mods.refl _ _ | refine Mods.alloc ?_ _ | refine Mods.ext ?_ _ | refine Mods.drew ?_ | refine Mods.drewN ?_ _)))).mono ?_; rintro e w' ⟨rfl, z2, rfl⟩)
  go_ret
  exact ⟨rfl, Mods.ex (by repeat (first | exact Mods.refl _ _ | refine Mods.ext ?_ _ | refine Mods.setCell ?_ (by simp) _))⟩

set_option maxHeartbeats 1000000 in
set_option maxRecDepth 100000 in
theorem del2_kk (x y : Int) (q n g : Nat) (w : World) (h : NoneAt w q n) (hx : Cells2 w g x y) (lx : x < n) (ly : y < n) : Calls Tryz.prog 83 #[.slice (some ⟨g, 0, none⟩) 2 2, nf q] w fun e w' => e = .returned (.slice (some ⟨g, 0, none⟩) 2 2) ∧ Cells2 w' g x y ∧ ∃ z, w' = w.mod [g] z := by
  have dx : decide ((n : Int) ≤ x) = false := by simp; omega
  have dy : decide ((n : Int) ≤ y) = false := by simp; omega
  have hi : idxFrom (fun y => decide ((n : Int) ≤ y)) [x, y] 0 = -1 := by simp [idxFrom]; omega
  obtain ⟨c0, c1, f0, f1⟩ := hx
  have clr := clr1
  have clrr := clr2
  go_enter Tryz.func83, Tryz.ntmps83
  go_wp2_with (go_at_call 65; refine (idxIntN_calls _ [x, y] _ (ints2 c0 c1) _ _ h).mono ?_; rintro e w' ⟨rfl, z, rfl⟩)
  go_ret
  exact ⟨rfl, ⟨by go_simp, by go_simp, by go_simp, by go_simp⟩, Mods.ex (by repeat (first | exact Mods.refl _ _ | refine Mods.ext ?_ _ | refine Mods.setCell ?_ (by simp) _))⟩

set_option maxHeartbeats 1000000 in
set_option maxRecDepth 100000 in
theorem del2_kd (x y : Int) (q n g : Nat) (w : World) (h : NoneAt w q n) (hx : Cells2 w g x y) (lx : x < n) (ly : n ≤ y) : Calls Tryz.prog 83 #[.slice (some ⟨g, 0, none⟩) 2 2, nf q] w fun e w' => e = .returned (.slice (some ⟨g, 0, none⟩) 1 2) ∧ w'.cell? ⟨g, 0, none⟩ = some (.int .i64 x) ∧ ∃ z, w' = w.mod [g] z := by
  have dx : decide ((n : Int) ≤ x) = false := by simp; omega
  have dy : decide ((n : Int) ≤ y) = true := by simp; omega
  have hi : idxFrom (fun y => decide ((n : Int) ≤ y)) [x, y] 0 = 1 := by simp [idxFrom]; omega
  obtain ⟨c0, c1, f0, f1⟩ := hx
  have clr := clr1
  have clrr := clr2
  go_enter Tryz.func83, Tryz.ntmps83
  go_wp2_with (go_at_call 65; refine (idxIntN_calls _ [x, y] _ (ints2 c0 c1) _ _ h).mono ?_; rintro e w' ⟨rfl, z, rfl⟩)
  refine wp_loop_rounds 1 ?_
  rw [rounds_succ]
  go_wp2_with (go_at_call 81; refine (next1_calls _ _ _ _ (h.ext (by repeat (first | exact Mods.refl _ _ | refine Mods.alloc ?_ _ | refine Mods.ext ?_ _ | refine Mods.drew ?_ | refine Mods.drewN ?_ _)))).mono ?_; rintro e w' ⟨rfl, z2, rfl⟩)
  go_ret
  exact ⟨rfl, by go_simp, Mods.ex (by repeat (first | exact Mods.refl _ _ | refine Mods.ext ?_ _ | refine Mods.setCell ?_ (by simp) _))⟩

set_option maxHeartbeats 1000000 in
set_option maxRecDepth 100000 in
theorem del2_dk (x y : Int) (q n g : Nat) (w : World) (h : NoneAt w q n) (hx : Cells2 w g x y) (lx : n ≤ x) (ly : y < n) : Calls Tryz.prog 83 #[.slice (some ⟨g, 0, none⟩) 2 2, nf q] w fun e w' => e = .returned (.slice (some ⟨g, 0, none⟩) 1 2) ∧ w'.cell? ⟨g, 0, none⟩ = some (.int .i64 y) ∧ ∃ z, w' = w.mod [g] z := by
  have dx : decide ((n : Int) ≤ x) = true := by simp; omega
  have dy : decide ((n : Int) ≤ y) = false := by simp; omega
  have hi : idxFrom (fun y => decide ((n : Int) ≤ y)) [x, y] 0 = 0 := by simp [idxFrom]; omega
  obtain ⟨c0, c1, f0, f1⟩ := hx
  have clr := clr1
  have clrr := clr2
  go_enter Tryz.func83, Tryz.ntmps83
  go_wp2_with (go_at_call 65; refine (idxIntN_calls _ [x, y] _ (ints2 c0 c1) _ _ h).mono ?_; rintro e w' ⟨rfl, z, rfl⟩)
  refine wp_loop_rounds 2 ?_
  rw [rounds_succ]
  go_wp2_with (go_at_call 81; refine (next1_calls _ _ _ _ (h.ext (by repeat (first | exact Mods.refl _ _ | refine Mods.alloc ?_ _ | refine Mods.ext ?_ _ | refine Mods.drew ?_ | refine Mods.drewN ?_ _)))).mono ?_; rintro e w' ⟨rfl, z2, rfl⟩)
  rw [rounds_succ]
  go_wp2
  go_ret
  exact ⟨rfl, by go_simp, Mods.ex (by repeat (first | exact Mods.refl _ _ | refine Mods.ext ?_ _ | refine Mods.setCell ?_ (by simp) _))⟩

set_option maxHeartbeats 1000000 in
set_option maxRecDepth 100000 in
theorem del2_dd (x y : Int) (q n g : Nat) (w : World) (h : NoneAt w q n) (hx : Cells2 w g x y) (lx : n ≤ x) (ly : n ≤ y) : Calls Tryz.prog 83 #[.slice (some ⟨g, 0, none⟩) 2 2, nf q] w fun e w' => e = .returned (.slice (some ⟨g, 0, none⟩) 0 2) ∧ ∃ z, w' = w.mod [g] z := by
  have dx : decide ((n : Int) ≤ x) = true := by simp; omega
  have dy : decide ((n : Int) ≤ y) = true := by simp; omega
  have hi : idxFrom (fun y => decide ((n : Int) ≤ y)) [x, y] 0 = 0 := by simp [idxFrom]; omega
  obtain ⟨c0, c1, f0, f1⟩ := hx
  have clr := clr1
  have clrr := clr2
  go_enter Tryz.func83, Tryz.ntmps83
  go_wp2_with (go_at_call 65; refine (idxIntN_calls _ [x, y] _ (ints2 c0 c1) _ _ h).mono ?_; rintro e w' ⟨rfl, z, rfl⟩)
  refine wp_loop_rounds 2 ?_
  rw [rounds_succ]
  go_wp2_with (go_at_call 81; refine (next1_calls _ _ _ _ (h.ext (by repeat (first | exact Mods.refl _ _ | refine Mods.alloc ?_ _ | refine Mods.ext ?_ _ | refine Mods.drew ?_ | refine Mods.drewN ?_ _)))).mono ?_; rintro e w' ⟨rfl, z2, rfl⟩)
  rw [rounds_succ]
  go_wp2
  go_ret
  exact ⟨rfl, Mods.ex (by repeat (first | exact Mods.refl _ _ | refine Mods.ext ?_ _ | refine Mods.setCell ?_ (by simp) _))⟩

set_option maxHeartbeats 1000000 in
theorem com1_calls (A : Option Addr) (n c : Nat) (w : World) (hn : n < 2) : Calls Tryz.prog 82 #[.slice A n c] w fun e w' => e = .returned (.slice A n c) ∧ w' = w := by
  go_enter Tryz.func82, Tryz.ntmps82
  go_wp2
  go_ret
  exact ⟨rfl, rfl⟩
set_option maxHeartbeats 1000000 in
set_option maxRecDepth 100000 in
theorem com2_eq (x : Int) (g : Nat) (w : World) (hx : Cells2 w g x x) : Calls Tryz.prog 82 #[.slice (some ⟨g, 0, none⟩) 2 2] w fun e w' => e = .returned (.slice (some ⟨g, 0, none⟩) 1 2) ∧ w'.cell? ⟨g, 0, none⟩ = some (.int .i64 x) ∧ ∃ z, w' = w.mod [g] z := by
  obtain ⟨c0, c1, f0, f1⟩ := hx
  have clr := clr1
  go_enter Tryz.func82, Tryz.ntmps82
  go_wp2
  refine wp_loop_rounds 1 ?_
  rw [rounds_succ]
  go_wp2
  go_quiet (fail)
  go_wp2
  refine wp_loop_rounds 1 ?_
  rw [rounds_succ]
  go_wp2
  go_ret
  exact ⟨rfl, by go_simp, Mods.ex (by repeat (first | exact Mods.refl _ _ | refine Mods.drewN ?_ _ | refine Mods.drew ?_ | refine Mods.setCell ?_ (by simp) _))⟩
set_option maxHeartbeats 1000000 in
set_option maxRecDepth 100000 in
theorem com2_ne (x y : Int) (g : Nat) (w : World) (hx : Cells2 w g x y) (hne : (y == x) = false) : Calls Tryz.prog 82 #[.slice (some ⟨g, 0, none⟩) 2 2] w fun e w' => e = .returned (.slice (some ⟨g, 0, none⟩) 2 2) ∧ w'.cell? ⟨g, 0, none⟩ = some (.int .i64 x) ∧ w'.cell? ⟨g, 1, none⟩ = some (.int .i64 y) ∧ ∃ z, w' = w.mod [g] z := by
  obtain ⟨c0, c1, f0, f1⟩ := hx
  go_enter Tryz.func82, Tryz.ntmps82
  go_wp2
  refine wp_loop_rounds 2 ?_
  rw [rounds_succ]
  go_wp2
  go_quiet (fail)
  go_wp2
  rw [rounds_succ]
  go_wp2
  go_ret
  exact ⟨rfl, by go_simp, by go_simp, Mods.ex (by repeat (first | exact Mods.refl _ _ | refine Mods.drewN ?_ _ | refine Mods.drew ?_ | refine Mods.setCell ?_ (by simp) _))⟩
end Go.Proofs.YtjpgcokdlopkaaaGreatDoor


namespace Go.Proofs.YtjpgcokdlopkaaaGreatDoor
open Go.RowKit
/-- the memory of a function's code, and its instruction at pc -/
structure At (w : World) (f1 f2 : Nat) (n : Nat) (pc : Nat) (k a : Int) : Prop where
  mk :: (out : ∃ b o c, w.cell? ⟨f1, f2 + 2, none⟩ = some (.slice (some ⟨b, o, none⟩) n c) ∧ pc < n ∧ n ≤ 64 ∧ n ≤ c ∧ c ≤ 9223372036854775807 ∧ w.cell? ⟨b, o + pc * 2, none⟩ = some (.int .i64 k) ∧ w.cell? ⟨b, o + pc * 2 + 1, none⟩ = some (.int .i64 a))

set_option maxHeartbeats 1000000 in
set_option maxRecDepth 100000 in
theorem next_ret (f1 f2 : Nat) (pc : Nat) (b o n c : Nat) (a : Int) (w : World) (hF : w.cell? ⟨f1, f2 + 2, none⟩ = some (.slice (some ⟨b, o, none⟩) n c)) (hpc : pc < n)
    (h1 : w.cell? ⟨b, o + pc * 2, none⟩ = some (.int .i64 16)) (h2 : w.cell? ⟨b, o + pc * 2 + 1, none⟩ = some (.int .i64 a)) :
    Calls Tryz.prog 71 #[.pointer (some ⟨f1, f2, none⟩), .int .i64 pc] w fun e w' => e = .returned (.slice none 0 0) ∧ ∃ x, w' = w.ext x := by
  go_enter Tryz.func71, Tryz.ntmps71
  go_wp2
  refine wp_loop_rounds 1 ?_
  rw [rounds_succ]
  go_wp2
  go_ret
  exact ⟨rfl, Mods.ex (by repeat (first | exact Mods.refl _ _ | refine Mods.alloc ?_ _ | refine Mods.ext ?_ _ | refine Mods.drew ?_ | refine Mods.drewN ?_ _))⟩

set_option maxHeartbeats 1000000 in
set_option maxRecDepth 100000 in
theorem next_jump_k (f1 f2 n pc : Nat) (k a : Int) (w : World) (h : At w f1 f2 n pc k a) (hk : k = 12) (hj : a < n) :
    Calls Tryz.prog 71 #[.pointer (some ⟨f1, f2, none⟩), .int .i64 pc] w fun e w' => ∃ v, e = .returned v ∧ SlF w.heap.size 1 intR w' v (nextF k a pc n) ∧ ∃ x, w' = w.ext x := by
  obtain ⟨b, o, c, hF, hpc, hn, hc, hc2, h1, h2⟩ := h
  subst hk
  have HR : Hid (nextF 12 a pc n = [a]) := by unfold Hid nextF; simp; omega
  go_enter Tryz.func71, Tryz.ntmps71
  go_wp2_with (first | (go_at_call 83; refine (del1_k a _ n _ _ ⟨f1, f2, some ⟨b, o, none⟩, c, by go_simp, by go_simp⟩ ⟨by go_simp, by go_simp⟩ hj).mono ?_; rintro e w' ⟨rfl, hcs, z, hz⟩; have HZ := Lib.hid hz; clear hz; obtain ⟨hd0, hd1⟩ := hcs) | (go_at_call 82; refine (com1_calls _ _ _ _ (by omega)).mono ?_; rintro e w' ⟨rfl, rfl⟩))
  go_ret
  exact ⟨_, rfl, by rw [HR.out]; exact fints1 hd0 (by omega) (by omega) (by omega), Mods.ex (by rw [HZ.out]; repeat (first | exact Mods.refl _ _ | refine Mods.alloc ?_ _ | refine Mods.ext ?_ _ | refine Mods.drew ?_ | refine Mods.drewN ?_ _ | refine Mods.mod ?_ (by simp; try omega) _))⟩

set_option maxHeartbeats 1000000 in
set_option maxRecDepth 100000 in
theorem next_jump_d (f1 f2 n pc : Nat) (k a : Int) (w : World) (h : At w f1 f2 n pc k a) (hk : k = 12) (hj : n ≤ a) :
    Calls Tryz.prog 71 #[.pointer (some ⟨f1, f2, none⟩), .int .i64 pc] w fun e w' => ∃ v, e = .returned v ∧ SlF w.heap.size 1 intR w' v (nextF k a pc n) ∧ ∃ x, w' = w.ext x := by
  obtain ⟨b, o, c, hF, hpc, hn, hc, hc2, h1, h2⟩ := h
  subst hk
  have HR : Hid (nextF 12 a pc n = []) := by unfold Hid nextF; simp; omega
  go_enter Tryz.func71, Tryz.ntmps71
  go_wp2_with (first | (go_at_call 83; refine (del1_d a _ n _ _ ⟨f1, f2, some ⟨b, o, none⟩, c, by go_simp, by go_simp⟩ ⟨by go_simp, by go_simp⟩ hj).mono ?_; rintro e w' ⟨rfl, z, hz⟩; have HZ := Lib.hid hz; clear hz) | (go_at_call 82; refine (com1_calls _ _ _ _ (by omega)).mono ?_; rintro e w' ⟨rfl, rfl⟩))
  go_ret
  exact ⟨_, rfl, by rw [HR.out]; exact fints0 (by omega), Mods.ex (by rw [HZ.out]; repeat (first | exact Mods.refl _ _ | refine Mods.alloc ?_ _ | refine Mods.ext ?_ _ | refine Mods.drew ?_ | refine Mods.drewN ?_ _ | refine Mods.mod ?_ (by simp; try omega) _))⟩

set_option maxHeartbeats 1000000 in
set_option maxRecDepth 100000 in
theorem next_other_k (f1 f2 n pc : Nat) (k a : Int) (w : World) (h : At w f1 f2 n pc k a) (hk : k ≠ 16 ∧ k ≠ 12 ∧ k ≠ 13) (hj : (pc : Int) + 1 < n) :
    Calls Tryz.prog 71 #[.pointer (some ⟨f1, f2, none⟩), .int .i64 pc] w fun e w' => ∃ v, e = .returned v ∧ SlF w.heap.size 1 intR w' v (nextF k a pc n) ∧ ∃ x, w' = w.ext x := by
  obtain ⟨b, o, c, hF, hpc, hn, hc, hc2, h1, h2⟩ := h
  have k0 : (k == 16) = false := by simp; omega
  have k1 : (k == 12) = false := by simp; omega
  have k2 : (k == 13) = false := by simp; omega
  have HR : Hid (nextF k a pc n = [(pc : Int) + 1]) := by unfold Hid nextF; simp [hk]; omega
  go_enter Tryz.func71, Tryz.ntmps71
  go_wp2_with (first | (go_at_call 83; refine (del1_k ((pc : Int) + 1) _ n _ _ ⟨f1, f2, some ⟨b, o, none⟩, c, by go_simp, by go_simp⟩ ⟨by go_simp, by go_simp⟩ hj).mono ?_; rintro e w' ⟨rfl, hcs, z, hz⟩; have HZ := Lib.hid hz; clear hz; obtain ⟨hd0, hd1⟩ := hcs) | (go_at_call 82; refine (com1_calls _ _ _ _ (by omega)).mono ?_; rintro e w' ⟨rfl, rfl⟩))
  go_ret
  exact ⟨_, rfl, by rw [HR.out]; exact fints1 hd0 (by omega) (by omega) (by omega), Mods.ex (by rw [HZ.out]; repeat (first | exact Mods.refl _ _ | refine Mods.alloc ?_ _ | refine Mods.ext ?_ _ | refine Mods.drew ?_ | refine Mods.drewN ?_ _ | refine Mods.mod ?_ (by simp; try omega) _))⟩

set_option maxHeartbeats 1000000 in
set_option maxRecDepth 100000 in
theorem next_other_d (f1 f2 n pc : Nat) (k a : Int) (w : World) (h : At w f1 f2 n pc k a) (hk : k ≠ 16 ∧ k ≠ 12 ∧ k ≠ 13) (hj : n ≤ (pc : Int) + 1) :
    Calls Tryz.prog 71 #[.pointer (some ⟨f1, f2, none⟩), .int .i64 pc] w fun e w' => ∃ v, e = .returned v ∧ SlF w.heap.size 1 intR w' v (nextF k a pc n) ∧ ∃ x, w' = w.ext x := by
  obtain ⟨b, o, c, hF, hpc, hn, hc, hc2, h1, h2⟩ := h
  have k0 : (k == 16) = false := by simp; omega
  have k1 : (k == 12) = false := by simp; omega
  have k2 : (k == 13) = false := by simp; omega
  have HR : Hid (nextF k a pc n = []) := by unfold Hid nextF; simp [hk]; omega
  go_enter Tryz.func71, Tryz.ntmps71
  go_wp2_with (first | (go_at_call 83; refine (del1_d ((pc : Int) + 1) _ n _ _ ⟨f1, f2, some ⟨b, o, none⟩, c, by go_simp, by go_simp⟩ ⟨by go_simp, by go_simp⟩ hj).mono ?_; rintro e w' ⟨rfl, z, hz⟩; have HZ := Lib.hid hz; clear hz) | (go_at_call 82; refine (com1_calls _ _ _ _ (by omega)).mono ?_; rintro e w' ⟨rfl, rfl⟩))
  go_ret
  exact ⟨_, rfl, by rw [HR.out]; exact fints0 (by omega), Mods.ex (by rw [HZ.out]; repeat (first | exact Mods.refl _ _ | refine Mods.alloc ?_ _ | refine Mods.ext ?_ _ | refine Mods.drew ?_ | refine Mods.drewN ?_ _ | refine Mods.mod ?_ (by simp; try omega) _))⟩

set_option maxHeartbeats 1000000 in
set_option maxRecDepth 100000 in
theorem next_zero_kd (f1 f2 n pc : Nat) (k a : Int) (w : World) (h : At w f1 f2 n pc k a) (hk : k = 13) (hj : (pc : Int) + 1 < n) (hj2 : n ≤ a) :
    Calls Tryz.prog 71 #[.pointer (some ⟨f1, f2, none⟩), .int .i64 pc] w fun e w' => ∃ v, e = .returned v ∧ SlF w.heap.size 1 intR w' v (nextF k a pc n) ∧ ∃ x, w' = w.ext x := by
  obtain ⟨b, o, c, hF, hpc, hn, hc, hc2, h1, h2⟩ := h
  subst hk
  have HR : Hid (nextF 13 a pc n = [(pc : Int) + 1]) := by unfold Hid nextF; simp [hj]; omega
  go_enter Tryz.func71, Tryz.ntmps71
  go_wp2_with (first | (go_at_call 83; refine (del2_kd ((pc : Int) + 1) a _ n _ _ ⟨f1, f2, some ⟨b, o, none⟩, c, by go_simp, by go_simp⟩ ⟨by go_simp, by go_simp, by go_simp, by go_simp⟩ hj hj2).mono ?_; rintro e w' ⟨rfl, hd0, z, hz⟩; have HZ := Lib.hid hz; clear hz) | (go_at_call 82; refine (com1_calls _ _ _ _ (by omega)).mono ?_; rintro e w' ⟨rfl, rfl⟩))
  go_ret
  exact ⟨_, rfl, by rw [HR.out]; exact fints1 hd0 (by omega) (by omega) (by omega), Mods.ex (by rw [HZ.out]; repeat (first | exact Mods.refl _ _ | refine Mods.alloc ?_ _ | refine Mods.ext ?_ _ | refine Mods.drew ?_ | refine Mods.drewN ?_ _ | refine Mods.mod ?_ (by simp; try omega) _))⟩

set_option maxHeartbeats 1000000 in
set_option maxRecDepth 100000 in
theorem next_zero_dk (f1 f2 n pc : Nat) (k a : Int) (w : World) (h : At w f1 f2 n pc k a) (hk : k = 13) (hj : n ≤ (pc : Int) + 1) (hj2 : a < n) :
    Calls Tryz.prog 71 #[.pointer (some ⟨f1, f2, none⟩), .int .i64 pc] w fun e w' => ∃ v, e = .returned v ∧ SlF w.heap.size 1 intR w' v (nextF k a pc n) ∧ ∃ x, w' = w.ext x := by
  obtain ⟨b, o, c, hF, hpc, hn, hc, hc2, h1, h2⟩ := h
  subst hk
  have HR : Hid (nextF 13 a pc n = [a]) := by unfold Hid nextF; simp [show ¬ ((pc : Int) + 1 < n) by omega, hj2]
  go_enter Tryz.func71, Tryz.ntmps71
  go_wp2_with (first | (go_at_call 83; refine (del2_dk ((pc : Int) + 1) a _ n _ _ ⟨f1, f2, some ⟨b, o, none⟩, c, by go_simp, by go_simp⟩ ⟨by go_simp, by go_simp, by go_simp, by go_simp⟩ hj hj2).mono ?_; rintro e w' ⟨rfl, hd0, z, hz⟩; have HZ := Lib.hid hz; clear hz) | (go_at_call 82; refine (com1_calls _ _ _ _ (by omega)).mono ?_; rintro e w' ⟨rfl, rfl⟩))
  go_ret
  exact ⟨_, rfl, by rw [HR.out]; exact fints1 hd0 (by omega) (by omega) (by omega), Mods.ex (by rw [HZ.out]; repeat (first | exact Mods.refl _ _ | refine Mods.alloc ?_ _ | refine Mods.ext ?_ _ | refine Mods.drew ?_ | refine Mods.drewN ?_ _ | refine Mods.mod ?_ (by simp; try omega) _))⟩

set_option maxHeartbeats 1000000 in
set_option maxRecDepth 100000 in
theorem next_zero_dd (f1 f2 n pc : Nat) (k a : Int) (w : World) (h : At w f1 f2 n pc k a) (hk : k = 13) (hj : n ≤ (pc : Int) + 1) (hj2 : n ≤ a) :
    Calls Tryz.prog 71 #[.pointer (some ⟨f1, f2, none⟩), .int .i64 pc] w fun e w' => ∃ v, e = .returned v ∧ SlF w.heap.size 1 intR w' v (nextF k a pc n) ∧ ∃ x, w' = w.ext x := by
  obtain ⟨b, o, c, hF, hpc, hn, hc, hc2, h1, h2⟩ := h
  subst hk
  have HR : Hid (nextF 13 a pc n = []) := by unfold Hid nextF; simp [show ¬ ((pc : Int) + 1 < n) by omega]; omega
  go_enter Tryz.func71, Tryz.ntmps71
  go_wp2_with (first | (go_at_call 83; refine (del2_dd ((pc : Int) + 1) a _ n _ _ ⟨f1, f2, some ⟨b, o, none⟩, c, by go_simp, by go_simp⟩ ⟨by go_simp, by go_simp, by go_simp, by go_simp⟩ hj hj2).mono ?_; rintro e w' ⟨rfl, z, hz⟩; have HZ := Lib.hid hz; clear hz) | (go_at_call 82; refine (com1_calls _ _ _ _ (by omega)).mono ?_; rintro e w' ⟨rfl, rfl⟩))
  go_ret
  exact ⟨_, rfl, by rw [HR.out]; exact fints0 (by omega), Mods.ex (by rw [HZ.out]; repeat (first | exact Mods.refl _ _ | refine Mods.alloc ?_ _ | refine Mods.ext ?_ _ | refine Mods.drew ?_ | refine Mods.drewN ?_ _ | refine Mods.mod ?_ (by simp; try omega) _))⟩

set_option maxHeartbeats 1000000 in
set_option maxRecDepth 100000 in
theorem next_zero_kk (f1 f2 n pc : Nat) (k a : Int) (w : World) (h : At w f1 f2 n pc k a) (hk : k = 13) (hj : (pc : Int) + 1 < n) (hj2 : a < n) (hne : a ≠ pc + 1) :
    Calls Tryz.prog 71 #[.pointer (some ⟨f1, f2, none⟩), .int .i64 pc] w fun e w' => ∃ v, e = .returned v ∧ SlF w.heap.size 1 intR w' v (nextF k a pc n) ∧ ∃ x, w' = w.ext x := by
  obtain ⟨b, o, c, hF, hpc, hn, hc, hc2, h1, h2⟩ := h
  subst hk
  have hne2 : (a == (pc : Int) + 1) = false := by simp; omega
  have HR : Hid (nextF 13 a pc n = [(pc : Int) + 1, a]) := by unfold Hid nextF; simp [hj, hj2, hne]
  go_enter Tryz.func71, Tryz.ntmps71
  go_wp2_with (first | (go_at_call 83; refine (del2_kk ((pc : Int) + 1) a _ n _ _ ⟨f1, f2, some ⟨b, o, none⟩, c, by go_simp, by go_simp⟩ ⟨by go_simp, by go_simp, by go_simp, by go_simp⟩ hj hj2).mono ?_; rintro e w' ⟨rfl, hcs, z, hz⟩; have HZ := Lib.hid hz; clear hz) | (go_at_call 82; refine (com2_ne _ _ _ _ hcs hne2).mono ?_; rintro e w' ⟨rfl, hd0, hd1, z2, hz2⟩; have HZ2 := Lib.hid hz2; clear hz2) | (go_at_call 82; refine (com1_calls _ _ _ _ (by omega)).mono ?_; rintro e w' ⟨rfl, rfl⟩))
  go_ret
  exact ⟨_, rfl, by rw [HR.out]; exact fints2 hd0 hd1 (by omega), Mods.ex (by rw [HZ2.out, HZ.out]; repeat (first | exact Mods.refl _ _ | refine Mods.alloc ?_ _ | refine Mods.ext ?_ _ | refine Mods.drew ?_ | refine Mods.drewN ?_ _ | refine Mods.mod ?_ (by simp; try omega) _))⟩

set_option maxHeartbeats 1000000 in
set_option maxRecDepth 100000 in
theorem next_zero_eq (f1 f2 n pc : Nat) (k a : Int) (w : World) (h : At w f1 f2 n pc k a) (hk : k = 13) (hj : (pc : Int) + 1 < n) (hne : a = pc + 1) :
    Calls Tryz.prog 71 #[.pointer (some ⟨f1, f2, none⟩), .int .i64 pc] w fun e w' => ∃ v, e = .returned v ∧ SlF w.heap.size 1 intR w' v (nextF k a pc n) ∧ ∃ x, w' = w.ext x := by
  obtain ⟨b, o, c, hF, hpc, hn, hc, hc2, h1, h2⟩ := h
  subst hk
  have hj2 := hj
  rw [← hne] at hj2
  have HR : Hid (nextF 13 a pc n = [(pc : Int) + 1]) := by unfold Hid nextF; simp [hj, hne]
  go_enter Tryz.func71, Tryz.ntmps71
  go_wp2_with (first | (go_at_call 83; refine (del2_kk ((pc : Int) + 1) a _ n _ _ ⟨f1, f2, some ⟨b, o, none⟩, c, by go_simp, by go_simp⟩ ⟨by go_simp, by go_simp, by go_simp, by go_simp⟩ hj hj2).mono ?_; rintro e w' ⟨rfl, hcs, z, hz⟩; have HZ := Lib.hid hz; clear hz) | (go_at_call 82; refine (com2_eq _ _ _ (by rw [hne] at hcs; exact hcs)).mono ?_; rintro e w' ⟨rfl, hd0, z2, hz2⟩; have HZ2 := Lib.hid hz2; clear hz2) | (go_at_call 82; refine (com1_calls _ _ _ _ (by omega)).mono ?_; rintro e w' ⟨rfl, rfl⟩))
  go_ret
  exact ⟨_, rfl, by rw [HR.out]; exact fints1 hd0 (by omega) (by omega) (by omega), Mods.ex (by rw [HZ2.out, HZ.out]; repeat (first | exact Mods.refl _ _ | refine Mods.alloc ?_ _ | refine Mods.ext ?_ _ | refine Mods.drew ?_ | refine Mods.drewN ?_ _ | refine Mods.mod ?_ (by simp; try omega) _))⟩

/-- flow.next at any pc of code that may be. -/
theorem next_calls (f1 f2 n pc : Nat) (k a : Int) (w : World) (h : At w f1 f2 n pc k a) :
    Calls Tryz.prog 71 #[.pointer (some ⟨f1, f2, none⟩), .int .i64 pc] w fun e w' => ∃ v, e = .returned v ∧ SlF w.heap.size 1 intR w' v (nextF k a pc n) ∧ ∃ x, w' = w.ext x := by
  by_cases k0 : k = 16
  · subst k0
    obtain ⟨b, o, c, hF, hpc, hn, hc, hc2, h1, h2⟩ := h
    exact (next_ret f1 f2 pc b o n c a w hF hpc h1 h2).mono fun e w' ⟨he, hx⟩ => ⟨_, he, by simpa [nextF] using fints0 (A := none) (c := 0) (by omega), hx⟩
  by_cases k1 : k = 12
  · rcases Int.lt_or_le a n with hj | hj
    · exact next_jump_k _ _ _ _ _ _ _ h k1 hj
    · exact next_jump_d _ _ _ _ _ _ _ h k1 hj
  by_cases k2 : k = 13
  · rcases Int.lt_or_le (pc + 1) n with hj | hj <;> rcases Int.lt_or_le a n with hj2 | hj2
    · by_cases he : a = pc + 1
      · exact next_zero_eq _ _ _ _ _ _ _ h k2 hj he
      · exact next_zero_kk _ _ _ _ _ _ _ h k2 hj hj2 he
    · exact next_zero_kd _ _ _ _ _ _ _ h k2 hj hj2
    · exact next_zero_dk _ _ _ _ _ _ _ h k2 hj hj2
    · exact next_zero_dd _ _ _ _ _ _ _ h k2 hj hj2
  · rcases Int.lt_or_le (pc + 1) n with hj | hj
    · exact next_other_k _ _ _ _ _ _ _ h ⟨k0, k1, k2⟩ hj
    · exact next_other_d _ _ _ _ _ _ _ h ⟨k0, k1, k2⟩ hj
end Go.Proofs.YtjpgcokdlopkaaaGreatDoor


namespace Go.Proofs.YtjpgcokdlopkaaaGreatDoor
open Go.RowKit

def nFalse (bs : List Bool) : Nat := bs.count false
theorem nf_set : ∀ {bs : List Bool} {i : Nat}, bs[i]? = some false → nFalse (bs.set i true) + 1 = nFalse bs
  | [], i, h => by simp at h
  | b :: bs, 0, h => by
    have : b = false := by simpa using h
    subst this; simp [nFalse]
  | b :: bs, i + 1, h => by
    have ih := nf_set (bs := bs) (i := i) (by simpa using h)
    simp only [nFalse, List.set_cons_succ, List.count_cons] at *
    omega
structure RI (c : List Ins) (bs : List Bool) (row : List Nat) : Prop where
  len : bs.length = c.length
  zero : bs[0]? = some true
  sound : ∀ j : Nat, bs[j]? = some true → Reach c j
  rows : ∀ j : Nat, j ∈ row → bs[j]? = some true
  closed : ∀ j : Nat, bs[j]? = some true → j ∈ row ∨ ∀ (i : Ins) (to : Nat), c[j]? = some i → (to : Int) ∈ nextI i j c.length → bs[to]? = some true
theorem RI.start {c : List Ins} (h : 1 ≤ c.length) : RI c ((List.replicate c.length false).set 0 true) [0] := by
  have key : ∀ j : Nat, ((List.replicate c.length false).set 0 true)[j]? = some true → j = 0 := fun j hj => by
    rw [List.getElem?_set] at hj
    split at hj
    · omega
    · rw [List.getElem?_replicate] at hj; split at hj <;> simp at hj
  have z : ((List.replicate c.length false).set 0 true)[0]? = some true := by
    obtain ⟨m, hm⟩ : ∃ m, c.length = m + 1 := ⟨c.length - 1, by omega⟩
    rw [hm]; rfl
  exact ⟨by simp, z, fun j hj => by rw [key j hj]; exact .zero, fun j hj => by rw [List.mem_singleton.1 hj]; exact z, fun j hj => .inl (by rw [key j hj]; simp)⟩
theorem RI.mark {c : List Ins} {bs : List Bool} {row : List Nat} {pc to : Nat} {i : Ins} (h : RI c bs (pc :: row)) (hi : c[pc]? = some i) (ht : (to : Int) ∈ nextI i pc c.length) (hn : to < c.length) :
    RI c (bs.set to true) (pc :: row ++ [to]) := by
  have hs : ∀ j : Nat, (bs.set to true)[j]? = some true ↔ j = to ∨ bs[j]? = some true := fun j => by
    rw [List.getElem?_set]
    split
    · rename_i e; subst e; simp [h.len, hn]
    · rename_i e; constructor
      · exact .inr
      · rintro (rfl | h')
        · exact absurd rfl e
        · exact h'
  refine ⟨by simp [h.len], (hs 0).2 (.inr h.zero), fun j hj => ?_, fun j hj => ?_, fun j hj => ?_⟩
  · rcases (hs j).1 hj with rfl | h1
    · exact .step (h.sound pc (h.rows pc (by simp))) hi ht
    · exact h.sound j h1
  · rcases List.mem_append.1 hj with h1 | h1
    · exact (hs j).2 (.inr (h.rows j h1))
    · exact (hs j).2 (.inl (List.mem_singleton.1 h1))
  · rcases (hs j).1 hj with rfl | h1
    · exact .inl (by simp)
    · rcases h.closed j h1 with h2 | h2
      · exact .inl (List.mem_append_left _ h2)
      · exact .inr fun i' to' a b => (hs to').2 (.inr (h2 i' to' a b))
theorem RI.pop {c : List Ins} {bs : List Bool} {row : List Nat} {pc : Nat} (h : RI c bs (pc :: row)) (hc : ∀ (i : Ins) (to : Nat), c[pc]? = some i → (to : Int) ∈ nextI i pc c.length → bs[to]? = some true) : RI c bs row := by
  refine ⟨h.len, h.zero, h.sound, fun j hj => h.rows j (List.mem_cons_of_mem _ hj), fun j hj => ?_⟩
  rcases h.closed j hj with h1 | h1
  · rcases List.mem_cons.1 h1 with rfl | h1
    · exact .inr hc
    · exact .inl h1
  · exact .inr h1
theorem RI.done {c : List Ins} {bs : List Bool} (h : RI c bs []) (pc : Nat) (b : Bool) (hb : bs[pc]? = some b) : b = true ↔ Reach c pc := by
  have all : ∀ j, Reach c j → bs[j]? = some true := fun j hr => by
    induction hr with
    | zero => exact h.zero
    | step hr hi ht ih =>
      rcases h.closed _ ih with h1 | h1
      · cases h1
      · exact h1 _ _ hi ht
  constructor
  · rintro rfl; exact h.sound pc hb
  · intro hr
    rw [all pc hr] at hb
    exact (Option.some.inj hb).symm
theorem codeMay_may {c : List Ins} (h : codeMay c = true) {pc : Nat} {i : Ins} (hi : c[pc]? = some i) : insMayB i.kind i.a = true := by
  simp [codeMay] at h
  exact h.2 i (List.mem_of_getElem? hi)
theorem insMay_a {k a : Int} (h : insMayB k a = true) (hk : k ≠ 0) : 0 ≤ a := by
  rw [insMayB_ne hk] at h
  have := of_decide_eq_true h
  omega
theorem codeMay_next {c : List Ins} (h : codeMay c = true) {pc : Nat} {i : Ins} (hi : c[pc]? = some i) {x : Int} (hx : x ∈ nextI i pc c.length) : 0 ≤ x ∧ x < c.length :=
  nextF_range hx fun hk => insMay_a (codeMay_may h hi) (by omega)
end Go.Proofs.YtjpgcokdlopkaaaGreatDoor
