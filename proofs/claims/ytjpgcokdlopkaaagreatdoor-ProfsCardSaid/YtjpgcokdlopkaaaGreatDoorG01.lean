/- Lemmas for a claim of the seat YtjpgcokdlopkaaaGreatDoor. Written in part by programs of the claim's repo. By an AI agent. -/
import Derived.WalkKit
import Derived.Below
import Derived.BigQuiet
import Derived.Deep.QuietTactic
import Derived.Outline
import Derived.Laws.Alloc2
import Derived.Laws.Entries
import Derived.Laws.NewBlocks
import Derived.Deep.RegionHeld3
import Derived.KernelRfl
import Derived.Lib.Hide
import Derived.Test.YtjpgcokdlopkaaaGreatDoorProg
import Derived.Deep.Light
/-
  WORLDS THAT HAVE GROWN, AS TERMS: 'w.mod S x': the world x, if it is w with more blocks behind it and with no old block changed but those of S. Plain lemmas; no program.
-/
namespace Go.Proofs.YtjpgcokdlopkaaaGreatDoor
open Go.RowKit

/-- x is w with more blocks behind it; of the old ones at most those of S have changed. -/
structure Mods (S : List Nat) (w x : World) : Prop where
  os : x.os = w.os
  tape : x.tape = w.tape
  output : x.output = w.output
  size : w.heap.size ≤ x.heap.size
  block : ∀ k, k < w.heap.size → k ∉ S → x.heap[k]? = w.heap[k]?

open Classical in
noncomputable def _root_.Go.World.mod (w : World) (S : List Nat) (x : World) : World := if Mods S w x then x else w
noncomputable abbrev _root_.Go.World.ext (w : World) (x : World) : World := w.mod [] x

theorem Mods.refl (S : List Nat) (w : World) : Mods S w w := ⟨rfl, rfl, rfl, Nat.le_refl _, fun _ _ _ => rfl⟩
theorem mod_mods (w : World) (S : List Nat) (x : World) : Mods S w (w.mod S x) := by
  unfold World.mod; split
  · assumption
  · exact Mods.refl _ _
theorem Mods.eq {S : List Nat} {w x : World} (h : Mods S w x) : x = w.mod S x := by unfold World.mod; rw [if_pos h]
theorem Mods.ex {S : List Nat} {w x : World} (h : Mods S w x) : ∃ y, x = w.mod S y := ⟨x, h.eq⟩
theorem Mods.mono {S S' : List Nat} {w x : World} (h : Mods S w x) (hs : ∀ k, k ∈ S → k ∈ S') : Mods S' w x :=
  ⟨h.os, h.tape, h.output, h.size, fun k hk hn => h.block k hk (fun e => hn (hs k e))⟩
theorem Mods.nil {S : List Nat} {w x : World} (h : Mods [] w x) : Mods S w x := h.mono (fun _ hk => by cases hk)
theorem Mods.trans {S : List Nat} {a b c : World} (h : Mods S a b) (k : Mods S b c) : Mods S a c :=
  ⟨k.os.trans h.os, k.tape.trans h.tape, k.output.trans h.output, Nat.le_trans h.size k.size, fun i hi hn => (k.block i (Nat.lt_of_lt_of_le hi h.size) hn).trans (h.block i hi hn)⟩
theorem Mods.mod {S T : List Nat} {a w : World} (h : Mods S a w) (hs : ∀ k, k ∈ T → k < a.heap.size → k ∈ S) (x : World) : Mods S a (w.mod T x) := by
  have k := mod_mods w T x
  exact ⟨k.os.trans h.os, k.tape.trans h.tape, k.output.trans h.output, Nat.le_trans h.size k.size, fun i hi hn => (k.block i (Nat.lt_of_lt_of_le hi h.size) (fun e => hn (hs i e hi))).trans (h.block i hi hn)⟩
theorem Mods.ext {S : List Nat} {a w : World} (h : Mods S a w) (x : World) : Mods S a (w.mod [] x) := h.mod (fun _ hk => by cases hk) x
theorem Mods.drew {S : List Nat} {a w : World} (h : Mods S a w) : Mods S a w.drew := ⟨h.os, h.tape, h.output, h.size, h.block⟩
theorem Mods.drawn {S : List Nat} {a w : World} (h : Mods S a w) (n : Nat) : Mods S a { w with drawn := n } := ⟨h.os, h.tape, h.output, h.size, h.block⟩
theorem Mods.drewN {S : List Nat} {a w : World} (h : Mods S a w) (n : Nat) : Mods S a (w.drewN n) := ⟨h.os, h.tape, h.output, h.size, h.block⟩
theorem Mods.alloc {S : List Nat} {a w : World} (h : Mods S a w) (o : Obj) : Mods S a (w.alloc o) :=
  ⟨h.os, h.tape, h.output, by have := h.size; simp; omega, fun k hk hn => (Below.heap_alloc w o k (by have := h.size; omega)).trans (h.block k hk hn)⟩
theorem Mods.setCell {S : List Nat} {a w : World} (h : Mods S a w) {p : Addr} (hp : p.block < a.heap.size → p.block ∈ S) (u : Value) : Mods S a (w.setCell p u) :=
  ⟨h.os, h.tape, h.output, by have := h.size; simpa [World.setCell] using this, fun k hk hn => (Below.heap_setCell w p u k (fun e => hn (e ▸ hp (e ▸ hk)))).trans (h.block k hk hn)⟩
theorem Mods.below {w x : World} (h : Mods [] w x) : Below w.heap.size w x := ⟨h.os, h.tape, h.output, h.size, fun k hk => h.block k hk (by simp)⟩
theorem mods_of_below {w x : World} (h : Below w.heap.size w x) : Mods [] w x := ⟨h.os, h.tape, h.output, h.size, fun k hk _ => h.block k hk⟩
theorem Mods.grown {S : List Nat} {a w w' : World} {row : Option Nat} (h : Mods S a w) (hg : w.grownBy w' row) (hr : ∀ k, row = some k → k < a.heap.size → k ∈ S) : Mods S a w' :=
  ⟨hg.os.trans h.os, hg.tape.trans h.tape, hg.output.trans h.output, Nat.le_trans h.size hg.size, fun k hk hn => (hg.block k (Nat.lt_of_lt_of_le hk h.size) (fun e => hn (hr k e.symm hk))).trans (h.block k hk hn)⟩

/-! the rules of the walk -/
theorem cell_lt {w : World} {a : Addr} (h : (w.cell? a).isSome = true) : a.block < w.heap.size := by
  rcases Nat.lt_or_ge a.block w.heap.size with h1 | h1
  · exact h1
  · simp [World.cell?, Array.getElem?_eq_none h1] at h
theorem mod_cell (w : World) (S : List Nat) (x : World) (a : Addr) (h : (w.cell? a).isSome = true) (hs : a.block ∉ S) : (w.mod S x).cell? a = w.cell? a :=
  World.cell?_of_block ((mod_mods w S x).block _ (cell_lt h) hs)
/-- What stands in a grown world at a place (a name that no rule opens). -/
noncomputable def modCell (w : World) (S : List Nat) (x : World) (a : Addr) : Option Value := (w.mod S x).cell? a
noncomputable def modFrozen (w : World) (S : List Nat) (x : World) (a : Addr) : Bool := (w.mod S x).frozen? a
def newCell (w : World) (o : Obj) (a : Addr) : Option Value := (w.alloc o).cell? a
/-- w's cell at a, or else what stands there (a name that no rule opens). -/
def orElse (o : Option Value) (r : Option Value) : Option Value := match o with | some v => some v | none => r
@[go_sem] theorem orElse_some (v : Value) (r : Option Value) : orElse (some v) r = some v := rfl
@[go_sem] theorem ext_cell (w : World) (x : World) (a : Addr) : (w.mod [] x).cell? a = orElse (w.cell? a) (modCell w [] x a) := by
  unfold orElse modCell
  split
  · rename_i v h; rw [mod_cell _ _ _ _ (by rw [h]; rfl) (by simp), h]
  · rfl
@[go_sem] theorem mod_cell_or (w : World) (s : Nat) (S : List Nat) (x : World) (a : Addr) : (w.mod (s :: S) x).cell? a = if a.block ∈ s :: S then modCell w (s :: S) x a else orElse (w.cell? a) (modCell w (s :: S) x a) := by
  unfold orElse modCell
  split
  · rfl
  · rename_i hs
    split
    · rename_i v h; rw [mod_cell _ _ _ _ (by rw [h]; rfl) hs, h]
    · rfl
theorem frozen?_of_block {w w' : World} {a : Addr} (h : w'.heap[a.block]? = w.heap[a.block]?) : w'.frozen? a = w.frozen? a := by unfold World.frozen?; rw [h]
@[go_sem] theorem ext_frozen (w : World) (x : World) (a : Addr) : (w.mod [] x).frozen? a = if (w.cell? a).isSome = true then w.frozen? a else modFrozen w [] x a := by
  unfold modFrozen
  split
  · rename_i h; exact frozen?_of_block ((mod_mods w [] x).block _ (cell_lt h) (by simp))
  · rfl
@[go_sem] theorem mod_frozen_or (w : World) (s : Nat) (S : List Nat) (x : World) (a : Addr) : (w.mod (s :: S) x).frozen? a = if a.block ∈ s :: S then modFrozen w (s :: S) x a else if (w.cell? a).isSome = true then w.frozen? a else modFrozen w (s :: S) x a := by
  unfold modFrozen
  split
  · rfl
  · rename_i hs
    split
    · rename_i h; exact frozen?_of_block ((mod_mods w (s :: S) x).block _ (cell_lt h) hs)
    · rfl
@[go_sem low] theorem alloc_cell_or (w : World) (o : Obj) (a : Addr) : (w.alloc o).cell? a = orElse (w.cell? a) (newCell w o a) := by
  unfold orElse newCell
  split
  · rename_i v h; rw [World.cell?_alloc_lt _ _ _ (cell_lt (by rw [h]; rfl)), h]
  · rfl
theorem mod_heap (w : World) (S : List Nat) (x : World) (k : Nat) (h : k < w.heap.size) (hs : k ∉ S) : (w.mod S x).heap[k]? = w.heap[k]? := (mod_mods w S x).block _ h hs
theorem mod_size (w : World) (S : List Nat) (x : World) : w.heap.size ≤ (w.mod S x).heap.size := (mod_mods w S x).size

/-- A region that draws its order, whose operations read and whose callees make memory alone: one walk in the text's order. -/
theorem wp_region_ext {P : Program} {id : Nat} {Q : Exit → Act → World → Prop} {a : Act} {w : World} {l : List Oper} (hm : P.follows .mixedOrders = true) (hB : Region.lexB .any l.toArray = true)
    (h : wpQuiet P l.toArray (fun w' => ∃ x, w' = w.mod [] x) (fun a' => ∀ w', (∃ x, w' = w.mod [] x) → Q .normal a' w') l a) : (Code.region id l.toArray true).wp P Q a w :=
  wp_region_quiet (C := fun w' => ∃ x, w' = w.mod [] x) hm hB ((Mods.refl [] w).drawn _).ex (by simpa using h)
/-- A call, met in a world that has grown: the growths add up. -/
theorem Calls_ext {P : Program} {f : FuncId} {args : Array Value} {w x : World} {v : Value}
    (h : Calls P f args (w.mod [] x) fun e w' => e = .returned v ∧ ∃ y, w' = (w.mod [] x).mod [] y) : Calls P f args (w.mod [] x) fun e w'' => e = .returned v ∧ ∃ y, w'' = w.mod [] y :=
  h.mono fun _ _ ⟨he, y, hy⟩ => ⟨he, by rw [hy]; exact ((Mods.refl [] w).ext x |>.ext y).ex⟩
theorem Calls_same {P : Program} {f : FuncId} {args : Array Value} {w x : World} {v : Value}
    (h : Calls P f args (w.mod [] x) fun e w' => e = .returned v ∧ w' = w.mod [] x) : Calls P f args (w.mod [] x) fun e w'' => e = .returned v ∧ ∃ y, w'' = w.mod [] y :=
  h.mono fun _ _ ⟨he, hy⟩ => ⟨he, x, hy⟩
theorem dec_cases (p : Prop) [Decidable p] : (p ∧ decide p = true) ∨ (¬ p ∧ decide p = false) := by
  by_cases h : p
  · exact .inl ⟨h, by simp [h]⟩
  · exact .inr ⟨h, by simp [h]⟩
theorem ret_int {k : IntKind} {a b : Int} (h : a = b) : Ending.returned (.int k a) = .returned (.int k b) := by rw [h]
theorem ret_bool {a b : Bool} (h : a = b) : Ending.returned (.bool a) = .returned (.bool b) := by rw [h]
end Go.Proofs.YtjpgcokdlopkaaaGreatDoor


namespace Go.Proofs.YtjpgcokdlopkaaaGreatDoor
open Go.RowKit

def numB (x : Int) : Bool := decide (-2147483648 ≤ x ∧ x ≤ 2147483647)
def wrapI (x : Int) : Int := (x + 2147483648) % 4294967296 - 2147483648
theorem wrap32_I (x : Int) : wrap32 x = wrapI x := by
  simp only [wrap32, wrapI]; try omega
theorem wrap64_I (x : Int) : wrap64 (wrapI x) = wrapI x := by
  simp only [wrap64, wrapI]; try omega
theorem wrap_is (x : Int) : (wrap64 (wrap32 x) == x) = numB x := by
  rw [wrap32_I, wrap64_I, Bool.eq_iff_iff]
  simp only [beq_iff_eq, numB, decide_eq_true_eq, wrapI]
  omega
theorem wrapI_wrap64 (x : Int) : wrapI (wrap64 x) = wrapI x := by
  simp only [wrap64, wrapI]; omega
theorem wrapI_range (x : Int) : -2147483648 ≤ wrapI x ∧ wrapI x ≤ 2147483647 := by unfold wrapI; omega
theorem numB_wrapI (x : Int) : numB (wrapI x) = true := by have := wrapI_range x; simp [numB]; omega

def below (k : Int) : Int := if k = 1 ∨ k = 2 then 8 else if k = 12 ∨ k = 13 then 64 else if k = 14 then 8 else 1
def insMayB (k a : Int) : Bool := if k < 0 ∨ k > 16 then false else if k = 0 then numB a else decide (0 ≤ a ∧ a < below k)

set_option maxHeartbeats 400000 in
theorem wrapIs_calls (x : Int) (w : World) : Calls Tryz.prog 38 #[.int .i64 x] w fun e w' => e = .returned (.bool (numB x)) ∧ w' = w := by
  go_enter Tryz.func38, Tryz.ntmps38
  go_wp2
  go_ret
  exact ⟨ret_bool (wrap_is x), rfl⟩

set_option maxHeartbeats 400000 in
theorem insBelow_calls (x : Int) (w : World) : Calls Tryz.prog 78 #[.int .i64 x] w fun e w' => e = .returned (.int .i64 (below x)) ∧ w' = w := by
  go_enter Tryz.func78, Tryz.ntmps78
  go_wp2
  all_goals (go_ret; exact ⟨ret_int (by simp only [beq_iff_eq, beq_eq_false_iff_ne] at *; unfold below; simp [*]), rfl⟩)

set_option maxHeartbeats 400000 in
theorem insMay_calls (k a : Int) (w : World) : Calls Tryz.prog 68 #[.agg #[.int .i64 k, .int .i64 a]] w fun e w' => e = .returned (.bool (insMayB k a)) ∧ ∃ x, w' = w.ext x := by
  by_cases h1 : k < 0
  · go_enter Tryz.func68, Tryz.ntmps68
    go_wp2
    go_ret
    exact ⟨ret_bool (by simp [insMayB, h1]), Mods.ex (by repeat (first | exact Mods.refl _ _ | refine Mods.alloc ?_ _ | refine Mods.ext ?_ _ | refine Mods.drew ?_ | refine Mods.drewN ?_ _))⟩
  by_cases h2 : 16 < k
  · go_enter Tryz.func68, Tryz.ntmps68
    go_wp2
    go_ret
    exact ⟨ret_bool (by simp [insMayB, h2]), Mods.ex (by repeat (first | exact Mods.refl _ _ | refine Mods.alloc ?_ _ | refine Mods.ext ?_ _ | refine Mods.drew ?_ | refine Mods.drewN ?_ _))⟩
  by_cases h3 : k = 0
  · subst h3
    go_enter Tryz.func68, Tryz.ntmps68
    go_wp2_with (go_at_call 38; refine (wrapIs_calls _ _).mono ?_; rintro e w' ⟨rfl, rfl⟩)
    go_ret
    exact ⟨ret_bool (by simp [insMayB]), Mods.ex (by repeat (first | exact Mods.refl _ _ | refine Mods.alloc ?_ _ | refine Mods.ext ?_ _ | refine Mods.drew ?_ | refine Mods.drewN ?_ _))⟩
  have h3' : (k == 0) = false := by simp [h3]
  rcases dec_cases (0 ≤ a) with ⟨h4, h4d⟩ | ⟨h4, h4d⟩
  all_goals
    go_enter Tryz.func68, Tryz.ntmps68
    go_wp2
    refine wp_region_ext (by kernel_rfl) (by kernel_rfl) ?_
    repeat (go_big_quiet_step (exact Calls_same (insBelow_calls _ _)))
    refine wpQuiet_nil ?_
    rintro _ ⟨xq, rfl⟩
    go_wp2
    go_ret
    exact ⟨ret_bool (by unfold insMayB; rw [if_neg (by omega), if_neg h3, Bool.eq_iff_iff]; simp; try omega), Mods.ex (by repeat (first | exact Mods.refl _ _ | refine Mods.alloc ?_ _ | refine Mods.ext ?_ _ | refine Mods.drew ?_ | refine Mods.drewN ?_ _))⟩

/-- takes, puts, error -/
def effectF (k a n : Int) : Int × Int × Int :=
  if insMayB k a = false ∨ n < 0 ∨ 4 < n then (0, 0, 200)
  else if k = 0 ∨ k = 1 then (0, 1, 0)
  else if 3 ≤ k ∧ k ≤ 9 then (2, 1, 0)
  else if k = 2 ∨ k = 11 ∨ k = 13 ∨ k = 15 ∨ k = 16 then (1, 0, 0)
  else if k = 10 then (1, 2, 0)
  else if k = 14 then (n, 1, 0)
  else (0, 0, 0)
theorem ret_tri {k : IntKind} {a b c : Int} {p : Int × Int × Int} (h : (a, b, c) = p) : Ending.returned (.tuple #[.int k a, .int k b, .int k c]) = .returned (.tuple #[.int k p.1, .int k p.2.1, .int k p.2.2]) := by rw [← h]

set_option maxHeartbeats 1000000 in
theorem insEffect_calls (k a n : Int) (w : World) : Calls Tryz.prog 74 #[.agg #[.int .i64 k, .int .i64 a], .int .i64 n] w fun e w' =>
    e = .returned (.tuple #[.int .i64 (effectF k a n).1, .int .i64 (effectF k a n).2.1, .int .i64 (effectF k a n).2.2]) ∧ ∃ x, w' = w.ext x := by
  cases hm : insMayB k a with
  | false =>
    go_enter Tryz.func74, Tryz.ntmps74
    go_wp2_with (go_at_call 68; refine (insMay_calls _ _ _).mono ?_; rintro e w' ⟨rfl, x, rfl⟩)
    go_ret3
    exact ⟨ret_tri (by simp [effectF, hm]), Mods.ex (by repeat (first | exact Mods.refl _ _ | refine Mods.alloc ?_ _ | refine Mods.ext ?_ _ | refine Mods.drew ?_ | refine Mods.drewN ?_ _))⟩
  | true =>
  by_cases h1 : n < 0
  · go_enter Tryz.func74, Tryz.ntmps74
    go_wp2_with (go_at_call 68; refine (insMay_calls _ _ _).mono ?_; rintro e w' ⟨rfl, x, rfl⟩)
    go_ret3
    exact ⟨ret_tri (by simp [effectF, h1]), Mods.ex (by repeat (first | exact Mods.refl _ _ | refine Mods.alloc ?_ _ | refine Mods.ext ?_ _ | refine Mods.drew ?_ | refine Mods.drewN ?_ _))⟩
  by_cases h2 : 4 < n
  · go_enter Tryz.func74, Tryz.ntmps74
    go_wp2_with (go_at_call 68; refine (insMay_calls _ _ _).mono ?_; rintro e w' ⟨rfl, x, rfl⟩)
    go_ret3
    exact ⟨ret_tri (by simp [effectF, h2]), Mods.ex (by repeat (first | exact Mods.refl _ _ | refine Mods.alloc ?_ _ | refine Mods.ext ?_ _ | refine Mods.drew ?_ | refine Mods.drewN ?_ _))⟩
  go_enter Tryz.func74, Tryz.ntmps74
  go_wp2_with (go_at_call 68; refine (insMay_calls _ _ _).mono ?_; rintro e w' ⟨rfl, x, rfl⟩)
  all_goals (go_ret3; refine ⟨ret_tri ?_, Mods.ex (by repeat (first | exact Mods.refl _ _ | refine Mods.alloc ?_ _ | refine Mods.ext ?_ _ | refine Mods.drew ?_ | refine Mods.drewN ?_ _))⟩; simp only [beq_iff_eq, beq_eq_false_iff_ne, ne_eq] at *; unfold effectF; rw [if_neg (by rw [hm]; simp; omega)]; repeat (first | rw [if_pos (by omega)] | rw [if_neg (by omega)]))

def doF (op a b : Int) : Int × Bool × Int :=
  if op < 3 ∨ 9 < op ∨ numB a = false ∨ numB b = false then (0, false, 100)
  else if op = 3 then (wrapI (a + b), false, 0)
  else if op = 4 then (wrapI (a - b), false, 0)
  else if op = 5 then (wrapI (a * b), false, 0)
  else if op = 6 then (if b = 0 then (0, true, 0) else (wrapI (a.tdiv b), false, 0))
  else if op = 7 then (if b = 0 then (0, true, 0) else (wrapI (a.tmod b), false, 0))
  else if op = 8 then (if a = b then 1 else 0, false, 0)
  else (if a < b then 1 else 0, false, 0)
theorem ret_ibi {k : IntKind} {a c : Int} {b : Bool} {p : Int × Bool × Int} (h : (a, b, c) = p) : Ending.returned (.tuple #[.int k a, .bool b, .int k c]) = .returned (.tuple #[.int k p.1, .bool p.2.1, .int k p.2.2]) := by rw [← h]

theorem mul32 {a b : Int} (h1 : -2147483648 ≤ a) (h2 : a ≤ 2147483647) (h3 : -2147483648 ≤ b) (h4 : b ≤ 2147483647) : -4611686018427387904 ≤ a * b ∧ a * b ≤ 4611686018427387904 := by
  constructor
  · have := Int.mul_nonneg (a := a + 2147483648) (b := b + 2147483648) (by omega) (by omega)
    have := Int.mul_nonneg (a := 2147483648 - a) (b := 2147483648 - b) (by omega) (by omega)
    simp only [Int.add_mul, Int.mul_add, Int.sub_mul, Int.mul_sub] at *
    omega
  · have := Int.mul_nonneg (a := a + 2147483648) (b := 2147483648 - b) (by omega) (by omega)
    have := Int.mul_nonneg (a := 2147483648 - a) (b := b + 2147483648) (by omega) (by omega)
    simp only [Int.add_mul, Int.mul_add, Int.sub_mul, Int.mul_sub] at *
    omega
/-! ### the reference's numbers -/
theorem refwrap_I (x : Int) : wrap64 (wrap32 (IntKind.u64.wrap x % 4294967296)) = wrapI x := by
  have h : IntKind.u64.wrap x = x % 18446744073709551616 := by rfl
  rw [h]; simp only [wrap64, wrap32, wrapI]; omega

set_option maxHeartbeats 400000 in
theorem refNumber_calls (x : Int) (w : World) : Calls Tryz.prog 31 #[.int .i64 x] w fun e w' => e = .returned (.bool (numB x)) ∧ w' = w := by
  rcases dec_cases (-2147483648 ≤ x) with ⟨h, hd⟩ | ⟨h, hd⟩
  all_goals
    go_enter Tryz.func31, Tryz.ntmps31
    go_wp2
    go_ret
    exact ⟨ret_bool (by simp [numB]; try omega), rfl⟩

theorem insMayB_ne {k a : Int} (h : k ≠ 0) : insMayB k a = decide (0 ≤ k ∧ k ≤ 16 ∧ 0 ≤ a ∧ ((k = 1 ∨ k = 2 ∨ k = 14) ∧ a < 8 ∨ (k = 12 ∨ k = 13) ∧ a < 64 ∨ a < 1)) := by
  unfold insMayB below
  split
  · exact (decide_eq_false (by omega)).symm
  · try rw [if_neg h]
    refine decide_eq_decide.2 ?_
    split
    · omega
    · split
      · omega
      · split <;> omega
set_option maxHeartbeats 1000000 in
theorem refInsMay_calls (k a : Int) (w : World) : Calls Tryz.prog 62 #[.agg #[.int .i64 k, .int .i64 a]] w fun e w' => e = .returned (.bool (insMayB k a)) ∧ ∃ x, w' = w.ext x := by
  by_cases h0 : k = 0
  · subst h0
    go_enter Tryz.func62, Tryz.ntmps62
    go_wp2_with (go_at_call 31; refine (refNumber_calls _ _).mono ?_; rintro e w' ⟨rfl, rfl⟩)
    go_ret
    exact ⟨ret_bool (by simp [insMayB]), Mods.ex (by repeat (first | exact Mods.refl _ _ | refine Mods.alloc ?_ _ | refine Mods.ext ?_ _ | refine Mods.drew ?_ | refine Mods.drewN ?_ _))⟩
  have h0' : (k == 0) = false := by simp [h0]
  have HE := Lib.hid (insMayB_ne (a := a) h0)
  rcases dec_cases (0 ≤ a) with ⟨h, hd⟩ | ⟨h, hd⟩ <;> rcases dec_cases (3 ≤ k) with ⟨h1, h1d⟩ | ⟨h1, h1d⟩ <;> rcases dec_cases (k ≤ 16) with ⟨h2, h2d⟩ | ⟨h2, h2d⟩
  all_goals try (exfalso; omega)
  all_goals
    go_enter Tryz.func62, Tryz.ntmps62
    go_wp2_with (go_at_call 31; refine (refNumber_calls _ _).mono ?_; rintro e w' ⟨rfl, rfl⟩)
  all_goals (go_ret; go_light; refine ⟨ret_bool ?_, Mods.ex (by repeat (first | exact Mods.refl _ _ | refine Mods.alloc ?_ _ | refine Mods.ext ?_ _ | refine Mods.drew ?_ | refine Mods.drewN ?_ _))⟩; rw [HE.out]; simp only [beq_iff_eq, beq_eq_false_iff_ne, ne_eq] at *)
  all_goals first | (exact (decide_eq_true (by omega)).symm) | (exact (decide_eq_false (by omega)).symm) | (exact decide_eq_decide.2 (by omega))
end Go.Proofs.YtjpgcokdlopkaaaGreatDoor


/-! WHAT SLICES OF STRUCTS READ AS. -/
namespace Go.Proofs.YtjpgcokdlopkaaaGreatDoor
open Go.RowKit

/-- A slice's value and its elements: element i is read by R at its cells. -/
def SlR {α : Type} (sz : Nat) (R : World → Nat → Nat → α → Prop) (w : World) (v : Value) (xs : List α) : Prop :=
  ∃ c, xs.length ≤ c ∧ c ≤ 9223372036854775807 ∧ ((xs = [] ∧ ∃ A, v = .slice A 0 c) ∨ ∃ b o, v = .slice (some ⟨b, o, none⟩) xs.length c ∧ ∀ i x, xs[i]? = some x → R w b (o + i * sz) x)
/-- What is read stays read in a world that has grown, if what it lies in is none of S. -/
structure Grows {α : Type} (R : World → Nat → Nat → α → Prop) : Prop where
  ext : ∀ {w w' : World} {b o : Nat} {x : α}, Mods [] w w' → R w b o x → R w' b o x
theorem SlR.ext {α : Type} {sz : Nat} {R : World → Nat → Nat → α → Prop} (hR : Grows R) {w w' : World} {v : Value} {xs : List α} (h : SlR sz R w v xs) (hw : Mods [] w w') : SlR sz R w' v xs := by
  obtain ⟨c, h1, h2, h3 | ⟨b, o, rfl, h3⟩⟩ := h
  · exact ⟨c, h1, h2, .inl h3⟩
  · exact ⟨c, h1, h2, .inr ⟨b, o, rfl, fun i x hx => hR.ext hw (h3 i x hx)⟩⟩
theorem SlR.nil {α : Type} {sz : Nat} {R : World → Nat → Nat → α → Prop} {w : World} : SlR sz R w (.slice none 0 0) ([] : List α) := ⟨0, Nat.le_refl _, by omega, .inl ⟨rfl, none, rfl⟩⟩
theorem Mods.cell {w w' : World} (h : Mods [] w w') {a : Addr} {v : Value} (hc : w.cell? a = some v) : w'.cell? a = some v :=
  (World.cell?_of_block (h.block _ (cell_lt (by rw [hc]; rfl)) (by simp))).trans hc

/-- The same, in memory from block B on. -/
def SlF {α : Type} (B : Nat) (sz : Nat) (R : World → Nat → Nat → α → Prop) (w : World) (v : Value) (xs : List α) : Prop :=
  ∃ c, xs.length ≤ c ∧ c ≤ 9223372036854775807 ∧ ((xs = [] ∧ ∃ A, v = .slice A 0 c) ∨ ∃ b o, B ≤ b ∧ v = .slice (some ⟨b, o, none⟩) xs.length c ∧ ∀ i x, xs[i]? = some x → R w b (o + i * sz) x)
theorem SlF.sl {α : Type} {B sz : Nat} {R : World → Nat → Nat → α → Prop} {w : World} {v : Value} {xs : List α} (h : SlF B sz R w v xs) : SlR sz R w v xs := by
  obtain ⟨c, h1, h2, h3 | ⟨b, o, _, rfl, h3⟩⟩ := h
  · exact ⟨c, h1, h2, .inl h3⟩
  · exact ⟨c, h1, h2, .inr ⟨b, o, rfl, h3⟩⟩
structure Ins where
  kind : Int
  a : Int
  deriving DecidableEq
structure Fun where
  args : Int
  locals : Int
  code : List Ins

def intR (w : World) (b o : Nat) (x : Int) : Prop := w.cell? ⟨b, o, none⟩ = some (.int .i64 x)
def boolR (w : World) (b o : Nat) (x : Bool) : Prop := w.cell? ⟨b, o, none⟩ = some (.bool x)
def insR (w : World) (b o : Nat) (x : Ins) : Prop := w.cell? ⟨b, o, none⟩ = some (.int .i64 x.kind) ∧ w.cell? ⟨b, o + 1, none⟩ = some (.int .i64 x.a)
def funR (w : World) (b o : Nat) (x : Fun) : Prop :=
  w.cell? ⟨b, o, none⟩ = some (.int .i64 x.args) ∧ w.cell? ⟨b, o + 1, none⟩ = some (.int .i64 x.locals) ∧ ∃ v, w.cell? ⟨b, o + 2, none⟩ = some v ∧ SlR 2 insR w v x.code
abbrev Ints (w : World) (v : Value) (xs : List Int) : Prop := SlR 1 intR w v xs
abbrev Inss (w : World) (v : Value) (xs : List Ins) : Prop := SlR 2 insR w v xs
abbrev Funs (w : World) (v : Value) (xs : List Fun) : Prop := SlR 3 funR w v xs
theorem intR_grows : Grows intR := ⟨fun h hr => h.cell hr⟩
theorem boolR_grows : Grows boolR := ⟨fun h hr => h.cell hr⟩
theorem insR_grows : Grows insR := ⟨fun h hr => ⟨h.cell hr.1, h.cell hr.2⟩⟩
theorem funR_grows : Grows funR := ⟨fun h ⟨h1, h2, v, h3, h4⟩ => ⟨h.cell h1, h.cell h2, v, h.cell h3, h4.ext insR_grows h⟩⟩

/-- The first place, from k on, of what meets p; -1: there is none. -/
def idxFrom {α : Type} (p : α → Bool) : List α → Nat → Int
  | [], _ => -1
  | x :: xs, k => if p x then k else idxFrom p xs (k + 1)
theorem idxFrom_any {α : Type} (p : α → Bool) : ∀ (xs : List α) (k : Nat), decide (0 ≤ idxFrom p xs k) = xs.any p
  | [], _ => rfl
  | x :: xs, k => by
    unfold idxFrom
    cases h : p x
    · simp [h, idxFrom_any p xs (k + 1)]
    · simp [h]
theorem drop_cons {α : Type} {xs : List α} {k : Nat} (h : k < xs.length) : xs.drop k = xs[k] :: xs.drop (k + 1) := List.drop_eq_getElem_cons h
theorem get_some {α : Type} {xs : List α} {k : Nat} (h : k < xs.length) : xs[k]? = some xs[k] := List.getElem?_eq_getElem h
end Go.Proofs.YtjpgcokdlopkaaaGreatDoor


/-! WHICH PROGRAMS MAY RUN, said of lists. -/
namespace Go.Proofs.YtjpgcokdlopkaaaGreatDoor
open Go.RowKit

/-- what comes next of pc in code of n instructions -/
def nextF (k a : Int) (pc n : Nat) : List Int :=
  if k = 16 then []
  else if k = 12 then (if a < n then [a] else [])
  else if k = 13 then (if (pc : Int) + 1 < n then (if a < n ∧ a ≠ pc + 1 then [(pc : Int) + 1, a] else [(pc : Int) + 1]) else if a < n then [a] else [])
  else if (pc : Int) + 1 < n then [(pc : Int) + 1] else []
def Ins.may (i : Ins) : Bool := insMayB i.kind i.a
def codeMay (c : List Ins) : Bool := decide (1 ≤ c.length) && decide (c.length ≤ 64) && !c.any fun i => !insMayB i.kind i.a
def notB (f : Fun) : Bool := decide (f.args < 0) || decide (4 < f.args) || decide (f.locals < f.args) || decide (8 < f.locals) || !codeMay f.code
def packs (p : List Fun) : Bool := decide (1 ≤ p.length) && decide (p.length ≤ 8) && !p.any notB
def nextI (i : Ins) (pc n : Nat) : List Int := nextF i.kind i.a pc n
/-- A pc that is come to. -/
inductive Reach (c : List Ins) : Nat → Prop where
  | zero : Reach c 0
  | step {pc to : Nat} {i : Ins} : Reach c pc → c[pc]? = some i → (to : Int) ∈ nextI i pc c.length → Reach c to
def outsideB (p : List Fun) (f : Fun) (i : Ins) : Bool :=
  if i.kind = 1 ∨ i.kind = 2 then decide (f.locals ≤ i.a) else if i.kind = 12 ∨ i.kind = 13 then decide ((f.code.length : Int) ≤ i.a) else if i.kind = 14 then decide ((p.length : Int) ≤ i.a) else false
def callArgs (p : List Fun) (i : Ins) : Int := if i.kind = 14 then ((p[i.a.toNat]?).map (·.args)).getD 0 else 0
def takes (p : List Fun) (i : Ins) : Int := (effectF i.kind i.a (callArgs p i)).1
def puts (p : List Fun) (i : Ins) : Int := (effectF i.kind i.a (callArgs p i)).2.1
/-- The heights of a function: every pc that is come to has one, the others have -1. -/
structure Heights (p : List Fun) (f : Fun) (hs : List Int) : Prop where
  len : hs.length = f.code.length
  first : hs[0]? = some 0
  unr : ∀ (pc : Nat) (h : Int), hs[pc]? = some h → (h = -1 ↔ ¬ Reach f.code pc)
  lo : ∀ (pc : Nat) (h : Int), hs[pc]? = some h → -1 ≤ h
  step : ∀ (pc : Nat) (i : Ins) (h : Int), f.code[pc]? = some i → hs[pc]? = some h → h ≠ -1 → takes p i ≤ h ∧ h - takes p i + puts p i ≤ 8 ∧ ∀ to : Nat, (to : Int) ∈ nextI i pc f.code.length → hs[to]? = some (h - takes p i + puts p i)
/-- What needs no heights. -/
structure Plain (p : List Fun) (f : Fun) : Prop where
  range : ∀ (pc : Nat) (i : Ins), Reach f.code pc → f.code[pc]? = some i → outsideB p f i = false
  last : ∀ i : Ins, Reach f.code (f.code.length - 1) → f.code[f.code.length - 1]? = some i → i.kind = 12 ∨ i.kind = 16
structure Ver (p : List Fun) (hss : List (List Int)) : Prop where
  packs : packs p = true
  len : hss.length = p.length
  each : ∀ (k : Nat) (f : Fun) (hs : List Int), p[k]? = some f → hss[k]? = some hs → Plain p f ∧ Heights p f hs
theorem nextF_range {k a : Int} {pc n : Nat} {x : Int} (h : x ∈ nextF k a pc n) (ha : k = 12 ∨ k = 13 → 0 ≤ a) : 0 ≤ x ∧ x < n := by
  unfold nextF at h
  split at h
  · cases h
  · split at h
    · split at h
      · have : x = a := by simpa using h
        have := ha (.inl (by assumption)); omega
      · cases h
    · split at h
      · have := ha (.inr (by assumption))
        split at h
        · split at h
          · rcases List.mem_cons.1 h with h | h
            · omega
            · have : x = a := by simpa using h
              omega
          · have : x = pc + 1 := by simpa using h
            omega
        · split at h
          · have : x = a := by simpa using h
            omega
          · cases h
      · split at h
        · have : x = pc + 1 := by simpa using h
          omega
        · cases h
theorem Heights.unique {p : List Fun} {f : Fun} {hs hs' : List Int} (h : Heights p f hs) (h' : Heights p f hs') : hs = hs' := by
  have key : ∀ pc, Reach f.code pc → hs[pc]? = hs'[pc]? := by
    intro pc hr
    induction hr with
    | zero => rw [h.first, h'.first]
    | @step pc to i hr hi hto ih =>
      cases e : hs[pc]? with
      | none =>
        have h1 := (List.getElem?_eq_some_iff.1 hi).1
        have h2 := List.getElem?_eq_none_iff.1 e
        rw [h.len] at h2; omega
      | some x =>
        have hx : x ≠ -1 := fun hx => ((h.unr pc x e).1 hx) hr
        have a := (h.step pc i x hi e hx).2.2 to hto
        have b := (h'.step pc i x hi (ih ▸ e) hx).2.2 to hto
        rw [a, b]
  refine List.ext_getElem? fun pc => ?_
  by_cases hr : Reach f.code pc
  · exact key pc hr
  · cases e : hs[pc]? with
    | none =>
      have h2 := List.getElem?_eq_none_iff.1 e
      exact (List.getElem?_eq_none_iff.2 (by rw [h'.len, ← h.len]; exact h2)).symm
    | some x =>
      have hlt : pc < hs'.length := by rw [h'.len, ← h.len]; exact (List.getElem?_eq_some_iff.1 e).1
      have e' := get_some hlt
      rw [e', (h.unr pc x e).2 hr, (h'.unr pc _ e').2 hr]
theorem Ver.unique {p : List Fun} {hss hss' : List (List Int)} (h : Ver p hss) (h' : Ver p hss') : hss = hss' := by
  refine List.ext_getElem? fun k => ?_
  cases e : hss[k]? with
  | none => exact (List.getElem?_eq_none_iff.2 (by rw [h'.len, ← h.len]; exact List.getElem?_eq_none_iff.1 e)).symm
  | some hs =>
    have hk := (List.getElem?_eq_some_iff.1 e).1
    have e' := get_some (show k < hss'.length by rw [h'.len, ← h.len]; exact hk)
    have ef := get_some (show k < p.length by rw [← h.len]; exact hk)
    rw [e', ((h.each k _ _ ef e).2).unique (h'.each k _ _ ef e').2]
end Go.Proofs.YtjpgcokdlopkaaaGreatDoor



/-! THE LAW's OWN PROGRAM OF TWO FUNCTIONS: it may run; what its profiles come to. -/
namespace Go.Proofs.YtjpgcokdlopkaaaGreatDoor
open Go.RowKit

def two1 : Fun := ⟨1, 1, [⟨1, 0⟩, ⟨0, 2⟩, ⟨14, 1⟩, ⟨10, 0⟩, ⟨15, 0⟩, ⟨16, 0⟩]⟩
def two2 : Fun := ⟨2, 2, [⟨1, 0⟩, ⟨1, 1⟩, ⟨3, 0⟩, ⟨16, 0⟩]⟩
def twoP : List Fun := [two1, two2]
theorem reach_mem {c : List Ins} (hn : ∀ (pc : Nat) (i : Ins), c[pc]? = some i → ∀ to : Nat, (to : Int) ∈ nextI i pc c.length → to < c.length) (h0 : 0 < c.length) {pc : Nat} (h : Reach c pc) : pc < c.length := by
  cases h with
  | zero => exact h0
  | step hr hi hto => exact hn _ _ hi _ hto
/-- heights that every pc has, of code that goes straight on -/
theorem heights_straight {p : List Fun} {f : Fun} {hs : List Int} (hl : hs.length = f.code.length) (h0 : hs[0]? = some 0) (hlo : ∀ (pc : Nat) (h : Int), hs[pc]? = some h → 0 ≤ h) (hreach : ∀ pc, pc < f.code.length → Reach f.code pc)
    (hst : ∀ (pc : Nat) (i : Ins) (h : Int), f.code[pc]? = some i → hs[pc]? = some h → takes p i ≤ h ∧ h - takes p i + puts p i ≤ 8 ∧ ∀ to : Nat, (to : Int) ∈ nextI i pc f.code.length → hs[to]? = some (h - takes p i + puts p i)) : Heights p f hs := by
  refine ⟨hl, h0, fun pc h hh => ⟨fun e => ?_, fun e => absurd (hreach pc ?_) e⟩, fun pc h hh => ?_, fun pc i h hi hh _ => hst pc i h hi hh⟩
  · have := hlo pc h hh; omega
  · rw [← hl]; exact (List.getElem?_eq_some_iff.1 hh).1
  · have := hlo pc h hh; omega
theorem reach1 : ∀ pc, pc < two1.code.length → Reach two1.code pc := by
  have r0 : Reach two1.code 0 := .zero
  have r1 : Reach two1.code 1 := .step (i := ⟨1, 0⟩) r0 rfl (by decide)
  have r2 : Reach two1.code 2 := .step (i := ⟨0, 2⟩) r1 rfl (by decide)
  have r3 : Reach two1.code 3 := .step (i := ⟨14, 1⟩) r2 rfl (by decide)
  have r4 : Reach two1.code 4 := .step (i := ⟨10, 0⟩) r3 rfl (by decide)
  have r5 : Reach two1.code 5 := .step (i := ⟨15, 0⟩) r4 rfl (by decide)
  intro pc h
  have h : pc < 6 := h
  match pc, h with
  | 0, _ => exact r0
  | 1, _ => exact r1
  | 2, _ => exact r2
  | 3, _ => exact r3
  | 4, _ => exact r4
  | 5, _ => exact r5
theorem reach2 : ∀ pc, pc < two2.code.length → Reach two2.code pc := by
  have r0 : Reach two2.code 0 := .zero
  have r1 : Reach two2.code 1 := .step (i := ⟨1, 0⟩) r0 rfl (by decide)
  have r2 : Reach two2.code 2 := .step (i := ⟨1, 1⟩) r1 rfl (by decide)
  have r3 : Reach two2.code 3 := .step (i := ⟨3, 0⟩) r2 rfl (by decide)
  intro pc h
  have h : pc < 4 := h
  match pc, h with
  | 0, _ => exact r0
  | 1, _ => exact r1
  | 2, _ => exact r2
  | 3, _ => exact r3
theorem step1 (pc : Nat) (i : Ins) (h : Int) (hi : two1.code[pc]? = some i) (hh : ([0, 1, 2, 1, 2, 1] : List Int)[pc]? = some h) : takes twoP i ≤ h ∧ h - takes twoP i + puts twoP i ≤ 8 ∧ ∀ to : Nat, (to : Int) ∈ nextI i pc two1.code.length → ([0, 1, 2, 1, 2, 1] : List Int)[to]? = some (h - takes twoP i + puts twoP i) := by
  match pc, hi, hh with
  | 0, hi, hh =>
    cases hi; cases hh
    refine ⟨by decide, by decide, fun to ht => ?_⟩
    have e : (to : Int) = 1 := by simpa [nextI, nextF, two1] using ht
    obtain rfl : to = 1 := by omega
    rfl
  | 1, hi, hh =>
    cases hi; cases hh
    refine ⟨by decide, by decide, fun to ht => ?_⟩
    have e : (to : Int) = 2 := by simpa [nextI, nextF, two1] using ht
    obtain rfl : to = 2 := by omega
    rfl
  | 2, hi, hh =>
    cases hi; cases hh
    refine ⟨by decide, by decide, fun to ht => ?_⟩
    have e : (to : Int) = 3 := by simpa [nextI, nextF, two1] using ht
    obtain rfl : to = 3 := by omega
    rfl
  | 3, hi, hh =>
    cases hi; cases hh
    refine ⟨by decide, by decide, fun to ht => ?_⟩
    have e : (to : Int) = 4 := by simpa [nextI, nextF, two1] using ht
    obtain rfl : to = 4 := by omega
    rfl
  | 4, hi, hh =>
    cases hi; cases hh
    refine ⟨by decide, by decide, fun to ht => ?_⟩
    have e : (to : Int) = 5 := by simpa [nextI, nextF, two1] using ht
    obtain rfl : to = 5 := by omega
    rfl
  | 5, hi, hh =>
    cases hi; cases hh
    refine ⟨by decide, by decide, fun to ht => ?_⟩
    simp [nextI, nextF] at ht
  | n + 6, hi, _ => simp [two1] at hi
theorem step2 (pc : Nat) (i : Ins) (h : Int) (hi : two2.code[pc]? = some i) (hh : ([0, 1, 2, 1] : List Int)[pc]? = some h) : takes twoP i ≤ h ∧ h - takes twoP i + puts twoP i ≤ 8 ∧ ∀ to : Nat, (to : Int) ∈ nextI i pc two2.code.length → ([0, 1, 2, 1] : List Int)[to]? = some (h - takes twoP i + puts twoP i) := by
  match pc, hi, hh with
  | 0, hi, hh =>
    cases hi; cases hh
    refine ⟨by decide, by decide, fun to ht => ?_⟩
    have e : (to : Int) = 1 := by simpa [nextI, nextF, two2] using ht
    obtain rfl : to = 1 := by omega
    rfl
  | 1, hi, hh =>
    cases hi; cases hh
    refine ⟨by decide, by decide, fun to ht => ?_⟩
    have e : (to : Int) = 2 := by simpa [nextI, nextF, two2] using ht
    obtain rfl : to = 2 := by omega
    rfl
  | 2, hi, hh =>
    cases hi; cases hh
    refine ⟨by decide, by decide, fun to ht => ?_⟩
    have e : (to : Int) = 3 := by simpa [nextI, nextF, two2] using ht
    obtain rfl : to = 3 := by omega
    rfl
  | 3, hi, hh =>
    cases hi; cases hh
    refine ⟨by decide, by decide, fun to ht => ?_⟩
    simp [nextI, nextF] at ht
  | n + 4, hi, _ => simp [two2] at hi
theorem lo_of {hs : List Int} (h : hs.all (fun x => decide (0 ≤ x)) = true) (pc : Nat) (x : Int) (hx : hs[pc]? = some x) : 0 ≤ x := by
  have := List.all_eq_true.1 h x (List.mem_of_getElem? hx)
  simpa using this
theorem plain1 : Plain twoP two1 :=
  ⟨fun pc i _ hi => by
    have h : ∀ i ∈ two1.code, outsideB twoP two1 i = false := by decide
    exact h i (List.mem_of_getElem? hi), fun i _ hi => by cases hi; exact .inr rfl⟩
theorem plain2 : Plain twoP two2 :=
  ⟨fun pc i _ hi => by
    have h : ∀ i ∈ two2.code, outsideB twoP two2 i = false := by decide
    exact h i (List.mem_of_getElem? hi), fun i _ hi => by cases hi; exact .inr rfl⟩
theorem ver_two : ∃ hss, Ver twoP hss := by
  refine ⟨[[0, 1, 2, 1, 2, 1], [0, 1, 2, 1]], by decide, rfl, fun k f hs hf hh => ?_⟩
  match k, hf, hh with
  | 0, hf, hh => cases hf; cases hh; exact ⟨plain1, heights_straight rfl rfl (lo_of rfl) reach1 step1⟩
  | 1, hf, hh => cases hf; cases hh; exact ⟨plain2, heights_straight rfl rfl (lo_of rfl) reach2 step2⟩
  | n + 2, hf, _ => simp [twoP] at hf
end Go.Proofs.YtjpgcokdlopkaaaGreatDoor
