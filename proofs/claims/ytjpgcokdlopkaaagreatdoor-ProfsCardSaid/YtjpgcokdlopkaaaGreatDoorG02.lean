/- Lemmas for a claim of the seat YtjpgcokdlopkaaaGreatDoor. Written in part by programs of the claim's repo. By an AI agent. -/
import Derived.Test.YtjpgcokdlopkaaaGreatDoorG01
import Derived.Deep.LoopGhost
import Derived.Test.YtjpgcokdlopkaaaGreatDoorProg
import Derived.Laws.AppendOwn
import Derived.Laws.OwnMore
import Derived.Maps.AppendAt
import Derived.Lib.SliceRun

namespace Go.Proofs.YtjpgcokdlopkaaaGreatDoor
open Go.RowKit

set_option maxHeartbeats 400000 in
theorem flowMay1_calls (i : Ins) (w : World) : Calls Tryz.prog 80 #[.agg #[.int .i64 i.kind, .int .i64 i.a]] w fun e w' => e = .returned (.bool (!insMayB i.kind i.a)) ∧ ∃ x, w' = w.ext x := by
  go_enter Tryz.func80, Tryz.ntmps80
  go_wp2_with (go_at_call 68; refine (insMay_calls _ _ _).mono ?_; rintro e w' ⟨rfl, x, rfl⟩)
  go_ret
  exact ⟨rfl, Mods.ex (by repeat (first | exact Mods.refl _ _ | refine Mods.alloc ?_ _ | refine Mods.ext ?_ _ | refine Mods.drew ?_ | refine Mods.drewN ?_ _))⟩
set_option maxHeartbeats 400000 in
theorem packNot1_calls (i : Ins) (w : World) : Calls Tryz.prog 67 #[.agg #[.int .i64 i.kind, .int .i64 i.a]] w fun e w' => e = .returned (.bool (!insMayB i.kind i.a)) ∧ ∃ x, w' = w.ext x := by
  go_enter Tryz.func67, Tryz.ntmps67
  go_wp2_with (go_at_call 68; refine (insMay_calls _ _ _).mono ?_; rintro e w' ⟨rfl, x, rfl⟩)
  go_ret
  exact ⟨rfl, Mods.ex (by repeat (first | exact Mods.refl _ _ | refine Mods.alloc ?_ _ | refine Mods.ext ?_ _ | refine Mods.drew ?_ | refine Mods.drewN ?_ _))⟩

set_option maxHeartbeats 400000 in
theorem idxIns_calls (v : Value) (xs : List Ins) (w : World) (h : SlR 2 insR w v xs) : Calls Tryz.prog 79 #[v, .func (.func 80) #[] #[]] w fun e w' => e = .returned (.int .i64 (idxFrom (fun i => !insMayB i.kind i.a) xs 0)) ∧ ∃ x, w' = w.ext x := by
  obtain ⟨c, h1, h2, ⟨rfl, A, rfl⟩ | ⟨b, o, rfl, h3⟩⟩ := h
  · go_enter Tryz.func79, Tryz.ntmps79
    go_wp2
    refine wp_loop_rounds 1 ?_
    rw [rounds_succ]
    go_wp2
    go_ret
    exact ⟨rfl, Mods.ex (by repeat (first | exact Mods.refl _ _ | refine Mods.alloc ?_ _ | refine Mods.ext ?_ _ | refine Mods.drew ?_ | refine Mods.drewN ?_ _))⟩
  · go_enter Tryz.func79, Tryz.ntmps79
    go_wp2
    go_loopw [8] (fun i wr => ∃ k : Nat, k ≤ xs.length ∧ i = .int .i64 k ∧ Hid (idxFrom (fun i => !insMayB i.kind i.a) (xs.drop k) k = idxFrom (fun i => !insMayB i.kind i.a) xs 0) ∧ ∃ x, wr = w.ext x) (fun i _ => xs.length - (intOf i).toNat)
    case atStart => exact ⟨0, Nat.zero_le _, rfl, rfl, Mods.ex (by repeat (first | exact Mods.refl _ _ | refine Mods.alloc ?_ _ | refine Mods.ext ?_ _ | refine Mods.drew ?_ | refine Mods.drewN ?_ _))⟩
    case round =>
      obtain ⟨k, hk, rfl, hr, x, rfl⟩ := hrel
      by_cases hlt : k < xs.length
      · obtain ⟨c1, c2⟩ := h3 k xs[k] (get_some hlt)
        cases hp : (!insMayB xs[k].kind xs[k].a)
        · go_wp2_with (go_at_call 80; refine (flowMay1_calls _ _).mono ?_; rintro e w' ⟨rfl, x2, rfl⟩)
          go_roundw
          case rel =>
            go_light
            exact ⟨k + 1, by omega, by go_num, by have := hr.out; rw [drop_cons hlt, idxFrom, if_neg (by simp [hp])] at this; exact this, Mods.ex (by repeat (first | exact Mods.refl _ _ | refine Mods.alloc ?_ _ | refine Mods.ext ?_ _ | refine Mods.drew ?_ | refine Mods.drewN ?_ _))⟩
          case measure => simp [intOf]; omega
        · go_wp2_with (go_at_call 80; refine (flowMay1_calls _ _).mono ?_; rintro e w' ⟨rfl, x2, rfl⟩)
          go_ret
          go_light
          exact ⟨ret_int (by rw [← hr.out, drop_cons hlt, idxFrom, if_pos (by simp [hp])]), Mods.ex (by repeat (first | exact Mods.refl _ _ | refine Mods.alloc ?_ _ | refine Mods.ext ?_ _ | refine Mods.drew ?_ | refine Mods.drewN ?_ _))⟩
      · go_wp2
        go_ret
        go_light
        exact ⟨ret_int (by rw [← hr.out, List.drop_eq_nil_of_le (by omega)]; rfl), Mods.ex (by repeat (first | exact Mods.refl _ _ | refine Mods.alloc ?_ _ | refine Mods.ext ?_ _ | refine Mods.drew ?_ | refine Mods.drewN ?_ _))⟩
set_option maxHeartbeats 400000 in
theorem anyIns_calls (v : Value) (xs : List Ins) (w : World) (h : SlR 2 insR w v xs) : Calls Tryz.prog 69 #[v, .func (.func 80) #[] #[]] w fun e w' => e = .returned (.bool (xs.any (fun i => !insMayB i.kind i.a))) ∧ ∃ x, w' = w.ext x := by
  go_enter Tryz.func69, Tryz.ntmps69
  go_wp2_with (go_at_call 79; refine (idxIns_calls _ xs _ h).mono ?_; rintro e w' ⟨rfl, x, rfl⟩)
  go_ret
  exact ⟨ret_bool (idxFrom_any _ _ _), Mods.ex (by repeat (first | exact Mods.refl _ _ | refine Mods.alloc ?_ _ | refine Mods.ext ?_ _ | refine Mods.drew ?_ | refine Mods.drewN ?_ _))⟩

set_option maxHeartbeats 400000 in
theorem idxInsP_calls (v : Value) (xs : List Ins) (w : World) (h : SlR 2 insR w v xs) : Calls Tryz.prog 79 #[v, .func (.func 67) #[] #[]] w fun e w' => e = .returned (.int .i64 (idxFrom (fun i => !insMayB i.kind i.a) xs 0)) ∧ ∃ x, w' = w.ext x := by
  obtain ⟨c, h1, h2, ⟨rfl, A, rfl⟩ | ⟨b, o, rfl, h3⟩⟩ := h
  · go_enter Tryz.func79, Tryz.ntmps79
    go_wp2
    refine wp_loop_rounds 1 ?_
    rw [rounds_succ]
    go_wp2
    go_ret
    exact ⟨rfl, Mods.ex (by repeat (first | exact Mods.refl _ _ | refine Mods.alloc ?_ _ | refine Mods.ext ?_ _ | refine Mods.drew ?_ | refine Mods.drewN ?_ _))⟩
  · go_enter Tryz.func79, Tryz.ntmps79
    go_wp2
    go_loopw [8] (fun i wr => ∃ k : Nat, k ≤ xs.length ∧ i = .int .i64 k ∧ Hid (idxFrom (fun i => !insMayB i.kind i.a) (xs.drop k) k = idxFrom (fun i => !insMayB i.kind i.a) xs 0) ∧ ∃ x, wr = w.ext x) (fun i _ => xs.length - (intOf i).toNat)
    case atStart => exact ⟨0, Nat.zero_le _, rfl, rfl, Mods.ex (by repeat (first | exact Mods.refl _ _ | refine Mods.alloc ?_ _ | refine Mods.ext ?_ _ | refine Mods.drew ?_ | refine Mods.drewN ?_ _))⟩
    case round =>
      obtain ⟨k, hk, rfl, hr, x, rfl⟩ := hrel
      by_cases hlt : k < xs.length
      · obtain ⟨c1, c2⟩ := h3 k xs[k] (get_some hlt)
        cases hp : (!insMayB xs[k].kind xs[k].a)
        · go_wp2_with (go_at_call 67; refine (packNot1_calls _ _).mono ?_; rintro e w' ⟨rfl, x2, rfl⟩)
          go_roundw
          case rel =>
            go_light
            exact ⟨k + 1, by omega, by go_num, by have := hr.out; rw [drop_cons hlt, idxFrom, if_neg (by simp [hp])] at this; exact this, Mods.ex (by repeat (first | exact Mods.refl _ _ | refine Mods.alloc ?_ _ | refine Mods.ext ?_ _ | refine Mods.drew ?_ | refine Mods.drewN ?_ _))⟩
          case measure => simp [intOf]; omega
        · go_wp2_with (go_at_call 67; refine (packNot1_calls _ _).mono ?_; rintro e w' ⟨rfl, x2, rfl⟩)
          go_ret
          go_light
          exact ⟨ret_int (by rw [← hr.out, drop_cons hlt, idxFrom, if_pos (by simp [hp])]), Mods.ex (by repeat (first | exact Mods.refl _ _ | refine Mods.alloc ?_ _ | refine Mods.ext ?_ _ | refine Mods.drew ?_ | refine Mods.drewN ?_ _))⟩
      · go_wp2
        go_ret
        go_light
        exact ⟨ret_int (by rw [← hr.out, List.drop_eq_nil_of_le (by omega)]; rfl), Mods.ex (by repeat (first | exact Mods.refl _ _ | refine Mods.alloc ?_ _ | refine Mods.ext ?_ _ | refine Mods.drew ?_ | refine Mods.drewN ?_ _))⟩
set_option maxHeartbeats 400000 in
theorem anyInsP_calls (v : Value) (xs : List Ins) (w : World) (h : SlR 2 insR w v xs) : Calls Tryz.prog 69 #[v, .func (.func 67) #[] #[]] w fun e w' => e = .returned (.bool (xs.any (fun i => !insMayB i.kind i.a))) ∧ ∃ x, w' = w.ext x := by
  go_enter Tryz.func69, Tryz.ntmps69
  go_wp2_with (go_at_call 79; refine (idxInsP_calls _ xs _ h).mono ?_; rintro e w' ⟨rfl, x, rfl⟩)
  go_ret
  exact ⟨ret_bool (idxFrom_any _ _ _), Mods.ex (by repeat (first | exact Mods.refl _ _ | refine Mods.alloc ?_ _ | refine Mods.ext ?_ _ | refine Mods.drew ?_ | refine Mods.drewN ?_ _))⟩


/-- the closure 'to >= len(f.Code)': it captured the variable f (block q), a pointer to a function's cells. -/
def NoneAt (w : World) (q : Nat) (n : Nat) : Prop := ∃ b o A c, w.cell? ⟨q, 0, none⟩ = some (.pointer (some ⟨b, o, none⟩)) ∧ w.cell? ⟨b, o + 2, none⟩ = some (.slice A n c)
theorem NoneAt.ext {w w' : World} {q n : Nat} (h : NoneAt w q n) (hw : Mods [] w w') : NoneAt w' q n := by
  obtain ⟨b, o, A, c, h1, h2⟩ := h
  exact ⟨b, o, A, c, hw.cell h1, hw.cell h2⟩
set_option maxHeartbeats 400000 in
theorem next1_calls (x : Int) (q n : Nat) (w : World) (h : NoneAt w q n) : Calls Tryz.prog 81 #[.int .i64 x, .pointer (some ⟨q, 0, none⟩)] w fun e w' => e = .returned (.bool (decide ((n : Int) ≤ x))) ∧ ∃ y, w' = w.ext y := by
  obtain ⟨b, o, A, c, h1, h2⟩ := h
  go_enter Tryz.func81, Tryz.ntmps81
  go_wp2
  go_ret
  exact ⟨rfl, Mods.ex (by repeat (first | exact Mods.refl _ _ | refine Mods.alloc ?_ _ | refine Mods.ext ?_ _ | refine Mods.drew ?_ | refine Mods.drewN ?_ _))⟩
abbrev nf (q : Nat) : Value := .func (.func 81) #[] #[.pointer (some ⟨q, 0, none⟩)]

set_option maxHeartbeats 400000 in
theorem idxIntN_calls (v : Value) (xs : List Int) (w : World) (h : SlR 1 intR w v xs) (q n : Nat) (hN : NoneAt w q n) : Calls Tryz.prog 65 #[v, nf q] w fun e w' => e = .returned (.int .i64 (idxFrom (fun y => decide ((n : Int) ≤ y)) xs 0)) ∧ ∃ x, w' = w.ext x := by
  obtain ⟨c, h1, h2, ⟨rfl, A, rfl⟩ | ⟨b, o, rfl, h3⟩⟩ := h
  · go_enter Tryz.func65, Tryz.ntmps65
    go_wp2
    refine wp_loop_rounds 1 ?_
    rw [rounds_succ]
    go_wp2
    go_ret
    exact ⟨rfl, Mods.ex (by repeat (first | exact Mods.refl _ _ | refine Mods.alloc ?_ _ | refine Mods.ext ?_ _ | refine Mods.drew ?_ | refine Mods.drewN ?_ _))⟩
  · go_enter Tryz.func65, Tryz.ntmps65
    go_wp2
    go_loopw [8] (fun i wr => ∃ k : Nat, k ≤ xs.length ∧ i = .int .i64 k ∧ Hid (idxFrom (fun y => decide ((n : Int) ≤ y)) (xs.drop k) k = idxFrom (fun y => decide ((n : Int) ≤ y)) xs 0) ∧ ∃ x, wr = w.ext x) (fun i _ => xs.length - (intOf i).toNat)
    case atStart => exact ⟨0, Nat.zero_le _, rfl, rfl, Mods.ex (by repeat (first | exact Mods.refl _ _ | refine Mods.alloc ?_ _ | refine Mods.ext ?_ _ | refine Mods.drew ?_ | refine Mods.drewN ?_ _))⟩
    case round =>
      obtain ⟨k, hk, rfl, hr, x, rfl⟩ := hrel
      by_cases hlt : k < xs.length
      · obtain c1 := h3 k xs[k] (get_some hlt)
        simp only [intR, Nat.mul_one] at c1
        cases hp : (decide ((n : Int) ≤ xs[k]))
        · go_wp2_with (go_at_call 81; refine (next1_calls _ _ _ _ (hN.ext (by repeat (first | exact Mods.refl _ _ | refine Mods.alloc ?_ _ | refine Mods.ext ?_ _ | refine Mods.drew ?_ | refine Mods.drewN ?_ _)))).mono ?_; rintro e w' ⟨rfl, x2, rfl⟩)
          go_roundw
          case rel =>
            go_light
            exact ⟨k + 1, by omega, by go_num, by have := hr.out; rw [drop_cons hlt, idxFrom, if_neg (by simp [hp])] at this; exact this, Mods.ex (by repeat (first | exact Mods.refl _ _ | refine Mods.alloc ?_ _ | refine Mods.ext ?_ _ | refine Mods.drew ?_ | refine Mods.drewN ?_ _))⟩
          case measure => simp [intOf]; omega
        · go_wp2_with (go_at_call 81; refine (next1_calls _ _ _ _ (hN.ext (by repeat (first | exact Mods.refl _ _ | refine Mods.alloc ?_ _ | refine Mods.ext ?_ _ | refine Mods.drew ?_ | refine Mods.drewN ?_ _)))).mono ?_; rintro e w' ⟨rfl, x2, rfl⟩)
          go_ret
          go_light
          exact ⟨ret_int (by rw [← hr.out, drop_cons hlt, idxFrom, if_pos (by simp [hp])]), Mods.ex (by repeat (first | exact Mods.refl _ _ | refine Mods.alloc ?_ _ | refine Mods.ext ?_ _ | refine Mods.drew ?_ | refine Mods.drewN ?_ _))⟩
      · go_wp2
        go_ret
        go_light
        exact ⟨ret_int (by rw [← hr.out, List.drop_eq_nil_of_le (by omega)]; rfl), Mods.ex (by repeat (first | exact Mods.refl _ _ | refine Mods.alloc ?_ _ | refine Mods.ext ?_ _ | refine Mods.drew ?_ | refine Mods.drewN ?_ _))⟩
set_option maxHeartbeats 400000 in
theorem anyIntN_calls (v : Value) (xs : List Int) (w : World) (h : SlR 1 intR w v xs) (q n : Nat) (hN : NoneAt w q n) : Calls Tryz.prog 53 #[v, nf q] w fun e w' => e = .returned (.bool (xs.any (fun y => decide ((n : Int) ≤ y)))) ∧ ∃ x, w' = w.ext x := by
  go_enter Tryz.func53, Tryz.ntmps53
  go_wp2_with (go_at_call 65; refine (idxIntN_calls _ xs _ h _ _ hN).mono ?_; rintro e w' ⟨rfl, x, rfl⟩)
  go_ret
  exact ⟨ret_bool (idxFrom_any _ _ _), Mods.ex (by repeat (first | exact Mods.refl _ _ | refine Mods.alloc ?_ _ | refine Mods.ext ?_ _ | refine Mods.drew ?_ | refine Mods.drewN ?_ _))⟩

end Go.Proofs.YtjpgcokdlopkaaaGreatDoor


namespace Go.Proofs.YtjpgcokdlopkaaaGreatDoor
open Go.RowKit

set_option maxHeartbeats 1000000 in
theorem flowMay_calls (f1 f2 : Nat) (f : Fun) (w : World) (h : funR w f1 f2 f) : Calls Tryz.prog 70 #[.pointer (some ⟨f1, f2, none⟩)] w fun e w' => e = .returned (.bool (codeMay f.code)) ∧ ∃ x, w' = w.ext x := by
  obtain ⟨hc1, hc2, v, hv, hi⟩ := h
  have hi2 := hi
  obtain ⟨c, k1, k2, hs⟩ := hi2
  have hsl : ∃ A, v = .slice A f.code.length c := by
    rcases hs with ⟨h0, A, rfl⟩ | ⟨b, o, rfl, _⟩
    · exact ⟨A, by rw [h0]; rfl⟩
    · exact ⟨_, rfl⟩
  obtain ⟨A, rfl⟩ := hsl
  have hL : f.code.length ≤ 9223372036854775807 := by omega
  clear hs hc1 hc2
  rcases dec_cases (1 ≤ f.code.length) with ⟨l1, l1d⟩ | ⟨l1, l1d⟩
  · rcases dec_cases (f.code.length ≤ 64) with ⟨l2, l2d⟩ | ⟨l2, l2d⟩
    · go_enter Tryz.func70, Tryz.ntmps70
      go_wp2_with (go_at_call 69; refine (anyIns_calls _ f.code _ hi).mono ?_; rintro e w' ⟨rfl, x, rfl⟩)
      go_ret
      exact ⟨ret_bool (by unfold codeMay; rw [l1d, l2d]; rfl), Mods.ex (by repeat (first | exact Mods.refl _ _ | refine Mods.alloc ?_ _ | refine Mods.ext ?_ _ | refine Mods.drew ?_ | refine Mods.drewN ?_ _))⟩
    · go_enter Tryz.func70, Tryz.ntmps70
      go_wp2
      go_ret
      exact ⟨ret_bool (by unfold codeMay; rw [l2d]; simp), Mods.ex (by repeat (first | exact Mods.refl _ _ | refine Mods.alloc ?_ _ | refine Mods.ext ?_ _ | refine Mods.drew ?_ | refine Mods.drewN ?_ _))⟩
  · go_enter Tryz.func70, Tryz.ntmps70
    go_wp2
    go_ret
    exact ⟨ret_bool (by unfold codeMay; rw [l1d]; rfl), Mods.ex (by repeat (first | exact Mods.refl _ _ | refine Mods.alloc ?_ _ | refine Mods.ext ?_ _ | refine Mods.drew ?_ | refine Mods.drewN ?_ _))⟩

set_option maxHeartbeats 1000000 in
theorem packNot_calls (f : Fun) (v : Value) (w : World) (hi : Inss w v f.code) : Calls Tryz.prog 57 #[.agg #[.int .i64 f.args, .int .i64 f.locals, v]] w fun e w' => e = .returned (.bool (notB f)) ∧ ∃ x, w' = w.ext x := by
  have hi2 := hi
  obtain ⟨c, k1, k2, hs⟩ := hi2
  have hsl : ∃ A, v = .slice A f.code.length c := by
    rcases hs with ⟨h0, A, rfl⟩ | ⟨b, o, rfl, _⟩
    · exact ⟨A, by rw [h0]; rfl⟩
    · exact ⟨_, rfl⟩
  obtain ⟨A, rfl⟩ := hsl
  have hL : f.code.length ≤ 9223372036854775807 := by omega
  clear hs
  rcases dec_cases (f.args < 0) with ⟨a1, a1d⟩ | ⟨a1, a1d⟩
  · go_enter Tryz.func57, Tryz.ntmps57
    go_wp2
    go_ret
    exact ⟨ret_bool (by unfold notB; rw [a1d]; rfl), Mods.ex (by repeat (first | exact Mods.refl _ _ | refine Mods.alloc ?_ _ | refine Mods.ext ?_ _ | refine Mods.drew ?_ | refine Mods.drewN ?_ _))⟩
  rcases dec_cases (4 < f.args) with ⟨a2, a2d⟩ | ⟨a2, a2d⟩
  · go_enter Tryz.func57, Tryz.ntmps57
    go_wp2
    go_ret
    exact ⟨ret_bool (by unfold notB; rw [a2d]; simp), Mods.ex (by repeat (first | exact Mods.refl _ _ | refine Mods.alloc ?_ _ | refine Mods.ext ?_ _ | refine Mods.drew ?_ | refine Mods.drewN ?_ _))⟩
  rcases dec_cases (f.locals < f.args) with ⟨a3, a3d⟩ | ⟨a3, a3d⟩
  · go_enter Tryz.func57, Tryz.ntmps57
    go_wp2
    go_ret
    exact ⟨ret_bool (by unfold notB; rw [a3d]; simp), Mods.ex (by repeat (first | exact Mods.refl _ _ | refine Mods.alloc ?_ _ | refine Mods.ext ?_ _ | refine Mods.drew ?_ | refine Mods.drewN ?_ _))⟩
  rcases dec_cases (8 < f.locals) with ⟨a4, a4d⟩ | ⟨a4, a4d⟩
  · go_enter Tryz.func57, Tryz.ntmps57
    go_wp2
    go_ret
    exact ⟨ret_bool (by unfold notB; rw [a4d]; simp), Mods.ex (by repeat (first | exact Mods.refl _ _ | refine Mods.alloc ?_ _ | refine Mods.ext ?_ _ | refine Mods.drew ?_ | refine Mods.drewN ?_ _))⟩
  rcases dec_cases (1 ≤ f.code.length) with ⟨l1, l1d⟩ | ⟨l1, l1d⟩
  · rcases dec_cases (f.code.length ≤ 64) with ⟨l2, l2d⟩ | ⟨l2, l2d⟩
    · go_enter Tryz.func57, Tryz.ntmps57
      go_wp2_with (go_at_call 69; refine (anyInsP_calls _ f.code _ ?_).mono ?_; (exact hi.ext insR_grows (by repeat (first | exact Mods.refl _ _ | refine Mods.alloc ?_ _ | refine Mods.ext ?_ _ | refine Mods.drew ?_ | refine Mods.drewN ?_ _))); rintro e w' ⟨rfl, x, rfl⟩)
      go_ret
      exact ⟨ret_bool (by unfold notB codeMay; rw [a1d, a2d, a3d, a4d, l1d, l2d]; simp; intro h; omega), Mods.ex (by repeat (first | exact Mods.refl _ _ | refine Mods.alloc ?_ _ | refine Mods.ext ?_ _ | refine Mods.drew ?_ | refine Mods.drewN ?_ _))⟩
    · go_enter Tryz.func57, Tryz.ntmps57
      go_wp2
      go_ret
      exact ⟨ret_bool (by unfold notB codeMay; rw [l2d]; simp), Mods.ex (by repeat (first | exact Mods.refl _ _ | refine Mods.alloc ?_ _ | refine Mods.ext ?_ _ | refine Mods.drew ?_ | refine Mods.drewN ?_ _))⟩
  · go_enter Tryz.func57, Tryz.ntmps57
    go_wp2
    go_ret
    exact ⟨ret_bool (by unfold notB codeMay; rw [l1d]; simp), Mods.ex (by repeat (first | exact Mods.refl _ _ | refine Mods.alloc ?_ _ | refine Mods.ext ?_ _ | refine Mods.drew ?_ | refine Mods.drewN ?_ _))⟩

set_option maxHeartbeats 400000 in
theorem idxFun_calls (v : Value) (xs : List Fun) (w : World) (h : SlR 3 funR w v xs) : Calls Tryz.prog 66 #[v, .func (.func 57) #[] #[]] w fun e w' => e = .returned (.int .i64 (idxFrom (notB) xs 0)) ∧ ∃ x, w' = w.ext x := by
  obtain ⟨c, h1, h2, ⟨rfl, A, rfl⟩ | ⟨b, o, rfl, h3⟩⟩ := h
  · go_enter Tryz.func66, Tryz.ntmps66
    go_wp2
    refine wp_loop_rounds 1 ?_
    rw [rounds_succ]
    go_wp2
    go_ret
    exact ⟨rfl, Mods.ex (by repeat (first | exact Mods.refl _ _ | refine Mods.alloc ?_ _ | refine Mods.ext ?_ _ | refine Mods.drew ?_ | refine Mods.drewN ?_ _))⟩
  · go_enter Tryz.func66, Tryz.ntmps66
    go_wp2
    go_loopw [8] (fun i wr => ∃ k : Nat, k ≤ xs.length ∧ i = .int .i64 k ∧ Hid (idxFrom (notB) (xs.drop k) k = idxFrom (notB) xs 0) ∧ ∃ x, wr = w.ext x) (fun i _ => xs.length - (intOf i).toNat)
    case atStart => exact ⟨0, Nat.zero_le _, rfl, rfl, Mods.ex (by repeat (first | exact Mods.refl _ _ | refine Mods.alloc ?_ _ | refine Mods.ext ?_ _ | refine Mods.drew ?_ | refine Mods.drewN ?_ _))⟩
    case round =>
      obtain ⟨k, hk, rfl, hr, x, rfl⟩ := hrel
      by_cases hlt : k < xs.length
      · obtain ⟨c1, c2, v, c3, c4⟩ := h3 k xs[k] (get_some hlt)
        cases hp : (notB xs[k])
        · go_wp2_with (go_at_call 57; refine (packNot_calls _ _ _ (c4.ext insR_grows (by repeat (first | exact Mods.refl _ _ | refine Mods.alloc ?_ _ | refine Mods.ext ?_ _ | refine Mods.drew ?_ | refine Mods.drewN ?_ _)))).mono ?_; rintro e w' ⟨rfl, x2, rfl⟩)
          go_roundw
          case rel =>
            go_light
            exact ⟨k + 1, by omega, by go_num, by have := hr.out; rw [drop_cons hlt, idxFrom, if_neg (by simp [hp])] at this; exact this, Mods.ex (by repeat (first | exact Mods.refl _ _ | refine Mods.alloc ?_ _ | refine Mods.ext ?_ _ | refine Mods.drew ?_ | refine Mods.drewN ?_ _))⟩
          case measure => simp [intOf]; omega
        · go_wp2_with (go_at_call 57; refine (packNot_calls _ _ _ (c4.ext insR_grows (by repeat (first | exact Mods.refl _ _ | refine Mods.alloc ?_ _ | refine Mods.ext ?_ _ | refine Mods.drew ?_ | refine Mods.drewN ?_ _)))).mono ?_; rintro e w' ⟨rfl, x2, rfl⟩)
          go_ret
          go_light
          exact ⟨ret_int (by rw [← hr.out, drop_cons hlt, idxFrom, if_pos (by simp [hp])]), Mods.ex (by repeat (first | exact Mods.refl _ _ | refine Mods.alloc ?_ _ | refine Mods.ext ?_ _ | refine Mods.drew ?_ | refine Mods.drewN ?_ _))⟩
      · go_wp2
        go_ret
        go_light
        exact ⟨ret_int (by rw [← hr.out, List.drop_eq_nil_of_le (by omega)]; rfl), Mods.ex (by repeat (first | exact Mods.refl _ _ | refine Mods.alloc ?_ _ | refine Mods.ext ?_ _ | refine Mods.drew ?_ | refine Mods.drewN ?_ _))⟩
set_option maxHeartbeats 400000 in
theorem anyFun_calls (v : Value) (xs : List Fun) (w : World) (h : SlR 3 funR w v xs) : Calls Tryz.prog 56 #[v, .func (.func 57) #[] #[]] w fun e w' => e = .returned (.bool (xs.any (notB))) ∧ ∃ x, w' = w.ext x := by
  go_enter Tryz.func56, Tryz.ntmps56
  go_wp2_with (go_at_call 66; refine (idxFun_calls _ xs _ h).mono ?_; rintro e w' ⟨rfl, x, rfl⟩)
  go_ret
  exact ⟨ret_bool (idxFrom_any _ _ _), Mods.ex (by repeat (first | exact Mods.refl _ _ | refine Mods.alloc ?_ _ | refine Mods.ext ?_ _ | refine Mods.drew ?_ | refine Mods.drewN ?_ _))⟩


set_option maxHeartbeats 1000000 in
theorem packMay_calls (f1 f2 : Nat) (v : Value) (p : List Fun) (w : World) (hv : w.cell? ⟨f1, f2, none⟩ = some v) (hi : Funs w v p) : Calls Tryz.prog 47 #[.pointer (some ⟨f1, f2, none⟩)] w fun e w' => e = .returned (.bool (packs p)) ∧ ∃ x, w' = w.ext x := by
  have hi2 := hi
  obtain ⟨c, k1, k2, hs⟩ := hi2
  have hsl : ∃ A, v = .slice A p.length c := by
    rcases hs with ⟨h0, A, rfl⟩ | ⟨b, o, rfl, _⟩
    · exact ⟨A, by rw [h0]; rfl⟩
    · exact ⟨_, rfl⟩
  obtain ⟨A, rfl⟩ := hsl
  have hL : p.length ≤ 9223372036854775807 := by omega
  clear hs
  rcases dec_cases (1 ≤ p.length) with ⟨l1, l1d⟩ | ⟨l1, l1d⟩
  · rcases dec_cases (p.length ≤ 8) with ⟨l2, l2d⟩ | ⟨l2, l2d⟩
    · go_enter Tryz.func47, Tryz.ntmps47
      go_wp2_with (go_at_call 56; refine (anyFun_calls _ p _ hi).mono ?_; rintro e w' ⟨rfl, x, rfl⟩)
      go_ret
      exact ⟨ret_bool (by unfold packs; rw [l1d, l2d]; rfl), Mods.ex (by repeat (first | exact Mods.refl _ _ | refine Mods.alloc ?_ _ | refine Mods.ext ?_ _ | refine Mods.drew ?_ | refine Mods.drewN ?_ _))⟩
    · go_enter Tryz.func47, Tryz.ntmps47
      go_wp2
      go_ret
      exact ⟨ret_bool (by unfold packs; rw [l2d]; simp), Mods.ex (by repeat (first | exact Mods.refl _ _ | refine Mods.alloc ?_ _ | refine Mods.ext ?_ _ | refine Mods.drew ?_ | refine Mods.drewN ?_ _))⟩
  · go_enter Tryz.func47, Tryz.ntmps47
    go_wp2
    go_ret
    exact ⟨ret_bool (by unfold packs; rw [l1d]; rfl), Mods.ex (by repeat (first | exact Mods.refl _ _ | refine Mods.alloc ?_ _ | refine Mods.ext ?_ _ | refine Mods.drew ?_ | refine Mods.drewN ?_ _))⟩
end Go.Proofs.YtjpgcokdlopkaaaGreatDoor


/-! A SLICE OF THE CALL's OWN, AT WHATEVER PLACE OF ITS BLOCK. -/
namespace Go.Proofs.YtjpgcokdlopkaaaGreatDoor
open Go.RowKit

/-- v is nil, or a slice that lies in a block of e's, none of it frozen: its n elements (sz cells each) are xs. -/
def Own (w : World) (e sz : Nat) (v : Value) (n : Nat) (xs : List Value) : Prop :=
  xs.length = n * sz ∧ ((v = .slice none 0 0 ∧ n = 0) ∨
    ∃ g o cap cur, v = .slice (some ⟨g, o, none⟩) n cap ∧ w.heap[g]? = some (.cells cur e (0, 0)) ∧ n ≤ cap ∧ cap ≤ maxLen ∧ o + cap * sz ≤ cur.size ∧ (cur.toList.drop o).take (n * sz) = xs)

theorem Own.nil {w : World} {e sz : Nat} : Own w e sz (.slice none 0 0) 0 [] := ⟨by simp, .inl ⟨rfl, rfl⟩⟩
theorem Own.of_row {w : World} {base e sz n : Nat} {v : Value} {xs : List Value} (h : w.ownsRow base e sz v n xs) : Own w e sz v n xs := by
  obtain ⟨h1, h2 | ⟨g, cap, cur, rfl, _, h3, h4, h5, h6, h7⟩⟩ := h
  · exact ⟨h1, .inl h2⟩
  · exact ⟨h1, .inr ⟨g, 0, cap, cur, rfl, h3, h4, h5, by omega, by simpa using h7⟩⟩
theorem Own.lt {w : World} {e sz n : Nat} {v : Value} {xs : List Value} (h : Own w e sz v n xs) {k : Nat} (hk : v.ownBlock = some k) : k < w.heap.size := by
  obtain ⟨h1, ⟨rfl, _⟩ | ⟨g, o, cap, cur, rfl, h3, h4, h5, h6, h7⟩⟩ := h
  · simp [Value.ownBlock] at hk
  · have : g = k := by simpa [Value.ownBlock] using hk
    subst this
    exact (Array.getElem?_eq_some_iff.1 h3).1
theorem Own.move {w w' : World} {e sz n : Nat} {v : Value} {xs : List Value} (h : Own w e sz v n xs) (hm : ∀ k, v.ownBlock = some k → w'.heap[k]? = w.heap[k]?) : Own w' e sz v n xs := by
  obtain ⟨h1, h2 | ⟨g, o, cap, cur, rfl, h3, r⟩⟩ := h
  · exact ⟨h1, .inl h2⟩
  · exact ⟨h1, .inr ⟨g, o, cap, cur, rfl, (hm g (by simp [Value.ownBlock])).trans h3, r⟩⟩
theorem Own.mods {w w' : World} {e sz n : Nat} {v : Value} {xs : List Value} {S : List Nat} (h : Own w e sz v n xs) (hm : Mods S w w') (hs : ∀ k, v.ownBlock = some k → k ∉ S) : Own w' e sz v n xs :=
  h.move fun k hk => hm.block k (h.lt hk) (hs k hk)
theorem Own.form {w : World} {e sz n : Nat} {v : Value} {xs : List Value} (h : Own w e sz v n xs) (hn : 0 < n) :
    ∃ g o cap, v = .slice (some ⟨g, o, none⟩) n cap ∧ n ≤ cap ∧ cap ≤ maxLen ∧ (∀ j u, xs[j]? = some u → w.cell? ⟨g, o + j, none⟩ = some u) ∧ ∀ j, w.frozen? ⟨g, j, none⟩ = false := by
  obtain ⟨h1, ⟨rfl, h0⟩ | ⟨g, o, cap, cur, rfl, h3, h4, h5, h6, h7⟩⟩ := h
  · omega
  · refine ⟨g, o, cap, rfl, h4, h5, fun j u hu => ?_, fun j => by simp [World.frozen?, h3]⟩
    subst h7
    have hj : j < n * sz := by
      have := (List.getElem?_eq_some_iff.1 hu).1
      simp only [List.length_take] at this; omega
    rw [List.getElem?_take_of_lt hj, List.getElem?_drop] at hu
    simpa [World.cell?, h3] using hu
theorem Own.slice {w : World} {e sz n : Nat} {v : Value} {xs : List Value} (h : Own w e sz v n xs) : ∃ A cap, v = .slice A n cap ∧ n ≤ cap ∧ cap ≤ maxLen := by
  obtain ⟨h1, ⟨rfl, rfl⟩ | ⟨g, o, cap, cur, rfl, h3, h4, h5, h6, h7⟩⟩ := h
  · exact ⟨none, 0, rfl, by omega, by simp [maxLen]⟩
  · exact ⟨_, cap, rfl, h4, h5⟩

theorem addr_add (g o j : Nat) : (⟨g, o, none⟩ : Addr).add j = ⟨g, o + j, none⟩ := by
  unfold Addr.add; split
  · rename_i h; subst h; rfl
  · rfl

section
variable {P : Program} (w : World)
/-- append(v, news...) onto an owned slice: it lies where it lay, or in a new block. -/
theorem run_append_q (t ty e : TypeId) (i : TypeInfo) (z : Value) (size bytes : Nat) (ht : P.underlying t = some (.slice e)) (hi : P.info? e = some i) (hz : i.zero = some z)
    (hsize : i.size = size) (hby : i.bytes = bytes) (hzs : z.cells.size = size)
    (v : Value) (n : Nat) (xs : List Value) (hown : Own w e size v n xs)
    (a : Addr) (m c : Nat) (news : List Value) (hm : 0 < m) (hl : news.length = m * size) (hnews : ∀ j u, news[j]? = some u → w.cell? (a.add j) = some u) (h1 : ∀ u ∈ news, u.oneCell' = true)
    (h63 : n + m ≤ maxLen) (hbytes : (n + m) * bytes ≤ 140737488355328) :
    ∃ v' w', (Builtin.append_ #[t, t] ty #[v, .slice (some a) m c]).run P w = .ok v' w' ∧ Own w' e size v' (n + m) (xs ++ news) ∧ w.grownBy w' v.ownBlock ∧
      (v'.ownBlock = v.ownBlock ∨ v'.ownBlock = some w.heap.size) := by
  subst hsize
  subst hby
  have hsmall : n + m ≤ 9223372036854775807 := by simp only [maxLen] at h63; omega
  have hlen : (xs ++ news).length = (n + m) * i.size := by rw [List.length_append, hown.1, hl, Nat.add_mul]
  have grown : ∀ (old : Nat), old < n + m → ∀ (row : Option Nat),
      Own (w.drew.alloc (.cells (xs.toArray ++ news.toArray ++ Builtin.zeroCells z.cells (grownCap w (n + m) old e - (n + m))) e)) e i.size
        (.slice (some ⟨w.heap.size, 0, none⟩) (n + m) (grownCap w (n + m) old e)) (n + m) (xs ++ news) ∧
      w.grownBy (w.drew.alloc (.cells (xs.toArray ++ news.toArray ++ Builtin.zeroCells z.cells (grownCap w (n + m) old e - (n + m))) e)) row := by
    intro old ho row
    have hge := grownCap_ge w (n + m) old e
    have hcm : grownCap w (n + m) old e ≤ maxLen := grownCap_le_maxLen w (n + m) old e h63
    refine ⟨⟨hlen, .inr ⟨w.heap.size, 0, _, _, rfl, heap_alloc_new w.drew _, hge, hcm, ?_, ?_⟩⟩, ⟨rfl, rfl, rfl, by simp, fun k hk _ => Below.heap_alloc w.drew _ k hk⟩⟩
    · simp only [Array.size_append, List.size_toArray, size_zeroCells, hzs, hown.1, hl, ← Nat.add_mul]
      rw [Nat.zero_add]
      exact Nat.mul_le_mul_right _ (by omega)
    · simp only [Array.toList_append, List.append_assoc, List.drop_zero]
      rw [← List.append_assoc, ← hlen]
      exact List.take_left
  rcases hown.2 with ⟨rfl, rfl⟩ | ⟨g, o, cap, cur, rfl, hg, hnc, hcm, hcs, htake⟩
  · have hx : xs = [] := List.eq_nil_of_length_eq_zero (by simpa using hown.1)
    subst hx
    have hr := run_append_nil (P := P) w t ty e i z ht hi hz a m c news hl hnews (by omega) (by omega) (by have hb := hbytes; simp only [Nat.zero_add] at hb; omega)
    have hgr := grown 0 (by omega) (Value.ownBlock (.slice none 0 0))
    simp only [Nat.zero_add, List.nil_append, Array.empty_append] at hgr ⊢
    exact ⟨_, _, hr, hgr.1, hgr.2, Or.inr rfl⟩
  · by_cases hroom : n + m ≤ cap
    · have hfit : o + n * i.size + news.length ≤ cur.size := by
        rw [hl, Nat.add_assoc, ← Nat.add_mul]
        exact Nat.le_trans (Nat.add_le_add_left (Nat.mul_le_mul_right _ hroom) _) hcs
      have hf := run_firstCells_some (P := P) w i.size m a m c news hl hnews
      have hst := run_storeCells_at P g (o + n * i.size) e news 0 cur w hg (by simpa using hfit) h1
      simp only [Nat.add_zero] at hst
      refine ⟨.slice (some ⟨g, o, none⟩) (n + m) cap, w.setRow g (cur.toList.take (o + n * i.size) ++ news ++ cur.toList.drop (o + n * i.size + news.length)).toArray, ?_, ⟨hlen, .inr ⟨g, o, cap, _, rfl, setRow_heap w g cur _ e _ hg, hroom, hcm, ?_, ?_⟩⟩, ⟨rfl, rfl, rfl, by simp, fun k _ hk => setRow_other w g k _ (fun e => hk (by simp [Value.ownBlock, e]))⟩, Or.inl rfl⟩
      · simp [Builtin.append_, run_underlying ht, sizeOf, typeInfo, hi, Builtin.lenOf, hroom, hf, addr_add, hst]
      · simp only [List.size_toArray, List.length_append, List.length_take, List.length_drop, Array.length_toList]
        omega
      · have ho : (cur.toList.take (o + n * i.size)).drop o = (cur.toList.drop o).take (n * i.size) := by
          rw [List.drop_take]; congr 1; omega
        have hl1 : o ≤ (cur.toList.take (o + n * i.size)).length := by simp; omega
        rw [List.append_assoc, List.drop_append_of_le_length hl1, ho, htake, ← List.append_assoc, ← hlen]
        exact List.take_left
    · have holds : ∀ j u, xs[j]? = some u → w.cell? ((⟨g, o, none⟩ : Addr).add j) = some u := fun j u hu => by
        rw [addr_add]
        obtain ⟨g', o', cap', he, _, _, hc, _⟩ := Own.form hown (by
          rcases Nat.eq_zero_or_pos n with h0 | h0
          · subst h0; have := hown.1; simp at this; subst this; simp at hu
          · exact h0)
        cases he
        exact hc j u hu
      have hr := run_append_grow (P := P) w t ty e i z ht hi hz ⟨g, o, none⟩ n cap xs hown.1 holds a m c news hl hnews (by omega) (by omega) (growslice_fits (by omega) hbytes)
      have hgr := grown cap (by omega) (Value.ownBlock (.slice (some ⟨g, o, none⟩) n cap))
      exact ⟨_, _, hr, hgr.1, hgr.2, Or.inr rfl⟩
/-- At the operation, for the walk. -/
theorem wpList_append_q {ops : Array Oper} {rest : List Oper} {o : Oper} {a : Act} {Q : Exit → Act → World → Prop} (hgd : o.guard = none) (s x : Operand) (t : TypeId)
    (ho : o.op = .call { callee := .builtin .append, args := #[s, x], argTypes := #[t, t] })
    (e : TypeId) (i : TypeInfo) (z : Value) (size bytes : Nat) (ht : P.underlying t = some (.slice e)) (hi : P.info? e = some i) (hz : i.zero = some z)
    (hsize : i.size = size) (hby : i.bytes = bytes) (hzs : z.cells.size = size)
    (v : Value) (n : Nat) (xs : List Value) (hs : a.eval s = v) (hown : Own w e size v n xs)
    (ad : Addr) (m c : Nat) (news : List Value) (hm : 0 < m) (hx : a.eval x = .slice (some ad) m c) (hl : news.length = m * size) (hnews : ∀ j u, news[j]? = some u → w.cell? (ad.add j) = some u) (h1 : ∀ u ∈ news, u.oneCell' = true)
    (h63 : n + m ≤ maxLen) (hbytes : (n + m) * bytes ≤ 140737488355328)
    (h : ∀ v' w', Own w' e size v' (n + m) (xs ++ news) → w.grownBy w' v.ownBlock → (v'.ownBlock = v.ownBlock ∨ v'.ownBlock = some w.heap.size) → wpList P ops Q rest (a.put o.dst v') w') :
    wpList P ops Q (o :: rest) a w := by
  refine wpList_plain hgd fun K hK => ?_
  obtain ⟨v', w', hr, h2, h3, h5⟩ := run_append_q (P := P) w t o.type e i z size bytes ht hi hz hsize hby hzs v n xs hown ad m c news hm hl hnews h1 h63 hbytes
  unfold Oper.wp execOp
  simp only [ho, resolve, invoke, builtin, Sem.run_bind, Sem.run_pure, Result.andThen_ok, List.map_toArray, List.map_cons, List.map_nil, hs, hx, hr]
  exact hK _ _ (h v' w' h2 h3 h5)
end
theorem info_int : (Tryz.prog.info? 3).map (fun i => (i.zero, i.size, i.bytes)) = some (some (.int .i64 0), 1, 8) := by kernel_rfl
/-- append(v, u), whole numbers. -/
theorem wpList_append_int (w : World) {ops : Array Oper} {rest : List Oper} {o : Oper} {a : Act} {Q : Exit → Act → World → Prop} (hgd : o.guard = none) (s x : Operand)
    (ho : o.op = .call { callee := .builtin .append, args := #[s, x], argTypes := #[28, 28] })
    (v : Value) (n : Nat) (xs : List Value) (hs : a.eval s = v) (hown : Own w 3 1 v n xs) (g c : Nat) (u : Int) (hx : a.eval x = .slice (some ⟨g, 0, none⟩) 1 c) (hu : w.cell? ⟨g, 0, none⟩ = some (.int .i64 u)) (hn : n + 1 ≤ 17592186044416)
    (h : ∀ v' w', Own w' 3 1 v' (n + 1) (xs ++ [.int .i64 u]) → w.grownBy w' v.ownBlock → (v'.ownBlock = v.ownBlock ∨ v'.ownBlock = some w.heap.size) → wpList Tryz.prog ops Q rest (a.put o.dst v') w') :
    wpList Tryz.prog ops Q (o :: rest) a w := by
  obtain ⟨i0, hi, hz0, hz1, hz2⟩ := info_parts info_int
  refine wpList_append_q w hgd s x 28 ho 3 i0 (.int .i64 0) 1 8 Tryz.underlying28 hi hz0 hz1 hz2 rfl v n xs hs hown ⟨g, 0, none⟩ 1 c [.int .i64 u] (by omega) hx rfl ?_ ?_ (by simp [maxLen]; omega) (by omega) h
  · intro j y hy
    obtain ⟨hj, rfl⟩ := List.getElem?_eq_some_iff.1 hy
    have : j = 0 := by simpa using hj
    subst this
    simpa [addr_add] using hu
  · simp [Value.oneCell']
end Go.Proofs.YtjpgcokdlopkaaaGreatDoor


namespace Go.Proofs.YtjpgcokdlopkaaaGreatDoor
open Go.RowKit
theorem SlF.low {α : Type} {B B' sz : Nat} {R : World → Nat → Nat → α → Prop} {w : World} {v : Value} {xs : List α} (h : SlF B sz R w v xs) (hB : B' ≤ B) : SlF B' sz R w v xs := by
  obtain ⟨c, h1, h2, h3 | ⟨b, o, hb, rfl, h3⟩⟩ := h
  · exact ⟨c, h1, h2, .inl h3⟩
  · exact ⟨c, h1, h2, .inr ⟨b, o, Nat.le_trans hB hb, rfl, h3⟩⟩
theorem SlF.form {α : Type} {B sz : Nat} {R : World → Nat → Nat → α → Prop} {w : World} {v : Value} {xs : List α} (h : SlF B sz R w v xs) : ∃ A c, v = .slice A xs.length c ∧ xs.length ≤ c ∧ c ≤ 9223372036854775807 := by
  obtain ⟨c, h1, h2, ⟨rfl, A, rfl⟩ | ⟨b, o, _, rfl, h3⟩⟩ := h
  · exact ⟨A, c, rfl, h1, h2⟩
  · exact ⟨_, c, rfl, h1, h2⟩
theorem SlF.at_ {α : Type} {B sz : Nat} {R : World → Nat → Nat → α → Prop} {w : World} {A : Option Addr} {n c : Nat} {xs : List α} (h : SlF B sz R w (.slice A n c) xs) {i : Nat} {x : α} (hx : xs[i]? = some x) : ∃ b o, A = some ⟨b, o, none⟩ ∧ B ≤ b ∧ R w b (o + i * sz) x := by
  obtain ⟨c, h1, h2, ⟨rfl, A, _⟩ | ⟨b, o, hb, he, h3⟩⟩ := h
  · simp at hx
  · cases he
    exact ⟨b, o, rfl, hb, h3 i x hx⟩
theorem SlF.ints_mods {B : Nat} {w w' : World} {v : Value} {xs : List Int} {S : List Nat} (h : SlF B 1 intR w v xs) (hw : Mods S w w') (hs : ∀ k, k ∈ S → k < B) : SlF B 1 intR w' v xs := by
  obtain ⟨c, h1, h2, h3 | ⟨b, o, hb, rfl, h3⟩⟩ := h
  · exact ⟨c, h1, h2, .inl h3⟩
  · refine ⟨c, h1, h2, .inr ⟨b, o, hb, rfl, fun i x hx => ?_⟩⟩
    have hc := h3 i x hx
    exact (World.cell?_of_block (hw.block _ (cell_lt (by rw [show w.cell? _ = _ from hc]; rfl)) (fun hk => by have := hs _ hk; simp at this; omega))).trans hc
end Go.Proofs.YtjpgcokdlopkaaaGreatDoor
