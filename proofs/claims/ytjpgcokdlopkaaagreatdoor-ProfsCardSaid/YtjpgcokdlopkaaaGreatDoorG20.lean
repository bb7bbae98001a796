/- Lemmas for a claim of the seat YtjpgcokdlopkaaaGreatDoor. Written in part by programs of the claim's repo. By an AI agent. -/
import Derived.Test.YtjpgcokdlopkaaaGreatDoorG06
import Derived.Laws.StructEq
import Derived.Test.YtjpgcokdlopkaaaGreatDoorG18
import Derived.Test.YtjpgcokdlopkaaaGreatDoorG19
import Derived.Test.YtjpgcokdlopkaaaGreatDoorG16
import Derived.Test.YtjpgcokdlopkaaaGreatDoorG17

namespace Go.Proofs.YtjpgcokdlopkaaaGreatDoor
open Go.RowKit

theorem num_calls (x : Int) (w : World) : Calls Tryz.prog 12 #[.int .i64 x] w fun e w' => e = .returned (.int .i64 x) ∧ w' = w := by
  go_enter Tryz.func12, Tryz.ntmps12
  go_wp2
  go_ret
  exact ⟨ret_int (by simp), rfl⟩
theorem list_ne_of_get {α : Type} {xs ys : List α} {k : Nat} {x y : α} (hx : xs[k]? = some x) (hy : ys[k]? = some y) (h : x ≠ y) : xs ≠ ys := fun e => by
  rw [e, hy] at hx; exact h (Option.some.inj hx).symm
theorem list_eq_of_get {α : Type} {xs ys : List α} (hl : xs.length = ys.length) (h : ∀ j, j < xs.length → xs[j]? = ys[j]?) : xs = ys := by
  refine List.ext_getElem? fun j => ?_
  rcases Nat.lt_or_ge j xs.length with h1 | h1
  · exact h j h1
  · rw [List.getElem?_eq_none_iff.2 h1, List.getElem?_eq_none_iff.2 (by omega)]
set_option maxHeartbeats 1000000 in
theorem sameInts_calls (va vb : Value) (xs ys : List Int) (w : World) (ha : Ints w va xs) (hb : Ints w vb ys) : Calls Tryz.prog 27 #[va, vb] w fun e w' => e = .returned (.bool (decide (xs = ys))) ∧ ∃ x, w' = w.ext x := by
  obtain ⟨A, c, rfl, k1, k2⟩ := ha.form
  obtain ⟨B, d, rfl, k3, k4⟩ := hb.form
  have HA := Lib.hid ha
  have HB := Lib.hid hb
  clear ha hb
  by_cases hl : xs.length = ys.length
  · obtain ⟨m, hm⟩ : ∃ m, ys.length = m := ⟨_, rfl⟩
    rw [hm] at hl k3 HB ⊢
    subst hl
    have HM := Lib.hid hm
    clear hm
    go_enter Tryz.func27, Tryz.ntmps27
    go_wp2
    go_loopw [5] (fun i wr => ∃ k : Nat, i = .int .i64 k ∧ k ≤ xs.length ∧ Hid (∀ j, j < k → xs[j]? = ys[j]?) ∧ Hid (Mods [] w wr)) (fun i _ => xs.length - (intOf i).toNat)
    case atStart => exact ⟨0, rfl, Nat.zero_le _, fun j h => absurd h (Nat.not_lt_zero _), (by repeat (first | exact Mods.refl _ _ | refine Mods.alloc ?_ _ | refine Mods.ext ?_ _ | refine Mods.drew ?_ | refine Mods.drewN ?_ _))⟩
    case round =>
      obtain ⟨k, rfl, hk, HE, HW⟩ := hrel
      by_cases hlt : k < xs.length
      · have hlt2 : k < ys.length := by have := HM.out; omega
        obtain ⟨b, o, rfl, hx⟩ := HA.out.at_ (get_some hlt)
        obtain ⟨b2, o2, rfl, hy⟩ := HB.out.at_ (get_some hlt2)
        have hx' := HW.out.cell hx
        have hy' := HW.out.cell hy
        rw [Nat.mul_one] at hx' hy'
        clear hx hy
        have i0 : (0 : Int) ≤ (k : Int) := by omega
        have i1 : (k : Int) < (xs.length : Int) := by omega
        by_cases hxy : xs[k] = ys[k]
        · have hn : (xs[k] != ys[k]) = false := by simp [hxy]
          have HXY := Lib.hid hxy
          clear hxy
          go_wp2
          (refine wp_region_ext (by kernel_rfl) (by kernel_rfl) ?_; (repeat (go_big_quiet_step (fail))); refine wpQuiet_nil ?_; rintro _ ⟨xq, rfl⟩)
          go_wp2
          go_roundw
          case rel =>
            go_light
            refine ⟨k + 1, by go_num, by omega, fun j hj => ?_, HW.out.ext _⟩
            by_cases hjk : j < k
            · exact HE.out j hjk
            · obtain rfl : j = k := by omega
              rw [get_some hlt, get_some hlt2, HXY.out]
          case measure => simp [intOf]; omega
        · have hn : (xs[k] != ys[k]) = true := by simp [hxy]
          have HXY := Lib.hid hxy
          clear hxy
          go_wp2
          (refine wp_region_ext (by kernel_rfl) (by kernel_rfl) ?_; (repeat (go_big_quiet_step (fail))); refine wpQuiet_nil ?_; rintro _ ⟨xq, rfl⟩)
          go_wp2
          go_ret
          exact ⟨ret_bool (decide_eq_false (list_ne_of_get (get_some hlt) (get_some hlt2) HXY.out)).symm, (HW.out.ext _).ex⟩
      · have hke : k = xs.length := by omega
        subst hke
        go_wp2
        go_ret
        exact ⟨ret_bool (decide_eq_true (list_eq_of_get HM.out.symm HE.out)).symm, HW.out.ex⟩
  · have hn : ((xs.length : Int) != (ys.length : Int)) = true := by simp; omega
    have HL := Lib.hid hl
    clear hl
    go_enter Tryz.func27, Tryz.ntmps27
    go_wp2
    go_ret
    exact ⟨ret_bool (decide_eq_false (fun e => HL.out (by rw [e]))).symm, Mods.ex (by repeat (first | exact Mods.refl _ _ | refine Mods.alloc ?_ _ | refine Mods.ext ?_ _ | refine Mods.drew ?_ | refine Mods.drewN ?_ _))⟩
def eq3 (a b c a' b' c' : Int) : Bool := a == a' && b == b' && c == c'
@[go_sem high] theorem eqArgProf (a b c a' b' c' : Int) (w : World) : (Op.equalIn 10000 62 (.agg #[.int .i64 a, .int .i64 b, .int .i64 c]) (.agg #[.int .i64 a', .int .i64 b', .int .i64 c'])).run Tryz.prog w = .ok (eq3 a b c a' b' c') w := by
  have u3 := Tryz.underlying3
  rw [show (10000 : Nat) = 9999 + 1 from rfl, run_equalIn_agg w 9999 62 _ _ (by kernel_rfl) (by kernel_rfl)]
  simp only [Program.fieldsOf, Tryz.underlying62]
  go_simp
  unfold eq3
  by_cases h1 : a = a' <;> by_cases h2 : b = b' <;> by_cases h3 : c = c' <;> simp [h1, h2, h3]
theorem eq3_arg {x y : ArgP} : eq3 x.value x.same x.other y.value y.same y.other = decide (x = y) := by
  obtain ⟨a, b, c⟩ := x
  obtain ⟨a', b', c'⟩ := y
  rw [Bool.eq_iff_iff]
  simp [eq3, and_assoc]
@[go_sem] theorem guardArgProf (op : BinOp) (x y : Operand) (xs ys : Array Value) (w : World) : (eqGuard op 62 x y (.agg xs) (.agg ys)).run Tryz.prog w = .ok () w := run_eqGuard_agg w op _ x y xs ys (by kernel_rfl)
set_option maxHeartbeats 1000000 in
theorem sameArgs_calls (va vb : Value) (xs ys : List ArgP) (w : World) (ha : ArgPs w va xs) (hb : ArgPs w vb ys) : Calls Tryz.prog 28 #[va, vb] w fun e w' => e = .returned (.bool (decide (xs = ys))) ∧ ∃ x, w' = w.ext x := by
  obtain ⟨A, c, rfl, k1, k2⟩ := ha.form
  obtain ⟨B, d, rfl, k3, k4⟩ := hb.form
  have HA := Lib.hid ha
  have HB := Lib.hid hb
  clear ha hb
  by_cases hl : xs.length = ys.length
  · obtain ⟨m, hm⟩ : ∃ m, ys.length = m := ⟨_, rfl⟩
    rw [hm] at hl k3 HB ⊢
    subst hl
    have HM := Lib.hid hm
    clear hm
    go_enter Tryz.func28, Tryz.ntmps28
    go_wp2
    go_loopw [5] (fun i wr => ∃ k : Nat, i = .int .i64 k ∧ k ≤ xs.length ∧ Hid (∀ j, j < k → xs[j]? = ys[j]?) ∧ Hid (Mods [] w wr)) (fun i _ => xs.length - (intOf i).toNat)
    case atStart => exact ⟨0, rfl, Nat.zero_le _, fun j h => absurd h (Nat.not_lt_zero _), (by repeat (first | exact Mods.refl _ _ | refine Mods.alloc ?_ _ | refine Mods.ext ?_ _ | refine Mods.drew ?_ | refine Mods.drewN ?_ _))⟩
    case round =>
      obtain ⟨k, rfl, hk, HE, HW⟩ := hrel
      by_cases hlt : k < xs.length
      · have hlt2 : k < ys.length := by have := HM.out; omega
        obtain ⟨b, o, rfl, hx⟩ := HA.out.at_ (get_some hlt)
        obtain ⟨b2, o2, rfl, hy⟩ := HB.out.at_ (get_some hlt2)
        obtain ⟨hx0, hx1, hx2⟩ := argR_grows.ext HW.out hx
        obtain ⟨hy0, hy1, hy2⟩ := argR_grows.ext HW.out hy
        clear hx hy
        have i0 : (0 : Int) ≤ (k : Int) := by omega
        have i1 : (k : Int) < (xs.length : Int) := by omega
        by_cases hxy : xs[k] = ys[k]
        · have hn : eq3 xs[k].value xs[k].same xs[k].other ys[k].value ys[k].same ys[k].other = true := by rw [eq3_arg]; exact decide_eq_true hxy
          have HXY := Lib.hid hxy
          clear hxy
          go_wp2
          (refine wp_region_ext (by kernel_rfl) (by kernel_rfl) ?_; (repeat (go_big_quiet_step (fail))); refine wpQuiet_nil ?_; rintro _ ⟨xq, rfl⟩)
          go_wp2
          go_roundw
          case rel =>
            go_light
            refine ⟨k + 1, by go_num, by omega, fun j hj => ?_, HW.out.ext _⟩
            by_cases hjk : j < k
            · exact HE.out j hjk
            · obtain rfl : j = k := by omega
              rw [get_some hlt, get_some hlt2, HXY.out]
          case measure => simp [intOf]; omega
        · have hn : eq3 xs[k].value xs[k].same xs[k].other ys[k].value ys[k].same ys[k].other = false := by rw [eq3_arg]; exact decide_eq_false hxy
          have HXY := Lib.hid hxy
          clear hxy
          go_wp2
          (refine wp_region_ext (by kernel_rfl) (by kernel_rfl) ?_; (repeat (go_big_quiet_step (fail))); refine wpQuiet_nil ?_; rintro _ ⟨xq, rfl⟩)
          go_wp2
          go_ret
          exact ⟨ret_bool (decide_eq_false (list_ne_of_get (get_some hlt) (get_some hlt2) HXY.out)).symm, (HW.out.ext _).ex⟩
      · have hke : k = xs.length := by omega
        subst hke
        go_wp2
        go_ret
        exact ⟨ret_bool (decide_eq_true (list_eq_of_get HM.out.symm HE.out)).symm, HW.out.ex⟩
  · have hn : ((xs.length : Int) != (ys.length : Int)) = true := by simp; omega
    have HL := Lib.hid hl
    clear hl
    go_enter Tryz.func28, Tryz.ntmps28
    go_wp2
    go_ret
    exact ⟨ret_bool (decide_eq_false (fun e => HL.out (by rw [e]))).symm, Mods.ex (by repeat (first | exact Mods.refl _ _ | refine Mods.alloc ?_ _ | refine Mods.ext ?_ _ | refine Mods.drew ?_ | refine Mods.drewN ?_ _))⟩
end Go.Proofs.YtjpgcokdlopkaaaGreatDoor


namespace Go.Proofs.YtjpgcokdlopkaaaGreatDoor
open Go.RowKit

theorem ResPost.at {w w' : World} {r : List FunP × Int} {e : Ending} (h : ResPost w r e w') {rs : List FunP} {err : Int} {n : Nat} (hr : r = (rs, err)) (hn : rs.length = n) : ∃ A c, e = .returned (.tuple #[.agg #[.slice A n c], .int .i64 err]) ∧ (∃ fs, ProfF w.heap.size w' (.slice A n c) fs rs) ∧ Mods [] w w' := by
  obtain ⟨v, rfl, ho, x, hx⟩ := h
  subst hr; subst hn
  obtain ⟨fs, hp⟩ := ho
  obtain ⟨A, c, rfl, _, _⟩ := hp.1.1.slice
  exact ⟨A, c, rfl, ⟨fs, hp⟩, mods_of hx⟩

set_option maxHeartbeats 16000000 in
set_option maxRecDepth 100000 in
theorem awake_calls (w : World) (hG : EType w) : Calls Tryz.prog 16 #[] w fun e w' => e = .returned (.bool true) ∧ ∃ x, w' = w.ext x := by
  have HG := Lib.hid hG
  clear hG
  go_enter Tryz.func16, Tryz.ntmps16
  go_wp2_with (go_at_call 34; (with_reducible refine (two_calls _).mono ?_); rintro e w0 ⟨P, rfl, hp, x, hx⟩; obtain ⟨A, c, hPe, _, _⟩ := hp.form; obtain rfl : P = .slice A 2 c := hPe; have HM0 := Lib.hid (mods_of hx); have HQ0 := Lib.hid (Mods.refl [] w0); have HV := Lib.hid (show Funs w0 (.slice A 2 c) twoP from hp); clear hx hp)
  go_wp2_with (go_at_call 5; (with_reducible refine (new_calls _ twoP _ ?_ ?_).mono ?_); (exact HG.out.ext (HM0.out.trans (by repeat (first | exact Mods.refl _ _ | refine Mods.alloc ?_ _ | refine Mods.ext ?_ _ | refine Mods.drew ?_ | refine Mods.drewN ?_ _)))); (exact HV.out.ext funR_grows (HQ0.out.trans (by repeat (first | exact Mods.refl _ _ | refine Mods.alloc ?_ _ | refine Mods.ext ?_ _ | refine Mods.drew ?_ | refine Mods.drewN ?_ _)))); rintro e w1 hres; obtain ⟨A1, c1, rfl, ⟨fs1, hp1⟩, hM⟩ := hres.at (n := 2) new_two rfl; have hs : Mods [] w0 w1 := Mods.trans (by repeat (first | exact Mods.refl _ _ | refine Mods.alloc ?_ _ | refine Mods.ext ?_ _ | refine Mods.drew ?_ | refine Mods.drewN ?_ _)) hM; have bP_1 : w1.cell? ⟨w0.heap.size, 0, none⟩ = some (.slice A 2 c) := hM.cell (by go_simp); have HP1 := Lib.hid hp1.o.profs; have HM1 := Lib.hid (HM0.out.trans hs); have HQ1 := Lib.hid (HQ0.out.trans hs); clear hM hs hp1 hres)
  go_wp2_with (go_at_call 7; (with_reducible refine (called_calls _ _ _ twoP aw1 1 [4, 5] _ ?_ ?_ ?_ ?_).mono ?_); (exact HG.out.ext (HM1.out.trans (by repeat (first | exact Mods.refl _ _ | refine Mods.alloc ?_ _ | refine Mods.ext ?_ _ | refine Mods.drew ?_ | refine Mods.drewN ?_ _)))); (exact HV.out.ext funR_grows (HQ1.out.trans (by repeat (first | exact Mods.refl _ _ | refine Mods.alloc ?_ _ | refine Mods.ext ?_ _ | refine Mods.drew ?_ | refine Mods.drewN ?_ _)))); (exact HP1.out.ext fpR_grows (by repeat (first | exact Mods.refl _ _ | refine Mods.alloc ?_ _ | refine Mods.ext ?_ _ | refine Mods.drew ?_ | refine Mods.drewN ?_ _))); (exact ints_two (by go_simp) (by go_simp)); rintro e w2 hres; obtain ⟨A2, c2, rfl, ⟨fs2, hp2⟩, hM⟩ := hres.at (n := 2) called1 rfl; have hs : Mods [] w1 w2 := Mods.trans (by repeat (first | exact Mods.refl _ _ | refine Mods.alloc ?_ _ | refine Mods.ext ?_ _ | refine Mods.drew ?_ | refine Mods.drewN ?_ _)) hM; have bP_2 : w2.cell? ⟨w0.heap.size, 0, none⟩ = some (.slice A 2 c) := hM.cell (by go_simp); have bA_2 : w2.cell? ⟨w1.heap.size, 0, none⟩ = some (.slice A1 2 c1) := hM.cell (by go_simp); have HP1 := Lib.hid (HP1.out.ext fpR_grows hs); have HP2 := Lib.hid hp2.o.profs; have HM2 := Lib.hid (HM1.out.trans hs); have HQ2 := Lib.hid (HQ1.out.trans hs); clear hM hs hp2 hres)
  go_wp2_with (go_at_call 7; (with_reducible refine (called_calls _ _ _ twoP aw2 1 [4, 6] _ ?_ ?_ ?_ ?_).mono ?_); (exact HG.out.ext (HM2.out.trans (by repeat (first | exact Mods.refl _ _ | refine Mods.alloc ?_ _ | refine Mods.ext ?_ _ | refine Mods.drew ?_ | refine Mods.drewN ?_ _)))); (exact HV.out.ext funR_grows (HQ2.out.trans (by repeat (first | exact Mods.refl _ _ | refine Mods.alloc ?_ _ | refine Mods.ext ?_ _ | refine Mods.drew ?_ | refine Mods.drewN ?_ _)))); (exact HP2.out.ext fpR_grows (by repeat (first | exact Mods.refl _ _ | refine Mods.alloc ?_ _ | refine Mods.ext ?_ _ | refine Mods.drew ?_ | refine Mods.drewN ?_ _))); (exact ints_two (by go_simp) (by go_simp)); rintro e w3 hres; obtain ⟨A3, c3, rfl, ⟨fs3, hp3⟩, hM⟩ := hres.at (n := 2) called2 rfl; have hs : Mods [] w2 w3 := Mods.trans (by repeat (first | exact Mods.refl _ _ | refine Mods.alloc ?_ _ | refine Mods.ext ?_ _ | refine Mods.drew ?_ | refine Mods.drewN ?_ _)) hM; have bP_3 : w3.cell? ⟨w0.heap.size, 0, none⟩ = some (.slice A 2 c) := hM.cell (by go_simp); have bA_3 : w3.cell? ⟨w1.heap.size, 0, none⟩ = some (.slice A1 2 c1) := hM.cell (by go_simp); have bB_3 : w3.cell? ⟨w2.heap.size, 0, none⟩ = some (.slice A2 2 c2) := hM.cell (by go_simp); have HP1 := Lib.hid (HP1.out.ext fpR_grows hs); have HP3 := Lib.hid hp3.o.profs; have HM3 := Lib.hid (HM2.out.trans hs); have HQ3 := Lib.hid (HQ2.out.trans hs); clear hM hs hp3 hres)
  go_wp2_with (go_at_call 9; (with_reducible refine (branched_calls _ _ twoP aw1 0 0 true _ ?_ ?_ ?_).mono ?_); (exact HG.out.ext (HM3.out.trans (by repeat (first | exact Mods.refl _ _ | refine Mods.alloc ?_ _ | refine Mods.ext ?_ _ | refine Mods.drew ?_ | refine Mods.drewN ?_ _)))); (exact HV.out.ext funR_grows (HQ3.out.trans (by repeat (first | exact Mods.refl _ _ | refine Mods.alloc ?_ _ | refine Mods.ext ?_ _ | refine Mods.drew ?_ | refine Mods.drewN ?_ _)))); (exact HP1.out.ext fpR_grows (by repeat (first | exact Mods.refl _ _ | refine Mods.alloc ?_ _ | refine Mods.ext ?_ _ | refine Mods.drew ?_ | refine Mods.drewN ?_ _))); rintro e w4 hres; obtain ⟨A4, c4, rfl, ⟨fs4, hp4⟩, hM⟩ := hres.at (n := 0) branched1 rfl; have hs : Mods [] w3 w4 := Mods.trans (by repeat (first | exact Mods.refl _ _ | refine Mods.alloc ?_ _ | refine Mods.ext ?_ _ | refine Mods.drew ?_ | refine Mods.drewN ?_ _)) hM; have bP_4 : w4.cell? ⟨w0.heap.size, 0, none⟩ = some (.slice A 2 c) := hM.cell (by go_simp); have bC_4 : w4.cell? ⟨w3.heap.size, 0, none⟩ = some (.slice A3 2 c3) := hM.cell (by go_simp); have HP3 := Lib.hid (HP3.out.ext fpR_grows hs); have HP4 := Lib.hid hp4.o.profs; have HM4 := Lib.hid (HM3.out.trans hs); have HQ4 := Lib.hid (HQ3.out.trans hs); clear hM hs hp4 hres)
  go_wp2_with (go_at_call 5; (with_reducible refine (new_calls _ [] _ ?_ ?_).mono ?_); (exact HG.out.ext (HM4.out.trans (by repeat (first | exact Mods.refl _ _ | refine Mods.alloc ?_ _ | refine Mods.ext ?_ _ | refine Mods.drew ?_ | refine Mods.drewN ?_ _)))); (exact SlR.nil); rintro e w5 hres; obtain ⟨A5, c5, rfl, ⟨fs5, hp5⟩, hM⟩ := hres.at (n := 0) new_none rfl; have hs : Mods [] w4 w5 := Mods.trans (by repeat (first | exact Mods.refl _ _ | refine Mods.alloc ?_ _ | refine Mods.ext ?_ _ | refine Mods.drew ?_ | refine Mods.drewN ?_ _)) hM; have bP_5 : w5.cell? ⟨w0.heap.size, 0, none⟩ = some (.slice A 2 c) := hM.cell (by go_simp); have bC_5 : w5.cell? ⟨w3.heap.size, 0, none⟩ = some (.slice A3 2 c3) := hM.cell (by go_simp); have HP3 := Lib.hid (HP3.out.ext fpR_grows hs); have HP5 := Lib.hid hp5.o.profs; have HM5 := Lib.hid (HM4.out.trans hs); have HQ5 := Lib.hid (HQ4.out.trans hs); clear hM hs hp5 hres; obtain ⟨b3, o3, rfl, g0, _, _, va, g3, ha⟩ := HP3.out.at_ (show aw3[1]? = some _ from rfl); obtain ⟨D, cd, hva, _, _⟩ := ha.form; obtain rfl : va = .slice D 2 cd := hva; obtain ⟨bd, od, rfl, d0, d1, d2⟩ := ha.at_ (show ([⟨4, 2, 0⟩, ⟨5, 1, 1⟩] : List ArgP)[0]? = some ⟨4, 2, 0⟩ from rfl); obtain ⟨bd', od', he, e0, e1, e2⟩ := ha.at_ (show ([⟨4, 2, 0⟩, ⟨5, 1, 1⟩] : List ArgP)[1]? = some ⟨5, 1, 1⟩ from rfl); cases he; simp only [Nat.zero_mul, Nat.one_mul, Nat.add_zero] at g0 g3 d0 d1 d2 e0 e1 e2; clear ha)
  go_wp2_with (first | (go_at_call 12; (with_reducible refine (num_calls _ _).mono ?_); rintro e w' ⟨rfl, rfl⟩) | (go_at_call 13; (with_reducible refine (profMay_is _ _ twoP aw3 _ _ may_yes ?_ ?_ ?_).mono ?_); (exact HG.out.ext (HM5.out.trans (by repeat (first | exact Mods.refl _ _ | refine Mods.alloc ?_ _ | refine Mods.ext ?_ _ | refine Mods.drew ?_ | refine Mods.drewN ?_ _)))); (exact HV.out.ext funR_grows (HQ5.out.trans (by repeat (first | exact Mods.refl _ _ | refine Mods.alloc ?_ _ | refine Mods.ext ?_ _ | refine Mods.drew ?_ | refine Mods.drewN ?_ _)))); (exact HP3.out.ext fpR_grows (by repeat (first | exact Mods.refl _ _ | refine Mods.alloc ?_ _ | refine Mods.ext ?_ _ | refine Mods.drew ?_ | refine Mods.drewN ?_ _))); rintro e w6 ⟨rfl, x1, hx1⟩; have hM := mods_of hx1; have bP_6 : w6.cell? ⟨w0.heap.size, 0, none⟩ = some (.slice A 2 c) := hM.cell (by go_simp); have HM6 := Lib.hid (HM5.out.trans (Mods.trans (by repeat (first | exact Mods.refl _ _ | refine Mods.alloc ?_ _ | refine Mods.ext ?_ _ | refine Mods.drew ?_ | refine Mods.drewN ?_ _)) hM)); have HQ6 := Lib.hid (HQ5.out.trans (Mods.trans (by repeat (first | exact Mods.refl _ _ | refine Mods.alloc ?_ _ | refine Mods.ext ?_ _ | refine Mods.drew ?_ | refine Mods.drewN ?_ _)) hM)); clear hx1 hM) | (go_at_call 13; (with_reducible refine (profMay_is _ _ twoP [] _ _ may_no ?_ ?_ ?_).mono ?_); (exact HG.out.ext (HM6.out.trans (by repeat (first | exact Mods.refl _ _ | refine Mods.alloc ?_ _ | refine Mods.ext ?_ _ | refine Mods.drew ?_ | refine Mods.drewN ?_ _)))); (exact HV.out.ext funR_grows (HQ6.out.trans (by repeat (first | exact Mods.refl _ _ | refine Mods.alloc ?_ _ | refine Mods.ext ?_ _ | refine Mods.drew ?_ | refine Mods.drewN ?_ _)))); (exact SlR.nil); rintro e w7 ⟨rfl, x1, hx1⟩; have HM7 := Lib.hid (HM6.out.trans (Mods.trans (by repeat (first | exact Mods.refl _ _ | refine Mods.alloc ?_ _ | refine Mods.ext ?_ _ | refine Mods.drew ?_ | refine Mods.drewN ?_ _)) (mods_of hx1))); clear hx1))
  go_ret
  go_light
  exact ⟨rfl, HM7.out.ex⟩
end Go.Proofs.YtjpgcokdlopkaaaGreatDoor


namespace Go.Proofs.YtjpgcokdlopkaaaGreatDoor
open Go.RowKit

theorem fpMay_good {f : Fun} {x : FunP} (h1 : countB x.calls = true) (h2 : countsB x.jumps f.code.length = true) (h3 : countsB x.falls f.code.length = true) (h4 : (x.args.length : Int) = f.args) (h5 : ∀ (n : Nat) (a : ArgP), x.args[n]? = some a → argMay a = true) : fpMay f x = true := by
  unfold fpMay
  rw [h1, h2, h3, decide_eq_true h4]
  have : (x.args.any fun a => !argMay a) = false := by
    rw [List.any_eq_false]
    intro a ha
    obtain ⟨n, hn⟩ := List.getElem?_of_mem ha
    rw [h5 n a hn]; simp
  rw [this]; rfl
theorem fpMay_bad {f : Fun} {x : FunP} {n : Nat} {a : ArgP} (hn : x.args[n]? = some a) (ha : argMay a = false) : fpMay f x = false := by
  have : (x.args.any fun a => !argMay a) = true := List.any_eq_true.2 ⟨a, List.mem_of_getElem? hn, by rw [ha]; rfl⟩
  unfold fpMay
  rw [this]; simp
theorem refNumber_is (x : Int) (b : Bool) (w : World) (h : numB x = b) : Calls Tryz.prog 31 #[.int .i64 x] w fun e w' => e = .returned (.bool b) ∧ w' = w := h ▸ refNumber_calls x w
set_option maxHeartbeats 8000000 in
set_option maxRecDepth 100000 in
theorem rProfMay_calls (v u : Value) (p : List Fun) (rs : List FunP) (w : World) (hv : Funs w v p) (hu : Profs w u rs) : Calls Tryz.prog 14 #[.agg #[v], .agg #[u]] w fun e w' => e = .returned (.bool (profMay p rs)) ∧ ∃ x, w' = w.ext x := by
  obtain ⟨A, c, rfl, k1, k2⟩ := hv.form
  obtain ⟨B, d, rfl, k3, k4⟩ := hu.form
  have HV := Lib.hid hv
  have HU := Lib.hid hu
  clear hv hu
  by_cases hver : ∃ hss, Ver p hss
  · have HVER := Lib.hid hver
    clear hver
    by_cases hl : rs.length = p.length
    · obtain ⟨m, hm⟩ : ∃ m, rs.length = m := ⟨_, rfl⟩
      rw [hm] at hl k3 HU ⊢
      subst hl
      have HL := Lib.hid hm
      clear hm
      go_enter Tryz.func14, Tryz.ntmps14
      go_wp2_with (go_at_call 19; (with_reducible refine (rVerify_yes _ p _ ?_ HVER.out).mono ?_); (exact HV.out.ext funR_grows (by repeat (first | exact Mods.refl _ _ | refine Mods.alloc ?_ _ | refine Mods.ext ?_ _ | refine Mods.drew ?_ | refine Mods.drewN ?_ _))); rintro e w1 ⟨rfl, x1, hx1⟩; have hM := ((Mods.refl [] w).alloc (Obj.cells #[Value.slice A p.length c] 24) |>.alloc (Obj.cells #[Value.slice B p.length d] 27)).trans (mods_of hx1); have hb0 : w1.cell? ⟨w.heap.size, 0, none⟩ = some (.slice A p.length c) := (mods_of hx1).cell (by go_simp); have hb1 : w1.cell? ⟨w.heap.size + 1, 0, none⟩ = some (.slice B p.length d) := (mods_of hx1).cell (by go_simp); have HM := Lib.hid hM; clear hM hx1)
      go_loopw [5] (fun i wr => ∃ k : Nat, i = .int .i64 k ∧ k ≤ p.length ∧ Hid (∀ (j : Nat) (f : Fun) (x : FunP), j < k → p[j]? = some f → rs[j]? = some x → fpMay f x = true) ∧ Hid (Mods [] w1 wr)) (fun i _ => p.length - (intOf i).toNat)
      case atStart => exact ⟨0, rfl, Nat.zero_le _, fun j f x h => absurd h (Nat.not_lt_zero _), Mods.refl _ _⟩
      case round =>
        obtain ⟨i, rfl, hi, HE, HW⟩ := hrel
        have hb0' := HW.out.cell hb0
        have hb1' := HW.out.cell hb1
        by_cases hlt : i < p.length
        · have hlt2 : i < rs.length := by have := HL.out; omega
          obtain ⟨b, o, rfl, hx⟩ := HV.out.at_ (get_some hlt)
          obtain ⟨b2, o2, rfl, hy⟩ := HU.out.at_ (get_some hlt2)
          obtain ⟨a1, a2, cv, a3, ac⟩ := funR_grows.ext (HM.out.trans HW.out) hx
          obtain ⟨C, cc, rfl, k5, k6⟩ := ac.form
          obtain ⟨c0, ⟨vj, c1, hj⟩, ⟨vf, c2, hfl⟩, va, c3, ha⟩ := fpR_grows.ext (HM.out.trans HW.out) hy
          obtain ⟨J, cj, rfl, k7, k8⟩ := hj.form
          obtain ⟨F, cf, rfl, k9, k10⟩ := hfl.form
          obtain ⟨D, ca, rfl, k11, k12⟩ := ha.form
          have HJ := Lib.hid hj
          have HF := Lib.hid hfl
          have HA := Lib.hid ha
          clear hx hy hj hfl ha ac
          have i0 : (0 : Int) ≤ (i : Int) := by omega
          have i1 : (i : Int) < (p.length : Int) := by omega
          cases h1 : countB rs[i].calls with
          | false =>
            have h1c := (counts_one rs[i].calls).trans h1
            go_wp2
            (refine wp_region_head 4 (by kernel_rfl) (by kernel_rfl) (by simp) (by kernel_rfl) ?_; simp only [List.take_succ_cons, List.take_zero, List.drop_succ_cons, List.drop_zero])
            go_wp2_with (go_at_call 30; (with_reducible refine (rCounts_is _ [rs[i].calls] _ _ _ h1c ?_).mono ?_); (exact ints_one (by go_simp)); rintro e w' ⟨rfl, xq, rfl⟩)
            (unfold restQ; (repeat (go_big_quiet_step ((first | exact Calls_ext (rCounts_is _ rs[i].jumps _ _ _ h2 (HJ.out.ext intR_grows (by repeat (first | exact Mods.refl _ _ | refine Mods.alloc ?_ _ | refine Mods.ext ?_ _ | refine Mods.drew ?_ | refine Mods.drewN ?_ _)))) | exact Calls_ext (rCounts_is _ rs[i].falls _ _ _ h3 (HF.out.ext intR_grows (by repeat (first | exact Mods.refl _ _ | refine Mods.alloc ?_ _ | refine Mods.ext ?_ _ | refine Mods.drew ?_ | refine Mods.drewN ?_ _)))))))); refine wpQuiet_nil ?_; rintro _ ⟨xq, rfl⟩)
            go_wp2
            go_ret
            go_light
            exact ⟨ret_bool (profMay_false (fun h => by have := h.each i _ _ (get_some hlt) (get_some hlt2); unfold fpMay at this; rw [h1] at this; simp at this)).symm, ((HM.out.trans HW.out).trans (by repeat (first | exact Mods.refl _ _ | refine Mods.alloc ?_ _ | refine Mods.ext ?_ _ | refine Mods.drew ?_ | refine Mods.drewN ?_ _))).ex⟩
          | true =>
          have h1c := (counts_one rs[i].calls).trans h1
          cases h2 : countsB rs[i].jumps p[i].code.length with
          | false =>
            go_wp2
            (refine wp_region_head 4 (by kernel_rfl) (by kernel_rfl) (by simp) (by kernel_rfl) ?_; simp only [List.take_succ_cons, List.take_zero, List.drop_succ_cons, List.drop_zero])
            go_wp2_with (go_at_call 30; (with_reducible refine (rCounts_is _ [rs[i].calls] _ _ _ h1c ?_).mono ?_); (exact ints_one (by go_simp)); rintro e w' ⟨rfl, xq, rfl⟩)
            (unfold restQ; (repeat (go_big_quiet_step ((first | exact Calls_ext (rCounts_is _ rs[i].jumps _ _ _ h2 (HJ.out.ext intR_grows (by repeat (first | exact Mods.refl _ _ | refine Mods.alloc ?_ _ | refine Mods.ext ?_ _ | refine Mods.drew ?_ | refine Mods.drewN ?_ _)))) | exact Calls_ext (rCounts_is _ rs[i].falls _ _ _ h3 (HF.out.ext intR_grows (by repeat (first | exact Mods.refl _ _ | refine Mods.alloc ?_ _ | refine Mods.ext ?_ _ | refine Mods.drew ?_ | refine Mods.drewN ?_ _)))))))); refine wpQuiet_nil ?_; rintro _ ⟨xq, rfl⟩)
            go_wp2
            go_ret
            go_light
            exact ⟨ret_bool (profMay_false (fun h => by have := h.each i _ _ (get_some hlt) (get_some hlt2); unfold fpMay at this; rw [h1, h2] at this; simp at this)).symm, ((HM.out.trans HW.out).trans (by repeat (first | exact Mods.refl _ _ | refine Mods.alloc ?_ _ | refine Mods.ext ?_ _ | refine Mods.drew ?_ | refine Mods.drewN ?_ _))).ex⟩
          | true =>
          cases h3 : countsB rs[i].falls p[i].code.length with
          | false =>
            go_wp2
            (refine wp_region_head 4 (by kernel_rfl) (by kernel_rfl) (by simp) (by kernel_rfl) ?_; simp only [List.take_succ_cons, List.take_zero, List.drop_succ_cons, List.drop_zero])
            go_wp2_with (go_at_call 30; (with_reducible refine (rCounts_is _ [rs[i].calls] _ _ _ h1c ?_).mono ?_); (exact ints_one (by go_simp)); rintro e w' ⟨rfl, xq, rfl⟩)
            (unfold restQ; (repeat (go_big_quiet_step ((first | exact Calls_ext (rCounts_is _ rs[i].jumps _ _ _ h2 (HJ.out.ext intR_grows (by repeat (first | exact Mods.refl _ _ | refine Mods.alloc ?_ _ | refine Mods.ext ?_ _ | refine Mods.drew ?_ | refine Mods.drewN ?_ _)))) | exact Calls_ext (rCounts_is _ rs[i].falls _ _ _ h3 (HF.out.ext intR_grows (by repeat (first | exact Mods.refl _ _ | refine Mods.alloc ?_ _ | refine Mods.ext ?_ _ | refine Mods.drew ?_ | refine Mods.drewN ?_ _)))))))); refine wpQuiet_nil ?_; rintro _ ⟨xq, rfl⟩)
            go_wp2
            go_ret
            go_light
            exact ⟨ret_bool (profMay_false (fun h => by have := h.each i _ _ (get_some hlt) (get_some hlt2); unfold fpMay at this; rw [h1, h2, h3] at this; simp at this)).symm, ((HM.out.trans HW.out).trans (by repeat (first | exact Mods.refl _ _ | refine Mods.alloc ?_ _ | refine Mods.ext ?_ _ | refine Mods.drew ?_ | refine Mods.drewN ?_ _))).ex⟩
          | true =>
          by_cases h4 : (rs[i].args.length : Int) = p[i].args
          · have h4d : ((rs[i].args.length : Int) != p[i].args) = false := by simp [h4]
            have H4 := Lib.hid h4
            clear h4
            go_wp2
            (refine wp_region_head 4 (by kernel_rfl) (by kernel_rfl) (by simp) (by kernel_rfl) ?_; simp only [List.take_succ_cons, List.take_zero, List.drop_succ_cons, List.drop_zero])
            go_wp2_with (go_at_call 30; (with_reducible refine (rCounts_is _ [rs[i].calls] _ _ _ h1c ?_).mono ?_); (exact ints_one (by go_simp)); rintro e w' ⟨rfl, xq, rfl⟩)
            (unfold restQ; (repeat (go_big_quiet_step ((first | exact Calls_ext (rCounts_is _ rs[i].jumps _ _ _ h2 (HJ.out.ext intR_grows (by repeat (first | exact Mods.refl _ _ | refine Mods.alloc ?_ _ | refine Mods.ext ?_ _ | refine Mods.drew ?_ | refine Mods.drewN ?_ _)))) | exact Calls_ext (rCounts_is _ rs[i].falls _ _ _ h3 (HF.out.ext intR_grows (by repeat (first | exact Mods.refl _ _ | refine Mods.alloc ?_ _ | refine Mods.ext ?_ _ | refine Mods.drew ?_ | refine Mods.drewN ?_ _)))))))); refine wpQuiet_nil ?_; rintro w2 ⟨xq, hxq⟩)

            have hM2 : Mods [] wr w2 := Mods.trans (by repeat (first | exact Mods.refl _ _ | refine Mods.alloc ?_ _ | refine Mods.ext ?_ _ | refine Mods.drew ?_ | refine Mods.drewN ?_ _)) (mods_of hxq)
            have d3 : w2.cell? ⟨wr.heap.size, 3, none⟩ = some (.slice D rs[i].args.length ca) := (mods_of hxq).cell (by go_simp)
            have hb0'' := hM2.cell hb0'
            have hb1'' := hM2.cell hb1'
            have HM2 := Lib.hid hM2
            clear hM2 hxq
            obtain ⟨wo, rfl⟩ : ∃ wo : World, wo = wr := ⟨_, rfl⟩
            go_wp2
            go_loopw [8] (fun m wi => ∃ j : Nat, m = .int .i64 j ∧ j ≤ rs[i].args.length ∧ Hid (∀ (n : Nat) (a : ArgP), n < j → rs[i].args[n]? = some a → argMay a = true) ∧ Hid (Mods [] w2 wi)) (fun m _ => rs[i].args.length - (intOf m).toNat)
            case atStart => exact ⟨0, rfl, Nat.zero_le _, fun n a h => absurd h (Nat.not_lt_zero _), Mods.refl _ _⟩
            case round =>
              obtain ⟨j, rfl, hj, HE2, HW2⟩ := hrel
              have d3' := HW2.out.cell d3
              by_cases hltj : j < rs[i].args.length
              · obtain ⟨b3, o3, rfl, hz⟩ := HA.out.at_ (get_some hltj)
                obtain ⟨z0, z1, z2⟩ := argR_grows.ext (HM2.out.trans HW2.out) hz
                clear hz
                have j0 : (0 : Int) ≤ (j : Int) := by omega
                have j1 : (j : Int) < (rs[i].args.length : Int) := by omega
                obtain ⟨wz, rfl⟩ : ∃ wz : World, wz = wr := ⟨_, rfl⟩
                cases n1 : numB rs[i].args[j].value with
                | false =>
                  go_wp2
                  (refine wp_region_ext (by kernel_rfl) (by kernel_rfl) ?_; (repeat (go_big_quiet_step (((exact Calls_same (refNumber_is _ _ _ n1)))))); refine wpQuiet_nil ?_; rintro _ ⟨xq, rfl⟩)
                  go_wp2
                  go_ret
                  go_light
                  exact ⟨ret_bool (profMay_false (fun h => by have := h.each i _ _ (get_some hlt) (get_some hlt2); rw [fpMay_bad (get_some hltj) (by unfold argMay; rw [n1]; rfl)] at this; cases this)).symm, ((((HM.out.trans HW.out).trans HM2.out).trans HW2.out).trans (by repeat (first | exact Mods.refl _ _ | refine Mods.alloc ?_ _ | refine Mods.ext ?_ _ | refine Mods.drew ?_ | refine Mods.drewN ?_ _))).ex⟩
                | true =>
                  cases n2 : (countB rs[i].args[j].same && countB rs[i].args[j].other) with
                  | false =>
                    have h2c := (counts_two rs[i].args[j].same rs[i].args[j].other).trans n2
                    go_wp2
                    (refine wp_region_still_drew 21 (by kernel_rfl) (by kernel_rfl) ?_; simp only [List.take_succ_cons, List.take_zero, List.drop_succ_cons, List.drop_zero])
                    iterate 6 still_step
                    still_call (refNumber_is _ _ _ n1)
                    repeat still_step
                    refine wpStill_nil ?_
                    go_wp2_with (go_at_call 30; (with_reducible refine (rCounts_is _ [rs[i].args[j].same, rs[i].args[j].other] _ _ _ h2c ?_).mono ?_); (exact ints_two (by go_simp) (by go_simp)); rintro e w' ⟨rfl, xq, rfl⟩)
                    go_ret
                    go_light
                    exact ⟨ret_bool (profMay_false (fun h => by have := h.each i _ _ (get_some hlt) (get_some hlt2); rw [fpMay_bad (get_some hltj) (by unfold argMay; rw [n1, Bool.true_and]; exact n2)] at this; cases this)).symm, ((((HM.out.trans HW.out).trans HM2.out).trans HW2.out).trans (by repeat (first | exact Mods.refl _ _ | refine Mods.alloc ?_ _ | refine Mods.ext ?_ _ | refine Mods.drew ?_ | refine Mods.drewN ?_ _))).ex⟩
                  | true =>
                    have h2c := (counts_two rs[i].args[j].same rs[i].args[j].other).trans n2
                    go_wp2
                    (refine wp_region_still_drew 21 (by kernel_rfl) (by kernel_rfl) ?_; simp only [List.take_succ_cons, List.take_zero, List.drop_succ_cons, List.drop_zero])
                    iterate 6 still_step
                    still_call (refNumber_is _ _ _ n1)
                    repeat still_step
                    refine wpStill_nil ?_
                    go_wp2_with (go_at_call 30; (with_reducible refine (rCounts_is _ [rs[i].args[j].same, rs[i].args[j].other] _ _ _ h2c ?_).mono ?_); (exact ints_two (by go_simp) (by go_simp)); rintro e w' ⟨rfl, xq, rfl⟩)
                    go_roundw
                    case rel =>
                      go_light
                      exact ⟨j + 1, by go_num, by omega, all_step (get_some hltj) (by unfold argMay; rw [n1, Bool.true_and]; exact n2) HE2.out, HW2.out.trans (by repeat (first | exact Mods.refl _ _ | refine Mods.alloc ?_ _ | refine Mods.ext ?_ _ | refine Mods.drew ?_ | refine Mods.drewN ?_ _))⟩
                    case measure => simp [intOf]; omega
              · obtain rfl : j = rs[i].args.length := by omega
                go_wp2
                go_roundw
                case rel =>
                  go_light
                  refine ⟨i + 1, by go_num, by omega, fun j f x hj hf hx => ?_, (HW.out.trans HM2.out).trans HW2.out⟩
                  by_cases hji : j < i
                  · exact HE.out j f x hji hf hx
                  · obtain rfl : j = i := by omega
                    rw [get_some hlt] at hf
                    rw [get_some hlt2] at hx
                    rw [← Option.some.inj hf, ← Option.some.inj hx]
                    exact fpMay_good h1 h2 h3 H4.out (fun n a hn => HE2.out n a (List.getElem?_eq_some_iff.1 hn).1 hn)
                case measure => simp [intOf]; omega
          · have h4d : ((rs[i].args.length : Int) != p[i].args) = true := by simp [h4]
            have H4 := Lib.hid h4
            clear h4
            go_wp2
            (refine wp_region_head 4 (by kernel_rfl) (by kernel_rfl) (by simp) (by kernel_rfl) ?_; simp only [List.take_succ_cons, List.take_zero, List.drop_succ_cons, List.drop_zero])
            go_wp2_with (go_at_call 30; (with_reducible refine (rCounts_is _ [rs[i].calls] _ _ _ h1c ?_).mono ?_); (exact ints_one (by go_simp)); rintro e w' ⟨rfl, xq, rfl⟩)
            (unfold restQ; (repeat (go_big_quiet_step ((first | exact Calls_ext (rCounts_is _ rs[i].jumps _ _ _ h2 (HJ.out.ext intR_grows (by repeat (first | exact Mods.refl _ _ | refine Mods.alloc ?_ _ | refine Mods.ext ?_ _ | refine Mods.drew ?_ | refine Mods.drewN ?_ _)))) | exact Calls_ext (rCounts_is _ rs[i].falls _ _ _ h3 (HF.out.ext intR_grows (by repeat (first | exact Mods.refl _ _ | refine Mods.alloc ?_ _ | refine Mods.ext ?_ _ | refine Mods.drew ?_ | refine Mods.drewN ?_ _)))))))); refine wpQuiet_nil ?_; rintro _ ⟨xq, rfl⟩)
            go_wp2
            go_ret
            go_light
            exact ⟨ret_bool (profMay_false (fun h => by have := h.each i _ _ (get_some hlt) (get_some hlt2); unfold fpMay at this; rw [h1, h2, h3, decide_eq_false H4.out] at this; simp at this)).symm, ((HM.out.trans HW.out).trans (by repeat (first | exact Mods.refl _ _ | refine Mods.alloc ?_ _ | refine Mods.ext ?_ _ | refine Mods.drew ?_ | refine Mods.drewN ?_ _))).ex⟩
        · have hke : i = p.length := by omega
          subst hke
          go_wp2
          go_ret
          exact ⟨ret_bool (profMay_true ⟨HVER.out, HL.out, fun i f x hf hx => HE.out i f x (List.getElem?_eq_some_iff.1 hf).1 hf hx⟩).symm, (HM.out.trans HW.out).ex⟩
    · have hn : ((rs.length : Int) != (p.length : Int)) = true := by simp; omega
      have HL := Lib.hid hl
      clear hl
      go_enter Tryz.func14, Tryz.ntmps14
      go_wp2_with (go_at_call 19; (with_reducible refine (rVerify_yes _ p _ ?_ HVER.out).mono ?_); (exact HV.out.ext funR_grows (by repeat (first | exact Mods.refl _ _ | refine Mods.alloc ?_ _ | refine Mods.ext ?_ _ | refine Mods.drew ?_ | refine Mods.drewN ?_ _))); rintro e w1 ⟨rfl, x1, rfl⟩)
      go_ret
      exact ⟨ret_bool (profMay_false (fun h => HL.out h.len)).symm, Mods.ex (by repeat (first | exact Mods.refl _ _ | refine Mods.alloc ?_ _ | refine Mods.ext ?_ _ | refine Mods.drew ?_ | refine Mods.drewN ?_ _))⟩
  · have HVER := Lib.hid hver
    clear hver
    go_enter Tryz.func14, Tryz.ntmps14
    go_wp2_with (go_at_call 19; (with_reducible refine (rVerify_no _ p _ ?_ HVER.out).mono ?_); (exact HV.out.ext funR_grows (by repeat (first | exact Mods.refl _ _ | refine Mods.alloc ?_ _ | refine Mods.ext ?_ _ | refine Mods.drew ?_ | refine Mods.drewN ?_ _))); rintro e w1 ⟨c1, rfl, hc1, x1, rfl⟩; have hc1d : (c1 != 0) = true := (by simp [hc1]); clear hc1)
    go_ret
    exact ⟨ret_bool (profMay_false (fun h => HVER.out h.ver)).symm, Mods.ex (by repeat (first | exact Mods.refl _ _ | refine Mods.alloc ?_ _ | refine Mods.ext ?_ _ | refine Mods.drew ?_ | refine Mods.drewN ?_ _))⟩
end Go.Proofs.YtjpgcokdlopkaaaGreatDoor
