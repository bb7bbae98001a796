/- Lemmas for a claim of the seat YtjpgcokdlopkaaaGreatDoor. Written in part by programs of the claim's repo. By an AI agent. -/
import Derived.Test.YtjpgcokdlopkaaaGreatDoorG20
import Derived.Test.YtjpgcokdlopkaaaGreatDoorG21
import Derived.Test.YtjpgcokdlopkaaaGreatDoorG22
import Derived.Test.YtjpgcokdlopkaaaGreatDoorG10
import Derived.Test.YtjpgcokdlopkaaaGreatDoorG07
import Derived.Deep.Slices
import Derived.Deep.Fields
import Derived.ChangeSame
import Derived.Carry

namespace Go.Proofs.YtjpgcokdlopkaaaGreatDoor
open Go.RowKit

theorem ProfF.low {B B' : Nat} {w : World} {v : Value} {fs : List FV} {rs : List FunP} (h : ProfF B w v fs rs) (hB : B' ≤ B) : ProfF B' w v fs rs := ⟨h.1.low hB, h.2.low hB⟩
theorem Mods.newS {S : List Nat} {w0 w w' : World} (h : Mods [] w0 w) (k : Mods S w w') (hS : ∀ b ∈ S, w0.heap.size ≤ b) : Mods [] w0 w' := (h.nil.trans k).new hS
theorem sameProf_yes (va vb : Value) (rs : List FunP) (w : World) (ha : Profs w va rs) (hb : Profs w vb rs) : Calls Tryz.prog 11 #[.agg #[va], .agg #[vb]] w fun e w' => e = .returned (.bool true) ∧ ∃ x, w' = w.ext x := by
  have := sameProf_calls va vb rs rs w ha hb
  rwa [decide_eq_true rfl] at this

set_option maxHeartbeats 40000000 in
set_option maxRecDepth 100000 in
theorem law_calls (v u va : Value) (p : List Fun) (rs : List FunP) (fn : Int) (xs : List Int) (pc : Int) (j : Bool) (w : World) (hG : EType w) (hv : Funs w v p) (hu : Profs w u rs) (ha : Ints w va xs) (hfit : PFits rs) :
    Calls Tryz.prog 3 #[.agg #[v], .agg #[u], .int .i64 fn, va, .int .i64 pc, .bool j] w fun e w' => e = .returned (.bool true) ∧ ∃ x, w' = w.ext x := by
  obtain ⟨AP, cp, rfl, _, _⟩ := hv.form
  obtain ⟨AU, cu, rfl, _, _⟩ := hu.form
  obtain ⟨AX, cx, rfl, _, _⟩ := ha.form
  obtain ⟨⟨rN, eN⟩, hN⟩ : ∃ r, newR p = r := ⟨_, rfl⟩
  obtain ⟨⟨rC, eC⟩, hC⟩ : ∃ r, calledR p rs fn xs = r := ⟨_, rfl⟩
  obtain ⟨⟨rB, eB⟩, hB⟩ : ∃ r, branchedR p rs fn pc j = r := ⟨_, rfl⟩
  obtain ⟨mb, hMB⟩ : ∃ b, profMay p rs = b := ⟨_, rfl⟩
  have HG := Lib.hid hG
  have HV := Lib.hid hv
  have HU := Lib.hid hu
  have HA := Lib.hid ha
  have HF := Lib.hid hfit
  clear hG hv hu ha hfit
  go_enter Tryz.func3, Tryz.ntmps3
  go_wp2_with (go_at_call 4; (with_reducible refine (copyProf0_calls _ rs _ ?_ HF.out).mono ?_); (exact HU.out.ext fpR_grows (by repeat (first | exact Mods.refl _ _ | refine Mods.alloc ?_ _ | refine Mods.ext ?_ _ | refine Mods.drew ?_ | refine Mods.drewN ?_ _))); rintro e w0 ⟨v0, rfl, ho, x, hx⟩; obtain ⟨fs0, hp0⟩ := ho; obtain ⟨A0, c0, rfl, _, _⟩ := hp0.1.1.slice; have hM := mods_of hx; have hs : Mods [] w w0 := Mods.trans (by repeat (first | exact Mods.refl _ _ | refine Mods.alloc ?_ _ | refine Mods.ext ?_ _ | refine Mods.drew ?_ | refine Mods.drewN ?_ _)) hM; have b6_0 : w0.cell? ⟨w.heap.size, 0, none⟩ = some (.slice AP p.length cp) := hM.cell (by go_simp); have b7_0 : w0.cell? ⟨w.heap.size + 1, 0, none⟩ = some (.slice AU rs.length cu) := hM.cell (by go_simp); have z0 : w.heap.size + 1 < w0.heap.size := Nat.lt_of_lt_of_le (by simp) hM.size; have HP0 := Lib.hid (show Profs w0 (.slice A0 rs.length c0) rs from (ProfF.o (B := (World.alloc (w.alloc (Obj.cells #[Value.slice AP p.length cp] 24)) (Obj.cells #[Value.slice AU rs.length cu] 27)).heap.size) hp0).profs); have HM0 := Lib.hid hs; have HX0 := Lib.hid (Mods.refl [] w0); clear hx hM hs hp0)
  have HQ0 := HP0
  go_wp2_with (go_at_call 5; (with_reducible refine (new_calls _ p _ ?_ ?_).mono ?_); (exact HG.out.ext (HM0.out.trans (by repeat (first | exact Mods.refl _ _ | refine Mods.alloc ?_ _ | refine Mods.ext ?_ _ | refine Mods.drew ?_ | refine Mods.drewN ?_ _)))); (exact HV.out.ext funR_grows (HM0.out.trans (by repeat (first | exact Mods.refl _ _ | refine Mods.alloc ?_ _ | refine Mods.ext ?_ _ | refine Mods.drew ?_ | refine Mods.drewN ?_ _)))); rintro e w1 hres; obtain ⟨A1, c1, rfl, ⟨fs1, hp1⟩, hM⟩ := hres.at hN rfl; have hs : Mods [] w0 w1 := Mods.trans (by repeat (first | exact Mods.refl _ _ | refine Mods.alloc ?_ _ | refine Mods.ext ?_ _ | refine Mods.drew ?_ | refine Mods.drewN ?_ _)) hM; have b6_1 : w1.cell? ⟨w.heap.size, 0, none⟩ = some (.slice AP p.length cp) := hM.cell (by go_simp); have b7_1 : w1.cell? ⟨w.heap.size + 1, 0, none⟩ = some (.slice AU rs.length cu) := hM.cell (by go_simp); have b13_1 : w1.cell? ⟨w0.heap.size, 0, none⟩ = some (.slice A0 rs.length c0) := hM.cell (by go_simp); have z1 : w0.heap.size < w1.heap.size := Nat.lt_of_lt_of_le (by simp) hM.size; have HP0 := Lib.hid (HP0.out.ext fpR_grows hs); have HF1 := Lib.hid (hp1.low (B' := w0.heap.size + 1) (by simp)); have HI1 := Lib.hid hp1.hi; have HP1 := Lib.hid hp1.o.profs; have HM1 := Lib.hid (HM0.out.trans hs); have HX1 := Lib.hid (HX0.out.trans hs); clear hM hs hp1 hres)
  go_wp2_with (go_at_call 6; (with_reducible refine (rNew_calls _ p _ ?_).mono ?_); (exact HV.out.ext funR_grows (HM1.out.trans (by repeat (first | exact Mods.refl _ _ | refine Mods.alloc ?_ _ | refine Mods.ext ?_ _ | refine Mods.drew ?_ | refine Mods.drewN ?_ _)))); rintro e w2 hres; obtain ⟨A2, c2, rfl, ⟨fs2, hp2⟩, hM⟩ := hres.at hN rfl; have hs : Mods [] w1 w2 := Mods.trans (by repeat (first | exact Mods.refl _ _ | refine Mods.alloc ?_ _ | refine Mods.ext ?_ _ | refine Mods.drew ?_ | refine Mods.drewN ?_ _)) hM; have b6_2 : w2.cell? ⟨w.heap.size, 0, none⟩ = some (.slice AP p.length cp) := hM.cell (by go_simp); have b7_2 : w2.cell? ⟨w.heap.size + 1, 0, none⟩ = some (.slice AU rs.length cu) := hM.cell (by go_simp); have b13_2 : w2.cell? ⟨w0.heap.size, 0, none⟩ = some (.slice A0 rs.length c0) := hM.cell (by go_simp); have b14_2 : w2.cell? ⟨w1.heap.size, 0, none⟩ = some (.slice A1 rN.length c1) := hM.cell (by go_simp); have z2 : w1.heap.size < w2.heap.size := Nat.lt_of_lt_of_le (by simp) hM.size; have HP0 := Lib.hid (HP0.out.ext fpR_grows hs); have HP1 := Lib.hid (HP1.out.ext fpR_grows hs); have HF1 := Lib.hid (HF1.out.mods hs (by simp)); have HP2 := Lib.hid hp2.o.profs; have HM2 := Lib.hid (HM1.out.trans hs); have HX2 := Lib.hid (HX1.out.trans hs); clear hM hs hp2 hres)
  go_wp2_with (go_at_call 7; (with_reducible refine (called_calls _ _ _ p rs fn xs _ ?_ ?_ ?_ ?_).mono ?_); (exact HG.out.ext (HM2.out.trans (by repeat (first | exact Mods.refl _ _ | refine Mods.alloc ?_ _ | refine Mods.ext ?_ _ | refine Mods.drew ?_ | refine Mods.drewN ?_ _)))); (exact HV.out.ext funR_grows (HM2.out.trans (by repeat (first | exact Mods.refl _ _ | refine Mods.alloc ?_ _ | refine Mods.ext ?_ _ | refine Mods.drew ?_ | refine Mods.drewN ?_ _)))); (exact HP0.out.ext fpR_grows (by repeat (first | exact Mods.refl _ _ | refine Mods.alloc ?_ _ | refine Mods.ext ?_ _ | refine Mods.drew ?_ | refine Mods.drewN ?_ _))); (exact HA.out.ext intR_grows (HM2.out.trans (by repeat (first | exact Mods.refl _ _ | refine Mods.alloc ?_ _ | refine Mods.ext ?_ _ | refine Mods.drew ?_ | refine Mods.drewN ?_ _)))); rintro e w3 hres; obtain ⟨A3, c3, rfl, ⟨fs3, hp3⟩, hM⟩ := hres.at hC rfl; have hs : Mods [] w2 w3 := Mods.trans (by repeat (first | exact Mods.refl _ _ | refine Mods.alloc ?_ _ | refine Mods.ext ?_ _ | refine Mods.drew ?_ | refine Mods.drewN ?_ _)) hM; have b6_3 : w3.cell? ⟨w.heap.size, 0, none⟩ = some (.slice AP p.length cp) := hM.cell (by go_simp); have b7_3 : w3.cell? ⟨w.heap.size + 1, 0, none⟩ = some (.slice AU rs.length cu) := hM.cell (by go_simp); have b13_3 : w3.cell? ⟨w0.heap.size, 0, none⟩ = some (.slice A0 rs.length c0) := hM.cell (by go_simp); have b14_3 : w3.cell? ⟨w1.heap.size, 0, none⟩ = some (.slice A1 rN.length c1) := hM.cell (by go_simp); have b16_3 : w3.cell? ⟨w2.heap.size, 0, none⟩ = some (.slice A2 rN.length c2) := hM.cell (by go_simp); have z3 : w2.heap.size < w3.heap.size := Nat.lt_of_lt_of_le (by simp) hM.size; have HP0 := Lib.hid (HP0.out.ext fpR_grows hs); have HP1 := Lib.hid (HP1.out.ext fpR_grows hs); have HP2 := Lib.hid (HP2.out.ext fpR_grows hs); have HF1 := Lib.hid (HF1.out.mods hs (by simp)); have HF3 := Lib.hid (hp3.low (B' := w2.heap.size + 1) (by simp)); have HI3 := Lib.hid hp3.hi; have HP3 := Lib.hid hp3.o.profs; have HM3 := Lib.hid (HM2.out.trans hs); have HX3 := Lib.hid (HX2.out.trans hs); clear hM hs hp3 hres)
  go_wp2_with (go_at_call 8; (with_reducible refine (rCalled_calls _ _ _ p rs fn xs _ ?_ ?_ ?_).mono ?_); (exact HV.out.ext funR_grows (HM3.out.trans (by repeat (first | exact Mods.refl _ _ | refine Mods.alloc ?_ _ | refine Mods.ext ?_ _ | refine Mods.drew ?_ | refine Mods.drewN ?_ _)))); (exact HU.out.ext fpR_grows (HM3.out.trans (by repeat (first | exact Mods.refl _ _ | refine Mods.alloc ?_ _ | refine Mods.ext ?_ _ | refine Mods.drew ?_ | refine Mods.drewN ?_ _)))); (exact HA.out.ext intR_grows (HM3.out.trans (by repeat (first | exact Mods.refl _ _ | refine Mods.alloc ?_ _ | refine Mods.ext ?_ _ | refine Mods.drew ?_ | refine Mods.drewN ?_ _)))); rintro e w4 hres; obtain ⟨A4, c4, rfl, ⟨fs4, hp4⟩, hM⟩ := hres.at hC rfl; have hs : Mods [] w3 w4 := Mods.trans (by repeat (first | exact Mods.refl _ _ | refine Mods.alloc ?_ _ | refine Mods.ext ?_ _ | refine Mods.drew ?_ | refine Mods.drewN ?_ _)) hM; have b6_4 : w4.cell? ⟨w.heap.size, 0, none⟩ = some (.slice AP p.length cp) := hM.cell (by go_simp); have b7_4 : w4.cell? ⟨w.heap.size + 1, 0, none⟩ = some (.slice AU rs.length cu) := hM.cell (by go_simp); have b13_4 : w4.cell? ⟨w0.heap.size, 0, none⟩ = some (.slice A0 rs.length c0) := hM.cell (by go_simp); have b14_4 : w4.cell? ⟨w1.heap.size, 0, none⟩ = some (.slice A1 rN.length c1) := hM.cell (by go_simp); have b16_4 : w4.cell? ⟨w2.heap.size, 0, none⟩ = some (.slice A2 rN.length c2) := hM.cell (by go_simp); have b18_4 : w4.cell? ⟨w3.heap.size, 0, none⟩ = some (.slice A3 rC.length c3) := hM.cell (by go_simp); have z4 : w3.heap.size < w4.heap.size := Nat.lt_of_lt_of_le (by simp) hM.size; have HP0 := Lib.hid (HP0.out.ext fpR_grows hs); have HP1 := Lib.hid (HP1.out.ext fpR_grows hs); have HP2 := Lib.hid (HP2.out.ext fpR_grows hs); have HP3 := Lib.hid (HP3.out.ext fpR_grows hs); have HF1 := Lib.hid (HF1.out.mods hs (by simp)); have HF3 := Lib.hid (HF3.out.mods hs (by simp)); have HP4 := Lib.hid hp4.o.profs; have HM4 := Lib.hid (HM3.out.trans hs); have HX4 := Lib.hid (HX3.out.trans hs); clear hM hs hp4 hres)
  go_wp2_with (go_at_call 9; (with_reducible refine (branched_calls _ _ p rs fn pc j _ ?_ ?_ ?_).mono ?_); (exact HG.out.ext (HM4.out.trans (by repeat (first | exact Mods.refl _ _ | refine Mods.alloc ?_ _ | refine Mods.ext ?_ _ | refine Mods.drew ?_ | refine Mods.drewN ?_ _)))); (exact HV.out.ext funR_grows (HM4.out.trans (by repeat (first | exact Mods.refl _ _ | refine Mods.alloc ?_ _ | refine Mods.ext ?_ _ | refine Mods.drew ?_ | refine Mods.drewN ?_ _)))); (exact HP0.out.ext fpR_grows (by repeat (first | exact Mods.refl _ _ | refine Mods.alloc ?_ _ | refine Mods.ext ?_ _ | refine Mods.drew ?_ | refine Mods.drewN ?_ _))); rintro e w5 hres; obtain ⟨A5, c5, rfl, ⟨fs5, hp5⟩, hM⟩ := hres.at hB rfl; have hs : Mods [] w4 w5 := Mods.trans (by repeat (first | exact Mods.refl _ _ | refine Mods.alloc ?_ _ | refine Mods.ext ?_ _ | refine Mods.drew ?_ | refine Mods.drewN ?_ _)) hM; have b6_5 : w5.cell? ⟨w.heap.size, 0, none⟩ = some (.slice AP p.length cp) := hM.cell (by go_simp); have b7_5 : w5.cell? ⟨w.heap.size + 1, 0, none⟩ = some (.slice AU rs.length cu) := hM.cell (by go_simp); have b13_5 : w5.cell? ⟨w0.heap.size, 0, none⟩ = some (.slice A0 rs.length c0) := hM.cell (by go_simp); have b14_5 : w5.cell? ⟨w1.heap.size, 0, none⟩ = some (.slice A1 rN.length c1) := hM.cell (by go_simp); have b16_5 : w5.cell? ⟨w2.heap.size, 0, none⟩ = some (.slice A2 rN.length c2) := hM.cell (by go_simp); have b18_5 : w5.cell? ⟨w3.heap.size, 0, none⟩ = some (.slice A3 rC.length c3) := hM.cell (by go_simp); have b20_5 : w5.cell? ⟨w4.heap.size, 0, none⟩ = some (.slice A4 rC.length c4) := hM.cell (by go_simp); have z5 : w4.heap.size < w5.heap.size := Nat.lt_of_lt_of_le (by simp) hM.size; have HP0 := Lib.hid (HP0.out.ext fpR_grows hs); have HP1 := Lib.hid (HP1.out.ext fpR_grows hs); have HP2 := Lib.hid (HP2.out.ext fpR_grows hs); have HP3 := Lib.hid (HP3.out.ext fpR_grows hs); have HP4 := Lib.hid (HP4.out.ext fpR_grows hs); have HF1 := Lib.hid (HF1.out.mods hs (by simp)); have HF3 := Lib.hid (HF3.out.mods hs (by simp)); have HF5 := Lib.hid (hp5.low (B' := w4.heap.size + 1) (by simp)); have HI5 := Lib.hid hp5.hi; have HP5 := Lib.hid hp5.o.profs; have HM5 := Lib.hid (HM4.out.trans hs); have HX5 := Lib.hid (HX4.out.trans hs); clear hM hs hp5 hres)
  go_wp2_with (go_at_call 10; (with_reducible refine (rBranched_calls _ _ p rs fn pc j _ ?_ ?_).mono ?_); (exact HV.out.ext funR_grows (HM5.out.trans (by repeat (first | exact Mods.refl _ _ | refine Mods.alloc ?_ _ | refine Mods.ext ?_ _ | refine Mods.drew ?_ | refine Mods.drewN ?_ _)))); (exact HU.out.ext fpR_grows (HM5.out.trans (by repeat (first | exact Mods.refl _ _ | refine Mods.alloc ?_ _ | refine Mods.ext ?_ _ | refine Mods.drew ?_ | refine Mods.drewN ?_ _)))); rintro e w6 hres; obtain ⟨A6, c6, rfl, ⟨fs6, hp6⟩, hM⟩ := hres.at hB rfl; have hs : Mods [] w5 w6 := Mods.trans (by repeat (first | exact Mods.refl _ _ | refine Mods.alloc ?_ _ | refine Mods.ext ?_ _ | refine Mods.drew ?_ | refine Mods.drewN ?_ _)) hM; have b6_6 : w6.cell? ⟨w.heap.size, 0, none⟩ = some (.slice AP p.length cp) := hM.cell (by go_simp); have b7_6 : w6.cell? ⟨w.heap.size + 1, 0, none⟩ = some (.slice AU rs.length cu) := hM.cell (by go_simp); have b13_6 : w6.cell? ⟨w0.heap.size, 0, none⟩ = some (.slice A0 rs.length c0) := hM.cell (by go_simp); have b14_6 : w6.cell? ⟨w1.heap.size, 0, none⟩ = some (.slice A1 rN.length c1) := hM.cell (by go_simp); have b16_6 : w6.cell? ⟨w2.heap.size, 0, none⟩ = some (.slice A2 rN.length c2) := hM.cell (by go_simp); have b18_6 : w6.cell? ⟨w3.heap.size, 0, none⟩ = some (.slice A3 rC.length c3) := hM.cell (by go_simp); have b20_6 : w6.cell? ⟨w4.heap.size, 0, none⟩ = some (.slice A4 rC.length c4) := hM.cell (by go_simp); have b22_6 : w6.cell? ⟨w5.heap.size, 0, none⟩ = some (.slice A5 rB.length c5) := hM.cell (by go_simp); have z6 : w5.heap.size < w6.heap.size := Nat.lt_of_lt_of_le (by simp) hM.size; have HP0 := Lib.hid (HP0.out.ext fpR_grows hs); have HP1 := Lib.hid (HP1.out.ext fpR_grows hs); have HP2 := Lib.hid (HP2.out.ext fpR_grows hs); have HP3 := Lib.hid (HP3.out.ext fpR_grows hs); have HP4 := Lib.hid (HP4.out.ext fpR_grows hs); have HP5 := Lib.hid (HP5.out.ext fpR_grows hs); have HF1 := Lib.hid (HF1.out.mods hs (by simp)); have HF3 := Lib.hid (HF3.out.mods hs (by simp)); have HF5 := Lib.hid (HF5.out.mods hs (by simp)); have HP6 := Lib.hid hp6.o.profs; have HM6 := Lib.hid (HM5.out.trans hs); have HX6 := Lib.hid (HX5.out.trans hs); clear hM hs hp6 hres)
  go_wp2
  (refine wp_region_ext (by kernel_rfl) (by kernel_rfl) ?_; (repeat (go_big_quiet_step (first | exact Calls_same (num_calls _ _) | exact Calls_ext (sameProf_yes _ _ rN _ (HP1.out.ext fpR_grows (by repeat (first | exact Mods.refl _ _ | refine Mods.alloc ?_ _ | refine Mods.ext ?_ _ | refine Mods.drew ?_ | refine Mods.drewN ?_ _))) (HP2.out.ext fpR_grows (by repeat (first | exact Mods.refl _ _ | refine Mods.alloc ?_ _ | refine Mods.ext ?_ _ | refine Mods.drew ?_ | refine Mods.drewN ?_ _)))) | exact Calls_ext (sameProf_yes _ _ rC _ (HP3.out.ext fpR_grows (by repeat (first | exact Mods.refl _ _ | refine Mods.alloc ?_ _ | refine Mods.ext ?_ _ | refine Mods.drew ?_ | refine Mods.drewN ?_ _))) (HP4.out.ext fpR_grows (by repeat (first | exact Mods.refl _ _ | refine Mods.alloc ?_ _ | refine Mods.ext ?_ _ | refine Mods.drew ?_ | refine Mods.drewN ?_ _)))) | exact Calls_ext (sameProf_yes _ _ rB _ (HP5.out.ext fpR_grows (by repeat (first | exact Mods.refl _ _ | refine Mods.alloc ?_ _ | refine Mods.ext ?_ _ | refine Mods.drew ?_ | refine Mods.drewN ?_ _))) (HP6.out.ext fpR_grows (by repeat (first | exact Mods.refl _ _ | refine Mods.alloc ?_ _ | refine Mods.ext ?_ _ | refine Mods.drew ?_ | refine Mods.drewN ?_ _)))) | exact Calls_ext (profMay_is _ _ p rs _ _ hMB (HG.out.ext (HM6.out.trans (by repeat (first | exact Mods.refl _ _ | refine Mods.alloc ?_ _ | refine Mods.ext ?_ _ | refine Mods.drew ?_ | refine Mods.drewN ?_ _)))) (HV.out.ext funR_grows (HM6.out.trans (by repeat (first | exact Mods.refl _ _ | refine Mods.alloc ?_ _ | refine Mods.ext ?_ _ | refine Mods.drew ?_ | refine Mods.drewN ?_ _)))) (HP0.out.ext fpR_grows (by repeat (first | exact Mods.refl _ _ | refine Mods.alloc ?_ _ | refine Mods.ext ?_ _ | refine Mods.drew ?_ | refine Mods.drewN ?_ _)))) | exact Calls_ext (rProfMay_is _ _ p rs _ _ hMB (HV.out.ext funR_grows (HM6.out.trans (by repeat (first | exact Mods.refl _ _ | refine Mods.alloc ?_ _ | refine Mods.ext ?_ _ | refine Mods.drew ?_ | refine Mods.drewN ?_ _)))) (HU.out.ext fpR_grows (HM6.out.trans (by repeat (first | exact Mods.refl _ _ | refine Mods.alloc ?_ _ | refine Mods.ext ?_ _ | refine Mods.drew ?_ | refine Mods.drewN ?_ _)))))))); refine wpQuiet_nil ?_; rintro w7 ⟨xq, hxq⟩)
  have hM := mods_of hxq; have hs : Mods [] w6 w7 := Mods.trans (by repeat (first | exact Mods.refl _ _ | refine Mods.alloc ?_ _ | refine Mods.ext ?_ _ | refine Mods.drew ?_ | refine Mods.drewN ?_ _)) hM; have b7_7 : w7.cell? ⟨w.heap.size + 1, 0, none⟩ = some (.slice AU rs.length cu) := hM.cell (by go_simp); have b13_7 : w7.cell? ⟨w0.heap.size, 0, none⟩ = some (.slice A0 rs.length c0) := hM.cell (by go_simp); have b14_7 : w7.cell? ⟨w1.heap.size, 0, none⟩ = some (.slice A1 rN.length c1) := hM.cell (by go_simp); have b18_7 : w7.cell? ⟨w3.heap.size, 0, none⟩ = some (.slice A3 rC.length c3) := hM.cell (by go_simp); have b22_7 : w7.cell? ⟨w5.heap.size, 0, none⟩ = some (.slice A5 rB.length c5) := hM.cell (by go_simp); have z7 : w6.heap.size < w7.heap.size := Nat.lt_of_lt_of_le (by simp) hM.size; have HF1 := Lib.hid (HF1.out.mods hs (by simp)); have HF3 := Lib.hid (HF3.out.mods hs (by simp)); have HF5 := Lib.hid (HF5.out.mods hs (by simp)); have HP0 := Lib.hid (HP0.out.ext fpR_grows hs); have HM7 := Lib.hid (HM6.out.trans hs); have HX7 := Lib.hid (HX6.out.trans hs); clear hM hs hxq
  go_wp2_with (go_at_call 15; (with_reducible refine (spoilProf_calls (w0.heap.size + 1) w1.heap.size _ fs1 rN _ HF1.out HI1.out).mono ?_); rintro e w8 ⟨rfl, S8, hm, hS⟩; have b7_8 : w8.cell? ⟨w.heap.size + 1, 0, none⟩ = some (.slice AU rs.length cu) := hm.cellS b7_7 (fun hb => by have := hS _ hb; simp only at this; omega); have b13_8 : w8.cell? ⟨w0.heap.size, 0, none⟩ = some (.slice A0 rs.length c0) := hm.cellS b13_7 (fun hb => by have := hS _ hb; simp only at this; omega); have b18_8 : w8.cell? ⟨w3.heap.size, 0, none⟩ = some (.slice A3 rC.length c3) := hm.cellS b18_7 (fun hb => by have := hS _ hb; simp only at this; omega); have b22_8 : w8.cell? ⟨w5.heap.size, 0, none⟩ = some (.slice A5 rB.length c5) := hm.cellS b22_7 (fun hb => by have := hS _ hb; simp only at this; omega); have HF3 := Lib.hid (HF3.out.mods hm (fun b hb => by have := hS b hb; omega)); have HF5 := Lib.hid (HF5.out.mods hm (fun b hb => by have := hS b hb; omega)); have HM8 := Lib.hid (Mods.newS HM7.out hm (fun b hb => by have := hS b hb; omega)); have HX8 := Lib.hid (Mods.newS HX7.out hm (fun b hb => by have := hS b hb; omega)); clear hm hS)
  go_wp2_with (go_at_call 15; (with_reducible refine (spoilProf_calls (w2.heap.size + 1) w3.heap.size _ fs3 rC _ HF3.out HI3.out).mono ?_); rintro e w9 ⟨rfl, S9, hm, hS⟩; have b7_9 : w9.cell? ⟨w.heap.size + 1, 0, none⟩ = some (.slice AU rs.length cu) := hm.cellS b7_8 (fun hb => by have := hS _ hb; simp only at this; omega); have b13_9 : w9.cell? ⟨w0.heap.size, 0, none⟩ = some (.slice A0 rs.length c0) := hm.cellS b13_8 (fun hb => by have := hS _ hb; simp only at this; omega); have b22_9 : w9.cell? ⟨w5.heap.size, 0, none⟩ = some (.slice A5 rB.length c5) := hm.cellS b22_8 (fun hb => by have := hS _ hb; simp only at this; omega); have HF5 := Lib.hid (HF5.out.mods hm (fun b hb => by have := hS b hb; omega)); have HM9 := Lib.hid (Mods.newS HM8.out hm (fun b hb => by have := hS b hb; omega)); have HX9 := Lib.hid (Mods.newS HX8.out hm (fun b hb => by have := hS b hb; omega)); clear hm hS)
  go_wp2_with (go_at_call 15; (with_reducible refine (spoilProf_calls (w4.heap.size + 1) w5.heap.size _ fs5 rB _ HF5.out HI5.out).mono ?_); rintro e w10 ⟨rfl, S10, hm, hS⟩; have b7_10 : w10.cell? ⟨w.heap.size + 1, 0, none⟩ = some (.slice AU rs.length cu) := hm.cellS b7_9 (fun hb => by have := hS _ hb; simp only at this; omega); have b13_10 : w10.cell? ⟨w0.heap.size, 0, none⟩ = some (.slice A0 rs.length c0) := hm.cellS b13_9 (fun hb => by have := hS _ hb; simp only at this; omega); have HM10 := Lib.hid (Mods.newS HM9.out hm (fun b hb => by have := hS b hb; omega)); have HX10 := Lib.hid (Mods.newS HX9.out hm (fun b hb => by have := hS b hb; omega)); clear hm hS)
  go_wp2_with (first | (go_at_call 11; (with_reducible refine (sameProf_yes _ _ rs _ ?_ ?_).mono ?_); (exact HQ0.out.ext fpR_grows (HX10.out.trans (by repeat (first | exact Mods.refl _ _ | refine Mods.alloc ?_ _ | refine Mods.ext ?_ _ | refine Mods.drew ?_ | refine Mods.drewN ?_ _)))); (exact HU.out.ext fpR_grows (HM10.out.trans (by repeat (first | exact Mods.refl _ _ | refine Mods.alloc ?_ _ | refine Mods.ext ?_ _ | refine Mods.drew ?_ | refine Mods.drewN ?_ _)))); rintro e w11 ⟨rfl, x1, hx1⟩; have HM11 := Lib.hid (HM10.out.trans (Mods.trans (by repeat (first | exact Mods.refl _ _ | refine Mods.alloc ?_ _ | refine Mods.ext ?_ _ | refine Mods.drew ?_ | refine Mods.drewN ?_ _)) (mods_of hx1))); clear hx1) | (go_at_call 16; (with_reducible refine (awake_calls _ ?_).mono ?_); (exact HG.out.ext (HM11.out.trans (by repeat (first | exact Mods.refl _ _ | refine Mods.alloc ?_ _ | refine Mods.ext ?_ _ | refine Mods.drew ?_ | refine Mods.drewN ?_ _)))); rintro e w12 ⟨rfl, x1, hx1⟩; have HM12 := Lib.hid (HM11.out.trans (Mods.trans (by repeat (first | exact Mods.refl _ _ | refine Mods.alloc ?_ _ | refine Mods.ext ?_ _ | refine Mods.drew ?_ | refine Mods.drewN ?_ _)) (mods_of hx1))); clear hx1))
  go_ret
  exact ⟨rfl, HM12.out.ex⟩
end Go.Proofs.YtjpgcokdlopkaaaGreatDoor


/-! WHAT THE LAW's ARGUMENTS READ AS: slices of structs, opened from the reading; how long they may be. -/
namespace Go.Proofs.YtjpgcokdlopkaaaGreatDoor
open Go.ChangeShapes Go.WideShapes Go.Deep Go.RowKit

section
variable {H : Type} {enc : TypeId × Value → H} {P : Program} {w : World} {base : Nat} {spare : Nat → Bool} {held : Bool}
/-- no row of the reading is heavier than the reach -/
def Lighter (P : Program) (t : TypeId) (d : DataW H) : Prop := ∀ k ∈ d.weights P t, k ≤ reachBytes
theorem lighter_slice {t e : TypeId} {elems rest : List (DataW H)} (ht : P.underlying t = some (.slice e)) (h : Lighter P t (.slice elems rest)) : elems.length * P.bytesOf e ≤ reachBytes ∧ ∀ d ∈ elems, Lighter P e d := by
  unfold Lighter at h
  simp only [DataW.weights, ht] at h
  refine ⟨Nat.le_trans (Nat.mul_le_mul_right _ (Nat.le_add_right _ _)) (h _ (List.mem_cons_self)), fun d hd k hk => h k (List.mem_cons_of_mem _ (List.mem_append_left _ ?_))⟩
  clear h
  induction elems with
  | nil => cases hd
  | cons x xs ih =>
    simp only [DataW.weightsAll, List.mem_append]
    rcases List.mem_cons.1 hd with rfl | hd
    · exact .inl hk
    · exact .inr (ih hd)
theorem lighter_each {ts : List TypeId} : ∀ {ds : List (DataW H)}, (∀ k ∈ DataW.weightsEach P ts ds, k ≤ reachBytes) → ∀ (i : Nat) (t : TypeId) (d : DataW H), ts[i]? = some t → ds[i]? = some d → Lighter P t d := by
  induction ts with
  | nil => intro ds _ i t d ht; simp at ht
  | cons t0 ts ih =>
    intro ds h i t d ht hd
    cases ds with
    | nil => simp at hd
    | cons d0 ds =>
      simp only [DataW.weightsEach, List.mem_append] at h
      cases i with
      | zero =>
        have e1 : t0 = t := by simpa using ht
        have e2 : d0 = d := by simpa using hd
        subst e1; subst e2
        exact fun k hk => h k (.inl hk)
      | succ i => exact ih (fun k hk => h k (.inr hk)) i t d (by simpa using ht) (by simpa using hd)
theorem lighter_struct {t : TypeId} {fs : Array Field} {parts : List (DataW H)} (ht : P.underlying t = some (.struct fs)) (h : Lighter P t (.agg parts)) (i : Nat) (f : Field) (d : DataW H) (hf : fs[i]? = some f) (hd : parts[i]? = some d) : Lighter P f.type d := by
  unfold Lighter at h
  simp only [DataW.weights, ht] at h
  refine lighter_each h i f.type d ?_ hd
  rw [List.getElem?_map, Array.getElem?_toList, hf]; rfl
theorem rows_of {α : Type} {R : Nat → α → Prop} (n : Nat) (h : ∀ i, i < n → ∃ x, R i x) : ∃ xs : List α, xs.length = n ∧ ∀ (i : Nat) (x : α), xs[i]? = some x → R i x := by
  induction n with
  | zero => exact ⟨[], rfl, fun i x hx => by simp at hx⟩
  | succ n ih =>
    obtain ⟨xs, hl, hx⟩ := ih fun i hi => h i (by omega)
    obtain ⟨y, hy⟩ := h n (by omega)
    refine ⟨xs ++ [y], by simp [hl], fun i x hi => ?_⟩
    rcases Nat.lt_or_ge i xs.length with h1 | h1
    · rw [List.getElem?_append_left h1] at hi; exact hx i x hi
    · have h2 := (List.getElem?_eq_some_iff.1 hi).1
      simp at h2
      have h3 : i = n := by omega
      subst h3
      rw [List.getElem?_append_right (by omega), hl] at hi
      simp at hi
      rw [← hi]; exact hy
theorem add_off {a : Addr} (h : a.spot = none) (k : Nat) : a.add k = ⟨a.block, a.off + k, none⟩ := by
  obtain ⟨b, o, s⟩ := a
  have : s = none := h
  subst this
  unfold Addr.add
  by_cases hk : k = 0 <;> simp [hk]
theorem spot_of {a : Addr} {u : Value} (h : w.cell? a = some u) : a.spot = none := by
  obtain ⟨b, o, s⟩ := a
  cases s with
  | none => rfl
  | some s =>
    exfalso
    unfold World.cell? at h
    cases hb : w.heap[b]? with
    | none => simp [hb] at h
    | some x => cases x <;> simp [hb] at h
/-- a slice whose elements have sz cells, opened by what each element's cells read as -/
theorem sl_open {α : Type} {sz : Nat} {R : World → Nat → Nat → α → Prop} {t e : TypeId} {fuel : Nat} {v : Value} {y : DataW H × List MemPlace} (ht : P.underlying t = some (.slice e)) (hC : P.cellsOf e = sz) (hsz : 0 < sz) (h : DataW.trod enc P w base spare held fuel t [v] = some y) (hw : Lighter P t y.1)
    (hR : ∀ (b o n : Nat) (cs : List Value) (z : DataW H × List MemPlace), cs.length = sz → (∀ (j : Nat) (u : Value), cs[j]? = some u → w.cell? ⟨b, o + j, none⟩ = some u) → DataW.trod enc P w base spare held n e cs = some z → Lighter P e z.1 → ∃ x, R w b o x) :
    ∃ xs : List α, SlR sz R w v xs ∧ xs.length * P.bytesOf e ≤ reachBytes := by
  rcases open_slice ht h with ⟨h0, -⟩ | ⟨a, len, cap, m, n, D, Pl, hcs, -, hl, hm, hmm, hx, hi⟩
  · obtain rfl : v = .slice none 0 0 := by simpa using h0
    exact ⟨[], SlR.nil, by simp⟩
  · obtain rfl : v = .slice (some a) len cap := by simpa using hcs
    rw [hx] at hw
    obtain ⟨w1, w2⟩ := lighter_slice ht hw
    have hlm : len ≤ m := by rw [hmm]; split <;> omega
    have hm' : cap ≤ 9223372036854775807 := hm
    rcases Nat.eq_zero_or_pos len with h0 | h0
    · subst h0
      exact ⟨[], ⟨cap, Nat.zero_le _, hm', .inl ⟨rfl, some a, rfl⟩⟩, by simp⟩
    · have hsp : a.spot = none := by
        obtain ⟨cs, hc, -⟩ := hi 0 (by omega)
        rw [hC] at hc
        obtain ⟨_, hcl, hat⟩ := World.cells?_some hc
        have := hat 0 hsz
        rw [List.getElem?_eq_getElem (by omega), add_add, show 0 * sz + 0 = 0 by omega, show a.add 0 = a from rfl] at this
        exact spot_of this
      obtain ⟨xs, hxl, hxs⟩ := rows_of (R := fun i x => R w a.block (a.off + i * sz) x) len fun i hil => by
        obtain ⟨cs, hc, htr⟩ := hi i (by omega)
        rw [hC] at hc
        obtain ⟨_, hcl, hat⟩ := World.cells?_some hc
        refine hR a.block (a.off + i * sz) n cs (D i, Pl i) hcl (fun j u hu => ?_) htr (w2 _ (List.mem_map.2 ⟨i, List.mem_range.2 hil, rfl⟩))
        have hj := (List.getElem?_eq_some_iff.1 hu).1
        have := hat j (by omega)
        rw [add_add, add_off hsp, hu] at this
        rw [Nat.add_assoc]; exact this
      refine ⟨xs, ⟨cap, by omega, hm', .inr ⟨a.block, a.off, ?_, fun i x hx => hxs i x hx⟩⟩, by rw [hxl]; simpa using w1⟩
      obtain ⟨b, o, s⟩ := a
      have : s = none := hsp
      subst this
      rw [hxl]
/-- a struct's fields, each of one cell -/
theorem fields_open {t : TypeId} {fs : Array Field} {fuel : Nat} {cs : List Value} {y : DataW H × List MemPlace} (ht : P.underlying t = some (.struct fs)) (hone : oneCellFields P fs = true) (h : DataW.trod enc P w base spare held fuel t cs = some y) (hw : Lighter P t y.1) (hcs : cs.length = fs.size) :
    ∀ (j : Nat) (f : Field), fs[j]? = some f → ∃ (u : Value) (n : Nat) (z : DataW H × List MemPlace), cs[j]? = some u ∧ DataW.trod enc P w base spare held n f.type [u] = some z ∧ Lighter P f.type z.1 := by
  obtain ⟨xs, n, -, rfl, -, hlen, hf⟩ := DataW.trod_struct ht h
  intro j f hj
  have hjl : j < fs.size := (Array.getElem?_eq_some_iff.1 hj).1
  obtain ⟨o1, o2⟩ := hone_of hone j f hj
  have h1 := hf j f hj
  have hx : xs[j]? = some (xs[j]'(by omega)) := List.getElem?_eq_getElem (by omega)
  have hu : cs[j]? = some (cs[j]'(by omega)) := List.getElem?_eq_getElem (by omega)
  have e : (cs.drop j).take 1 = [cs[j]'(by omega)] := by rw [List.drop_eq_getElem_cons (by omega)]; rfl
  rw [o1, o2, e, hx] at h1
  exact ⟨_, n, _, hu, h1, lighter_struct ht hw j f _ hj (by rw [List.getElem?_map, hx]; rfl)⟩
end
section
variable {H : Type} {enc : TypeId × Value → H} {w : World} {base : Nat} {spare : Nat → Bool} {held : Bool}
theorem int_of {fuel : Nat} {u : Value} {z : DataW H × List MemPlace} (h : DataW.trod enc Tryz.prog w base spare held fuel 3 [u] = some z) : ∃ n, u = .int .i64 n := by
  obtain ⟨n, e, _⟩ := DataW.trod_int Tryz.underlying3 h
  exact ⟨n, by simpa using e⟩
theorem ints_open {fuel : Nat} {v : Value} {y : DataW H × List MemPlace} (h : DataW.trod enc Tryz.prog w base spare held fuel 28 [v] = some y) (hw : Lighter Tryz.prog 28 y.1) : ∃ xs, Ints w v xs ∧ xs.length * 8 ≤ reachBytes := by
  have hb : Tryz.prog.bytesOf 3 = 8 := by kernel_rfl
  have := sl_open (sz := 1) (R := intR) Tryz.underlying28 (by kernel_rfl) (by omega) h hw fun b o n cs z hl hc ht _ => by
    match cs, hl with
    | [u], _ =>
      obtain ⟨k, rfl⟩ := int_of ht
      exact ⟨k, hc 0 _ rfl⟩
  rwa [hb] at this
theorem args_open {fuel : Nat} {v : Value} {y : DataW H × List MemPlace} (h : DataW.trod enc Tryz.prog w base spare held fuel 45 [v] = some y) (hw : Lighter Tryz.prog 45 y.1) : ∃ xs, ArgPs w v xs ∧ xs.length * 24 ≤ reachBytes := by
  have hb : Tryz.prog.bytesOf 62 = 24 := by kernel_rfl
  have := sl_open (sz := 3) (R := argR) Tryz.underlying45 (by kernel_rfl) (by omega) h hw fun b o n cs z hl hc ht hz => by
    have F := fields_open Tryz.underlying62 (by kernel_rfl) ht hz hl
    obtain ⟨u0, n0, z0, e0, t0, _⟩ := F 0 _ rfl
    obtain ⟨u1, n1, z1, e1, t1, _⟩ := F 1 _ rfl
    obtain ⟨u2, n2, z2, e2, t2, _⟩ := F 2 _ rfl
    obtain ⟨k0, rfl⟩ := int_of t0
    obtain ⟨k1, rfl⟩ := int_of t1
    obtain ⟨k2, rfl⟩ := int_of t2
    exact ⟨⟨k0, k1, k2⟩, hc 0 _ e0, hc 1 _ e1, hc 2 _ e2⟩
  rwa [hb] at this
theorem inss_open {fuel : Nat} {v : Value} {y : DataW H × List MemPlace} (h : DataW.trod enc Tryz.prog w base spare held fuel 50 [v] = some y) (hw : Lighter Tryz.prog 50 y.1) : ∃ xs, Inss w v xs := by
  obtain ⟨xs, hx, _⟩ := sl_open (sz := 2) (R := insR) Tryz.underlying50 (by kernel_rfl) (by omega) h hw fun b o n cs z hl hc ht hz => by
    have F := fields_open Tryz.underlying64 (by kernel_rfl) ht hz hl
    obtain ⟨u0, n0, z0, e0, t0, _⟩ := F 0 _ rfl
    obtain ⟨u1, n1, z1, e1, t1, _⟩ := F 1 _ rfl
    obtain ⟨k0, rfl⟩ := int_of t0
    obtain ⟨k1, rfl⟩ := int_of t1
    exact ⟨⟨k0, k1⟩, hc 0 _ e0, hc 1 _ e1⟩
  exact ⟨xs, hx⟩
theorem funs_open {fuel : Nat} {v : Value} {y : DataW H × List MemPlace} (h : DataW.trod enc Tryz.prog w base spare held fuel 22 [v] = some y) (hw : Lighter Tryz.prog 22 y.1) : ∃ p, Funs w v p := by
  obtain ⟨xs, hx, _⟩ := sl_open (sz := 3) (R := funR) Tryz.underlying22 (by kernel_rfl) (by omega) h hw fun b o n cs z hl hc ht hz => by
    have F := fields_open Tryz.underlying52 (by kernel_rfl) ht hz hl
    obtain ⟨u0, n0, z0, e0, t0, _⟩ := F 0 _ rfl
    obtain ⟨u1, n1, z1, e1, t1, _⟩ := F 1 _ rfl
    obtain ⟨u2, n2, z2, e2, t2, l2⟩ := F 2 _ rfl
    obtain ⟨k0, rfl⟩ := int_of t0
    obtain ⟨k1, rfl⟩ := int_of t1
    obtain ⟨code, hcode⟩ := inss_open t2 l2
    exact ⟨⟨k0, k1, code⟩, hc 0 _ e0, hc 1 _ e1, _, hc 2 _ e2, hcode⟩
  exact ⟨xs, hx⟩
def fpFit (x : FunP) : Prop := x.jumps.length * 8 ≤ 140737488355328 ∧ x.falls.length * 8 ≤ 140737488355328 ∧ x.args.length * 24 ≤ 140737488355328
theorem profs_open {fuel : Nat} {v : Value} {y : DataW H × List MemPlace} (h : DataW.trod enc Tryz.prog w base spare held fuel 25 [v] = some y) (hw : Lighter Tryz.prog 25 y.1) : ∃ rs, Profs w v rs ∧ PFits rs := by
  have hb : Tryz.prog.bytesOf 47 = 80 := by kernel_rfl
  have hr : reachBytes = 140737488351232 := rfl
  obtain ⟨xs, hx, hl⟩ := sl_open (sz := 4) (R := fun w b o x => fpR w b o x ∧ fpFit x) Tryz.underlying25 (by kernel_rfl) (by omega) h hw fun b o n cs z hl hc ht hz => by
    have F := fields_open Tryz.underlying47 (by kernel_rfl) ht hz hl
    obtain ⟨u0, n0, z0, e0, t0, _⟩ := F 0 _ rfl
    obtain ⟨u1, n1, z1, e1, t1, l1⟩ := F 1 _ rfl
    obtain ⟨u2, n2, z2, e2, t2, l2⟩ := F 2 _ rfl
    obtain ⟨u3, n3, z3, e3, t3, l3⟩ := F 3 _ rfl
    obtain ⟨k0, rfl⟩ := int_of t0
    obtain ⟨js, hj, hj2⟩ := ints_open t1 l1
    obtain ⟨fs, hf, hf2⟩ := ints_open t2 l2
    obtain ⟨rws, ha, ha2⟩ := args_open t3 l3
    rw [hr] at hj2 hf2 ha2
    exact ⟨⟨k0, js, fs, rws⟩, ⟨hc 0 _ e0, ⟨_, hc 1 _ e1, hj⟩, ⟨_, hc 2 _ e2, hf⟩, _, hc 3 _ e3, ha⟩, Nat.le_trans hj2 (by omega), Nat.le_trans hf2 (by omega), Nat.le_trans ha2 (by omega)⟩
  rw [hb, hr] at hl
  obtain ⟨c, c1, c2, hc⟩ := hx
  refine ⟨xs, ⟨c, c1, c2, hc.imp id fun ⟨b, o, e, hf⟩ => ⟨b, o, e, fun i x hx => (hf i x hx).1⟩⟩, by omega, fun i x hx => ?_⟩
  rcases hc with ⟨rfl, _⟩ | ⟨b, o, _, hf⟩
  · simp at hx
  · exact (hf i x hx).2
end
end Go.Proofs.YtjpgcokdlopkaaaGreatDoor
