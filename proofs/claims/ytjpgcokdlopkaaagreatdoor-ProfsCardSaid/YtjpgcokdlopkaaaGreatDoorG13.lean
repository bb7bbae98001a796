/- Lemmas for a claim of the seat YtjpgcokdlopkaaaGreatDoor. Written in part by programs of the claim's repo. By an AI agent. -/
import Derived.Test.YtjpgcokdlopkaaaGreatDoorG04
import Derived.Deep.LoopGhost
import Derived.Test.YtjpgcokdlopkaaaGreatDoorG05

namespace Go.Proofs.YtjpgcokdlopkaaaGreatDoor
open Go.RowKit

theorem codeMay_iff {c : List Ins} : codeMay c = true ↔ 1 ≤ c.length ∧ c.length ≤ 64 ∧ ∀ i ∈ c, insMayB i.kind i.a = true := by
  simp [codeMay, and_assoc]
set_option maxHeartbeats 1000000 in
theorem rFuncMay_calls (f : Fun) (v : Value) (w : World) (hi : Inss w v f.code) : Calls Tryz.prog 49 #[.agg #[.int .i64 f.args, .int .i64 f.locals, v]] w fun e w' => e = .returned (.bool (codeMay f.code)) ∧ ∃ x, w' = w.ext x := by
  obtain ⟨A, c, rfl, k1, k2⟩ := hi.form
  have HI := Lib.hid hi
  clear hi
  rcases dec_cases ((f.code.length : Int) < 1) with ⟨l1, l1d⟩ | ⟨l1, l1d⟩
  · go_enter Tryz.func49, Tryz.ntmps49
    go_wp2
    go_ret
    exact ⟨ret_bool (by symm; rw [Bool.eq_false_iff]; intro h; have := codeMay_iff.1 h; omega), Mods.ex (by repeat (first | exact Mods.refl _ _ | refine Mods.alloc ?_ _ | refine Mods.ext ?_ _ | refine Mods.drew ?_ | refine Mods.drewN ?_ _))⟩
  rcases dec_cases ((64 : Int) < f.code.length) with ⟨l2, l2d⟩ | ⟨l2, l2d⟩
  · go_enter Tryz.func49, Tryz.ntmps49
    go_wp2
    go_ret
    exact ⟨ret_bool (by symm; rw [Bool.eq_false_iff]; intro h; have := codeMay_iff.1 h; omega), Mods.ex (by repeat (first | exact Mods.refl _ _ | refine Mods.alloc ?_ _ | refine Mods.ext ?_ _ | refine Mods.drew ?_ | refine Mods.drewN ?_ _))⟩
  go_enter Tryz.func49, Tryz.ntmps49
  go_wp2
  go_loopw [3] (fun i wr => ∃ k : Nat, i = .int .i64 k ∧ k ≤ f.code.length ∧ wr.cell? ⟨w.heap.size, 2, none⟩ = some (.slice A f.code.length c) ∧ Hid (∀ (j : Nat) (x : Ins), j < k → f.code[j]? = some x → insMayB x.kind x.a = true) ∧ Hid (Mods [] w wr)) (fun i _ => f.code.length - (intOf i).toNat)
  case atStart => exact ⟨0, rfl, Nat.zero_le _, by go_simp, fun j x h => absurd h (Nat.not_lt_zero _), (by repeat (first | exact Mods.refl _ _ | refine Mods.alloc ?_ _ | refine Mods.ext ?_ _ | refine Mods.drew ?_ | refine Mods.drewN ?_ _))⟩
  case round =>
    obtain ⟨k, rfl, hk, hbox, HA, HM⟩ := hrel
    by_cases hlt : k < f.code.length
    · obtain ⟨b, o, rfl, c1, c2⟩ := HI.out.at_ (get_some hlt)
      have c1' := HM.out.cell c1
      have c2' := HM.out.cell c2
      cases hin : insMayB f.code[k].kind f.code[k].a with
      | true =>
        go_wp2_with (go_at_call 62; (with_reducible refine (refInsMay_calls _ _ _).mono ?_); rintro e w2 ⟨rfl, x2, hx2⟩; have HX2 := Lib.hid hx2; clear hx2)
        go_roundw
        case rel =>
          go_light
          refine ⟨k + 1, by go_num, by omega, (mods_of HX2.out).cell (by go_simp), fun j x hj hx => ?_, HM.out.trans (mods_of HX2.out)⟩
          by_cases hjk : j < k
          · exact HA.out j x hjk hx
          · obtain rfl : j = k := by omega
            rw [get_some hlt] at hx
            obtain rfl := Option.some.inj hx
            exact hin
        case measure => simp [intOf]; omega
      | false =>
        go_wp2_with (go_at_call 62; (with_reducible refine (refInsMay_calls _ _ _).mono ?_); rintro e w2 ⟨rfl, x2, hx2⟩; have HX2 := Lib.hid hx2; clear hx2)
        go_ret
        refine ⟨ret_bool ?_, (HM.out.trans (mods_of HX2.out)).ex⟩
        symm; rw [Bool.eq_false_iff]; intro h
        have := (codeMay_iff.1 h).2.2 _ (List.getElem_mem hlt)
        rw [hin] at this; cases this
    · have hke : k = f.code.length := by omega
      go_wp2
      go_ret
      exact ⟨ret_bool (by symm; refine codeMay_iff.2 ⟨by omega, by omega, fun x hx => ?_⟩; obtain ⟨j, hj⟩ := List.getElem?_of_mem hx; exact HA.out j x (by rw [hke]; exact (List.getElem?_eq_some_iff.1 hj).1) hj), HM.out.ex⟩
end Go.Proofs.YtjpgcokdlopkaaaGreatDoor


namespace Go.Proofs.YtjpgcokdlopkaaaGreatDoor
open Go.RowKit

theorem packs_iff {p : List Fun} : packs p = true ↔ 1 ≤ p.length ∧ p.length ≤ 8 ∧ ∀ f ∈ p, notB f = false := by
  simp [packs, and_assoc]
def goodB (f : Fun) : Bool := !notB f
set_option maxHeartbeats 2000000 in
set_option maxRecDepth 100000 in
theorem rPacks_calls (v : Value) (p : List Fun) (w : World) (hv : Funs w v p) : Calls Tryz.prog 36 #[.agg #[v]] w fun e w' => e = .returned (.bool (packs p)) ∧ ∃ x, w' = w.ext x := by
  obtain ⟨A, c, rfl, k1, k2⟩ := hv.form
  have HV := Lib.hid hv
  clear hv
  rcases dec_cases ((p.length : Int) < 1) with ⟨l1, l1d⟩ | ⟨l1, l1d⟩
  · go_enter Tryz.func36, Tryz.ntmps36
    go_wp2
    go_ret
    exact ⟨ret_bool (by symm; rw [Bool.eq_false_iff]; intro h; have := packs_iff.1 h; omega), Mods.ex (by repeat (first | exact Mods.refl _ _ | refine Mods.alloc ?_ _ | refine Mods.ext ?_ _ | refine Mods.drew ?_ | refine Mods.drewN ?_ _))⟩
  rcases dec_cases ((8 : Int) < p.length) with ⟨l2, l2d⟩ | ⟨l2, l2d⟩
  · go_enter Tryz.func36, Tryz.ntmps36
    go_wp2
    go_ret
    exact ⟨ret_bool (by symm; rw [Bool.eq_false_iff]; intro h; have := packs_iff.1 h; omega), Mods.ex (by repeat (first | exact Mods.refl _ _ | refine Mods.alloc ?_ _ | refine Mods.ext ?_ _ | refine Mods.drew ?_ | refine Mods.drewN ?_ _))⟩
  go_enter Tryz.func36, Tryz.ntmps36
  go_wp2
  go_loopw [3] (fun i wr => ∃ k : Nat, i = .int .i64 k ∧ k ≤ p.length ∧ wr.cell? ⟨w.heap.size, 0, none⟩ = some (.slice A p.length c) ∧ Hid (∀ (j : Nat) (f : Fun), j < k → p[j]? = some f → notB f = false) ∧ Hid (Mods [] w wr)) (fun i _ => p.length - (intOf i).toNat)
  case atStart => exact ⟨0, rfl, Nat.zero_le _, by go_simp, fun j x h => absurd h (Nat.not_lt_zero _), (by repeat (first | exact Mods.refl _ _ | refine Mods.alloc ?_ _ | refine Mods.ext ?_ _ | refine Mods.drew ?_ | refine Mods.drewN ?_ _))⟩
  case round =>
    obtain ⟨k, rfl, hk, hbox, HA, HM⟩ := hrel
    by_cases hlt : k < p.length
    · obtain ⟨b, o, rfl, hf⟩ := HV.out.at_ (get_some hlt)
      have HF := Lib.hid (funR_grows.ext HM.out hf)
      obtain ⟨c1, c2, cv, c3, hc⟩ := funR_grows.ext HM.out hf
      obtain ⟨B, d, rfl, k3, k4⟩ := hc.form
      have HC := Lib.hid hc
      clear hf hc
      have bad : notB p[k] = true → packs p = false := fun hb => by
        rw [Bool.eq_false_iff]; intro h
        have := (packs_iff.1 h).2.2 _ (List.getElem_mem hlt)
        rw [hb] at this; cases this
      have BAD := Lib.hid bad
      clear bad
      rcases dec_cases (p[k].args < 0) with ⟨a1, a1d⟩ | ⟨a1, a1d⟩
      · go_wp2
        go_ret
        exact ⟨ret_bool (BAD.out (by unfold notB; rw [a1d]; rfl)).symm, (HM.out.alloc _).ex⟩
      rcases dec_cases (4 < p[k].args) with ⟨a2, a2d⟩ | ⟨a2, a2d⟩
      · go_wp2
        go_ret
        exact ⟨ret_bool (BAD.out (by unfold notB; rw [a2d]; simp)).symm, (HM.out.alloc _).ex⟩
      rcases dec_cases (p[k].locals < p[k].args) with ⟨a3, a3d⟩ | ⟨a3, a3d⟩
      · go_wp2
        go_ret
        exact ⟨ret_bool (BAD.out (by unfold notB; rw [a3d]; simp)).symm, (HM.out.alloc _).ex⟩
      rcases dec_cases (8 < p[k].locals) with ⟨a4, a4d⟩ | ⟨a4, a4d⟩
      · go_wp2
        go_ret
        exact ⟨ret_bool (BAD.out (by unfold notB; rw [a4d]; simp)).symm, (HM.out.alloc _).ex⟩
      cases hin : codeMay p[k].code with
      | true =>
        go_wp2_with (go_at_call 49; (with_reducible refine (rFuncMay_calls p[k] _ _ ?_).mono ?_); (exact HC.out.ext insR_grows (by repeat (first | exact Mods.refl _ _ | refine Mods.alloc ?_ _ | refine Mods.ext ?_ _ | refine Mods.drew ?_ | refine Mods.drewN ?_ _))); rintro e w2 ⟨rfl, x2, hx2⟩; have HX2 := Lib.hid hx2; clear hx2)
        go_roundw
        case rel =>
          go_light
          refine ⟨k + 1, by go_num, by omega, (mods_of HX2.out).cell (by go_simp), fun j x hj hx => ?_, (HM.out.alloc _).trans (mods_of HX2.out)⟩
          by_cases hjk : j < k
          · exact HA.out j x hjk hx
          · obtain rfl : j = k := by omega
            rw [get_some hlt] at hx
            obtain rfl := Option.some.inj hx
            unfold notB; rw [a1d, a2d, a3d, a4d, hin]; rfl
        case measure => simp [intOf]; omega
      | false =>
        go_wp2_with (go_at_call 49; (with_reducible refine (rFuncMay_calls p[k] _ _ ?_).mono ?_); (exact HC.out.ext insR_grows (by repeat (first | exact Mods.refl _ _ | refine Mods.alloc ?_ _ | refine Mods.ext ?_ _ | refine Mods.drew ?_ | refine Mods.drewN ?_ _))); rintro e w2 ⟨rfl, x2, hx2⟩; have HX2 := Lib.hid hx2; clear hx2)
        go_ret
        exact ⟨ret_bool (BAD.out (by unfold notB; rw [a1d, a2d, a3d, a4d, hin]; rfl)).symm, ((HM.out.alloc _).trans (mods_of HX2.out)).ex⟩
    · have hke : k = p.length := by omega
      go_wp2
      go_ret
      exact ⟨ret_bool (by symm; refine packs_iff.2 ⟨by omega, by omega, fun x hx => ?_⟩; obtain ⟨j, hj⟩ := List.getElem?_of_mem hx; exact HA.out j x (by rw [hke]; exact (List.getElem?_eq_some_iff.1 hj).1) hj), HM.out.ex⟩
end Go.Proofs.YtjpgcokdlopkaaaGreatDoor


namespace Go.Proofs.YtjpgcokdlopkaaaGreatDoor
open Go.RowKit

theorem grown_nil {w w' : World} (h : w.grownBy w' (Value.slice none 0 0).ownBlock) : Mods [] w w' := (Mods.refl [] w).grown h (fun k hk => by simp [Value.ownBlock] at hk)
/-- A slice of the call's own: these whole numbers, in a block from B on. -/
def OwnI (B : Nat) (w : World) (v : Value) (us : List Int) : Prop := Own w 3 1 v us.length (intV us) ∧ ∀ k, v.ownBlock = some k → B ≤ k
theorem OwnI.nil {B : Nat} {w : World} : OwnI B w (.slice none 0 0) [] := ⟨Own.nil, fun k hk => by simp [Value.ownBlock] at hk⟩
theorem own_ge {w W : World} {v' : Value} (hM : Mods [] w W) (hat : v'.ownBlock = (Value.slice none 0 0).ownBlock ∨ v'.ownBlock = some W.heap.size) : ∀ j, v'.ownBlock = some j → w.heap.size ≤ j := fun j hj => by
  have := hM.size
  rcases hat with e | e
  · rw [e] at hj; simp [Value.ownBlock] at hj
  · rw [e] at hj
    have := Option.some.inj hj
    omega
theorem own_ge2 {w W : World} {v' : Value} {g o n c : Nat} (hg : w.heap.size ≤ g) (hM : Mods [] w W) (hat : v'.ownBlock = (Value.slice (some ⟨g, o, none⟩) n c).ownBlock ∨ v'.ownBlock = some W.heap.size) : ∀ j, v'.ownBlock = some j → w.heap.size ≤ j := fun j hj => by
  have := hM.size
  rcases hat with e | e
  · rw [e] at hj
    have : g = j := by simpa [Value.ownBlock] using hj
    omega
  · rw [e] at hj
    have := Option.some.inj hj
    omega
def RNextPost (w : World) (k a : Int) (pc n : Nat) (e : Ending) (w' : World) : Prop := ∃ u, e = .returned (.tuple #[u, .int .i64 0]) ∧ OwnI w.heap.size w' u (nextF k a pc n) ∧ ∃ x, w' = w.ext x

set_option maxHeartbeats 1000000 in
set_option maxRecDepth 100000 in
theorem rNext_ret (f : Fun) (v : Value) (pc : Nat) (k a : Int) (b o cap : Nat) (w : World) (hi : Inss w v f.code) (hm : codeMay f.code = true) (hpc : pc < f.code.length) (hv : v = .slice (some ⟨b, o, none⟩) f.code.length cap) (k1 : f.code.length ≤ cap) (k2 : cap ≤ 9223372036854775807)
    (c1 : w.cell? ⟨b, o + pc * 2, none⟩ = some (.int .i64 k)) (c2 : w.cell? ⟨b, o + pc * 2 + 1, none⟩ = some (.int .i64 a)) (hk : k = 16) :
    Calls Tryz.prog 63 #[.agg #[.int .i64 f.args, .int .i64 f.locals, v], .int .i64 pc] w (RNextPost w k a pc f.code.length) := by
  obtain ⟨l1, l2⟩ := codeMay_lens hm
  have HI := Lib.hid hi
  subst hk
  have HR : Hid (nextF 16 a pc f.code.length = []) := by unfold Hid nextF; repeat (first | rw [if_pos (by omega)] | rw [if_neg (by omega)])
  clear hi
  have _ := k1
  have _ := k2
  subst hv
  go_enter Tryz.func63, Tryz.ntmps63
  go_wp2_with (first | (go_at_call 49; (with_reducible refine (rFuncMay_calls f _ _ ?_).mono ?_); (exact HI.out.ext insR_grows (by repeat (first | exact Mods.refl _ _ | refine Mods.alloc ?_ _ | refine Mods.ext ?_ _ | refine Mods.drew ?_ | refine Mods.drewN ?_ _))); rintro e w2 ⟨he, x2, hx2⟩; rw [hm] at he; subst he; have hM2 := mods_of hx2; have hM2' := ((Mods.refl [] w).alloc _).trans hM2; have hb2 : w2.cell? ⟨w.heap.size, 2, none⟩ = some (.slice (some ⟨b, o, none⟩) f.code.length cap) := hM2.cell (by go_simp); have c1' := hM2'.cell c1; have c2' := hM2'.cell c2; have HM2 := Lib.hid hM2'; have hsz : w.heap.size < w2.heap.size := Nat.lt_of_lt_of_le (by simp) hM2.size; clear hx2 hM2 hM2' c1 c2))
  (refine wp_region_ext (by kernel_rfl) (by kernel_rfl) ?_; (repeat (go_big_quiet_step (fail))); refine wpQuiet_nil ?_; rintro _ ⟨xq, rfl⟩)
  go_wp2_with (fail)
  go_ret2
  go_light
  exact ⟨_, rfl, by rw [HR.out]; exact OwnI.nil, ((HM2.out.alloc _).ext xq).ex⟩

set_option maxHeartbeats 1000000 in
set_option maxRecDepth 100000 in
theorem rNext_jump_k (f : Fun) (v : Value) (pc : Nat) (k a : Int) (b o cap : Nat) (w : World) (hi : Inss w v f.code) (hm : codeMay f.code = true) (hpc : pc < f.code.length) (hv : v = .slice (some ⟨b, o, none⟩) f.code.length cap) (k1 : f.code.length ≤ cap) (k2 : cap ≤ 9223372036854775807)
    (c1 : w.cell? ⟨b, o + pc * 2, none⟩ = some (.int .i64 k)) (c2 : w.cell? ⟨b, o + pc * 2 + 1, none⟩ = some (.int .i64 a)) (hk : k = 12) (hj : a < f.code.length) :
    Calls Tryz.prog 63 #[.agg #[.int .i64 f.args, .int .i64 f.locals, v], .int .i64 pc] w (RNextPost w k a pc f.code.length) := by
  obtain ⟨l1, l2⟩ := codeMay_lens hm
  have HI := Lib.hid hi
  subst hk
  have HR : Hid (nextF 12 a pc f.code.length = [a]) := by unfold Hid nextF; repeat (first | rw [if_pos (by omega)] | rw [if_neg (by omega)])
  clear hi
  have _ := k1
  have _ := k2
  subst hv
  go_enter Tryz.func63, Tryz.ntmps63
  go_wp2_with (first | (go_at_call 49; (with_reducible refine (rFuncMay_calls f _ _ ?_).mono ?_); (exact HI.out.ext insR_grows (by repeat (first | exact Mods.refl _ _ | refine Mods.alloc ?_ _ | refine Mods.ext ?_ _ | refine Mods.drew ?_ | refine Mods.drewN ?_ _))); rintro e w2 ⟨he, x2, hx2⟩; rw [hm] at he; subst he; have hM2 := mods_of hx2; have hM2' := ((Mods.refl [] w).alloc _).trans hM2; have hb2 : w2.cell? ⟨w.heap.size, 2, none⟩ = some (.slice (some ⟨b, o, none⟩) f.code.length cap) := hM2.cell (by go_simp); have c1' := hM2'.cell c1; have c2' := hM2'.cell c2; have HM2 := Lib.hid hM2'; have hsz : w.heap.size < w2.heap.size := Nat.lt_of_lt_of_le (by simp) hM2.size; clear hx2 hM2 hM2' c1 c2))
  (refine wp_region_ext (by kernel_rfl) (by kernel_rfl) ?_; (repeat (go_big_quiet_step (fail))); refine wpQuiet_nil ?_; rintro _ ⟨xq, rfl⟩)
  go_wp2_with (first | (at_builtin; refine wpList_append_int _ rfl _ _ rfl (.slice none 0 0) 0 [] rfl Own.nil _ _ a rfl ?_ ?_ ?_; (go_simp); (omega); (intro v' w3 hown3 hg3 hat3; have HB3 := Lib.hid (own_ge (((HM2.out.alloc _).ext xq).alloc _) hat3); have HO3 := Lib.hid hown3; have HM3 := Lib.hid ((((HM2.out.alloc _).ext xq).alloc _).trans (grown_nil hg3)); clear hown3 hg3 hat3)))
  go_ret2
  go_light
  exact ⟨_, rfl, by rw [HR.out]; exact ⟨HO3.out, HB3.out⟩, HM3.out.ex⟩

set_option maxHeartbeats 1000000 in
set_option maxRecDepth 100000 in
theorem rNext_jump_d (f : Fun) (v : Value) (pc : Nat) (k a : Int) (b o cap : Nat) (w : World) (hi : Inss w v f.code) (hm : codeMay f.code = true) (hpc : pc < f.code.length) (hv : v = .slice (some ⟨b, o, none⟩) f.code.length cap) (k1 : f.code.length ≤ cap) (k2 : cap ≤ 9223372036854775807)
    (c1 : w.cell? ⟨b, o + pc * 2, none⟩ = some (.int .i64 k)) (c2 : w.cell? ⟨b, o + pc * 2 + 1, none⟩ = some (.int .i64 a)) (hk : k = 12) (hj : f.code.length ≤ a) :
    Calls Tryz.prog 63 #[.agg #[.int .i64 f.args, .int .i64 f.locals, v], .int .i64 pc] w (RNextPost w k a pc f.code.length) := by
  obtain ⟨l1, l2⟩ := codeMay_lens hm
  have HI := Lib.hid hi
  subst hk
  have d3 : decide (a < (f.code.length : Int)) = false := by simpa using hj
  have HR : Hid (nextF 12 a pc f.code.length = []) := by unfold Hid nextF; repeat (first | rw [if_pos (by omega)] | rw [if_neg (by omega)])
  clear hi
  have _ := k1
  have _ := k2
  subst hv
  go_enter Tryz.func63, Tryz.ntmps63
  go_wp2_with (first | (go_at_call 49; (with_reducible refine (rFuncMay_calls f _ _ ?_).mono ?_); (exact HI.out.ext insR_grows (by repeat (first | exact Mods.refl _ _ | refine Mods.alloc ?_ _ | refine Mods.ext ?_ _ | refine Mods.drew ?_ | refine Mods.drewN ?_ _))); rintro e w2 ⟨he, x2, hx2⟩; rw [hm] at he; subst he; have hM2 := mods_of hx2; have hM2' := ((Mods.refl [] w).alloc _).trans hM2; have hb2 : w2.cell? ⟨w.heap.size, 2, none⟩ = some (.slice (some ⟨b, o, none⟩) f.code.length cap) := hM2.cell (by go_simp); have c1' := hM2'.cell c1; have c2' := hM2'.cell c2; have HM2 := Lib.hid hM2'; have hsz : w.heap.size < w2.heap.size := Nat.lt_of_lt_of_le (by simp) hM2.size; clear hx2 hM2 hM2' c1 c2))
  (refine wp_region_ext (by kernel_rfl) (by kernel_rfl) ?_; (repeat (go_big_quiet_step (fail))); refine wpQuiet_nil ?_; rintro _ ⟨xq, rfl⟩)
  go_wp2_with (fail)
  go_ret2
  go_light
  exact ⟨_, rfl, by rw [HR.out]; exact OwnI.nil, ((HM2.out.alloc _).ext xq).ex⟩

set_option maxHeartbeats 1000000 in
set_option maxRecDepth 100000 in
theorem rNext_other_k (f : Fun) (v : Value) (pc : Nat) (k a : Int) (b o cap : Nat) (w : World) (hi : Inss w v f.code) (hm : codeMay f.code = true) (hpc : pc < f.code.length) (hv : v = .slice (some ⟨b, o, none⟩) f.code.length cap) (k1 : f.code.length ≤ cap) (k2 : cap ≤ 9223372036854775807)
    (c1 : w.cell? ⟨b, o + pc * 2, none⟩ = some (.int .i64 k)) (c2 : w.cell? ⟨b, o + pc * 2 + 1, none⟩ = some (.int .i64 a)) (hk : k ≠ 16 ∧ k ≠ 12 ∧ k ≠ 13) (hj : (pc : Int) + 1 < f.code.length) :
    Calls Tryz.prog 63 #[.agg #[.int .i64 f.args, .int .i64 f.locals, v], .int .i64 pc] w (RNextPost w k a pc f.code.length) := by
  obtain ⟨l1, l2⟩ := codeMay_lens hm
  have HI := Lib.hid hi
  have e16 : (k == 16) = false := by simp; omega
  have n16 : (k != 16) = true := by simp; omega
  have e12 : (k == 12) = false := by simp; omega
  have n12 : (k != 12) = true := by simp; omega
  have e13 : (k == 13) = false := by simp; omega
  have n13 : (k != 13) = true := by simp; omega
  have d1 : decide ((pc : Int) + 1 < f.code.length) = true := by simpa using hj
  have HR : Hid (nextF k a pc f.code.length = [(pc : Int) + 1]) := by unfold Hid nextF; repeat (first | rw [if_pos (by omega)] | rw [if_neg (by omega)])
  clear hi
  have _ := k1
  have _ := k2
  subst hv
  go_enter Tryz.func63, Tryz.ntmps63
  go_wp2_with (first | (go_at_call 49; (with_reducible refine (rFuncMay_calls f _ _ ?_).mono ?_); (exact HI.out.ext insR_grows (by repeat (first | exact Mods.refl _ _ | refine Mods.alloc ?_ _ | refine Mods.ext ?_ _ | refine Mods.drew ?_ | refine Mods.drewN ?_ _))); rintro e w2 ⟨he, x2, hx2⟩; rw [hm] at he; subst he; have hM2 := mods_of hx2; have hM2' := ((Mods.refl [] w).alloc _).trans hM2; have hb2 : w2.cell? ⟨w.heap.size, 2, none⟩ = some (.slice (some ⟨b, o, none⟩) f.code.length cap) := hM2.cell (by go_simp); have c1' := hM2'.cell c1; have c2' := hM2'.cell c2; have HM2 := Lib.hid hM2'; have hsz : w.heap.size < w2.heap.size := Nat.lt_of_lt_of_le (by simp) hM2.size; clear hx2 hM2 hM2' c1 c2) | (at_builtin; refine wpList_append_int _ rfl _ _ rfl (.slice none 0 0) 0 [] rfl Own.nil _ _ ((pc : Int) + 1) rfl ?_ ?_ ?_; (go_simp); (omega); (intro v' w3 hown3 hg3 hat3; obtain ⟨g, og, cp, rfl, q1, q2, q3, q4⟩ := hown3.form (by omega); have q0 : w3.cell? ⟨g, og, none⟩ = some (.int .i64 ((pc : Int) + 1)) := q3 0 _ rfl; have hb3 : w3.cell? ⟨w.heap.size, 2, none⟩ = some (.slice (some ⟨b, o, none⟩) f.code.length cap) := (grown_nil hg3).cell (by go_simp); have i0 : w3.cell? ⟨w2.heap.size, 0, none⟩ = some (.int .i64 k) := (grown_nil hg3).cell (by go_simp); have i1 : w3.cell? ⟨w2.heap.size, 1, none⟩ = some (.int .i64 a) := (grown_nil hg3).cell (by go_simp); have hge : w2.heap.size < g := (by rcases hat3 with e | e <;> simp [Value.ownBlock] at e; omega); have HO3 := Lib.hid hown3; have HM3 := Lib.hid (((HM2.out.alloc _).alloc _).trans (grown_nil hg3)); clear hown3 hg3 hat3 q3 q4)))
  (refine wp_region_ext (by kernel_rfl) (by kernel_rfl) ?_; (repeat (go_big_quiet_step (fail))); refine wpQuiet_nil ?_; rintro _ ⟨xq, rfl⟩)
  go_wp2_with (fail)
  go_ret2
  go_light
  exact ⟨_, rfl, by rw [HR.out]; exact ⟨HO3.out.mods (S := []) (by repeat (first | exact Mods.refl _ _ | refine Mods.alloc ?_ _ | refine Mods.ext ?_ _ | refine Mods.drew ?_ | refine Mods.drewN ?_ _)) (by simp), fun j hj => by have : g = j := (by simpa [Value.ownBlock] using hj); omega⟩, (HM3.out.ext xq).ex⟩

set_option maxHeartbeats 1000000 in
set_option maxRecDepth 100000 in
theorem rNext_other_d (f : Fun) (v : Value) (pc : Nat) (k a : Int) (b o cap : Nat) (w : World) (hi : Inss w v f.code) (hm : codeMay f.code = true) (hpc : pc < f.code.length) (hv : v = .slice (some ⟨b, o, none⟩) f.code.length cap) (k1 : f.code.length ≤ cap) (k2 : cap ≤ 9223372036854775807)
    (c1 : w.cell? ⟨b, o + pc * 2, none⟩ = some (.int .i64 k)) (c2 : w.cell? ⟨b, o + pc * 2 + 1, none⟩ = some (.int .i64 a)) (hk : k ≠ 16 ∧ k ≠ 12 ∧ k ≠ 13) (hj : f.code.length ≤ (pc : Int) + 1) :
    Calls Tryz.prog 63 #[.agg #[.int .i64 f.args, .int .i64 f.locals, v], .int .i64 pc] w (RNextPost w k a pc f.code.length) := by
  obtain ⟨l1, l2⟩ := codeMay_lens hm
  have HI := Lib.hid hi
  have e16 : (k == 16) = false := by simp; omega
  have n16 : (k != 16) = true := by simp; omega
  have e12 : (k == 12) = false := by simp; omega
  have n12 : (k != 12) = true := by simp; omega
  have e13 : (k == 13) = false := by simp; omega
  have n13 : (k != 13) = true := by simp; omega
  have d1 : decide ((pc : Int) + 1 < f.code.length) = false := by simpa using hj
  have HR : Hid (nextF k a pc f.code.length = []) := by unfold Hid nextF; repeat (first | rw [if_pos (by omega)] | rw [if_neg (by omega)])
  clear hi
  have _ := k1
  have _ := k2
  subst hv
  go_enter Tryz.func63, Tryz.ntmps63
  go_wp2_with (first | (go_at_call 49; (with_reducible refine (rFuncMay_calls f _ _ ?_).mono ?_); (exact HI.out.ext insR_grows (by repeat (first | exact Mods.refl _ _ | refine Mods.alloc ?_ _ | refine Mods.ext ?_ _ | refine Mods.drew ?_ | refine Mods.drewN ?_ _))); rintro e w2 ⟨he, x2, hx2⟩; rw [hm] at he; subst he; have hM2 := mods_of hx2; have hM2' := ((Mods.refl [] w).alloc _).trans hM2; have hb2 : w2.cell? ⟨w.heap.size, 2, none⟩ = some (.slice (some ⟨b, o, none⟩) f.code.length cap) := hM2.cell (by go_simp); have c1' := hM2'.cell c1; have c2' := hM2'.cell c2; have HM2 := Lib.hid hM2'; have hsz : w.heap.size < w2.heap.size := Nat.lt_of_lt_of_le (by simp) hM2.size; clear hx2 hM2 hM2' c1 c2))
  (refine wp_region_ext (by kernel_rfl) (by kernel_rfl) ?_; (repeat (go_big_quiet_step (fail))); refine wpQuiet_nil ?_; rintro _ ⟨xq, rfl⟩)
  go_wp2_with (fail)
  go_ret2
  go_light
  exact ⟨_, rfl, by rw [HR.out]; exact OwnI.nil, ((HM2.out.alloc _).ext xq).ex⟩

set_option maxHeartbeats 1000000 in
set_option maxRecDepth 100000 in
theorem rNext_zero_kk (f : Fun) (v : Value) (pc : Nat) (k a : Int) (b o cap : Nat) (w : World) (hi : Inss w v f.code) (hm : codeMay f.code = true) (hpc : pc < f.code.length) (hv : v = .slice (some ⟨b, o, none⟩) f.code.length cap) (k1 : f.code.length ≤ cap) (k2 : cap ≤ 9223372036854775807)
    (c1 : w.cell? ⟨b, o + pc * 2, none⟩ = some (.int .i64 k)) (c2 : w.cell? ⟨b, o + pc * 2 + 1, none⟩ = some (.int .i64 a)) (hk : k = 13) (hj : (pc : Int) + 1 < f.code.length) (hj2 : a < f.code.length) (hne : a ≠ pc + 1) :
    Calls Tryz.prog 63 #[.agg #[.int .i64 f.args, .int .i64 f.locals, v], .int .i64 pc] w (RNextPost w k a pc f.code.length) := by
  obtain ⟨l1, l2⟩ := codeMay_lens hm
  have HI := Lib.hid hi
  subst hk
  have d1 : decide ((pc : Int) + 1 < f.code.length) = true := by simpa using hj
  have d2 : (((pc : Int) + 1) != a) = true := by simp; omega
  have HR : Hid (nextF 13 a pc f.code.length = [(pc : Int) + 1, a]) := by unfold Hid nextF; repeat (first | rw [if_pos (by omega)] | rw [if_neg (by omega)])
  clear hi
  have _ := k1
  have _ := k2
  subst hv
  go_enter Tryz.func63, Tryz.ntmps63
  go_wp2_with (first | (go_at_call 49; (with_reducible refine (rFuncMay_calls f _ _ ?_).mono ?_); (exact HI.out.ext insR_grows (by repeat (first | exact Mods.refl _ _ | refine Mods.alloc ?_ _ | refine Mods.ext ?_ _ | refine Mods.drew ?_ | refine Mods.drewN ?_ _))); rintro e w2 ⟨he, x2, hx2⟩; rw [hm] at he; subst he; have hM2 := mods_of hx2; have hM2' := ((Mods.refl [] w).alloc _).trans hM2; have hb2 : w2.cell? ⟨w.heap.size, 2, none⟩ = some (.slice (some ⟨b, o, none⟩) f.code.length cap) := hM2.cell (by go_simp); have c1' := hM2'.cell c1; have c2' := hM2'.cell c2; have HM2 := Lib.hid hM2'; have hsz : w.heap.size < w2.heap.size := Nat.lt_of_lt_of_le (by simp) hM2.size; clear hx2 hM2 hM2' c1 c2) | (at_builtin; refine wpList_append_int _ rfl _ _ rfl (.slice none 0 0) 0 [] rfl Own.nil _ _ ((pc : Int) + 1) rfl ?_ ?_ ?_; (go_simp); (omega); (intro v' w3 hown3 hg3 hat3; obtain ⟨g, og, cp, rfl, q1, q2, q3, q4⟩ := hown3.form (by omega); have q0 : w3.cell? ⟨g, og, none⟩ = some (.int .i64 ((pc : Int) + 1)) := q3 0 _ rfl; have hb3 : w3.cell? ⟨w.heap.size, 2, none⟩ = some (.slice (some ⟨b, o, none⟩) f.code.length cap) := (grown_nil hg3).cell (by go_simp); have i0 : w3.cell? ⟨w2.heap.size, 0, none⟩ = some (.int .i64 13) := (grown_nil hg3).cell (by go_simp); have i1 : w3.cell? ⟨w2.heap.size, 1, none⟩ = some (.int .i64 a) := (grown_nil hg3).cell (by go_simp); have hge : w2.heap.size < g := (by rcases hat3 with e | e <;> simp [Value.ownBlock] at e; omega); have HO3 := Lib.hid hown3; have HM3 := Lib.hid (((HM2.out.alloc _).alloc _).trans (grown_nil hg3)); clear hown3 hg3 hat3 q3 q4)))
  (refine wp_region_ext (by kernel_rfl) (by kernel_rfl) ?_; (repeat (go_big_quiet_step (fail))); refine wpQuiet_nil ?_; rintro _ ⟨xq, rfl⟩)
  go_wp2_with (first | (at_builtin; refine wpList_append_int _ rfl _ _ rfl (.slice (some ⟨g, og, none⟩) 1 cp) 1 [.int .i64 ((pc : Int) + 1)] rfl (HO3.out.mods (S := []) (by repeat (first | exact Mods.refl _ _ | refine Mods.alloc ?_ _ | refine Mods.ext ?_ _ | refine Mods.drew ?_ | refine Mods.drewN ?_ _)) (by simp)) _ _ a rfl ?_ ?_ ?_; (go_simp); (omega); (intro v' w4 hown4 hg4 hat4; have HB4 := Lib.hid (own_ge2 (by omega) ((HM3.out.ext xq).alloc _) hat4); have HO4 := Lib.hid hown4; have HM4 := Lib.hid (((HM3.out.ext xq).alloc _).grown hg4 (fun k hk hlt => by have : g = k := (by simpa [Value.ownBlock] using hk); omega)); clear hown4 hg4 hat4)))
  go_ret2
  go_light
  exact ⟨_, rfl, by rw [HR.out]; exact ⟨HO4.out, HB4.out⟩, HM4.out.ex⟩

set_option maxHeartbeats 1000000 in
set_option maxRecDepth 100000 in
theorem rNext_zero_eq (f : Fun) (v : Value) (pc : Nat) (k a : Int) (b o cap : Nat) (w : World) (hi : Inss w v f.code) (hm : codeMay f.code = true) (hpc : pc < f.code.length) (hv : v = .slice (some ⟨b, o, none⟩) f.code.length cap) (k1 : f.code.length ≤ cap) (k2 : cap ≤ 9223372036854775807)
    (c1 : w.cell? ⟨b, o + pc * 2, none⟩ = some (.int .i64 k)) (c2 : w.cell? ⟨b, o + pc * 2 + 1, none⟩ = some (.int .i64 a)) (hk : k = 13) (hj : (pc : Int) + 1 < f.code.length) (hne : a = pc + 1) :
    Calls Tryz.prog 63 #[.agg #[.int .i64 f.args, .int .i64 f.locals, v], .int .i64 pc] w (RNextPost w k a pc f.code.length) := by
  obtain ⟨l1, l2⟩ := codeMay_lens hm
  have HI := Lib.hid hi
  subst hk
  have d1 : decide ((pc : Int) + 1 < f.code.length) = true := by simpa using hj
  have d2 : (((pc : Int) + 1) != a) = false := by simp; omega
  have hj2 : a < f.code.length := by omega
  have HR : Hid (nextF 13 a pc f.code.length = [(pc : Int) + 1]) := by unfold Hid nextF; repeat (first | rw [if_pos (by omega)] | rw [if_neg (by omega)])
  clear hi
  have _ := k1
  have _ := k2
  subst hv
  go_enter Tryz.func63, Tryz.ntmps63
  go_wp2_with (first | (go_at_call 49; (with_reducible refine (rFuncMay_calls f _ _ ?_).mono ?_); (exact HI.out.ext insR_grows (by repeat (first | exact Mods.refl _ _ | refine Mods.alloc ?_ _ | refine Mods.ext ?_ _ | refine Mods.drew ?_ | refine Mods.drewN ?_ _))); rintro e w2 ⟨he, x2, hx2⟩; rw [hm] at he; subst he; have hM2 := mods_of hx2; have hM2' := ((Mods.refl [] w).alloc _).trans hM2; have hb2 : w2.cell? ⟨w.heap.size, 2, none⟩ = some (.slice (some ⟨b, o, none⟩) f.code.length cap) := hM2.cell (by go_simp); have c1' := hM2'.cell c1; have c2' := hM2'.cell c2; have HM2 := Lib.hid hM2'; have hsz : w.heap.size < w2.heap.size := Nat.lt_of_lt_of_le (by simp) hM2.size; clear hx2 hM2 hM2' c1 c2) | (at_builtin; refine wpList_append_int _ rfl _ _ rfl (.slice none 0 0) 0 [] rfl Own.nil _ _ ((pc : Int) + 1) rfl ?_ ?_ ?_; (go_simp); (omega); (intro v' w3 hown3 hg3 hat3; obtain ⟨g, og, cp, rfl, q1, q2, q3, q4⟩ := hown3.form (by omega); have q0 : w3.cell? ⟨g, og, none⟩ = some (.int .i64 ((pc : Int) + 1)) := q3 0 _ rfl; have hb3 : w3.cell? ⟨w.heap.size, 2, none⟩ = some (.slice (some ⟨b, o, none⟩) f.code.length cap) := (grown_nil hg3).cell (by go_simp); have i0 : w3.cell? ⟨w2.heap.size, 0, none⟩ = some (.int .i64 13) := (grown_nil hg3).cell (by go_simp); have i1 : w3.cell? ⟨w2.heap.size, 1, none⟩ = some (.int .i64 a) := (grown_nil hg3).cell (by go_simp); have hge : w2.heap.size < g := (by rcases hat3 with e | e <;> simp [Value.ownBlock] at e; omega); have HO3 := Lib.hid hown3; have HM3 := Lib.hid (((HM2.out.alloc _).alloc _).trans (grown_nil hg3)); clear hown3 hg3 hat3 q3 q4)))
  (refine wp_region_ext (by kernel_rfl) (by kernel_rfl) ?_; (repeat (go_big_quiet_step (fail))); refine wpQuiet_nil ?_; rintro _ ⟨xq, rfl⟩)
  go_wp2_with (fail)
  go_ret2
  go_light
  exact ⟨_, rfl, by rw [HR.out]; exact ⟨HO3.out.mods (S := []) (by repeat (first | exact Mods.refl _ _ | refine Mods.alloc ?_ _ | refine Mods.ext ?_ _ | refine Mods.drew ?_ | refine Mods.drewN ?_ _)) (by simp), fun j hj => by have : g = j := (by simpa [Value.ownBlock] using hj); omega⟩, (HM3.out.ext xq).ex⟩

set_option maxHeartbeats 1000000 in
set_option maxRecDepth 100000 in
theorem rNext_zero_kd (f : Fun) (v : Value) (pc : Nat) (k a : Int) (b o cap : Nat) (w : World) (hi : Inss w v f.code) (hm : codeMay f.code = true) (hpc : pc < f.code.length) (hv : v = .slice (some ⟨b, o, none⟩) f.code.length cap) (k1 : f.code.length ≤ cap) (k2 : cap ≤ 9223372036854775807)
    (c1 : w.cell? ⟨b, o + pc * 2, none⟩ = some (.int .i64 k)) (c2 : w.cell? ⟨b, o + pc * 2 + 1, none⟩ = some (.int .i64 a)) (hk : k = 13) (hj : (pc : Int) + 1 < f.code.length) (hj2 : f.code.length ≤ a) :
    Calls Tryz.prog 63 #[.agg #[.int .i64 f.args, .int .i64 f.locals, v], .int .i64 pc] w (RNextPost w k a pc f.code.length) := by
  obtain ⟨l1, l2⟩ := codeMay_lens hm
  have HI := Lib.hid hi
  subst hk
  have d1 : decide ((pc : Int) + 1 < f.code.length) = true := by simpa using hj
  have d3 : decide (a < (f.code.length : Int)) = false := by simpa using hj2
  have HR : Hid (nextF 13 a pc f.code.length = [(pc : Int) + 1]) := by unfold Hid nextF; repeat (first | rw [if_pos (by omega)] | rw [if_neg (by omega)])
  clear hi
  have _ := k1
  have _ := k2
  subst hv
  go_enter Tryz.func63, Tryz.ntmps63
  go_wp2_with (first | (go_at_call 49; (with_reducible refine (rFuncMay_calls f _ _ ?_).mono ?_); (exact HI.out.ext insR_grows (by repeat (first | exact Mods.refl _ _ | refine Mods.alloc ?_ _ | refine Mods.ext ?_ _ | refine Mods.drew ?_ | refine Mods.drewN ?_ _))); rintro e w2 ⟨he, x2, hx2⟩; rw [hm] at he; subst he; have hM2 := mods_of hx2; have hM2' := ((Mods.refl [] w).alloc _).trans hM2; have hb2 : w2.cell? ⟨w.heap.size, 2, none⟩ = some (.slice (some ⟨b, o, none⟩) f.code.length cap) := hM2.cell (by go_simp); have c1' := hM2'.cell c1; have c2' := hM2'.cell c2; have HM2 := Lib.hid hM2'; have hsz : w.heap.size < w2.heap.size := Nat.lt_of_lt_of_le (by simp) hM2.size; clear hx2 hM2 hM2' c1 c2) | (at_builtin; refine wpList_append_int _ rfl _ _ rfl (.slice none 0 0) 0 [] rfl Own.nil _ _ ((pc : Int) + 1) rfl ?_ ?_ ?_; (go_simp); (omega); (intro v' w3 hown3 hg3 hat3; obtain ⟨g, og, cp, rfl, q1, q2, q3, q4⟩ := hown3.form (by omega); have q0 : w3.cell? ⟨g, og, none⟩ = some (.int .i64 ((pc : Int) + 1)) := q3 0 _ rfl; have hb3 : w3.cell? ⟨w.heap.size, 2, none⟩ = some (.slice (some ⟨b, o, none⟩) f.code.length cap) := (grown_nil hg3).cell (by go_simp); have i0 : w3.cell? ⟨w2.heap.size, 0, none⟩ = some (.int .i64 13) := (grown_nil hg3).cell (by go_simp); have i1 : w3.cell? ⟨w2.heap.size, 1, none⟩ = some (.int .i64 a) := (grown_nil hg3).cell (by go_simp); have hge : w2.heap.size < g := (by rcases hat3 with e | e <;> simp [Value.ownBlock] at e; omega); have HO3 := Lib.hid hown3; have HM3 := Lib.hid (((HM2.out.alloc _).alloc _).trans (grown_nil hg3)); clear hown3 hg3 hat3 q3 q4)))
  (refine wp_region_ext (by kernel_rfl) (by kernel_rfl) ?_; (repeat (go_big_quiet_step (fail))); refine wpQuiet_nil ?_; rintro _ ⟨xq, rfl⟩)
  go_wp2_with (fail)
  go_ret2
  go_light
  exact ⟨_, rfl, by rw [HR.out]; exact ⟨HO3.out.mods (S := []) (by repeat (first | exact Mods.refl _ _ | refine Mods.alloc ?_ _ | refine Mods.ext ?_ _ | refine Mods.drew ?_ | refine Mods.drewN ?_ _)) (by simp), fun j hj => by have : g = j := (by simpa [Value.ownBlock] using hj); omega⟩, (HM3.out.ext xq).ex⟩

set_option maxHeartbeats 1000000 in
set_option maxRecDepth 100000 in
theorem rNext_zero_dk (f : Fun) (v : Value) (pc : Nat) (k a : Int) (b o cap : Nat) (w : World) (hi : Inss w v f.code) (hm : codeMay f.code = true) (hpc : pc < f.code.length) (hv : v = .slice (some ⟨b, o, none⟩) f.code.length cap) (k1 : f.code.length ≤ cap) (k2 : cap ≤ 9223372036854775807)
    (c1 : w.cell? ⟨b, o + pc * 2, none⟩ = some (.int .i64 k)) (c2 : w.cell? ⟨b, o + pc * 2 + 1, none⟩ = some (.int .i64 a)) (hk : k = 13) (hj : f.code.length ≤ (pc : Int) + 1) (hj2 : a < f.code.length) :
    Calls Tryz.prog 63 #[.agg #[.int .i64 f.args, .int .i64 f.locals, v], .int .i64 pc] w (RNextPost w k a pc f.code.length) := by
  obtain ⟨l1, l2⟩ := codeMay_lens hm
  have HI := Lib.hid hi
  subst hk
  have d1 : decide ((pc : Int) + 1 < f.code.length) = false := by simpa using hj
  have HR : Hid (nextF 13 a pc f.code.length = [a]) := by unfold Hid nextF; repeat (first | rw [if_pos (by omega)] | rw [if_neg (by omega)])
  clear hi
  have _ := k1
  have _ := k2
  subst hv
  go_enter Tryz.func63, Tryz.ntmps63
  go_wp2_with (first | (go_at_call 49; (with_reducible refine (rFuncMay_calls f _ _ ?_).mono ?_); (exact HI.out.ext insR_grows (by repeat (first | exact Mods.refl _ _ | refine Mods.alloc ?_ _ | refine Mods.ext ?_ _ | refine Mods.drew ?_ | refine Mods.drewN ?_ _))); rintro e w2 ⟨he, x2, hx2⟩; rw [hm] at he; subst he; have hM2 := mods_of hx2; have hM2' := ((Mods.refl [] w).alloc _).trans hM2; have hb2 : w2.cell? ⟨w.heap.size, 2, none⟩ = some (.slice (some ⟨b, o, none⟩) f.code.length cap) := hM2.cell (by go_simp); have c1' := hM2'.cell c1; have c2' := hM2'.cell c2; have HM2 := Lib.hid hM2'; have hsz : w.heap.size < w2.heap.size := Nat.lt_of_lt_of_le (by simp) hM2.size; clear hx2 hM2 hM2' c1 c2))
  (refine wp_region_ext (by kernel_rfl) (by kernel_rfl) ?_; (repeat (go_big_quiet_step (fail))); refine wpQuiet_nil ?_; rintro _ ⟨xq, rfl⟩)
  go_wp2_with (first | (at_builtin; refine wpList_append_int _ rfl _ _ rfl (.slice none 0 0) 0 [] rfl Own.nil _ _ a rfl ?_ ?_ ?_; (go_simp); (omega); (intro v' w3 hown3 hg3 hat3; have HB3 := Lib.hid (own_ge (((HM2.out.alloc _).ext xq).alloc _) hat3); have HO3 := Lib.hid hown3; have HM3 := Lib.hid ((((HM2.out.alloc _).ext xq).alloc _).trans (grown_nil hg3)); clear hown3 hg3 hat3)))
  go_ret2
  go_light
  exact ⟨_, rfl, by rw [HR.out]; exact ⟨HO3.out, HB3.out⟩, HM3.out.ex⟩

set_option maxHeartbeats 1000000 in
set_option maxRecDepth 100000 in
theorem rNext_zero_dd (f : Fun) (v : Value) (pc : Nat) (k a : Int) (b o cap : Nat) (w : World) (hi : Inss w v f.code) (hm : codeMay f.code = true) (hpc : pc < f.code.length) (hv : v = .slice (some ⟨b, o, none⟩) f.code.length cap) (k1 : f.code.length ≤ cap) (k2 : cap ≤ 9223372036854775807)
    (c1 : w.cell? ⟨b, o + pc * 2, none⟩ = some (.int .i64 k)) (c2 : w.cell? ⟨b, o + pc * 2 + 1, none⟩ = some (.int .i64 a)) (hk : k = 13) (hj : f.code.length ≤ (pc : Int) + 1) (hj2 : f.code.length ≤ a) :
    Calls Tryz.prog 63 #[.agg #[.int .i64 f.args, .int .i64 f.locals, v], .int .i64 pc] w (RNextPost w k a pc f.code.length) := by
  obtain ⟨l1, l2⟩ := codeMay_lens hm
  have HI := Lib.hid hi
  subst hk
  have d1 : decide ((pc : Int) + 1 < f.code.length) = false := by simpa using hj
  have d3 : decide (a < (f.code.length : Int)) = false := by simpa using hj2
  have HR : Hid (nextF 13 a pc f.code.length = []) := by unfold Hid nextF; repeat (first | rw [if_pos (by omega)] | rw [if_neg (by omega)])
  clear hi
  have _ := k1
  have _ := k2
  subst hv
  go_enter Tryz.func63, Tryz.ntmps63
  go_wp2_with (first | (go_at_call 49; (with_reducible refine (rFuncMay_calls f _ _ ?_).mono ?_); (exact HI.out.ext insR_grows (by repeat (first | exact Mods.refl _ _ | refine Mods.alloc ?_ _ | refine Mods.ext ?_ _ | refine Mods.drew ?_ | refine Mods.drewN ?_ _))); rintro e w2 ⟨he, x2, hx2⟩; rw [hm] at he; subst he; have hM2 := mods_of hx2; have hM2' := ((Mods.refl [] w).alloc _).trans hM2; have hb2 : w2.cell? ⟨w.heap.size, 2, none⟩ = some (.slice (some ⟨b, o, none⟩) f.code.length cap) := hM2.cell (by go_simp); have c1' := hM2'.cell c1; have c2' := hM2'.cell c2; have HM2 := Lib.hid hM2'; have hsz : w.heap.size < w2.heap.size := Nat.lt_of_lt_of_le (by simp) hM2.size; clear hx2 hM2 hM2' c1 c2))
  (refine wp_region_ext (by kernel_rfl) (by kernel_rfl) ?_; (repeat (go_big_quiet_step (fail))); refine wpQuiet_nil ?_; rintro _ ⟨xq, rfl⟩)
  go_wp2_with (fail)
  go_ret2
  go_light
  exact ⟨_, rfl, by rw [HR.out]; exact OwnI.nil, ((HM2.out.alloc _).ext xq).ex⟩

theorem rNext_calls (f : Fun) (v : Value) (pc : Nat) (w : World) (hi : Inss w v f.code) (hm : codeMay f.code = true) (hpc : pc < f.code.length) :
    Calls Tryz.prog 63 #[.agg #[.int .i64 f.args, .int .i64 f.locals, v], .int .i64 pc] w fun e w' => ∃ u, e = .returned (.tuple #[u, .int .i64 0]) ∧ OwnI w.heap.size w' u (nextI f.code[pc] pc f.code.length) ∧ ∃ x, w' = w.ext x := by
  obtain ⟨l1, l2⟩ := codeMay_lens hm
  obtain ⟨b, o, cap, hv, k1, k2, hat⟩ := inss_at hi l1
  obtain ⟨c1, c2⟩ := hat pc hpc
  unfold nextI
  generalize f.code[pc].kind = k at *
  generalize f.code[pc].a = a at *
  show Calls Tryz.prog 63 _ w (RNextPost w k a pc f.code.length)
  by_cases k16 : k = 16
  · exact rNext_ret f v pc k a b o cap w hi hm hpc hv k1 k2 c1 c2 k16
  by_cases k12 : k = 12
  · by_cases h : a < f.code.length
    · exact rNext_jump_k f v pc k a b o cap w hi hm hpc hv k1 k2 c1 c2 k12 h
    · exact rNext_jump_d f v pc k a b o cap w hi hm hpc hv k1 k2 c1 c2 k12 (by omega)
  by_cases k13 : k = 13
  · by_cases h : (pc : Int) + 1 < f.code.length
    · by_cases h1 : a = pc + 1
      · exact rNext_zero_eq f v pc k a b o cap w hi hm hpc hv k1 k2 c1 c2 k13 h h1
      · by_cases h2 : a < f.code.length
        · exact rNext_zero_kk f v pc k a b o cap w hi hm hpc hv k1 k2 c1 c2 k13 h h2 h1
        · exact rNext_zero_kd f v pc k a b o cap w hi hm hpc hv k1 k2 c1 c2 k13 h (by omega)
    · by_cases h2 : a < f.code.length
      · exact rNext_zero_dk f v pc k a b o cap w hi hm hpc hv k1 k2 c1 c2 k13 (by omega) h2
      · exact rNext_zero_dd f v pc k a b o cap w hi hm hpc hv k1 k2 c1 c2 k13 (by omega) (by omega)
  · by_cases h : (pc : Int) + 1 < f.code.length
    · exact rNext_other_k f v pc k a b o cap w hi hm hpc hv k1 k2 c1 c2 ⟨k16, k12, k13⟩ h
    · exact rNext_other_d f v pc k a b o cap w hi hm hpc hv k1 k2 c1 c2 ⟨k16, k12, k13⟩ (by omega)
end Go.Proofs.YtjpgcokdlopkaaaGreatDoor
