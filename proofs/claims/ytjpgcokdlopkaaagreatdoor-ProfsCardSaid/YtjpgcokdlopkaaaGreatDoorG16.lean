/- Lemmas for a claim of the seat YtjpgcokdlopkaaaGreatDoor. Written in part by programs of the claim's repo. By an AI agent. -/
import Derived.Test.YtjpgcokdlopkaaaGreatDoorG15
import Derived.Test.YtjpgcokdlopkaaaGreatDoorG08
import Derived.Test.YtjpgcokdlopkaaaGreatDoorG09
import Derived.Deep.RegionWith
import Derived.BigRegion
import Derived.Test.YtjpgcokdlopkaaaGreatDoorG10
import Derived.Test.YtjpgcokdlopkaaaGreatDoorG12

namespace Go.Proofs.YtjpgcokdlopkaaaGreatDoor
open Go.RowKit

theorem ranged_is (v cv : Value) (p : List Fun) (f : Fun) (i : Ins) (b : Bool) (w : World) (hb : outsideB p f i = b) (hv : Funs w v p) (hc : Inss w cv f.code) : Calls Tryz.prog 51 #[.agg #[v], .agg #[.int .i64 f.args, .int .i64 f.locals, cv], .agg #[.int .i64 i.kind, .int .i64 i.a]] w fun e w' =>
    e = .returned (.bool (!b)) ∧ ∃ x, w' = w.ext x := hb ▸ ranged_calls v cv p f i w hv hc
set_option maxHeartbeats 4000000 in
set_option maxRecDepth 100000 in
theorem rHeights_calls (v : Value) (p : List Fun) (k : Nat) (f : Fun) (w : World) (hv : Funs w v p) (hpk : packs p = true) (hk : p[k]? = some f) : Calls Tryz.prog 37 #[.agg #[v], .int .i64 k] w (HtsPost p f w) := by
  have hlt : k < p.length := (List.getElem?_eq_some_iff.1 hk).1
  obtain ⟨_, _, _, _, hm⟩ := packs_args hpk hk
  obtain ⟨l1, l2⟩ := codeMay_lens hm
  obtain ⟨A, c, rfl, k1, k2⟩ := hv.form
  obtain ⟨b, o, rfl, hf⟩ := hv.at_ hk
  obtain ⟨e1, e2, cv, e3, hc⟩ := hf
  obtain ⟨bi, oi, cap, rfl, k3, k4, hat⟩ := inss_at hc l1
  have HV := Lib.hid hv
  have HC := Lib.hid hc
  have HAT := Lib.hid hat
  have i0 : (0 : Int) ≤ (k : Int) := by omega
  have i1 : (k : Int) < (p.length : Int) := by omega
  clear hv hc hk hat
  go_enter Tryz.func37, Tryz.ntmps37
  go_wp2_with (go_at_call 36; (with_reducible refine (rPacks_calls _ p _ ?_).mono ?_); (exact HV.out.ext funR_grows (by repeat (first | exact Mods.refl _ _ | refine Mods.alloc ?_ _ | refine Mods.ext ?_ _ | refine Mods.drew ?_ | refine Mods.drewN ?_ _))); rintro e w1 ⟨he, x1, hx1⟩; rw [hpk] at he; subst he; have hM1 : Mods [] w w1 := ((Mods.refl [] w).alloc _).trans (mods_of hx1); have hb0 : w1.cell? ⟨w.heap.size, 0, none⟩ = some (.slice (some ⟨b, o, none⟩) p.length c) := (mods_of hx1).cell (by go_simp); have f0 := hM1.cell e1; have f1 := hM1.cell e2; have f2 := hM1.cell e3; have hs1 : w.heap.size < w1.heap.size := Nat.lt_of_lt_of_le (by simp) (mods_of hx1).size; have HM1 := Lib.hid hM1; clear hM1 hx1)
  go_wp2_with (go_at_call 50; (with_reducible refine (rReached_calls f _ _ ?_ hm).mono ?_); (exact HC.out.ext insR_grows (HM1.out.trans (by repeat (first | exact Mods.refl _ _ | refine Mods.alloc ?_ _ | refine Mods.ext ?_ _ | refine Mods.drew ?_ | refine Mods.drewN ?_ _)))); rintro e w2 ⟨u, bs, rfl, hbl, hu, hbs, x2, hx2⟩; obtain ⟨Au, cu, rfl, _, _⟩ := hu.form; have hM2 : Mods [] w1 w2 := ((Mods.refl [] w1).alloc _).trans (mods_of hx2); have hb2 := hM2.cell hb0; have g0 : w2.cell? ⟨w1.heap.size, 0, none⟩ = some (.int .i64 f.args) := (mods_of hx2).cell (by go_simp); have g1 : w2.cell? ⟨w1.heap.size, 1, none⟩ = some (.int .i64 f.locals) := (mods_of hx2).cell (by go_simp); have g2 : w2.cell? ⟨w1.heap.size, 2, none⟩ = some (.slice (some ⟨bi, oi, none⟩) f.code.length cap) := (mods_of hx2).cell (by go_simp); have HM2 := Lib.hid (HM1.out.trans hM2); have HU := Lib.hid hu; have HB := Lib.hid hbs; have HBL := Lib.hid hbl; clear hM2 hx2 hu hbs)
  obtain ⟨bu, ou, rfl, -⟩ := HU.out.at_ (get_some (show 0 < bs.length by omega))
  have hcell : ∀ (j : Nat) (bv : Bool), bs[j]? = some bv → w2.cell? ⟨bu, ou + j, none⟩ = some (.bool bv) := fun j bv hj => by
    obtain ⟨b', o', he, hr⟩ := HU.out.at_ hj
    cases he
    simpa [boolR] using hr
  have HCell := Lib.hid hcell
  have hkb : bs.length ≤ f.code.length ∧ f.code.length ≤ bs.length := by omega
  obtain ⟨hkb1, hkb2⟩ := hkb
  have hbl63 : bs.length ≤ 64 := by omega
  clear hcell hbl
  go_wp2
  go_loopw [10] (fun i wr => ∃ j : Nat, j ≤ f.code.length ∧ i = .int .i64 j ∧ Hid (PlainTo p f bs j) ∧ Hid (Mods [] w2 wr)) (fun i _ => f.code.length - (intOf i).toNat)
  case atStart => exact ⟨0, Nat.zero_le _, rfl, fun j i h => by omega, Mods.refl _ _⟩
  case round =>
    obtain ⟨j, hj, rfl, hpt, HW⟩ := hrel
    have hb2' := HW.out.cell hb2
    have g0' := HW.out.cell g0
    have g1' := HW.out.cell g1
    have g2' := HW.out.cell g2
    by_cases hlt2 : j < f.code.length
    · obtain ⟨c1, c2⟩ := HAT.out j hlt2
      have c1' := (HM2.out.trans HW.out).cell c1
      have c2' := (HM2.out.trans HW.out).cell c2
      have hbk := get_some (show j < bs.length by omega)
      have cb := HW.out.cell (HCell.out j _ hbk)
      have HBK := Lib.hid hbk; clear hbk
      have j0 : (0 : Int) ≤ (j : Int) := by omega
      have j1 : (j : Int) < (bs.length : Int) := by omega
      have j2 : (j : Int) < (f.code.length : Int) := by omega
      cases hb : bs[j]
      · rw [hb] at cb
        go_wp2
        (refine wp_region_ext (by kernel_rfl) (by kernel_rfl) ?_; (repeat (go_big_quiet_step (fail))); refine wpQuiet_nil ?_; rintro _ ⟨xq, rfl⟩)
        go_wp2
        go_roundw
        case rel =>
          go_light
          refine ⟨j + 1, by omega, by go_num, fun j' i hj' h1 h2 => ?_, HW.out.ext _⟩
          rcases Nat.lt_or_ge j' j with h | h
          · exact hpt.out j' i h h1 h2
          · obtain rfl : j' = j := by omega
            rw [HBK.out, hb] at h1; cases h1
        case measure => simp [intOf]; omega
      · rw [hb] at cb
        cases ho : outsideB p f f.code[j]
        · go_wp2
          (refine wp_region_ext (by kernel_rfl) (by kernel_rfl) ?_; (repeat (go_big_quiet_step (((exact Calls_ext (ranged_is _ _ p f f.code[j] _ _ ho (HV.out.ext funR_grows (HM2.out.trans (HW.out.trans (by repeat (first | exact Mods.refl _ _ | refine Mods.alloc ?_ _ | refine Mods.ext ?_ _ | refine Mods.drew ?_ | refine Mods.drewN ?_ _))))) (HC.out.ext insR_grows (HM2.out.trans (HW.out.trans (by repeat (first | exact Mods.refl _ _ | refine Mods.alloc ?_ _ | refine Mods.ext ?_ _ | refine Mods.drew ?_ | refine Mods.drewN ?_ _))))))))))); refine wpQuiet_nil ?_; rintro _ ⟨xq, rfl⟩)
          go_wp2
          go_roundw
          case rel =>
            go_light
            refine ⟨j + 1, by omega, by go_num, fun j' i hj' h1 h2 => ?_, HW.out.ext _⟩
            rcases Nat.lt_or_ge j' j with h | h
            · exact hpt.out j' i h h1 h2
            · obtain rfl : j' = j := by omega
              rw [get_some hlt2] at h2
              obtain rfl := Option.some.inj h2
              exact ho
          case measure => simp [intOf]; omega
        · go_wp2
          (refine wp_region_ext (by kernel_rfl) (by kernel_rfl) ?_; (repeat (go_big_quiet_step (((exact Calls_ext (ranged_is _ _ p f f.code[j] _ _ ho (HV.out.ext funR_grows (HM2.out.trans (HW.out.trans (by repeat (first | exact Mods.refl _ _ | refine Mods.alloc ?_ _ | refine Mods.ext ?_ _ | refine Mods.drew ?_ | refine Mods.drewN ?_ _))))) (HC.out.ext insR_grows (HM2.out.trans (HW.out.trans (by repeat (first | exact Mods.refl _ _ | refine Mods.alloc ?_ _ | refine Mods.ext ?_ _ | refine Mods.drew ?_ | refine Mods.drewN ?_ _))))))))))); refine wpQuiet_nil ?_; rintro _ ⟨xq, rfl⟩)
          go_wp2
          go_ret3
          go_light
          refine ⟨_, _, _, rfl, .inr ⟨by omega, fun h => ?_⟩, (HM2.out.trans (HW.out.ext _)).ex⟩
          rw [h.1.range j _ ((HB.out j _ HBK.out).1 hb) (get_some hlt2)] at ho
          cases ho
    · obtain rfl : j = f.code.length := by omega
      obtain ⟨c1, c2⟩ := HAT.out (f.code.length - 1) (by omega)
      have c1' := (HM2.out.trans HW.out).cell c1
      have hbk := get_some (show f.code.length - 1 < bs.length by omega)
      have cb := HW.out.cell (HCell.out (f.code.length - 1) _ hbk)
      have HBK := Lib.hid hbk; clear hbk c1 c2
      have hcond : Plain p f ↔ (bs[f.code.length - 1] = true → f.code[f.code.length - 1].kind = 12 ∨ f.code[f.code.length - 1].kind = 16) := by
        have hgl := get_some (show f.code.length - 1 < f.code.length by omega)
        constructor
        · intro hpl hb
          exact hpl.last _ ((HB.out _ _ HBK.out).1 hb) hgl
        · intro h
          refine ⟨fun pc i hr hi => ?_, fun i hr hi => ?_⟩
          · have hlt := (List.getElem?_eq_some_iff.1 hi).1
            have hb := get_some (show pc < bs.length by omega)
            refine hpt.out pc i hlt ?_ hi
            rw [hb, (HB.out _ _ hb).2 hr]
          · rw [hgl] at hi
            obtain rfl := Option.some.inj hi
            exact h ((HB.out _ _ HBK.out).2 hr)
      have HCO := Lib.hid hcond; clear hcond
      have hle : bs.length = f.code.length := by omega
      have hlm : ((f.code.length - 1 : Nat) : Int) = (bs.length : Int) - 1 := by omega
      have hln : ((bs.length : Int) - 1).toNat = f.code.length - 1 := by omega
      have m0 : (0 : Int) ≤ (bs.length : Int) - 1 := by omega
      have m1 : (bs.length : Int) - 1 < (f.code.length : Int) := by omega
      have HLE := Lib.hid hle
      clear hle
      cases hb : bs[f.code.length - 1]
      · rw [hb] at cb
        have HPL := Lib.hid (HCO.out.2 (fun h => by rw [hb] at h; cases h))
        go_wp2_with (go_at_call 52; (with_reducible refine (walk_calls _ _ p f _ ?_ ?_ hm HPL.out).mono ?_); (exact HV.out.ext funR_grows (HM2.out.trans (HW.out.trans (by repeat (first | exact Mods.refl _ _ | refine Mods.alloc ?_ _ | refine Mods.ext ?_ _ | refine Mods.drew ?_ | refine Mods.drewN ?_ _))))); (exact HC.out.ext insR_grows (HM2.out.trans (HW.out.trans (by repeat (first | exact Mods.refl _ _ | refine Mods.alloc ?_ _ | refine Mods.ext ?_ _ | refine Mods.drew ?_ | refine Mods.drewN ?_ _))))); rintro e w3 ⟨u3, pc3, c3, rfl, hcc, x3, hx3⟩; have HCC := Lib.hid hcc; have HX3 := Lib.hid hx3; clear hcc hx3)
        go_ret3
        go_light
        refine ⟨_, _, _, rfl, ?_, ((HM2.out.trans HW.out).trans (mods_of HX3.out)).ex⟩
        rcases HCC.out with ⟨h1, h2⟩ | ⟨h1, h2⟩
        · exact .inl ⟨h1, HPL.out, h2⟩
        · exact .inr ⟨h1, fun h => h2 h.2⟩
      · rw [hb] at cb
        by_cases h12 : f.code[f.code.length - 1].kind = 12
        · have b12' : (f.code[f.code.length - 1].kind != 12) = false := by simp [h12]
          have HPL := Lib.hid (HCO.out.2 (fun _ => .inl h12))
          clear h12
          go_wp2_with (go_at_call 52; (with_reducible refine (walk_calls _ _ p f _ ?_ ?_ hm HPL.out).mono ?_); (exact HV.out.ext funR_grows (HM2.out.trans (HW.out.trans (by repeat (first | exact Mods.refl _ _ | refine Mods.alloc ?_ _ | refine Mods.ext ?_ _ | refine Mods.drew ?_ | refine Mods.drewN ?_ _))))); (exact HC.out.ext insR_grows (HM2.out.trans (HW.out.trans (by repeat (first | exact Mods.refl _ _ | refine Mods.alloc ?_ _ | refine Mods.ext ?_ _ | refine Mods.drew ?_ | refine Mods.drewN ?_ _))))); rintro e w3 ⟨u3, pc3, c3, rfl, hcc, x3, hx3⟩; have HCC := Lib.hid hcc; have HX3 := Lib.hid hx3; clear hcc hx3)
          go_ret3
          go_light
          refine ⟨_, _, _, rfl, ?_, ((HM2.out.trans HW.out).trans (mods_of HX3.out)).ex⟩
          rcases HCC.out with ⟨h1, h2⟩ | ⟨h1, h2⟩
          · exact .inl ⟨h1, HPL.out, h2⟩
          · exact .inr ⟨h1, fun h => h2 h.2⟩
        · have b12' : (f.code[f.code.length - 1].kind != 12) = true := by simp [h12]
          have H12 := Lib.hid h12
          clear h12
          by_cases h16 : f.code[f.code.length - 1].kind = 16
          · have b16' : (f.code[f.code.length - 1].kind != 16) = false := by simp [h16]
            have HPL := Lib.hid (HCO.out.2 (fun _ => .inr h16))
            clear h16
            go_wp2_with (go_at_call 52; (with_reducible refine (walk_calls _ _ p f _ ?_ ?_ hm HPL.out).mono ?_); (exact HV.out.ext funR_grows (HM2.out.trans (HW.out.trans (by repeat (first | exact Mods.refl _ _ | refine Mods.alloc ?_ _ | refine Mods.ext ?_ _ | refine Mods.drew ?_ | refine Mods.drewN ?_ _))))); (exact HC.out.ext insR_grows (HM2.out.trans (HW.out.trans (by repeat (first | exact Mods.refl _ _ | refine Mods.alloc ?_ _ | refine Mods.ext ?_ _ | refine Mods.drew ?_ | refine Mods.drewN ?_ _))))); rintro e w3 ⟨u3, pc3, c3, rfl, hcc, x3, hx3⟩; have HCC := Lib.hid hcc; have HX3 := Lib.hid hx3; clear hcc hx3)
            go_ret3
            go_light
            refine ⟨_, _, _, rfl, ?_, ((HM2.out.trans HW.out).trans (mods_of HX3.out)).ex⟩
            rcases HCC.out with ⟨h1, h2⟩ | ⟨h1, h2⟩
            · exact .inl ⟨h1, HPL.out, h2⟩
            · exact .inr ⟨h1, fun h => h2 h.2⟩
          · have b16' : (f.code[f.code.length - 1].kind != 16) = true := by simp [h16]
            have H16 := Lib.hid h16
            clear h16
            go_wp2
            go_ret3
            go_light
            refine ⟨_, _, _, rfl, .inr ⟨by omega, fun hpl => ?_⟩, (HM2.out.trans HW.out).ex⟩
            rcases HCO.out.1 hpl.1 hb with h | h
            · exact H12.out h
            · exact H16.out h
theorem rHeights_yes (v : Value) (p : List Fun) (k : Nat) (f : Fun) (w : World) (hv : Funs w v p) (hpk : packs p = true) (hk : p[k]? = some f) (h : Plain p f ∧ ∃ hs, Heights p f hs) : Calls Tryz.prog 37 #[.agg #[v], .int .i64 k] w fun e w' => ∃ u pc, e = .returned (.tuple #[u, .int .i64 pc, .int .i64 0]) ∧ ∃ x, w' = w.ext x :=
  (rHeights_calls v p k f w hv hpk hk).mono fun e w' ⟨u, pc, c, he, hc, hx⟩ => by
    rcases hc with ⟨rfl, _⟩ | ⟨_, hn⟩
    · exact ⟨u, pc, he, hx⟩
    · exact absurd h hn
theorem rHeights_no (v : Value) (p : List Fun) (k : Nat) (f : Fun) (w : World) (hv : Funs w v p) (hpk : packs p = true) (hk : p[k]? = some f) (h : ¬ (Plain p f ∧ ∃ hs, Heights p f hs)) : Calls Tryz.prog 37 #[.agg #[v], .int .i64 k] w fun e w' => ∃ u pc c, e = .returned (.tuple #[u, .int .i64 pc, .int .i64 c]) ∧ c ≠ 0 ∧ ∃ x, w' = w.ext x :=
  (rHeights_calls v p k f w hv hpk hk).mono fun e w' ⟨u, pc, c, he, hc, hx⟩ => by
    rcases hc with ⟨_, h1, hs, h2, _⟩ | ⟨hc, _⟩
    · exact absurd ⟨h1, hs, h2⟩ h
    · exact ⟨u, pc, c, he, hc, hx⟩
theorem ver_of {p : List Fun} (hp : packs p = true) (h : ∀ (j : Nat) (f : Fun), p[j]? = some f → Plain p f ∧ ∃ hs, Heights p f hs) : ∃ hss, Ver p hss := by
  have key : ∀ n, n ≤ p.length → ∃ hss : List (List Int), hss.length = n ∧ ∀ (k : Nat) (f : Fun) (hs : List Int), p[k]? = some f → hss[k]? = some hs → Plain p f ∧ Heights p f hs := by
    intro n
    induction n with
    | zero => intro _; exact ⟨[], rfl, fun k f hs _ h => by simp at h⟩
    | succ n ih =>
      intro hn
      obtain ⟨hss, hl, he⟩ := ih (by omega)
      have hf := get_some (show n < p.length by omega)
      obtain ⟨h1, hs, h2⟩ := h n _ hf
      refine ⟨hss ++ [hs], by simp [hl], fun k f hs' hk hs'' => ?_⟩
      rcases Nat.lt_or_ge k n with hlt | hge
      · rw [List.getElem?_append_left (by omega)] at hs''
        exact he k f hs' hk hs''
      · have := (List.getElem?_eq_some_iff.1 hs'').1
        simp [hl] at this
        obtain rfl : k = n := by omega
        rw [List.getElem?_append_right (by omega), hl, Nat.sub_self] at hs''
        rw [hf] at hk
        rw [← Option.some.inj hk, ← Option.some.inj hs'']
        exact ⟨h1, h2⟩
  obtain ⟨hss, hl, he⟩ := key p.length (Nat.le_refl _)
  exact ⟨hss, hp, hl, he⟩
/-- what swageref1.Verify comes to -/
def RVerPost (p : List Fun) (w : World) (e : Ending) (w' : World) : Prop := ∃ c, e = .returned (.int .i64 c) ∧ ((c = 0 ∧ ∃ hss, Ver p hss) ∨ (c ≠ 0 ∧ ¬ ∃ hss, Ver p hss)) ∧ ∃ x, w' = w.ext x
set_option maxHeartbeats 2000000 in
set_option maxRecDepth 100000 in
theorem rVerify_calls (v : Value) (p : List Fun) (w : World) (hv : Funs w v p) : Calls Tryz.prog 19 #[.agg #[v]] w (RVerPost p w) := by
  obtain ⟨A, c, rfl, k1, k2⟩ := hv.form
  have HV := Lib.hid hv
  clear hv
  cases hpk : packs p with
  | false =>
    go_enter Tryz.func19, Tryz.ntmps19
    go_wp2_with (go_at_call 36; (with_reducible refine (rPacks_calls _ p _ ?_).mono ?_); (exact HV.out.ext funR_grows (by repeat (first | exact Mods.refl _ _ | refine Mods.alloc ?_ _ | refine Mods.ext ?_ _ | refine Mods.drew ?_ | refine Mods.drewN ?_ _))); rintro e w1 ⟨he, x1, rfl⟩; rw [hpk] at he; subst he)
    go_ret
    exact ⟨_, rfl, .inr ⟨by omega, fun ⟨hss, h⟩ => by have := h.packs; rw [hpk] at this; cases this⟩, Mods.ex (by repeat (first | exact Mods.refl _ _ | refine Mods.alloc ?_ _ | refine Mods.ext ?_ _ | refine Mods.drew ?_ | refine Mods.drewN ?_ _))⟩
  | true =>
    go_enter Tryz.func19, Tryz.ntmps19
    go_wp2_with (go_at_call 36; (with_reducible refine (rPacks_calls _ p _ ?_).mono ?_); (exact HV.out.ext funR_grows (by repeat (first | exact Mods.refl _ _ | refine Mods.alloc ?_ _ | refine Mods.ext ?_ _ | refine Mods.drew ?_ | refine Mods.drewN ?_ _))); rintro e w1 ⟨he, x1, hx1⟩; rw [hpk] at he; subst he; have hM1 : Mods [] w w1 := ((Mods.refl [] w).alloc _).trans (mods_of hx1); have hb0 : w1.cell? ⟨w.heap.size, 0, none⟩ = some (.slice A p.length c) := (mods_of hx1).cell (by go_simp); have HM1 := Lib.hid hM1; clear hM1 hx1)
    go_loopw [3, 4, 5, 6] (fun i _ _ _ wr => ∃ j : Nat, i = .int .i64 j ∧ j ≤ p.length ∧ Hid (∀ (n : Nat) (f : Fun), n < j → p[n]? = some f → Plain p f ∧ ∃ hs, Heights p f hs) ∧ Hid (Mods [] w1 wr)) (fun i _ _ _ _ => p.length - (intOf i).toNat)
    case atStart => exact ⟨0, rfl, Nat.zero_le _, fun n f h => absurd h (Nat.not_lt_zero _), Mods.refl _ _⟩
    case round =>
      obtain ⟨j, rfl, hj, HE, HW⟩ := hrel
      have hb0' := HW.out.cell hb0
      by_cases hlt : j < p.length
      · by_cases hg : Plain p p[j] ∧ ∃ hs, Heights p p[j] hs
        · have HGD := Lib.hid hg
          clear hg
          go_wp2_with (go_at_call 37; (with_reducible refine (rHeights_yes _ p j p[j] _ ?_ hpk (get_some hlt) HGD.out).mono ?_); (exact HV.out.ext funR_grows (HM1.out.trans HW.out)); rintro e w2 ⟨u2, pc2, rfl, x2, hx2⟩; have HX2 := Lib.hid hx2; clear hx2)
          go_roundw
          case rel =>
            go_light
            refine ⟨j + 1, by go_num, by omega, fun n f hn hf => ?_, HW.out.trans (mods_of HX2.out)⟩
            by_cases hnj : n < j
            · exact HE.out n f hnj hf
            · obtain rfl : n = j := by omega
              rw [get_some hlt] at hf
              rw [← Option.some.inj hf]
              exact HGD.out
          case measure => simp [intOf]; omega
        · have HGD := Lib.hid hg
          clear hg
          go_wp2_with (go_at_call 37; (with_reducible refine (rHeights_no _ p j p[j] _ ?_ hpk (get_some hlt) HGD.out).mono ?_); (exact HV.out.ext funR_grows (HM1.out.trans HW.out)); rintro e w2 ⟨u2, pc2, c2, rfl, hc2, x2, hx2⟩; have hc2d : (c2 != 0) = true := (by simp [hc2]); have HX2 := Lib.hid hx2; have HC2 := Lib.hid hc2; clear hx2 hc2)
          go_ret
          go_light
          refine ⟨_, rfl, .inr ⟨HC2.out, fun ⟨hss, h⟩ => ?_⟩, ((HM1.out.trans HW.out).trans (mods_of HX2.out)).ex⟩
          have := h.each j _ _ (get_some hlt) (get_some (show j < hss.length by rw [h.len]; exact hlt))
          exact HGD.out ⟨this.1, _, this.2⟩
      · go_wp2
        go_ret
        go_light
        exact ⟨_, rfl, .inl ⟨rfl, ver_of hpk fun n f hf => HE.out n f (by have := (List.getElem?_eq_some_iff.1 hf).1; omega) hf⟩, (HM1.out.trans HW.out).ex⟩
theorem rVerify_yes (v : Value) (p : List Fun) (w : World) (hv : Funs w v p) (h : ∃ hss, Ver p hss) : Calls Tryz.prog 19 #[.agg #[v]] w fun e w' => e = .returned (.int .i64 0) ∧ ∃ x, w' = w.ext x :=
  (rVerify_calls v p w hv).mono fun e w' ⟨c, he, hc, hx⟩ => by
    rcases hc with ⟨rfl, _⟩ | ⟨_, hn⟩
    · exact ⟨he, hx⟩
    · exact absurd h hn
theorem rVerify_no (v : Value) (p : List Fun) (w : World) (hv : Funs w v p) (h : ¬ ∃ hss, Ver p hss) : Calls Tryz.prog 19 #[.agg #[v]] w fun e w' => ∃ c, e = .returned (.int .i64 c) ∧ c ≠ 0 ∧ ∃ x, w' = w.ext x :=
  (rVerify_calls v p w hv).mono fun e w' ⟨c, he, hc, hx⟩ => by
    rcases hc with ⟨_, hn⟩ | ⟨hc, _⟩
    · exact absurd hn h
    · exact ⟨c, he, hc, hx⟩
end Go.Proofs.YtjpgcokdlopkaaaGreatDoor


namespace Go.Proofs.YtjpgcokdlopkaaaGreatDoor
open Go.RowKit

def numbersB (xs : List Int) (k : Int) : Bool := decide ((xs.length : Int) = k) && xs.all numB
theorem all_to {α : Type} {p : α → Bool} {xs : List α} {k : Nat} (hk : k = xs.length) (h : ∀ (j : Nat) (x : α), j < k → xs[j]? = some x → p x = true) : xs.all p = true := by
  rw [List.all_eq_true]
  intro x hx
  obtain ⟨j, hj⟩ := List.getElem?_of_mem hx
  exact h j x (by rw [hk]; exact (List.getElem?_eq_some_iff.1 hj).1) hj
theorem all_bad {α : Type} {p : α → Bool} {xs : List α} {k : Nat} {x : α} (hx : xs[k]? = some x) (h : p x = false) : xs.all p = false := by
  rw [List.all_eq_false]
  exact ⟨x, List.mem_of_getElem? hx, by simp [h]⟩
theorem all_step {α : Type} {p : α → Bool} {xs : List α} {k : Nat} {y : α} (hk : xs[k]? = some y) (hy : p y = true) (h : ∀ (j : Nat) (x : α), j < k → xs[j]? = some x → p x = true) : ∀ (j : Nat) (x : α), j < k + 1 → xs[j]? = some x → p x = true := fun j x hj hx => by
  by_cases hjk : j < k
  · exact h j x hjk hx
  · obtain rfl : j = k := by omega
    rw [hk] at hx
    rw [← Option.some.inj hx]; exact hy
theorem counts_eq (xs : List Int) (k : Int) : countsB xs k = (decide ((xs.length : Int) = k) && xs.all countB) := by
  unfold countsB
  congr 1
  rw [Bool.eq_iff_iff]; simp
set_option maxHeartbeats 1000000 in
theorem wrapAll_calls (v : Value) (xs : List Int) (w : World) (h : Ints w v xs) : Calls Tryz.prog 20 #[v] w fun e w' => e = .returned (.bool (xs.all numB)) ∧ ∃ x, w' = w.ext x := by
  obtain ⟨A, c, rfl, k1, k2⟩ := h.form
  have H := Lib.hid h
  clear h
  go_enter Tryz.func20, Tryz.ntmps20
  go_wp2
  go_loopw [4, 7] (fun _ i wr => ∃ k : Nat, i = .int .i64 k ∧ k ≤ xs.length ∧ Hid (∀ (j : Nat) (x : Int), j < k → xs[j]? = some x → numB x = true) ∧ Hid (Mods [] w wr)) (fun _ i _ => xs.length - (intOf i).toNat)
  case atStart => exact ⟨0, rfl, Nat.zero_le _, fun j x h => absurd h (Nat.not_lt_zero _), (by repeat (first | exact Mods.refl _ _ | refine Mods.alloc ?_ _ | refine Mods.ext ?_ _ | refine Mods.drew ?_ | refine Mods.drewN ?_ _))⟩
  case round =>
    obtain ⟨k, rfl, hk, HE, HW⟩ := hrel
    by_cases hlt : k < xs.length
    · obtain ⟨b, o, rfl, hx⟩ := H.out.at_ (get_some hlt)
      have hx' := HW.out.cell hx
      rw [Nat.mul_one] at hx'
      clear hx
      cases hb : numB xs[k]
      · go_wp2_with (go_at_call 38; refine (wrapIs_calls _ _).mono ?_; rintro e w' ⟨rfl, rfl⟩)
        go_ret
        exact ⟨ret_bool (all_bad (get_some hlt) hb).symm, HW.out.ex⟩
      · go_wp2_with (go_at_call 38; refine (wrapIs_calls _ _).mono ?_; rintro e w' ⟨rfl, rfl⟩)
        go_roundw
        case rel =>
          go_light
          exact ⟨k + 1, by go_num, by omega, all_step (get_some hlt) hb HE.out, HW.out⟩
        case measure => simp [intOf]; omega
    · go_wp2
      go_ret
      exact ⟨ret_bool (all_to (by omega) HE.out).symm, HW.out.ex⟩
set_option maxHeartbeats 1000000 in
theorem rNumbers_calls (v : Value) (xs : List Int) (n : Int) (w : World) (h : Ints w v xs) : Calls Tryz.prog 23 #[v, .int .i64 n] w fun e w' => e = .returned (.bool (numbersB xs n)) ∧ ∃ x, w' = w.ext x := by
  obtain ⟨A, c, rfl, k1, k2⟩ := h.form
  have H := Lib.hid h
  clear h
  go_enter Tryz.func23, Tryz.ntmps23
  go_wp2
  go_loopw [5] (fun i wr => ∃ k : Nat, i = .int .i64 k ∧ k ≤ xs.length ∧ Hid (∀ (j : Nat) (x : Int), j < k → xs[j]? = some x → numB x = true) ∧ Hid (Mods [] w wr)) (fun i _ => xs.length - (intOf i).toNat)
  case atStart => exact ⟨0, rfl, Nat.zero_le _, fun j x h => absurd h (Nat.not_lt_zero _), (by repeat (first | exact Mods.refl _ _ | refine Mods.alloc ?_ _ | refine Mods.ext ?_ _ | refine Mods.drew ?_ | refine Mods.drewN ?_ _))⟩
  case round =>
    obtain ⟨k, rfl, hk, HE, HW⟩ := hrel
    by_cases hlt : k < xs.length
    · obtain ⟨b, o, rfl, hx⟩ := H.out.at_ (get_some hlt)
      have hx' := HW.out.cell hx
      rw [Nat.mul_one] at hx'
      clear hx
      cases hb : numB xs[k]
      · go_wp2_with (go_at_call 31; refine (refNumber_calls _ _).mono ?_; rintro e w' ⟨rfl, rfl⟩)
        go_ret
        exact ⟨ret_bool (by unfold numbersB; rw [all_bad (get_some hlt) hb]; simp), HW.out.ex⟩
      · go_wp2_with (go_at_call 31; refine (refNumber_calls _ _).mono ?_; rintro e w' ⟨rfl, rfl⟩)
        go_roundw
        case rel =>
          go_light
          exact ⟨k + 1, by go_num, by omega, all_step (get_some hlt) hb HE.out, HW.out⟩
        case measure => simp [intOf]; omega
    · go_wp2
      go_ret
      exact ⟨ret_bool (by unfold numbersB; rw [all_to (by omega) HE.out, Bool.eq_iff_iff]; simp), HW.out.ex⟩
set_option maxHeartbeats 1000000 in
theorem rCounts_calls (v : Value) (xs : List Int) (n : Int) (w : World) (h : Ints w v xs) : Calls Tryz.prog 30 #[v, .int .i64 n] w fun e w' => e = .returned (.bool (countsB xs n)) ∧ ∃ x, w' = w.ext x := by
  obtain ⟨A, c, rfl, k1, k2⟩ := h.form
  have H := Lib.hid h
  clear h
  go_enter Tryz.func30, Tryz.ntmps30
  go_wp2
  go_loopw [5] (fun i wr => ∃ k : Nat, i = .int .i64 k ∧ k ≤ xs.length ∧ Hid (∀ (j : Nat) (x : Int), j < k → xs[j]? = some x → countB x = true) ∧ Hid (Mods [] w wr)) (fun i _ => xs.length - (intOf i).toNat)
  case atStart => exact ⟨0, rfl, Nat.zero_le _, fun j x h => absurd h (Nat.not_lt_zero _), (by repeat (first | exact Mods.refl _ _ | refine Mods.alloc ?_ _ | refine Mods.ext ?_ _ | refine Mods.drew ?_ | refine Mods.drewN ?_ _))⟩
  case round =>
    obtain ⟨k, rfl, hk, HE, HW⟩ := hrel
    by_cases hlt : k < xs.length
    · obtain ⟨b, o, rfl, hx⟩ := H.out.at_ (get_some hlt)
      have hx' := HW.out.cell hx
      rw [Nat.mul_one] at hx'
      clear hx
      rcases dec_cases (xs[k] < 0) with ⟨h1, h1d⟩ | ⟨h1, h1d⟩
      · go_wp2
        go_ret
        exact ⟨ret_bool (by rw [counts_eq, all_bad (get_some hlt) (by simp [countB]; omega)]; simp), HW.out.ex⟩
      rcases dec_cases (1073741824 < xs[k]) with ⟨h2, h2d⟩ | ⟨h2, h2d⟩
      · go_wp2
        go_ret
        exact ⟨ret_bool (by rw [counts_eq, all_bad (get_some hlt) (by simp [countB]; omega)]; simp), HW.out.ex⟩
      go_wp2
      go_roundw
      case rel =>
        go_light
        exact ⟨k + 1, by go_num, by omega, all_step (get_some hlt) (by simp [countB]; omega) HE.out, HW.out⟩
      case measure => simp [intOf]; omega
    · go_wp2
      go_ret
      exact ⟨ret_bool (by rw [counts_eq, all_to (by omega) HE.out, Bool.eq_iff_iff]; simp), HW.out.ex⟩
theorem rCounts_is (v : Value) (xs : List Int) (n : Int) (b : Bool) (w : World) (hb : countsB xs n = b) (h : Ints w v xs) : Calls Tryz.prog 30 #[v, .int .i64 n] w fun e w' => e = .returned (.bool b) ∧ ∃ x, w' = w.ext x := hb ▸ rCounts_calls v xs n w h
theorem ints_one {w : World} {g : Nat} {x : Int} (h : w.cell? ⟨g, 0, none⟩ = some (.int .i64 x)) : Ints w (.slice (some ⟨g, 0, none⟩) 1 1) [x] :=
  ⟨1, by simp, by omega, .inr ⟨g, 0, rfl, fun i y hy => by
    obtain ⟨hi, rfl⟩ := List.getElem?_eq_some_iff.1 hy
    have : i = 0 := by simpa using hi
    subst this; exact h⟩⟩
theorem ints_two {w : World} {g : Nat} {x y : Int} (h : w.cell? ⟨g, 0, none⟩ = some (.int .i64 x)) (h2 : w.cell? ⟨g, 1, none⟩ = some (.int .i64 y)) : Ints w (.slice (some ⟨g, 0, none⟩) 2 2) [x, y] :=
  ⟨2, by simp, by omega, .inr ⟨g, 0, rfl, fun i z hz => by
    match i, hz with
    | 0, hz => cases hz; exact h
    | 1, hz => cases hz; exact h2
    | i + 2, hz => simp at hz⟩⟩
theorem counts_one (x : Int) : countsB [x] 1 = countB x := by simp [countsB]
theorem counts_two (x y : Int) : countsB [x, y] 2 = (countB x && countB y) := by simp [countsB]
end Go.Proofs.YtjpgcokdlopkaaaGreatDoor


namespace Go.Proofs.YtjpgcokdlopkaaaGreatDoor
open Go.RowKit

theorem ProfMayP.fits {p : List Fun} {rs : List FunP} (h : ProfMayP p rs) : PFits rs := by
  obtain ⟨hss, hv⟩ := h.ver
  obtain ⟨p1, p2, _⟩ := packs_iff.1 hv.packs
  refine ⟨by have := h.len; omega, fun i x hx => ?_⟩
  have hi := (List.getElem?_eq_some_iff.1 hx).1
  have hp := get_some (show i < p.length by rw [← h.len]; exact hi)
  have hm := h.each i _ x hp hx
  obtain ⟨_, a2, _, _, hc⟩ := packs_args hv.packs hp
  obtain ⟨_, l2⟩ := codeMay_lens hc
  simp only [fpMay, countsB, Bool.and_eq_true, decide_eq_true_eq] at hm
  obtain ⟨⟨⟨⟨_, m1, _⟩, m2, _⟩, m3⟩, _⟩ := hm
  omega
theorem ProfMayP.at {p : List Fun} {rs : List FunP} (h : ProfMayP p rs) {n : Nat} {f : Fun} {x : FunP} (hp : p[n]? = some f) (hx : rs[n]? = some x) : countB x.calls = true ∧ x.jumps.length = f.code.length ∧ x.falls.length = f.code.length ∧ (x.args.length : Int) = f.args ∧ (∀ (i : Nat) (a : ArgP), x.args[i]? = some a → argMay a = true) ∧ (∀ (i : Nat) (y : Int), x.jumps[i]? = some y → countB y = true) ∧ ∀ (i : Nat) (y : Int), x.falls[i]? = some y → countB y = true := by
  have hm := h.each n f x hp hx
  simp only [fpMay, Bool.and_eq_true, decide_eq_true_eq, counts_eq] at hm
  obtain ⟨⟨⟨⟨m0, m1, m1'⟩, m2, m2'⟩, m3⟩, m4⟩ := hm
  refine ⟨m0, by omega, by omega, m3, fun i a ha => ?_, fun i y hy => ?_, fun i y hy => ?_⟩
  · have m5 : (x.args.any fun a => !argMay a) = false := by simpa using m4
    have := List.any_eq_false.1 m5 a (List.mem_of_getElem? ha)
    simpa using this
  · exact List.all_eq_true.1 m1' y (List.mem_of_getElem? hy)
  · exact List.all_eq_true.1 m2' y (List.mem_of_getElem? hy)
structure CalledOk (p : List Fun) (rs : List FunP) (fn : Int) (xs : List Int) (n : Nat) (f : Fun) (x : FunP) : Prop where
  may : ProfMayP p rs
  fnE : fn = n
  fE : p[n]? = some f
  xE : rs[n]? = some x
  len : (xs.length : Int) = f.args
  nums : xs.all numB = true
open Classical in
noncomputable def calledR (p : List Fun) (rs : List FunP) (fn : Int) (xs : List Int) : List FunP × Int := if ∃ n f x, CalledOk p rs fn xs n f x then (rs.set fn.toNat (calledF ((rs[fn.toNat]?).getD ⟨0, [], [], []⟩) xs), 0) else ([], 900)
theorem calledR_yes {p : List Fun} {rs : List FunP} {fn : Int} {xs : List Int} {n : Nat} {f : Fun} {x : FunP} (h : CalledOk p rs fn xs n f x) : calledR p rs fn xs = (rs.set n (calledF x xs), 0) := by
  unfold calledR
  rw [if_pos ⟨n, f, x, h⟩, h.fnE, Int.toNat_natCast, h.xE]; rfl
theorem calledR_no {p : List Fun} {rs : List FunP} {fn : Int} {xs : List Int} (h : ¬ ∃ n f x, CalledOk p rs fn xs n f x) : calledR p rs fn xs = ([], 900) := by
  unfold calledR; rw [if_neg h]
/-- a profile and an error -/
def ResPost (w : World) (r : List FunP × Int) (E : Ending) (w' : World) : Prop := ∃ v, E = .returned (.tuple #[.agg #[v], .int .i64 r.2]) ∧ ProfO w.heap.size w' v r.1 ∧ ∃ x, w' = w.ext x
theorem ProfO.nil {B : Nat} {w : World} : ProfO B w (.slice none 0 0) [] := ⟨[], ⟨Own.nil, fun k hk => by simp [Value.ownBlock] at hk⟩, FreshFs.nil⟩
theorem profMay_is (v u : Value) (p : List Fun) (rs : List FunP) (b : Bool) (w : World) (hb : profMay p rs = b) (hG : EType w) (hv : Funs w v p) (hu : Profs w u rs) : Calls Tryz.prog 13 #[.agg #[v], .agg #[u]] w fun e w' => e = .returned (.bool b) ∧ ∃ x, w' = w.ext x := hb ▸ profMay_calls v u p rs w hG hv hu
theorem wrapAll_is (v : Value) (xs : List Int) (b : Bool) (w : World) (hb : xs.all numB = b) (h : Ints w v xs) : Calls Tryz.prog 20 #[v] w fun e w' => e = .returned (.bool b) ∧ ∃ x, w' = w.ext x := hb ▸ wrapAll_calls v xs w h

end Go.Proofs.YtjpgcokdlopkaaaGreatDoor


namespace Go.Proofs.YtjpgcokdlopkaaaGreatDoor
open Go.RowKit

def bump (l : List Int) (k : Nat) : List Int := l.set k (moreI ((l[k]?).getD 0))
def branchF (x : FunP) (k : Nat) (j : Bool) : FunP := if j then { x with jumps := bump x.jumps k } else { x with falls := bump x.falls k }
theorem bump_eq {l : List Int} {k : Nat} {y : Int} (h : l[k]? = some y) : bump l k = l.set k (moreI y) := by unfold bump; rw [h]; rfl
set_option maxHeartbeats 4000000 in
set_option maxRecDepth 100000 in
theorem branch_calls (B g o c n k : Nat) (j : Bool) (fs : List FV) (rs : List FunP) (x : FunP) (w0 w : World) (h : ProfF B w (.slice (some ⟨g, o, none⟩) rs.length c) fs rs) (hx : rs[n]? = some x) (hm : Mods [] w0 w) (hb : w0.heap.size ≤ B) (hk1 : k < x.jumps.length) (hk2 : k < x.falls.length)
    (hc1 : ∀ (i : Nat) (y : Int), x.jumps[i]? = some y → countB y = true) (hc2 : ∀ (i : Nat) (y : Int), x.falls[i]? = some y → countB y = true) : Calls Tryz.prog 26 #[.pointer (some ⟨g, o + n * 4, none⟩), .int .i64 k, .bool j] w (CallPost B w0 w (.slice (some ⟨g, o, none⟩) rs.length c) (rs.set n (branchF x k j))) := by
  obtain ⟨fv, hf, ho⟩ := h.each hx
  have hq : Own w 47 4 (.slice (some ⟨g, o, none⟩) rs.length c) rs.length (fvV fs) := h.1.1
  obtain ⟨c0, c1, c2, c3⟩ := hq.fps hf
  have H := Lib.hid h
  have HX := Lib.hid hx
  have HM := Lib.hid hm
  have HF := Lib.hid hf
  have HO := Lib.hid ho
  have i0 : (0 : Int) ≤ (k : Int) := by omega
  have key : ∀ (ga : Nat) (w' : World) (x' : FunP), (fv.j.ownBlock = some ga ∨ fv.f.ownBlock = some ga) → Mods [ga] w w' → FVO B w' fv x' → CallPost B w0 w (.slice (some ⟨g, o, none⟩) rs.length c) (rs.set n x') (.returned (.tuple #[])) w' := fun ga w' x' hga hmw hn => by
    refine ⟨rfl, ⟨_, H.out.rows HF.out hmw (fun b hb => by obtain rfl := List.mem_singleton.1 hb; rcases hga with e | e <;> simp [e]) hn⟩, (HM.out.nil.trans hmw).new fun b hb' => ?_, fun b u hb' => hb'.mods hmw fun b hb => ?_⟩
    · obtain rfl := List.mem_singleton.1 hb'
      have : B ≤ b := HO.out.ge (by rcases hga with e | e <;> simp [e])
      omega
    · obtain rfl := List.mem_singleton.1 hb
      rcases hga with e | e
      · exact .inl (HO.out.2.1.1.blockOf e)
      · exact .inl (HO.out.2.2.1.1.blockOf e)
  have KEY := Lib.hid key
  cases j with
  | true =>
    obtain ⟨y, hy⟩ : ∃ y, x.jumps[k]? = some y := ⟨_, get_some hk1⟩
    obtain ⟨n0, n1⟩ := countB_range (hc1 k y hy)
    have hor := ho.2.1.1
    obtain ⟨ga, oa, qa, hfa, _, _, z3, z4⟩ := hor.form (by omega)
    have y0 := z3 k _ (intV_get hy)
    have t0 := z4 (oa + k)
    rw [hfa] at c1 hor
    have i1 : (k : Int) < (x.jumps.length : Int) := by omega
    have hown : fv.j.ownBlock = some ga := by rw [hfa]; rfl
    have HY := Lib.hid hy
    have HOR := Lib.hid hor
    have HOWN := Lib.hid hown
    have HFA := Lib.hid hfa
    clear h hx hm hf ho hq key hor z3 z4 hy hc1 hc2 hown hfa
    go_enter Tryz.func26, Tryz.ntmps26
    go_wp2_with (go_at_call 42; (with_reducible refine (more_calls _ _ y _ ?_ ?_ n0 n1).mono ?_); (go_simp); (go_simp); rintro e w1 ⟨rfl, rfl⟩)
    go_end0
    go_light
    have hmw : Mods [ga] w (w.setCell ⟨ga, oa + k, none⟩ (.int .i64 (moreI y))) := (Mods.refl [ga] w).setCell (p := ⟨ga, oa + k, none⟩) (fun _ => by simp) _
    refine KEY.out ga _ _ (.inl HOWN.out) hmw ?_
    have e1 := HOR.out.set (j := k) (.int .i64 (moreI y))
    rw [intV_set, ← bump_eq HY.out] at e1
    show FVO B _ fv { x with jumps := bump x.jumps k }
    refine HO.out.updJ (by rw [HOWN.out]; exact hmw) ?_
    rw [HFA.out]
    have : (bump x.jumps k).length = x.jumps.length := by simp [bump]
    rw [this]; exact e1
  | false =>
    obtain ⟨y, hy⟩ : ∃ y, x.falls[k]? = some y := ⟨_, get_some hk2⟩
    obtain ⟨n0, n1⟩ := countB_range (hc2 k y hy)
    have hor := ho.2.2.1.1
    obtain ⟨ga, oa, qa, hfa, _, _, z3, z4⟩ := hor.form (by omega)
    have y0 := z3 k _ (intV_get hy)
    have t0 := z4 (oa + k)
    rw [hfa] at c2 hor
    have i1 : (k : Int) < (x.falls.length : Int) := by omega
    have hown : fv.f.ownBlock = some ga := by rw [hfa]; rfl
    have HY := Lib.hid hy
    have HOR := Lib.hid hor
    have HOWN := Lib.hid hown
    have HFA := Lib.hid hfa
    clear h hx hm hf ho hq key hor z3 z4 hy hc1 hc2 hown hfa
    go_enter Tryz.func26, Tryz.ntmps26
    go_wp2_with (go_at_call 42; (with_reducible refine (more_calls _ _ y _ ?_ ?_ n0 n1).mono ?_); (go_simp); (go_simp); rintro e w1 ⟨rfl, rfl⟩)
    go_end0
    go_light
    have hmw : Mods [ga] w (w.setCell ⟨ga, oa + k, none⟩ (.int .i64 (moreI y))) := (Mods.refl [ga] w).setCell (p := ⟨ga, oa + k, none⟩) (fun _ => by simp) _
    refine KEY.out ga _ _ (.inr HOWN.out) hmw ?_
    have e1 := HOR.out.set (j := k) (.int .i64 (moreI y))
    rw [intV_set, ← bump_eq HY.out] at e1
    show FVO B _ fv { x with falls := bump x.falls k }
    refine HO.out.updF (by rw [HOWN.out]; exact hmw) ?_
    rw [HFA.out]
    have : (bump x.falls k).length = x.falls.length := by simp [bump]
    rw [this]; exact e1
structure BranchedOk (p : List Fun) (rs : List FunP) (fn pc : Int) (n k : Nat) (f : Fun) (x : FunP) (i : Ins) : Prop where
  may : ProfMayP p rs
  fnE : fn = n
  pcE : pc = k
  fE : p[n]? = some f
  xE : rs[n]? = some x
  iE : f.code[k]? = some i
  zero : i.kind = 13
open Classical in
noncomputable def branchedR (p : List Fun) (rs : List FunP) (fn pc : Int) (j : Bool) : List FunP × Int := if ∃ n k f x i, BranchedOk p rs fn pc n k f x i then (rs.set fn.toNat (branchF ((rs[fn.toNat]?).getD ⟨0, [], [], []⟩) pc.toNat j), 0) else ([], 900)
theorem branchedR_yes {p : List Fun} {rs : List FunP} {fn pc : Int} {j : Bool} {n k : Nat} {f : Fun} {x : FunP} {i : Ins} (h : BranchedOk p rs fn pc n k f x i) : branchedR p rs fn pc j = (rs.set n (branchF x k j), 0) := by
  unfold branchedR
  rw [if_pos ⟨n, k, f, x, i, h⟩, h.fnE, h.pcE, Int.toNat_natCast, Int.toNat_natCast, h.xE]; rfl
theorem branchedR_no {p : List Fun} {rs : List FunP} {fn pc : Int} {j : Bool} (h : ¬ ∃ n k f x i, BranchedOk p rs fn pc n k f x i) : branchedR p rs fn pc j = ([], 900) := by
  unfold branchedR; rw [if_neg h]
end Go.Proofs.YtjpgcokdlopkaaaGreatDoor
