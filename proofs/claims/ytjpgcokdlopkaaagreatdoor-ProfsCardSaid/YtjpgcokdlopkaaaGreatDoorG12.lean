/- Lemmas for a claim of the seat YtjpgcokdlopkaaaGreatDoor. Written in part by programs of the claim's repo. By an AI agent. -/
import Derived.Test.YtjpgcokdlopkaaaGreatDoorG11
import Derived.Deep.RegionWith
import Derived.BigRegion

namespace Go.Proofs.YtjpgcokdlopkaaaGreatDoor
open Go.RowKit

set_option maxHeartbeats 8000000 in
set_option maxRecDepth 100000 in
theorem profCopy_calls (r1 r2 : Nat) (u : Value) (rs : List FunP) (w : World) (hc : w.cell? ⟨r1, r2, none⟩ = some u) (hu : Profs w u rs) (hfit : PFits rs) : Calls Tryz.prog 21 #[.pointer (some ⟨r1, r2, none⟩)] w (CopyProfPost w rs) := by
  obtain ⟨A, c, rfl, k1, k2⟩ := hu.form
  obtain ⟨fs, hfl, hfc, hfr, hf1⟩ := profs_fs hu
  have HU := Lib.hid hu
  have HFN := Lib.hid hfit.n
  have HFE := Lib.hid hfit.each
  have HFL := Lib.hid hfl
  have HFC := Lib.hid hfc
  have HFR := Lib.hid hfr
  have HF1 := Lib.hid hf1
  clear hu hfit hfl hfc hfr hf1
  go_enter Tryz.func21, Tryz.ntmps21
  go_wp2_with (go_at_call 39; (with_reducible refine (cloneF _ _ _ (fvV fs) _ ?_ HF1.out ?_).mono ?_); (exact HFC.out.ext (by repeat (first | exact Mods.refl _ _ | refine Mods.alloc ?_ _ | refine Mods.ext ?_ _ | refine Mods.drew ?_ | refine Mods.drewN ?_ _))); (exact HFN.out); rintro e w1 ⟨v1, rfl, hO, x1, hx1⟩; have hM1 := ((Mods.refl [] w).alloc (Obj.cells #[.slice none 0 0] 27)).trans (mods_of hx1); have hrb : PBox w.heap.size (.slice none 0 0) w1 := (show PBox w.heap.size (.slice none 0 0) (w.alloc (Obj.cells #[.slice none 0 0] 27)) from heap_alloc_new _ _).keep (mods_of hx1) (by simp); obtain ⟨Av, cv, rfl, _, _⟩ := hO.1.slice; have HO := Lib.hid (hO.low (B' := w.heap.size) (by simp)); have HRB := Lib.hid hrb; have HM1 := Lib.hid hM1; clear hx1 hO hM1 hrb)
  go_loopw [4, 5, 15] (fun _ _ i wr => ∃ k : Nat, i = .int .i64 k ∧ k ≤ rs.length ∧ Hid (CRel2 w w.heap.size w1.heap.size (.slice Av rs.length cv) rs k wr)) (fun _ _ i _ => rs.length - (intOf i).toNat)
  case atStart =>
    have hM : Mods [] w1 (w1.alloc (Obj.cells #[.slice Av rs.length cv] 27)) := (by repeat (first | exact Mods.refl _ _ | refine Mods.alloc ?_ _ | refine Mods.ext ?_ _ | refine Mods.drew ?_ | refine Mods.drewN ?_ _))
    exact ⟨0, rfl, Nat.zero_le _, fs, HFL.out, HRB.out.keep hM (by simp), heap_alloc_new _ _, HO.out.ext hM, FreshFs.nil, fun i fv x _ => HFR.out i fv x, HM1.out.trans hM⟩
  case round =>
    obtain ⟨k, rfl, hk, HR⟩ := hrel
    obtain ⟨gs, hl, hrb, hob, ho, hf, hr, hw⟩ := HR.out
    have bo := hob.cell
    by_cases hlt : k < rs.length
    · obtain ⟨g, o, cap, e, _, _, _, q4⟩ := ho.1.form (by omega)
      have hAe : Av = some ⟨g, o, none⟩ := by cases e; rfl
      subst hAe
      obtain ⟨fv, hg⟩ : ∃ fv, gs[k]? = some fv := ⟨_, get_some (by omega)⟩
      obtain ⟨x, hx⟩ : ∃ x, rs[k]? = some x := ⟨_, get_some hlt⟩
      obtain ⟨c0, c1, c2, c3⟩ := ho.1.fps hg
      have f1 := q4 (o + k * 4 + 1)
      have f2 := q4 (o + k * 4 + 2)
      have f3 := q4 (o + k * 4 + 3)
      obtain ⟨e0, hj, hfa, ha⟩ := (hr k fv x (Nat.le_refl _) hg hx).ext hw
      obtain ⟨vc, vj, vf, va⟩ := fv
      obtain ⟨J, cj, rfl, _, _⟩ := hj.form
      obtain ⟨F, cf, rfl, _, _⟩ := hfa.form
      obtain ⟨D, ca, rfl, _, _⟩ := ha.form
      have HJ := Lib.hid hj
      have HF := Lib.hid hfa
      have HA := Lib.hid ha
      have HFT := Lib.hid (HFE.out k x hx)
      have HST := Lib.hid (fun wa wb wc v1 v2 v3 => CRel2.step (wa := wa) (wb := wb) (wc := wc) (v1 := v1) (v2 := v2) (v3 := v3) hl hrb hob ho hf hr hw hg hx)
      clear hj hfa ha hl hrb hob ho hf hr hw hg hx q4 e e0
      go_wp2
      go_region_with (first
        | (go_at_call 40; (with_reducible refine (cloneI _ _ _ (intV x.jumps) _ ?_ (one_int _) ?_).mono ?_); (exact (Ints.cellsAt HJ.out).ext (by repeat (first | exact Mods.refl _ _ | refine Mods.alloc ?_ _ | refine Mods.ext ?_ _ | refine Mods.drew ?_ | refine Mods.drewN ?_ _))); (have := HFT.out; omega); rintro e wa ⟨v1, rfl, hO1, xa, rfl⟩; obtain ⟨A1, q1, rfl, _, _⟩ := hO1.1.slice; have HO1 := Lib.hid hO1; clear hO1)
        | (go_at_call 40; (with_reducible refine (cloneI _ _ _ (intV x.falls) _ ?_ (one_int _) ?_).mono ?_); (exact (Ints.cellsAt HF.out).ext (by repeat (first | exact Mods.refl _ _ | refine Mods.alloc ?_ _ | refine Mods.ext ?_ _ | refine Mods.drew ?_ | refine Mods.drewN ?_ _))); (have := HFT.out; omega); rintro e wb ⟨v2, rfl, hO2, xb, rfl⟩; obtain ⟨A2, q2, rfl, _, _⟩ := hO2.1.slice; have HO2 := Lib.hid hO2; clear hO2)
        | (go_at_call 41; (with_reducible refine (cloneA _ _ _ (argV x.args) _ ?_ (one_arg _) ?_).mono ?_); (exact (ArgPs.cellsAt HA.out).ext (by repeat (first | exact Mods.refl _ _ | refine Mods.alloc ?_ _ | refine Mods.ext ?_ _ | refine Mods.drew ?_ | refine Mods.drewN ?_ _))); (have := HFT.out; omega); rintro e wc ⟨v3, rfl, hO3, xc, rfl⟩; obtain ⟨A3, q3, rfl, _, _⟩ := hO3.1.slice; have HO3 := Lib.hid hO3; clear hO3))
      all_goals
        go_wp2
        go_roundw
        case rel =>
          go_light
          exact ⟨k + 1, by go_num, by omega, HST.out _ _ _ _ _ _ ((Mods.refl _ _).drew.ext _) HO1.out ((Mods.refl _ _).ext _) HO2.out ((Mods.refl _ _).ext _) HO3.out⟩
        case measure => simp [intOf]; omega
    · have hke : k = rs.length := by omega
      have HKE := Lib.hid hke
      have fr := hrb.frozen
      have cr := hrb.cell
      have ce := (hrb.set (.slice Av rs.length cv)).cell
      have hset : Mods [w.heap.size] wr (wr.setCell ⟨w.heap.size, 0, none⟩ (.slice Av rs.length cv)) := (Mods.refl _ _).setCell (by simp) _
      have HSET := Lib.hid hset
      have HX := Lib.hid hrb
      have HOW := Lib.hid ho
      have HFW := Lib.hid hf
      have HWW := Lib.hid hw
      have HL2 := Lib.hid hl
      clear hke hset hrb ho hf hw hob hl hr
      go_wp2
      refine bodyPost_ret (v := .agg #[.slice Av rs.length cv]) (by simp [results, Tryz.results21, go_sem, ce]) rfl ⟨_, rfl, ⟨gs, ?_, ?_⟩, (HWW.out.setCell (fun hq => by have hq' : w.heap.size < w.heap.size := hq; omega) _).ex⟩
      · exact HOW.out.mods HSET.out fun b hb hs => by
          obtain rfl := List.mem_singleton.1 hs
          have h3 : BlockOf wr 27 w.heap.size := ⟨_, _, HX.out⟩
          exact absurd ((HOW.out.1.blockOf hb).ne h3) (by decide)
      · have h1 := HFW.out.others HSET.out fun b hb => by
          obtain rfl := List.mem_singleton.1 hb
          exact HX.out.other
        have e : rs.take k = rs := by rw [HKE.out, List.take_length]
        have e2 : gs.take k = gs := by rw [HKE.out, ← HL2.out, List.take_length]
        rw [e, e2] at h1
        exact h1
end Go.Proofs.YtjpgcokdlopkaaaGreatDoor
