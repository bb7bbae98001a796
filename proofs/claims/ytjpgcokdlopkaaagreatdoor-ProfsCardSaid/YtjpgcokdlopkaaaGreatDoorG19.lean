/- Lemmas for a claim of the seat YtjpgcokdlopkaaaGreatDoor. Written in part by programs of the claim's repo. By an AI agent. -/
import Derived.Test.YtjpgcokdlopkaaaGreatDoorG18
import Derived.Test.YtjpgcokdlopkaaaGreatDoorG16

namespace Go.Proofs.YtjpgcokdlopkaaaGreatDoor
open Go.RowKit

theorem boxes2 (w : World) (x y : Value) (p : Nat) : (((w.alloc (.cells #[x] p)).alloc (.cells #[y] 27))).cell? ⟨w.heap.size, 0, none⟩ = some x ∧ PBox (w.heap.size + 1) y (((w.alloc (.cells #[x] p)).alloc (.cells #[y] 27))) :=
  ⟨by go_simp, alloc_new_at (by simp)⟩

set_option maxHeartbeats 8000000 in
set_option maxRecDepth 100000 in
theorem new_calls (v : Value) (p : List Fun) (w : World) (hG : EType w) (hv : Funs w v p) : Calls Tryz.prog 5 #[.agg #[v]] w (ResPost w (newR p)) := by
  obtain ⟨A, c, rfl, k1, k2⟩ := hv.form
  have HV := Lib.hid hv
  have HG := Lib.hid hG
  clear hv hG
  by_cases hver : ∃ hss, Ver p hss
  · rw [newR_yes hver]
    have HPK := Lib.hid (show packs p = true from hver.elim fun _ h => h.packs)
    have HVER := Lib.hid hver
    clear hver
    go_enter Tryz.func5, Tryz.ntmps5
    go_wp2_with (go_at_call 18; (with_reducible refine (program_yes _ p _ ?_ ?_ HVER.out).mono ?_); (exact HG.out.ext (by repeat (first | exact Mods.refl _ _ | refine Mods.alloc ?_ _ | refine Mods.ext ?_ _ | refine Mods.drew ?_ | refine Mods.drewN ?_ _))); (exact HV.out.ext funR_grows (by repeat (first | exact Mods.refl _ _ | refine Mods.alloc ?_ _ | refine Mods.ext ?_ _ | refine Mods.drew ?_ | refine Mods.drewN ?_ _))); rintro e w1 ⟨rfl, x1, hx1⟩; have hM0 := mods_of hx1; have hM1 : Mods [] w w1 := Mods.trans (by repeat (first | exact Mods.refl _ _ | refine Mods.alloc ?_ _)) hM0; have bb0 := hM0.cell (boxes2 w _ _ _).1; have pb1 := PBox.keep (boxes2 w _ _ _).2 hM0 (by simp); have bb1 := pb1.cell; have bf1 := pb1.frozen; have HM1 := Lib.hid hM1; have PB1 := Lib.hid pb1; clear hM0 hM1 hx1 pb1)
    go_loopw [14] (fun i wr => ∃ k : Nat, i = .int .i64 k ∧ k ≤ p.length ∧ Hid (NRel w1 w1.heap.size (p.map newFun) k wr)) (fun i _ => p.length - (intOf i).toNat)
    case atStart =>
      exact ⟨0, rfl, Nat.zero_le _, .slice none 0 0, [], alloc_new_at rfl, ⟨Own.nil, fun b hb => by simp [Value.ownBlock] at hb⟩, FreshFs.nil, (by repeat (first | exact Mods.refl _ _ | refine Mods.alloc ?_ _ | refine Mods.ext ?_ _ | refine Mods.drew ?_ | refine Mods.drewN ?_ _))⟩
    case round =>
      obtain ⟨k, rfl, hk, HR⟩ := hrel
      obtain ⟨v, fs, hob0, ho, hf, hw⟩ := HR.out
      obtain ⟨Av, cv, rfl, _, _⟩ := ho.1.slice
      have bo := hob0.cell
      have fo := hob0.frozen
      have b0' := hw.cell bb0
      have HOB := Lib.hid hob0
      have HO := Lib.hid ho
      have HFS := Lib.hid hf
      have HW := Lib.hid hw
      clear hob0 ho hf HR
      by_cases hlt : k < p.length
      · obtain ⟨b, o, rfl, hx⟩ := HV.out.at_ (get_some hlt)
        obtain ⟨a1, a2, va, a3, ha⟩ := funR_grows.ext (HM1.out.trans hw) hx
        obtain ⟨D, ca, rfl, k7, k8⟩ := ha.form
        obtain ⟨q1, q2, q3, q4, q5⟩ := packs_args HPK.out (get_some hlt)
        obtain ⟨l1, l2⟩ := codeMay_lens q5
        obtain ⟨m, hA⟩ : ∃ m : Nat, p[k].args = (m : Int) := ⟨p[k].args.toNat, by omega⟩
        have i0 : (0 : Int) ≤ (k : Int) := by omega
        have i1 : (k : Int) < (p.length : Int) := by omega
        rw [hA] at a1
        have HAA := Lib.hid hA
        have HL := Lib.hid (show p[k].code.length * 8 ≤ 140737488355328 ∧ m * 24 ≤ 140737488355328 ∧ p.length * 80 ≤ 140737488355328 by obtain ⟨z1, _⟩ := packs_iff.1 HPK.out; omega)
        clear ha hw hx q1 q2 q3 q4 q5 l1 l2 hA
        go_wp2
        (refine wp_region_makes [0, 1, 2, 3, 4, 6, 7, 8, 10, 11] 5 9 12 28 22 23 28 26 27 45 29 30 (by kernel_rfl) (by kernel_rfl) (by kernel_rfl) (by kernel_rfl) (by simp) (by kernel_rfl) rfl (by decide) (by decide) (by decide) (by decide) ⟨_, rfl, rfl, rfl, rfl⟩ ⟨_, rfl, rfl, rfl, rfl⟩ ⟨_, rfl, rfl, rfl, rfl⟩ (by decide) (by decide) rfl rfl (by kernel_rfl) ?_; simp only [pick, List.length_cons, List.length_nil, List.getElem?_cons_succ, List.getElem?_cons_zero, List.drop_succ_cons, List.drop_zero, Nat.zero_add, Nat.reduceAdd])
        repeat (go_big_quiet_step (skip))
        refine wpQuiet_nil ?_
        refine ⟨_, _, _, _, _, _, _, _, _, make_i p[k].code.length (by have := HL.out; omega), make_i p[k].code.length (by have := HL.out; omega), make_a m (by have := HL.out; omega), ?_⟩
        intro b1 b2 b3 wd h3
        have hFV := (new3_fvo h3 HAA.out (by have := HL.out; omega) (by have := HL.out; omega)).low (B' := wr.heap.size) (by first | exact Nat.le_refl _ | simp [World.drew])
        have hMD : Mods [] wr wd := Mods.trans (by repeat (first | exact Mods.refl _ _ | refine Mods.alloc ?_ _ | refine Mods.ext ?_ _ | refine Mods.drew ?_ | refine Mods.drewN ?_ _)) h3.mods
        have HMD := Lib.hid hMD
        have HFV := Lib.hid hFV
        clear h3 hMD hFV
        refine ⟨.agg #[.int .i64 0, .slice (some ⟨b1, 0, none⟩) p[k].code.length p[k].code.length, .slice (some ⟨b2, 0, none⟩) p[k].code.length p[k].code.length, .slice (some ⟨b3, 0, none⟩) m m], .slice (some ⟨wd.heap.size, 0, none⟩) 1 1, #[.int .i64 0, .slice (some ⟨b1, 0, none⟩) p[k].code.length p[k].code.length, .slice (some ⟨b2, 0, none⟩) p[k].code.length p[k].code.length, .slice (some ⟨b3, 0, none⟩) m m], 47, by go_simp, by go_simp, ?_⟩
        go_wp2_with (at_builtin; refine wpList_app_fp _ rfl _ _ rfl (.slice Av k cv) k (fvV fs) rfl ?_ (some ⟨wd.heap.size, 0, none⟩) 1 1 [.int .i64 0, .slice (some ⟨b1, 0, none⟩) p[k].code.length p[k].code.length, .slice (some ⟨b2, 0, none⟩) p[k].code.length p[k].code.length, .slice (some ⟨b3, 0, none⟩) m m] rfl ?_ ?_ ?_ ?_; (exact HO.out.1.mods (HMD.out.alloc _) (fun _ _ => by simp)); (exact fv_cellsAt (x := ⟨0, .slice (some ⟨b1, 0, none⟩) p[k].code.length p[k].code.length, .slice (some ⟨b2, 0, none⟩) p[k].code.length p[k].code.length, .slice (some ⟨b3, 0, none⟩) m m⟩) (alloc_new_at (by simp))); (exact one_fv (x := ⟨0, .slice (some ⟨b1, 0, none⟩) p[k].code.length p[k].code.length, .slice (some ⟨b2, 0, none⟩) p[k].code.length p[k].code.length, .slice (some ⟨b3, 0, none⟩) m m⟩) rfl rfl rfl); (have := HL.out; omega); (intro v4 wf ho4 hg4 ha4; obtain ⟨A4, q4, rfl, _, _⟩ := ho4.slice; have HO4 := Lib.hid ho4; have HG4 := Lib.hid hg4; have HA4 := Lib.hid ha4; have hobf : PBox w1.heap.size (.slice Av k cv) wf := PBox.grownFP hg4 (HOB.out.keep (HMD.out.alloc _) (by simp)) (fun b hb => (HO.out.1.mods (HMD.out.alloc _) (fun _ _ => by simp)).blockOf hb); have zo4 := hobf.cell; have zf4 := hobf.frozen; clear hobf ho4 hg4 ha4))
        go_roundw
        case rel =>
          go_light
          exact ⟨k + 1, by go_num, by omega, NRel.step (by simp [hlt]) HOB.out HO.out HFS.out HW.out (Nat.le_refl _) HFV.out HMD.out (by simp) HO4.out HG4.out HA4.out (by simp)⟩
        case measure => simp [intOf]; omega
      · have hke : k = p.length := by omega
        have HKE := Lib.hid hke
        have pr := PB1.out.keep HW.out (by simp)
        have fr := pr.frozen
        have cr := pr.cell
        have ce := (pr.set (.slice Av k cv)).cell
        have hset : Mods [w.heap.size + 1] wr (wr.setCell ⟨w.heap.size + 1, 0, none⟩ (.slice Av k cv)) := (Mods.refl _ _).setCell (by simp) _
        have hs1 : w.heap.size + 1 < w1.heap.size := PB1.out.lt
        have hoth := pr.other
        have HSET := Lib.hid hset
        have HOTH := Lib.hid hoth
        clear hke hset hoth pr
        go_wp2
        refine bodyPost_ret (v := .tuple #[.agg #[.slice Av k cv], .int .i64 0]) (by simp [results, Tryz.results5, go_sem, ce]) rfl ⟨_, rfl, ⟨fs, ?_, ?_⟩, ((HM1.out.trans HW.out).setCell (fun hq => by have hq' : w.heap.size + 1 < w.heap.size := hq; omega) _).ex⟩
        · have h1 := (HO.out.mods HSET.out fun b hb hs => by
            obtain rfl := List.mem_singleton.1 hs
            have := HO.out.2 _ hb
            omega).low (B' := w.heap.size) (by omega)
          have e : (p.map newFun).length = k := by rw [HKE.out]; simp
          rw [e]; exact h1
        · have h1 := (HFS.out.others HSET.out fun b hb => by
            obtain rfl := List.mem_singleton.1 hb
            exact HOTH.out).low (B' := w.heap.size) (by omega)
          have e : (p.map newFun).take k = p.map newFun := by rw [HKE.out, List.take_of_length_le (by simp)]
          rw [e] at h1
          exact h1
  · rw [newR_no hver]
    have HVER := Lib.hid hver
    clear hver
    go_enter Tryz.func5, Tryz.ntmps5
    go_wp2_with (go_at_call 18; (with_reducible refine (program_no _ p _ ?_ ?_ HVER.out).mono ?_); (exact HG.out.ext (by repeat (first | exact Mods.refl _ _ | refine Mods.alloc ?_ _ | refine Mods.ext ?_ _ | refine Mods.drew ?_ | refine Mods.drewN ?_ _))); (exact HV.out.ext funR_grows (by repeat (first | exact Mods.refl _ _ | refine Mods.alloc ?_ _ | refine Mods.ext ?_ _ | refine Mods.drew ?_ | refine Mods.drewN ?_ _))); rintro e w1 ⟨c1, rfl, hc1, x1, hx1⟩; have hc1d : (c1 != 0) = true := (by simp [hc1]); clear hc1; have hM0 := mods_of hx1; have hM1 : Mods [] w w1 := Mods.trans (by repeat (first | exact Mods.refl _ _ | refine Mods.alloc ?_ _)) hM0; have bb0 := hM0.cell (boxes2 w _ _ _).1; have pb1 := PBox.keep (boxes2 w _ _ _).2 hM0 (by simp); have bb1 := pb1.cell; have bf1 := pb1.frozen; have HM1 := Lib.hid hM1; have PB1 := Lib.hid pb1; clear hM0 hM1 hx1 pb1)
    have ce := (PB1.out.set (.slice none 0 0)).cell
    refine bodyPost_ret (v := .tuple #[.agg #[.slice none 0 0], .int .i64 900]) (by simp [results, Tryz.results5, go_sem, ce]) rfl ?_
    exact ⟨_, rfl, ProfO.nil, (HM1.out.setCell (fun hq => by have hq' : w.heap.size + 1 < w.heap.size := hq; omega) _).ex⟩

set_option maxHeartbeats 8000000 in
set_option maxRecDepth 100000 in
theorem rNew_calls (v : Value) (p : List Fun) (w : World) (hv : Funs w v p) : Calls Tryz.prog 6 #[.agg #[v]] w (ResPost w (newR p)) := by
  obtain ⟨A, c, rfl, k1, k2⟩ := hv.form
  have HV := Lib.hid hv
  clear hv
  by_cases hver : ∃ hss, Ver p hss
  · rw [newR_yes hver]
    have HPK := Lib.hid (show packs p = true from hver.elim fun _ h => h.packs)
    have HVER := Lib.hid hver
    clear hver
    go_enter Tryz.func6, Tryz.ntmps6
    go_wp2_with (go_at_call 19; (with_reducible refine (rVerify_yes _ p _ ?_ HVER.out).mono ?_); (exact HV.out.ext funR_grows (by repeat (first | exact Mods.refl _ _ | refine Mods.alloc ?_ _ | refine Mods.ext ?_ _ | refine Mods.drew ?_ | refine Mods.drewN ?_ _))); rintro e w1 ⟨rfl, x1, hx1⟩; have hM0 := mods_of hx1; have hM1 : Mods [] w w1 := Mods.trans (by repeat (first | exact Mods.refl _ _ | refine Mods.alloc ?_ _)) hM0; have bb0 := hM0.cell (boxes2 w _ _ _).1; have pb1 := PBox.keep (boxes2 w _ _ _).2 hM0 (by simp); have bb1 := pb1.cell; have bf1 := pb1.frozen; have HM1 := Lib.hid hM1; have PB1 := Lib.hid pb1; clear hM0 hM1 hx1 pb1)
    go_loopw [5] (fun i wr => ∃ k : Nat, i = .int .i64 k ∧ k ≤ p.length ∧ Hid (NRel w1 w1.heap.size (p.map newFun) k wr)) (fun i _ => p.length - (intOf i).toNat)
    case atStart =>
      exact ⟨0, rfl, Nat.zero_le _, .slice none 0 0, [], alloc_new_at rfl, ⟨Own.nil, fun b hb => by simp [Value.ownBlock] at hb⟩, FreshFs.nil, (by repeat (first | exact Mods.refl _ _ | refine Mods.alloc ?_ _ | refine Mods.ext ?_ _ | refine Mods.drew ?_ | refine Mods.drewN ?_ _))⟩
    case round =>
      obtain ⟨k, rfl, hk, HR⟩ := hrel
      obtain ⟨v, fs, hob0, ho, hf, hw⟩ := HR.out
      obtain ⟨Av, cv, rfl, _, _⟩ := ho.1.slice
      have bo := hob0.cell
      have fo := hob0.frozen
      have b0' := hw.cell bb0
      have HOB := Lib.hid hob0
      have HO := Lib.hid ho
      have HFS := Lib.hid hf
      have HW := Lib.hid hw
      clear hob0 ho hf HR
      by_cases hlt : k < p.length
      · obtain ⟨b, o, rfl, hx⟩ := HV.out.at_ (get_some hlt)
        obtain ⟨a1, a2, va, a3, ha⟩ := funR_grows.ext (HM1.out.trans hw) hx
        obtain ⟨D, ca, rfl, k7, k8⟩ := ha.form
        obtain ⟨q1, q2, q3, q4, q5⟩ := packs_args HPK.out (get_some hlt)
        obtain ⟨l1, l2⟩ := codeMay_lens q5
        obtain ⟨m, hA⟩ : ∃ m : Nat, p[k].args = (m : Int) := ⟨p[k].args.toNat, by omega⟩
        have i0 : (0 : Int) ≤ (k : Int) := by omega
        have i1 : (k : Int) < (p.length : Int) := by omega
        rw [hA] at a1
        have HAA := Lib.hid hA
        have HL := Lib.hid (show p[k].code.length * 8 ≤ 140737488355328 ∧ m * 24 ≤ 140737488355328 ∧ p.length * 80 ≤ 140737488355328 by obtain ⟨z1, _⟩ := packs_iff.1 HPK.out; omega)
        clear ha hw hx q1 q2 q3 q4 q5 l1 l2 hA
        go_wp2
        (refine wp_region_makes [0, 1, 2, 4, 6, 7, 8, 9, 10, 11] 3 5 12 28 27 28 28 29 30 45 36 37 (by kernel_rfl) (by kernel_rfl) (by kernel_rfl) (by kernel_rfl) (by simp) (by kernel_rfl) rfl (by decide) (by decide) (by decide) (by decide) ⟨_, rfl, rfl, rfl, rfl⟩ ⟨_, rfl, rfl, rfl, rfl⟩ ⟨_, rfl, rfl, rfl, rfl⟩ (by decide) (by decide) rfl rfl (by kernel_rfl) ?_; simp only [pick, List.length_cons, List.length_nil, List.getElem?_cons_succ, List.getElem?_cons_zero, List.drop_succ_cons, List.drop_zero, Nat.zero_add, Nat.reduceAdd])
        repeat (go_big_quiet_step (skip))
        refine wpQuiet_nil ?_
        refine ⟨_, _, _, _, _, _, _, _, _, make_i p[k].code.length (by have := HL.out; omega), make_i p[k].code.length (by have := HL.out; omega), make_a m (by have := HL.out; omega), ?_⟩
        intro b1 b2 b3 wd h3
        have hFV := (new3_fvo h3 HAA.out (by have := HL.out; omega) (by have := HL.out; omega)).low (B' := wr.heap.size) (by first | exact Nat.le_refl _ | simp [World.drew])
        have hMD : Mods [] wr wd := Mods.trans (by repeat (first | exact Mods.refl _ _ | refine Mods.alloc ?_ _ | refine Mods.ext ?_ _ | refine Mods.drew ?_ | refine Mods.drewN ?_ _)) h3.mods
        have HMD := Lib.hid hMD
        have HFV := Lib.hid hFV
        clear h3 hMD hFV
        refine ⟨.agg #[.int .i64 0, .slice (some ⟨b1, 0, none⟩) p[k].code.length p[k].code.length, .slice (some ⟨b2, 0, none⟩) p[k].code.length p[k].code.length, .slice (some ⟨b3, 0, none⟩) m m], .slice (some ⟨wd.heap.size, 0, none⟩) 1 1, #[.int .i64 0, .slice (some ⟨b1, 0, none⟩) p[k].code.length p[k].code.length, .slice (some ⟨b2, 0, none⟩) p[k].code.length p[k].code.length, .slice (some ⟨b3, 0, none⟩) m m], 47, by go_simp, by go_simp, ?_⟩
        go_wp2_with (at_builtin; refine wpList_app_fp _ rfl _ _ rfl (.slice Av k cv) k (fvV fs) rfl ?_ (some ⟨wd.heap.size, 0, none⟩) 1 1 [.int .i64 0, .slice (some ⟨b1, 0, none⟩) p[k].code.length p[k].code.length, .slice (some ⟨b2, 0, none⟩) p[k].code.length p[k].code.length, .slice (some ⟨b3, 0, none⟩) m m] rfl ?_ ?_ ?_ ?_; (exact HO.out.1.mods (HMD.out.alloc _) (fun _ _ => by simp)); (exact fv_cellsAt (x := ⟨0, .slice (some ⟨b1, 0, none⟩) p[k].code.length p[k].code.length, .slice (some ⟨b2, 0, none⟩) p[k].code.length p[k].code.length, .slice (some ⟨b3, 0, none⟩) m m⟩) (alloc_new_at (by simp))); (exact one_fv (x := ⟨0, .slice (some ⟨b1, 0, none⟩) p[k].code.length p[k].code.length, .slice (some ⟨b2, 0, none⟩) p[k].code.length p[k].code.length, .slice (some ⟨b3, 0, none⟩) m m⟩) rfl rfl rfl); (have := HL.out; omega); (intro v4 wf ho4 hg4 ha4; obtain ⟨A4, q4, rfl, _, _⟩ := ho4.slice; have HO4 := Lib.hid ho4; have HG4 := Lib.hid hg4; have HA4 := Lib.hid ha4; have hobf : PBox w1.heap.size (.slice Av k cv) wf := PBox.grownFP hg4 (HOB.out.keep (HMD.out.alloc _) (by simp)) (fun b hb => (HO.out.1.mods (HMD.out.alloc _) (fun _ _ => by simp)).blockOf hb); have zo4 := hobf.cell; have zf4 := hobf.frozen; clear hobf ho4 hg4 ha4))
        go_roundw
        case rel =>
          go_light
          exact ⟨k + 1, by go_num, by omega, NRel.step (by simp [hlt]) HOB.out HO.out HFS.out HW.out (Nat.le_refl _) HFV.out HMD.out (by simp) HO4.out HG4.out HA4.out (by simp)⟩
        case measure => simp [intOf]; omega
      · have hke : k = p.length := by omega
        have HKE := Lib.hid hke
        have pr := PB1.out.keep HW.out (by simp)
        have fr := pr.frozen
        have cr := pr.cell
        have ce := (pr.set (.slice Av k cv)).cell
        have hset : Mods [w.heap.size + 1] wr (wr.setCell ⟨w.heap.size + 1, 0, none⟩ (.slice Av k cv)) := (Mods.refl _ _).setCell (by simp) _
        have hs1 : w.heap.size + 1 < w1.heap.size := PB1.out.lt
        have hoth := pr.other
        have HSET := Lib.hid hset
        have HOTH := Lib.hid hoth
        clear hke hset hoth pr
        go_wp2
        refine bodyPost_ret (v := .tuple #[.agg #[.slice Av k cv], .int .i64 0]) (by simp [results, Tryz.results6, go_sem, ce]) rfl ⟨_, rfl, ⟨fs, ?_, ?_⟩, ((HM1.out.trans HW.out).setCell (fun hq => by have hq' : w.heap.size + 1 < w.heap.size := hq; omega) _).ex⟩
        · have h1 := (HO.out.mods HSET.out fun b hb hs => by
            obtain rfl := List.mem_singleton.1 hs
            have := HO.out.2 _ hb
            omega).low (B' := w.heap.size) (by omega)
          have e : (p.map newFun).length = k := by rw [HKE.out]; simp
          rw [e]; exact h1
        · have h1 := (HFS.out.others HSET.out fun b hb => by
            obtain rfl := List.mem_singleton.1 hb
            exact HOTH.out).low (B' := w.heap.size) (by omega)
          have e : (p.map newFun).take k = p.map newFun := by rw [HKE.out, List.take_of_length_le (by simp)]
          rw [e] at h1
          exact h1
  · rw [newR_no hver]
    have HVER := Lib.hid hver
    clear hver
    go_enter Tryz.func6, Tryz.ntmps6
    go_wp2_with (go_at_call 19; (with_reducible refine (rVerify_no _ p _ ?_ HVER.out).mono ?_); (exact HV.out.ext funR_grows (by repeat (first | exact Mods.refl _ _ | refine Mods.alloc ?_ _ | refine Mods.ext ?_ _ | refine Mods.drew ?_ | refine Mods.drewN ?_ _))); rintro e w1 ⟨c1, rfl, hc1, x1, hx1⟩; have hc1d : (c1 != 0) = true := (by simp [hc1]); clear hc1; have hM0 := mods_of hx1; have hM1 : Mods [] w w1 := Mods.trans (by repeat (first | exact Mods.refl _ _ | refine Mods.alloc ?_ _)) hM0; have bb0 := hM0.cell (boxes2 w _ _ _).1; have pb1 := PBox.keep (boxes2 w _ _ _).2 hM0 (by simp); have bb1 := pb1.cell; have bf1 := pb1.frozen; have HM1 := Lib.hid hM1; have PB1 := Lib.hid pb1; clear hM0 hM1 hx1 pb1)
    have ce := (PB1.out.set (.slice none 0 0)).cell
    refine bodyPost_ret (v := .tuple #[.agg #[.slice none 0 0], .int .i64 900]) (by simp [results, Tryz.results6, go_sem, ce]) rfl ?_
    exact ⟨_, rfl, ProfO.nil, (HM1.out.setCell (fun hq => by have hq' : w.heap.size + 1 < w.heap.size := hq; omega) _).ex⟩

end Go.Proofs.YtjpgcokdlopkaaaGreatDoor


namespace Go.Proofs.YtjpgcokdlopkaaaGreatDoor
open Go.RowKit

set_option maxHeartbeats 8000000 in
set_option maxRecDepth 100000 in
theorem branched_calls (v u : Value) (p : List Fun) (rs : List FunP) (fn : Int) (pc : Int) (j : Bool) (w : World) (hG : EType w) (hv : Funs w v p) (hu : Profs w u rs) : Calls Tryz.prog 9 #[.agg #[v], .agg #[u], .int .i64 fn, .int .i64 pc, .bool j] w (ResPost w (branchedR p rs fn pc j)) := by
  obtain ⟨A, c, rfl, k1, k2⟩ := hv.form
  obtain ⟨B, d, rfl, k3, k4⟩ := hu.form
  have HV := Lib.hid hv
  have HU := Lib.hid hu
  have HG := Lib.hid hG
  clear hv hu hG
  cases h1 : profMay p rs with
  | false =>
    have HN := Lib.hid (branchedR_no (p := p) (rs := rs) (fn := fn) (pc := pc) (j := j) (fun ⟨n', k', f', x', i', h'⟩ => by have := profMay_true h'.may; rw [h1] at this; cases this))
    go_enter Tryz.func9, Tryz.ntmps9
    go_wp2_with (first | (go_at_call 13; (with_reducible refine (profMay_is _ _ p rs _ _ h1 ?_ ?_ ?_).mono ?_); (exact HG.out.ext (by repeat (first | exact Mods.refl _ _ | refine Mods.alloc ?_ _ | refine Mods.ext ?_ _ | refine Mods.drew ?_ | refine Mods.drewN ?_ _))); (exact HV.out.ext funR_grows (by repeat (first | exact Mods.refl _ _ | refine Mods.alloc ?_ _ | refine Mods.ext ?_ _ | refine Mods.drew ?_ | refine Mods.drewN ?_ _))); (exact HU.out.ext fpR_grows (by repeat (first | exact Mods.refl _ _ | refine Mods.alloc ?_ _ | refine Mods.ext ?_ _ | refine Mods.drew ?_ | refine Mods.drewN ?_ _))); rintro e w1 ⟨rfl, x1, hx1⟩; have hM0 := mods_of hx1; have hM1 : Mods [] w w1 := Mods.trans (by repeat (first | exact Mods.refl _ _ | refine Mods.alloc ?_ _)) hM0; have bb0 := hM0.cell (boxes3 w _ _ _ _).1; have pb1 := PBox.keep (boxes3 w _ _ _ _).2.1 hM0 (by simp); have pb2 := PBox.keep (boxes3 w _ _ _ _).2.2 hM0 (by simp); have bb1 := pb1.cell; have bb2 := pb2.cell; have bf2 := pb2.frozen; have HM1 := Lib.hid hM1; have PB1 := Lib.hid pb1; have PB2 := Lib.hid pb2; clear hM0 hM1 hx1 pb1 pb2))
    have ce := (PB2.out.set (.slice none 0 0)).cell
    refine bodyPost_ret (v := .tuple #[.agg #[.slice none 0 0], .int .i64 900]) (by simp [results, Tryz.results9, go_sem, ce]) rfl ?_
    rw [HN.out]
    exact ⟨_, rfl, ProfO.nil, (HM1.out.setCell (fun hq => by have hq' : w.heap.size + 1 + 1 < w.heap.size := hq; omega) _).ex⟩
  | true =>
  have HPM := Lib.hid (profMay_iff.1 h1)
  rcases dec_cases (fn < 0) with ⟨h2, h2d⟩ | ⟨h2, h2d⟩
  · have HN := Lib.hid (branchedR_no (p := p) (rs := rs) (fn := fn) (pc := pc) (j := j) (fun ⟨n', k', f', x', i', h'⟩ => by have := h'.fnE; omega))
    go_enter Tryz.func9, Tryz.ntmps9
    go_wp2_with (first | (go_at_call 13; (with_reducible refine (profMay_is _ _ p rs _ _ h1 ?_ ?_ ?_).mono ?_); (exact HG.out.ext (by repeat (first | exact Mods.refl _ _ | refine Mods.alloc ?_ _ | refine Mods.ext ?_ _ | refine Mods.drew ?_ | refine Mods.drewN ?_ _))); (exact HV.out.ext funR_grows (by repeat (first | exact Mods.refl _ _ | refine Mods.alloc ?_ _ | refine Mods.ext ?_ _ | refine Mods.drew ?_ | refine Mods.drewN ?_ _))); (exact HU.out.ext fpR_grows (by repeat (first | exact Mods.refl _ _ | refine Mods.alloc ?_ _ | refine Mods.ext ?_ _ | refine Mods.drew ?_ | refine Mods.drewN ?_ _))); rintro e w1 ⟨rfl, x1, hx1⟩; have hM0 := mods_of hx1; have hM1 : Mods [] w w1 := Mods.trans (by repeat (first | exact Mods.refl _ _ | refine Mods.alloc ?_ _)) hM0; have bb0 := hM0.cell (boxes3 w _ _ _ _).1; have pb1 := PBox.keep (boxes3 w _ _ _ _).2.1 hM0 (by simp); have pb2 := PBox.keep (boxes3 w _ _ _ _).2.2 hM0 (by simp); have bb1 := pb1.cell; have bb2 := pb2.cell; have bf2 := pb2.frozen; have HM1 := Lib.hid hM1; have PB1 := Lib.hid pb1; have PB2 := Lib.hid pb2; clear hM0 hM1 hx1 pb1 pb2))
    have ce := (PB2.out.set (.slice none 0 0)).cell
    refine bodyPost_ret (v := .tuple #[.agg #[.slice none 0 0], .int .i64 900]) (by simp [results, Tryz.results9, go_sem, ce]) rfl ?_
    rw [HN.out]
    exact ⟨_, rfl, ProfO.nil, (HM1.out.setCell (fun hq => by have hq' : w.heap.size + 1 + 1 < w.heap.size := hq; omega) _).ex⟩
  obtain ⟨n, rfl⟩ : ∃ n : Nat, fn = n := ⟨fn.toNat, by omega⟩
  by_cases h3 : p.length ≤ n
  · have h3d : decide ((p.length : Int) ≤ (n : Int)) = true := by simp; omega
    have HN := Lib.hid (branchedR_no (p := p) (rs := rs) (fn := (n : Int)) (pc := pc) (j := j) (fun ⟨n', k', f', x', i', h'⟩ => by have := h'.fnE; have := (List.getElem?_eq_some_iff.1 h'.fE).1; omega))
    go_enter Tryz.func9, Tryz.ntmps9
    go_wp2_with (first | (go_at_call 13; (with_reducible refine (profMay_is _ _ p rs _ _ h1 ?_ ?_ ?_).mono ?_); (exact HG.out.ext (by repeat (first | exact Mods.refl _ _ | refine Mods.alloc ?_ _ | refine Mods.ext ?_ _ | refine Mods.drew ?_ | refine Mods.drewN ?_ _))); (exact HV.out.ext funR_grows (by repeat (first | exact Mods.refl _ _ | refine Mods.alloc ?_ _ | refine Mods.ext ?_ _ | refine Mods.drew ?_ | refine Mods.drewN ?_ _))); (exact HU.out.ext fpR_grows (by repeat (first | exact Mods.refl _ _ | refine Mods.alloc ?_ _ | refine Mods.ext ?_ _ | refine Mods.drew ?_ | refine Mods.drewN ?_ _))); rintro e w1 ⟨rfl, x1, hx1⟩; have hM0 := mods_of hx1; have hM1 : Mods [] w w1 := Mods.trans (by repeat (first | exact Mods.refl _ _ | refine Mods.alloc ?_ _)) hM0; have bb0 := hM0.cell (boxes3 w _ _ _ _).1; have pb1 := PBox.keep (boxes3 w _ _ _ _).2.1 hM0 (by simp); have pb2 := PBox.keep (boxes3 w _ _ _ _).2.2 hM0 (by simp); have bb1 := pb1.cell; have bb2 := pb2.cell; have bf2 := pb2.frozen; have HM1 := Lib.hid hM1; have PB1 := Lib.hid pb1; have PB2 := Lib.hid pb2; clear hM0 hM1 hx1 pb1 pb2))
    have ce := (PB2.out.set (.slice none 0 0)).cell
    refine bodyPost_ret (v := .tuple #[.agg #[.slice none 0 0], .int .i64 900]) (by simp [results, Tryz.results9, go_sem, ce]) rfl ?_
    rw [HN.out]
    exact ⟨_, rfl, ProfO.nil, (HM1.out.setCell (fun hq => by have hq' : w.heap.size + 1 + 1 < w.heap.size := hq; omega) _).ex⟩
  have hlt : n < p.length := by omega
  have h3d : decide ((p.length : Int) ≤ (n : Int)) = false := by simp; omega
  have i0 : (0 : Int) ≤ (n : Int) := by omega
  have i1 : (n : Int) < (p.length : Int) := by omega
  obtain ⟨f, hf⟩ : ∃ f, p[n]? = some f := ⟨_, get_some hlt⟩
  obtain ⟨x, hx⟩ : ∃ x, rs[n]? = some x := ⟨_, get_some (by rw [HPM.out.len]; exact hlt)⟩
  obtain ⟨b, o, rfl, hfr⟩ := HV.out.at_ hf
  obtain ⟨_, _, fv, f3, hcode⟩ := hfr
  obtain ⟨A5, c5, rfl, k7, k8⟩ := hcode.form
  have F3 := Lib.hid f3
  have HCODE := Lib.hid hcode
  have HFE := Lib.hid hf
  clear f3 hcode
  rcases dec_cases (pc < 0) with ⟨h4, h4d⟩ | ⟨h4, h4d⟩
  · have HN := Lib.hid (branchedR_no (p := p) (rs := rs) (fn := (n : Int)) (pc := pc) (j := j) (fun ⟨n', k', f', x', i', h'⟩ => by have := h'.pcE; omega))
    go_enter Tryz.func9, Tryz.ntmps9
    go_wp2_with (first | (go_at_call 13; (with_reducible refine (profMay_is _ _ p rs _ _ h1 ?_ ?_ ?_).mono ?_); (exact HG.out.ext (by repeat (first | exact Mods.refl _ _ | refine Mods.alloc ?_ _ | refine Mods.ext ?_ _ | refine Mods.drew ?_ | refine Mods.drewN ?_ _))); (exact HV.out.ext funR_grows (by repeat (first | exact Mods.refl _ _ | refine Mods.alloc ?_ _ | refine Mods.ext ?_ _ | refine Mods.drew ?_ | refine Mods.drewN ?_ _))); (exact HU.out.ext fpR_grows (by repeat (first | exact Mods.refl _ _ | refine Mods.alloc ?_ _ | refine Mods.ext ?_ _ | refine Mods.drew ?_ | refine Mods.drewN ?_ _))); rintro e w1 ⟨rfl, x1, hx1⟩; have hM0 := mods_of hx1; have hM1 : Mods [] w w1 := Mods.trans (by repeat (first | exact Mods.refl _ _ | refine Mods.alloc ?_ _)) hM0; have bb0 := hM0.cell (boxes3 w _ _ _ _).1; have pb1 := PBox.keep (boxes3 w _ _ _ _).2.1 hM0 (by simp); have pb2 := PBox.keep (boxes3 w _ _ _ _).2.2 hM0 (by simp); have bb1 := pb1.cell; have bb2 := pb2.cell; have bf2 := pb2.frozen; have HM1 := Lib.hid hM1; have PB1 := Lib.hid pb1; have PB2 := Lib.hid pb2; clear hM0 hM1 hx1 pb1 pb2))
    have ce := (PB2.out.set (.slice none 0 0)).cell
    refine bodyPost_ret (v := .tuple #[.agg #[.slice none 0 0], .int .i64 900]) (by simp [results, Tryz.results9, go_sem, ce]) rfl ?_
    rw [HN.out]
    exact ⟨_, rfl, ProfO.nil, (HM1.out.setCell (fun hq => by have hq' : w.heap.size + 1 + 1 < w.heap.size := hq; omega) _).ex⟩
  obtain ⟨k, rfl⟩ : ∃ k : Nat, pc = k := ⟨pc.toNat, by omega⟩
  by_cases h5 : f.code.length ≤ k
  · have h5d : decide ((f.code.length : Int) ≤ (k : Int)) = true := by simp; omega
    clear hf
    have HN := Lib.hid (branchedR_no (p := p) (rs := rs) (fn := (n : Int)) (pc := (k : Int)) (j := j) (fun ⟨n', k', f', x', i', h'⟩ => by have e1 := h'.fnE; have e2 : n' = n := (by omega); subst e2; have e3 := h'.fE; rw [HFE.out] at e3; have e4 := Option.some.inj e3; subst e4; have := h'.pcE; have := (List.getElem?_eq_some_iff.1 h'.iE).1; omega))
    go_enter Tryz.func9, Tryz.ntmps9
    go_wp2_with (first | (go_at_call 13; (with_reducible refine (profMay_is _ _ p rs _ _ h1 ?_ ?_ ?_).mono ?_); (exact HG.out.ext (by repeat (first | exact Mods.refl _ _ | refine Mods.alloc ?_ _ | refine Mods.ext ?_ _ | refine Mods.drew ?_ | refine Mods.drewN ?_ _))); (exact HV.out.ext funR_grows (by repeat (first | exact Mods.refl _ _ | refine Mods.alloc ?_ _ | refine Mods.ext ?_ _ | refine Mods.drew ?_ | refine Mods.drewN ?_ _))); (exact HU.out.ext fpR_grows (by repeat (first | exact Mods.refl _ _ | refine Mods.alloc ?_ _ | refine Mods.ext ?_ _ | refine Mods.drew ?_ | refine Mods.drewN ?_ _))); rintro e w1 ⟨rfl, x1, hx1⟩; have hM0 := mods_of hx1; have hM1 : Mods [] w w1 := Mods.trans (by repeat (first | exact Mods.refl _ _ | refine Mods.alloc ?_ _)) hM0; have bb0 := hM0.cell (boxes3 w _ _ _ _).1; have pb1 := PBox.keep (boxes3 w _ _ _ _).2.1 hM0 (by simp); have pb2 := PBox.keep (boxes3 w _ _ _ _).2.2 hM0 (by simp); have bb1 := pb1.cell; have bb2 := pb2.cell; have bf2 := pb2.frozen; have HM1 := Lib.hid hM1; have PB1 := Lib.hid pb1; have PB2 := Lib.hid pb2; clear hM0 hM1 hx1 pb1 pb2; have g3' := HM1.out.cell F3.out))
    have ce := (PB2.out.set (.slice none 0 0)).cell
    refine bodyPost_ret (v := .tuple #[.agg #[.slice none 0 0], .int .i64 900]) (by simp [results, Tryz.results9, go_sem, ce]) rfl ?_
    rw [HN.out]
    exact ⟨_, rfl, ProfO.nil, (HM1.out.setCell (fun hq => by have hq' : w.heap.size + 1 + 1 < w.heap.size := hq; omega) _).ex⟩
  have hkl : k < f.code.length := by omega
  have h5d : decide ((f.code.length : Int) ≤ (k : Int)) = false := by simp; omega
  have j0 : (0 : Int) ≤ (k : Int) := by omega
  have j1 : (k : Int) < (f.code.length : Int) := by omega
  obtain ⟨i, hi⟩ : ∃ i, f.code[k]? = some i := ⟨_, get_some hkl⟩
  obtain ⟨bi, oi, rfl, hir⟩ := HCODE.out.at_ hi
  obtain ⟨u1, _⟩ := hir
  have U1 := Lib.hid u1
  have HIE := Lib.hid hi
  clear u1
  by_cases h6 : i.kind = 13
  · have h6d : (i.kind != 13) = false := by simp [h6]
    have hok : BranchedOk p rs n k n k f x i := ⟨HPM.out, rfl, rfl, hf, hx, hi, h6⟩
    have HR := Lib.hid (branchedR_yes (j := j) hok)
    obtain ⟨a1, a2, a3, a4, a5, a6, a7⟩ := HPM.out.at hf hx
    have HA2 := Lib.hid a2
    have HA3 := Lib.hid a3
    have HA6 := Lib.hid a6
    have HA7 := Lib.hid a7
    have HX := Lib.hid hx
    have hj2 : (n : Int) < (rs.length : Int) := by have := HPM.out.len; omega
    clear hok a1 a2 a3 a4 a5 a6 a7 hx hf hi h6
    go_enter Tryz.func9, Tryz.ntmps9
    go_wp2_with (first
      | (go_at_call 13; (with_reducible refine (profMay_is _ _ p rs _ _ h1 ?_ ?_ ?_).mono ?_); (exact HG.out.ext (by repeat (first | exact Mods.refl _ _ | refine Mods.alloc ?_ _ | refine Mods.ext ?_ _ | refine Mods.drew ?_ | refine Mods.drewN ?_ _))); (exact HV.out.ext funR_grows (by repeat (first | exact Mods.refl _ _ | refine Mods.alloc ?_ _ | refine Mods.ext ?_ _ | refine Mods.drew ?_ | refine Mods.drewN ?_ _))); (exact HU.out.ext fpR_grows (by repeat (first | exact Mods.refl _ _ | refine Mods.alloc ?_ _ | refine Mods.ext ?_ _ | refine Mods.drew ?_ | refine Mods.drewN ?_ _))); rintro e w1 ⟨rfl, x1, hx1⟩; have hM0 := mods_of hx1; have hM1 : Mods [] w w1 := Mods.trans (by repeat (first | exact Mods.refl _ _ | refine Mods.alloc ?_ _)) hM0; have bb0 := hM0.cell (boxes3 w _ _ _ _).1; have pb1 := PBox.keep (boxes3 w _ _ _ _).2.1 hM0 (by simp); have pb2 := PBox.keep (boxes3 w _ _ _ _).2.2 hM0 (by simp); have bb1 := pb1.cell; have bb2 := pb2.cell; have bf2 := pb2.frozen; have HM1 := Lib.hid hM1; have PB1 := Lib.hid pb1; have PB2 := Lib.hid pb2; clear hM0 hM1 hx1 pb1 pb2; have g3' := HM1.out.cell F3.out; have g4' := HM1.out.cell U1.out; have PB2l := Lib.hid PB2.out.lt)
      | (go_at_call 21; (with_reducible refine (profCopy_calls _ _ (.slice B rs.length d) rs _ ?_ ?_ HPM.out.fits).mono ?_); (assumption); (exact HU.out.ext fpR_grows HM1.out); rintro e w3 ⟨v3, rfl, ho3, x3, hx3⟩; have hM3 := mods_of hx3; obtain ⟨fs3, hp3⟩ := ho3; obtain ⟨g3, o3, q3, rfl, _, _, _, _⟩ := hp3.1.1.form (by omega); have pb2 := PB2.out.keep hM3 (by simp); have PB2 := Lib.hid pb2; have HM3 := Lib.hid hM3; have HP3 := Lib.hid (show ProfF w1.heap.size w3 (.slice (some ⟨g3, o3, none⟩) rs.length q3) fs3 rs from hp3); clear hx3 hM3 pb2 hp3)
      | (go_at_call 26; (with_reducible refine (branch_calls w1.heap.size g3 o3 q3 n k j fs3 rs x w1 _ ?_ HX.out ?_ (Nat.le_refl _) ?_ ?_ HA6.out HA7.out).mono ?_); (exact HP3.out.mods (S := []) (by repeat (first | exact Mods.refl _ _ | refine Mods.alloc ?_ _ | refine Mods.ext ?_ _ | refine Mods.drew ?_ | refine Mods.drewN ?_ _)) (by simp)); (exact HM3.out.trans (by repeat (first | exact Mods.refl _ _ | refine Mods.alloc ?_ _ | refine Mods.ext ?_ _ | refine Mods.drew ?_ | refine Mods.drewN ?_ _))); (have := HA2.out; omega); (have := HA3.out; omega); rintro e w4 ⟨rfl, hp4, hm4, hb4⟩; have po := hb4 _ _ (show PBox w3.heap.size (.slice (some ⟨g3, o3, none⟩) rs.length q3) (w3.alloc (Obj.cells #[.slice (some ⟨g3, o3, none⟩) rs.length q3] 27)) from heap_alloc_new _ _); have pr := hb4 _ _ (PB2.out.keep (S := []) (by repeat (first | exact Mods.refl _ _ | refine Mods.alloc ?_ _ | refine Mods.ext ?_ _ | refine Mods.drew ?_ | refine Mods.drewN ?_ _)) (by simp)); have co := po.cell; have cr := pr.cell; have fr := pr.frozen; have PR := Lib.hid pr; have HP4 := Lib.hid hp4; have HM4 := Lib.hid hm4; clear hp4 hm4 hb4 po pr))
    have ce := (PR.out.set (.slice (some ⟨g3, o3, none⟩) rs.length q3)).cell
    have hs2 := HM1.out.size
    have hr2 : w.heap.size + 1 + 1 < w1.heap.size := PB2l.out
    refine bodyPost_ret (v := .tuple #[.agg #[.slice (some ⟨g3, o3, none⟩) rs.length q3], .int .i64 0]) (by simp [results, Tryz.results9, go_sem, ce]) rfl ?_
    rw [HR.out]
    obtain ⟨fs4, hp4⟩ := HP4.out
    have hset : Mods [w.heap.size + 1 + 1] w4 (w4.setCell ⟨w.heap.size + 1 + 1, 0, none⟩ (.slice (some ⟨g3, o3, none⟩) rs.length q3)) := (Mods.refl _ _).setCell (fun _ => by simp) _
    exact ⟨_, rfl, ((hp4.mods hset (fun b hb => by obtain rfl := List.mem_singleton.1 hb; exact hr2)).o).low hs2, ((HM1.out.trans HM4.out).setCell (fun hq => by have hq' : w.heap.size + 1 + 1 < w.heap.size := hq; omega) _).ex⟩
  · have h6d : (i.kind != 13) = true := by simp [h6]
    have H6 := Lib.hid h6
    clear h6 hf hi
    have HN := Lib.hid (branchedR_no (p := p) (rs := rs) (fn := (n : Int)) (pc := (k : Int)) (j := j) (fun ⟨n', k', f', x', i', h'⟩ => by have e1 := h'.fnE; have e2 : n' = n := (by omega); subst e2; have e3 := h'.fE; rw [HFE.out] at e3; have e4 := Option.some.inj e3; subst e4; have e5 := h'.pcE; have e6 : k' = k := (by omega); subst e6; have e7 := h'.iE; rw [HIE.out] at e7; rw [Option.some.inj e7] at H6; exact H6.out h'.zero))
    go_enter Tryz.func9, Tryz.ntmps9
    go_wp2_with (first | (go_at_call 13; (with_reducible refine (profMay_is _ _ p rs _ _ h1 ?_ ?_ ?_).mono ?_); (exact HG.out.ext (by repeat (first | exact Mods.refl _ _ | refine Mods.alloc ?_ _ | refine Mods.ext ?_ _ | refine Mods.drew ?_ | refine Mods.drewN ?_ _))); (exact HV.out.ext funR_grows (by repeat (first | exact Mods.refl _ _ | refine Mods.alloc ?_ _ | refine Mods.ext ?_ _ | refine Mods.drew ?_ | refine Mods.drewN ?_ _))); (exact HU.out.ext fpR_grows (by repeat (first | exact Mods.refl _ _ | refine Mods.alloc ?_ _ | refine Mods.ext ?_ _ | refine Mods.drew ?_ | refine Mods.drewN ?_ _))); rintro e w1 ⟨rfl, x1, hx1⟩; have hM0 := mods_of hx1; have hM1 : Mods [] w w1 := Mods.trans (by repeat (first | exact Mods.refl _ _ | refine Mods.alloc ?_ _)) hM0; have bb0 := hM0.cell (boxes3 w _ _ _ _).1; have pb1 := PBox.keep (boxes3 w _ _ _ _).2.1 hM0 (by simp); have pb2 := PBox.keep (boxes3 w _ _ _ _).2.2 hM0 (by simp); have bb1 := pb1.cell; have bb2 := pb2.cell; have bf2 := pb2.frozen; have HM1 := Lib.hid hM1; have PB1 := Lib.hid pb1; have PB2 := Lib.hid pb2; clear hM0 hM1 hx1 pb1 pb2; have g3' := HM1.out.cell F3.out; have g4' := HM1.out.cell U1.out; have PB2l := Lib.hid PB2.out.lt))
    have ce := (PB2.out.set (.slice none 0 0)).cell
    refine bodyPost_ret (v := .tuple #[.agg #[.slice none 0 0], .int .i64 900]) (by simp [results, Tryz.results9, go_sem, ce]) rfl ?_
    rw [HN.out]
    exact ⟨_, rfl, ProfO.nil, (HM1.out.setCell (fun hq => by have hq' : w.heap.size + 1 + 1 < w.heap.size := hq; omega) _).ex⟩
end Go.Proofs.YtjpgcokdlopkaaaGreatDoor
