/- Lemmas for a claim of the seat YtjpgcokdlopkaaaGreatDoor. Written in part by programs of the claim's repo. By an AI agent. -/
import Derived.Test.YtjpgcokdlopkaaaGreatDoorG16
import Derived.Test.YtjpgcokdlopkaaaGreatDoorG21
import Derived.Test.YtjpgcokdlopkaaaGreatDoorG17
import Derived.Test.YtjpgcokdlopkaaaGreatDoorG18
import Derived.Test.YtjpgcokdlopkaaaGreatDoorG20
import Derived.BigRegion

namespace Go.Proofs.YtjpgcokdlopkaaaGreatDoor
open Go.RowKit

set_option maxHeartbeats 8000000 in
set_option maxRecDepth 100000 in
theorem rBranched_calls (v u : Value) (p : List Fun) (rs : List FunP) (fn : Int) (pc : Int) (j : Bool) (w : World) (hv : Funs w v p) (hu : Profs w u rs) : Calls Tryz.prog 10 #[.agg #[v], .agg #[u], .int .i64 fn, .int .i64 pc, .bool j] w (ResPost w (branchedR p rs fn pc j)) := by
  obtain ⟨A, c, rfl, k1, k2⟩ := hv.form
  obtain ⟨B, d, rfl, k3, k4⟩ := hu.form
  have HV := Lib.hid hv
  have HU := Lib.hid hu
  clear hv hu
  cases h1 : profMay p rs with
  | false =>
    have HN := Lib.hid (branchedR_no (p := p) (rs := rs) (fn := fn) (pc := pc) (j := j) (fun ⟨n', k', f', x', i', h'⟩ => by have := profMay_true h'.may; rw [h1] at this; cases this))
    go_enter Tryz.func10, Tryz.ntmps10
    go_wp2_with (first | (go_at_call 14; (with_reducible refine (rProfMay_is _ _ p rs _ _ h1 ?_ ?_).mono ?_); (exact HV.out.ext funR_grows (by repeat (first | exact Mods.refl _ _ | refine Mods.alloc ?_ _ | refine Mods.ext ?_ _ | refine Mods.drew ?_ | refine Mods.drewN ?_ _))); (exact HU.out.ext fpR_grows (by repeat (first | exact Mods.refl _ _ | refine Mods.alloc ?_ _ | refine Mods.ext ?_ _ | refine Mods.drew ?_ | refine Mods.drewN ?_ _))); rintro e w1 ⟨rfl, x1, hx1⟩; have hM0 := mods_of hx1; have hM1 : Mods [] w w1 := Mods.trans (by repeat (first | exact Mods.refl _ _ | refine Mods.alloc ?_ _)) hM0; have bb0 := hM0.cell (boxes3 w _ _ _ _).1; have pb1 := PBox.keep (boxes3 w _ _ _ _).2.1 hM0 (by simp); have pb2 := PBox.keep (boxes3 w _ _ _ _).2.2 hM0 (by simp); have bb1 := pb1.cell; have bb2 := pb2.cell; have bf2 := pb2.frozen; have HM1 := Lib.hid hM1; have PB1 := Lib.hid pb1; have PB2 := Lib.hid pb2; clear hM0 hM1 hx1 pb1 pb2))
    have ce := (PB2.out.set (.slice none 0 0)).cell
    refine bodyPost_ret (v := .tuple #[.agg #[.slice none 0 0], .int .i64 900]) (by simp [results, Tryz.results10, go_sem, ce]) rfl ?_
    rw [HN.out]
    exact ⟨_, rfl, ProfO.nil, (HM1.out.setCell (fun hq => by have hq' : w.heap.size + 1 + 1 < w.heap.size := hq; omega) _).ex⟩
  | true =>
  have HPM := Lib.hid (profMay_iff.1 h1)
  rcases dec_cases (fn < 0) with ⟨h2, h2d⟩ | ⟨h2, h2d⟩
  · have HN := Lib.hid (branchedR_no (p := p) (rs := rs) (fn := fn) (pc := pc) (j := j) (fun ⟨n', k', f', x', i', h'⟩ => by have := h'.fnE; omega))
    go_enter Tryz.func10, Tryz.ntmps10
    go_wp2_with (first | (go_at_call 14; (with_reducible refine (rProfMay_is _ _ p rs _ _ h1 ?_ ?_).mono ?_); (exact HV.out.ext funR_grows (by repeat (first | exact Mods.refl _ _ | refine Mods.alloc ?_ _ | refine Mods.ext ?_ _ | refine Mods.drew ?_ | refine Mods.drewN ?_ _))); (exact HU.out.ext fpR_grows (by repeat (first | exact Mods.refl _ _ | refine Mods.alloc ?_ _ | refine Mods.ext ?_ _ | refine Mods.drew ?_ | refine Mods.drewN ?_ _))); rintro e w1 ⟨rfl, x1, hx1⟩; have hM0 := mods_of hx1; have hM1 : Mods [] w w1 := Mods.trans (by repeat (first | exact Mods.refl _ _ | refine Mods.alloc ?_ _)) hM0; have bb0 := hM0.cell (boxes3 w _ _ _ _).1; have pb1 := PBox.keep (boxes3 w _ _ _ _).2.1 hM0 (by simp); have pb2 := PBox.keep (boxes3 w _ _ _ _).2.2 hM0 (by simp); have bb1 := pb1.cell; have bb2 := pb2.cell; have bf2 := pb2.frozen; have HM1 := Lib.hid hM1; have PB1 := Lib.hid pb1; have PB2 := Lib.hid pb2; clear hM0 hM1 hx1 pb1 pb2))
    have ce := (PB2.out.set (.slice none 0 0)).cell
    refine bodyPost_ret (v := .tuple #[.agg #[.slice none 0 0], .int .i64 900]) (by simp [results, Tryz.results10, go_sem, ce]) rfl ?_
    rw [HN.out]
    exact ⟨_, rfl, ProfO.nil, (HM1.out.setCell (fun hq => by have hq' : w.heap.size + 1 + 1 < w.heap.size := hq; omega) _).ex⟩
  obtain ⟨n, rfl⟩ : ∃ n : Nat, fn = n := ⟨fn.toNat, by omega⟩
  by_cases h3 : p.length ≤ n
  · have h3d : decide ((p.length : Int) ≤ (n : Int)) = true := by simp; omega
    have HN := Lib.hid (branchedR_no (p := p) (rs := rs) (fn := (n : Int)) (pc := pc) (j := j) (fun ⟨n', k', f', x', i', h'⟩ => by have := h'.fnE; have := (List.getElem?_eq_some_iff.1 h'.fE).1; omega))
    go_enter Tryz.func10, Tryz.ntmps10
    go_wp2_with (first | (go_at_call 14; (with_reducible refine (rProfMay_is _ _ p rs _ _ h1 ?_ ?_).mono ?_); (exact HV.out.ext funR_grows (by repeat (first | exact Mods.refl _ _ | refine Mods.alloc ?_ _ | refine Mods.ext ?_ _ | refine Mods.drew ?_ | refine Mods.drewN ?_ _))); (exact HU.out.ext fpR_grows (by repeat (first | exact Mods.refl _ _ | refine Mods.alloc ?_ _ | refine Mods.ext ?_ _ | refine Mods.drew ?_ | refine Mods.drewN ?_ _))); rintro e w1 ⟨rfl, x1, hx1⟩; have hM0 := mods_of hx1; have hM1 : Mods [] w w1 := Mods.trans (by repeat (first | exact Mods.refl _ _ | refine Mods.alloc ?_ _)) hM0; have bb0 := hM0.cell (boxes3 w _ _ _ _).1; have pb1 := PBox.keep (boxes3 w _ _ _ _).2.1 hM0 (by simp); have pb2 := PBox.keep (boxes3 w _ _ _ _).2.2 hM0 (by simp); have bb1 := pb1.cell; have bb2 := pb2.cell; have bf2 := pb2.frozen; have HM1 := Lib.hid hM1; have PB1 := Lib.hid pb1; have PB2 := Lib.hid pb2; clear hM0 hM1 hx1 pb1 pb2))
    have ce := (PB2.out.set (.slice none 0 0)).cell
    refine bodyPost_ret (v := .tuple #[.agg #[.slice none 0 0], .int .i64 900]) (by simp [results, Tryz.results10, go_sem, ce]) rfl ?_
    rw [HN.out]
    exact ⟨_, rfl, ProfO.nil, (HM1.out.setCell (fun hq => by have hq' : w.heap.size + 1 + 1 < w.heap.size := hq; omega) _).ex⟩
  have hlt : n < p.length := by omega
  have h3d : decide ((p.length : Int) ≤ (n : Int)) = false := by simp; omega
  have i0 : (0 : Int) ≤ (n : Int) := by omega
  have i1 : (n : Int) < (p.length : Int) := by omega
  obtain ⟨f, hf⟩ : ∃ f, p[n]? = some f := ⟨_, get_some hlt⟩
  obtain ⟨x, hx⟩ : ∃ x, rs[n]? = some x := ⟨_, get_some (by rw [HPM.out.len]; exact hlt)⟩
  obtain ⟨b, o, rfl, hfr⟩ := HV.out.at_ hf
  obtain ⟨_, _, fv, f3, hcode⟩ := hfr
  obtain ⟨A5, c5, rfl, k7, k8⟩ := hcode.form
  have F3 := Lib.hid f3
  have HCODE := Lib.hid hcode
  have HFE := Lib.hid hf
  clear f3 hcode
  rcases dec_cases (pc < 0) with ⟨h4, h4d⟩ | ⟨h4, h4d⟩
  · have HN := Lib.hid (branchedR_no (p := p) (rs := rs) (fn := (n : Int)) (pc := pc) (j := j) (fun ⟨n', k', f', x', i', h'⟩ => by have := h'.pcE; omega))
    go_enter Tryz.func10, Tryz.ntmps10
    go_wp2_with (first | (go_at_call 14; (with_reducible refine (rProfMay_is _ _ p rs _ _ h1 ?_ ?_).mono ?_); (exact HV.out.ext funR_grows (by repeat (first | exact Mods.refl _ _ | refine Mods.alloc ?_ _ | refine Mods.ext ?_ _ | refine Mods.drew ?_ | refine Mods.drewN ?_ _))); (exact HU.out.ext fpR_grows (by repeat (first | exact Mods.refl _ _ | refine Mods.alloc ?_ _ | refine Mods.ext ?_ _ | refine Mods.drew ?_ | refine Mods.drewN ?_ _))); rintro e w1 ⟨rfl, x1, hx1⟩; have hM0 := mods_of hx1; have hM1 : Mods [] w w1 := Mods.trans (by repeat (first | exact Mods.refl _ _ | refine Mods.alloc ?_ _)) hM0; have bb0 := hM0.cell (boxes3 w _ _ _ _).1; have pb1 := PBox.keep (boxes3 w _ _ _ _).2.1 hM0 (by simp); have pb2 := PBox.keep (boxes3 w _ _ _ _).2.2 hM0 (by simp); have bb1 := pb1.cell; have bb2 := pb2.cell; have bf2 := pb2.frozen; have HM1 := Lib.hid hM1; have PB1 := Lib.hid pb1; have PB2 := Lib.hid pb2; clear hM0 hM1 hx1 pb1 pb2))
    have ce := (PB2.out.set (.slice none 0 0)).cell
    refine bodyPost_ret (v := .tuple #[.agg #[.slice none 0 0], .int .i64 900]) (by simp [results, Tryz.results10, go_sem, ce]) rfl ?_
    rw [HN.out]
    exact ⟨_, rfl, ProfO.nil, (HM1.out.setCell (fun hq => by have hq' : w.heap.size + 1 + 1 < w.heap.size := hq; omega) _).ex⟩
  obtain ⟨k, rfl⟩ : ∃ k : Nat, pc = k := ⟨pc.toNat, by omega⟩
  by_cases h5 : f.code.length ≤ k
  · have h5d : decide ((f.code.length : Int) ≤ (k : Int)) = true := by simp; omega
    clear hf
    have HN := Lib.hid (branchedR_no (p := p) (rs := rs) (fn := (n : Int)) (pc := (k : Int)) (j := j) (fun ⟨n', k', f', x', i', h'⟩ => by have e1 := h'.fnE; have e2 : n' = n := (by omega); subst e2; have e3 := h'.fE; rw [HFE.out] at e3; have e4 := Option.some.inj e3; subst e4; have := h'.pcE; have := (List.getElem?_eq_some_iff.1 h'.iE).1; omega))
    go_enter Tryz.func10, Tryz.ntmps10
    go_wp2_with (first | (go_at_call 14; (with_reducible refine (rProfMay_is _ _ p rs _ _ h1 ?_ ?_).mono ?_); (exact HV.out.ext funR_grows (by repeat (first | exact Mods.refl _ _ | refine Mods.alloc ?_ _ | refine Mods.ext ?_ _ | refine Mods.drew ?_ | refine Mods.drewN ?_ _))); (exact HU.out.ext fpR_grows (by repeat (first | exact Mods.refl _ _ | refine Mods.alloc ?_ _ | refine Mods.ext ?_ _ | refine Mods.drew ?_ | refine Mods.drewN ?_ _))); rintro e w1 ⟨rfl, x1, hx1⟩; have hM0 := mods_of hx1; have hM1 : Mods [] w w1 := Mods.trans (by repeat (first | exact Mods.refl _ _ | refine Mods.alloc ?_ _)) hM0; have bb0 := hM0.cell (boxes3 w _ _ _ _).1; have pb1 := PBox.keep (boxes3 w _ _ _ _).2.1 hM0 (by simp); have pb2 := PBox.keep (boxes3 w _ _ _ _).2.2 hM0 (by simp); have bb1 := pb1.cell; have bb2 := pb2.cell; have bf2 := pb2.frozen; have HM1 := Lib.hid hM1; have PB1 := Lib.hid pb1; have PB2 := Lib.hid pb2; clear hM0 hM1 hx1 pb1 pb2; have g3' := HM1.out.cell F3.out))
    have ce := (PB2.out.set (.slice none 0 0)).cell
    refine bodyPost_ret (v := .tuple #[.agg #[.slice none 0 0], .int .i64 900]) (by simp [results, Tryz.results10, go_sem, ce]) rfl ?_
    rw [HN.out]
    exact ⟨_, rfl, ProfO.nil, (HM1.out.setCell (fun hq => by have hq' : w.heap.size + 1 + 1 < w.heap.size := hq; omega) _).ex⟩
  have hkl : k < f.code.length := by omega
  have h5d : decide ((f.code.length : Int) ≤ (k : Int)) = false := by simp; omega
  have j0 : (0 : Int) ≤ (k : Int) := by omega
  have j1 : (k : Int) < (f.code.length : Int) := by omega
  obtain ⟨i, hi⟩ : ∃ i, f.code[k]? = some i := ⟨_, get_some hkl⟩
  obtain ⟨bi, oi, rfl, hir⟩ := HCODE.out.at_ hi
  obtain ⟨u1, _⟩ := hir
  have U1 := Lib.hid u1
  have HIE := Lib.hid hi
  clear u1
  by_cases h6 : i.kind = 13
  · have h6d : (i.kind != 13) = false := by simp [h6]
    have hok : BranchedOk p rs n k n k f x i := ⟨HPM.out, rfl, rfl, hf, hx, hi, h6⟩
    have HR := Lib.hid (branchedR_yes (j := j) hok)
    obtain ⟨a1, a2, a3, a4, a5, a6, a7⟩ := HPM.out.at hf hx
    have HA2 := Lib.hid a2
    have HA3 := Lib.hid a3
    have HA6 := Lib.hid a6
    have HA7 := Lib.hid a7
    have HX := Lib.hid hx
    have hj2 : (n : Int) < (rs.length : Int) := by have := HPM.out.len; omega
    clear hok a1 a2 a3 a4 a5 a6 a7 hx hf hi h6
    cases j with
    | true =>
      have hkx : k < x.jumps.length := by have := HA2.out; omega
      obtain ⟨y, hy⟩ : ∃ y, x.jumps[k]? = some y := ⟨_, get_some hkx⟩
      obtain ⟨n0, n1⟩ := countB_range (HA6.out k y hy)
      have HY := Lib.hid hy
      clear hy
      go_enter Tryz.func10, Tryz.ntmps10
      go_wp2_with (first
        | (go_at_call 14; (with_reducible refine (rProfMay_is _ _ p rs _ _ h1 ?_ ?_).mono ?_); (exact HV.out.ext funR_grows (by repeat (first | exact Mods.refl _ _ | refine Mods.alloc ?_ _ | refine Mods.ext ?_ _ | refine Mods.drew ?_ | refine Mods.drewN ?_ _))); (exact HU.out.ext fpR_grows (by repeat (first | exact Mods.refl _ _ | refine Mods.alloc ?_ _ | refine Mods.ext ?_ _ | refine Mods.drew ?_ | refine Mods.drewN ?_ _))); rintro e w1 ⟨rfl, x1, hx1⟩; have hM0 := mods_of hx1; have hM1 : Mods [] w w1 := Mods.trans (by repeat (first | exact Mods.refl _ _ | refine Mods.alloc ?_ _)) hM0; have bb0 := hM0.cell (boxes3 w _ _ _ _).1; have pb1 := PBox.keep (boxes3 w _ _ _ _).2.1 hM0 (by simp); have pb2 := PBox.keep (boxes3 w _ _ _ _).2.2 hM0 (by simp); have bb1 := pb1.cell; have bb2 := pb2.cell; have bf2 := pb2.frozen; have HM1 := Lib.hid hM1; have PB1 := Lib.hid pb1; have PB2 := Lib.hid pb2; clear hM0 hM1 hx1 pb1 pb2; have g3' := HM1.out.cell F3.out; have g4' := HM1.out.cell U1.out; have PB2l := Lib.hid PB2.out.lt)
        | (go_at_call 24; (with_reducible refine (rCopyProf_calls _ rs _ ?_ HPM.out.fits).mono ?_); (exact HU.out.ext fpR_grows HM1.out); rintro e w3 ⟨v3, rfl, ho3, x3, hx3⟩; have hM3 := mods_of hx3; obtain ⟨fs3, hp3⟩ := ho3; obtain ⟨g3, o3, q3, rfl, _, _, _, _⟩ := hp3.1.1.form (by omega); have hp3' : ProfF w1.heap.size w3 (.slice (some ⟨g3, o3, none⟩) rs.length q3) fs3 rs := hp3; obtain ⟨⟨vc, vj, vf, va⟩, hfv, hfo⟩ := hp3'.each HX.out; obtain ⟨J, cj, rfl, _, _⟩ := hfo.2.1.1.slice; obtain ⟨F, cf, rfl, _, _⟩ := hfo.2.2.1.1.slice; obtain ⟨D3, ca, rfl, _, _⟩ := hfo.2.2.2.1.1.slice; have hvc : vc = x.calls := hfo.1; subst hvc; obtain ⟨s0, s1, s2, s3⟩ := hp3'.1.1.fps hfv; have pb2 := PB2.out.keep hM3 (by simp); have PB2 := Lib.hid pb2; have HM3 := Lib.hid hM3; have HP3 := Lib.hid hp3'; have HFV := Lib.hid hfv; have HFO := Lib.hid hfo; clear hx3 hM3 pb2 hp3 hp3' hfv hfo))
      have hor : Own w3 3 1 (.slice J x.jumps.length cj) x.jumps.length (intV x.jumps) := HFO.out.2.1.1
      obtain ⟨gr, orr, qr, er, _, _, zz3, zz4⟩ := hor.form (by omega)
      cases er
      have hMw : Mods [] w3 (w3.alloc (Obj.cells #[.slice (some ⟨g3, o3, none⟩) rs.length q3] 27)) := (by repeat (first | exact Mods.refl _ _ | refine Mods.alloc ?_ _ | refine Mods.ext ?_ _ | refine Mods.drew ?_ | refine Mods.drewN ?_ _))
      have a0 := hMw.cell s1
      have a1 := hMw.cell (zz3 k _ (intV_get HY.out))
      have hgr : BlockOf w3 3 gr := hor.blockOf rfl
      have hgr5 := hgr.mods hMw (by simp)
      have hpo : PBox w3.heap.size (.slice (some ⟨g3, o3, none⟩) rs.length q3) (w3.alloc (Obj.cells #[.slice (some ⟨g3, o3, none⟩) rs.length q3] 27)) := heap_alloc_new _ _
      have hpr := PB2.out.keep (S := []) hMw (by simp)
      have hp5 := HP3.out.mods (S := []) hMw (by simp)
      have hfo5 := HFO.out.ext hMw
      have hor5 := hor.mods hMw (fun _ _ => by simp)
      have hM5 := HM3.out.trans hMw
      have hgr0 : w1.heap.size ≤ gr := HFO.out.2.1.2 gr rfl
      have HP5 := Lib.hid hp5
      have HFO5 := Lib.hid hfo5
      have HOR5 := Lib.hid hor5
      have HM5 := Lib.hid hM5
      have HPO := Lib.hid hpo
      have HPR := Lib.hid hpr
      have HGR5 := Lib.hid hgr5
      clear hp5 hfo5 hor5 hM5 hpo hpr hgr5 hor hMw zz3 zz4 hgr
      generalize w3.alloc (Obj.cells #[.slice (some ⟨g3, o3, none⟩) rs.length q3] 27) = w5 at *
      have a2 : w5.frozen? ⟨gr, orr + k, none⟩ = false := by
        obtain ⟨cur, hb⟩ := HOR5.out.block (k := gr) rfl
        simp [World.frozen?, hb]
      have a3 := HPO.out.cell
      have hms : ∀ z, Mods [gr] w5 (w5.setCell ⟨gr, orr + k, none⟩ z) := fun z => (Mods.refl [gr] w5).setCell (p := ⟨gr, orr + k, none⟩) (fun _ => by simp) z
      have hne : ∀ (b : Nat) (u : Value), PBox b u w5 → b ∉ [gr] := fun b u hb hs => by
        obtain rfl := List.mem_singleton.1 hs
        have h3 : BlockOf w5 27 b := ⟨_, _, hb⟩
        exact absurd (HGR5.out.ne h3) (by decide)
      have a4 : ∀ z, (w5.setCell ⟨gr, orr + k, none⟩ z).cell? ⟨w3.heap.size, 0, none⟩ = some (.slice (some ⟨g3, o3, none⟩) rs.length q3) := fun z => (HPO.out.keep (hms z) (hne _ _ HPO.out)).cell
      have a5 : ∀ z, (w5.setCell ⟨gr, orr + k, none⟩ z).cell? ⟨w.heap.size + 1 + 1, 0, none⟩ = some (.slice none 0 0) := fun z => (HPR.out.keep (hms z) (hne _ _ HPR.out)).cell
      have a6 : ∀ z, (w5.setCell ⟨gr, orr + k, none⟩ z).frozen? ⟨w.heap.size + 1 + 1, 0, none⟩ = false := fun z => (HPR.out.keep (hms z) (hne _ _ HPR.out)).frozen
      have a7 : ∀ z u, ((w5.setCell ⟨gr, orr + k, none⟩ z).setCell ⟨w.heap.size + 1 + 1, 0, none⟩ u).cell? ⟨w.heap.size + 1 + 1, 0, none⟩ = some u := fun z u => ((HPR.out.keep (hms z) (hne _ _ HPR.out)).set u).cell
      have b0 : (k : Int) < (x.jumps.length : Int) := by omega
      clear hne
      (refine wp_region_still_drew 17 (by kernel_rfl) (by kernel_rfl) ?_; simp only [List.take_succ_cons, List.take_zero, List.drop_succ_cons, List.drop_zero])
      iterate 16 still_step
      still_call (rMore_calls y _ n0 n1)
      refine wpStill_nil ?_
      go_wp2
      refine bodyPost_ret (v := .tuple #[.agg #[.slice (some ⟨g3, o3, none⟩) rs.length q3], .int .i64 0]) (by simp [results, Tryz.results10, go_sem, a7]) rfl ?_
      rw [HR.out]
      have hmw := hms (.int .i64 (moreI y))
      have e1 := HOR5.out.set (j := k) (.int .i64 (moreI y))
      rw [intV_set, ← bump_eq HY.out] at e1
      have hn : FVO w1.heap.size _ _ (branchF x k true) := HFO5.out.updJ (ys := bump x.jumps k) hmw (by
        have : (bump x.jumps k).length = x.jumps.length := by simp [bump]
        rw [this]; exact e1)
      have hp6 := HP5.out.rows HFV.out hmw (fun b hb => by obtain rfl := List.mem_singleton.1 hb; simp [Value.ownBlock]) hn
      have hs2 := HM1.out.size
      have hr2 : w.heap.size + 1 + 1 < w1.heap.size := PB2l.out
      have hmw2 : Mods [] w ((w5.setCell ⟨gr, orr + k, none⟩ (.int .i64 (moreI y))).setCell ⟨w.heap.size + 1 + 1, 0, none⟩ (.slice (some ⟨g3, o3, none⟩) rs.length q3)) := (((HM1.out.trans HM5.out).nil.trans hmw).new (fun b hb => by obtain rfl := List.mem_singleton.1 hb; omega)).setCell (fun hq => by have hq' : w.heap.size + 1 + 1 < w.heap.size := hq; omega) _
      have hset : Mods [w.heap.size + 1 + 1] (w5.setCell ⟨gr, orr + k, none⟩ (.int .i64 (moreI y))) ((w5.setCell ⟨gr, orr + k, none⟩ (.int .i64 (moreI y))).setCell ⟨w.heap.size + 1 + 1, 0, none⟩ (.slice (some ⟨g3, o3, none⟩) rs.length q3)) := (Mods.refl _ _).setCell (fun _ => by simp) _
      have hp7 := ((hp6.mods hset (fun b hb => by obtain rfl := List.mem_singleton.1 hb; exact hr2)).o).low hs2
      exact ⟨_, rfl, hp7.ext ((Mods.refl [] _).drew), (hmw2.drew).ex⟩
    | false =>
      have hkx : k < x.falls.length := by have := HA3.out; omega
      obtain ⟨y, hy⟩ : ∃ y, x.falls[k]? = some y := ⟨_, get_some hkx⟩
      obtain ⟨n0, n1⟩ := countB_range (HA7.out k y hy)
      have HY := Lib.hid hy
      clear hy
      go_enter Tryz.func10, Tryz.ntmps10
      go_wp2_with (first
        | (go_at_call 14; (with_reducible refine (rProfMay_is _ _ p rs _ _ h1 ?_ ?_).mono ?_); (exact HV.out.ext funR_grows (by repeat (first | exact Mods.refl _ _ | refine Mods.alloc ?_ _ | refine Mods.ext ?_ _ | refine Mods.drew ?_ | refine Mods.drewN ?_ _))); (exact HU.out.ext fpR_grows (by repeat (first | exact Mods.refl _ _ | refine Mods.alloc ?_ _ | refine Mods.ext ?_ _ | refine Mods.drew ?_ | refine Mods.drewN ?_ _))); rintro e w1 ⟨rfl, x1, hx1⟩; have hM0 := mods_of hx1; have hM1 : Mods [] w w1 := Mods.trans (by repeat (first | exact Mods.refl _ _ | refine Mods.alloc ?_ _)) hM0; have bb0 := hM0.cell (boxes3 w _ _ _ _).1; have pb1 := PBox.keep (boxes3 w _ _ _ _).2.1 hM0 (by simp); have pb2 := PBox.keep (boxes3 w _ _ _ _).2.2 hM0 (by simp); have bb1 := pb1.cell; have bb2 := pb2.cell; have bf2 := pb2.frozen; have HM1 := Lib.hid hM1; have PB1 := Lib.hid pb1; have PB2 := Lib.hid pb2; clear hM0 hM1 hx1 pb1 pb2; have g3' := HM1.out.cell F3.out; have g4' := HM1.out.cell U1.out; have PB2l := Lib.hid PB2.out.lt)
        | (go_at_call 24; (with_reducible refine (rCopyProf_calls _ rs _ ?_ HPM.out.fits).mono ?_); (exact HU.out.ext fpR_grows HM1.out); rintro e w3 ⟨v3, rfl, ho3, x3, hx3⟩; have hM3 := mods_of hx3; obtain ⟨fs3, hp3⟩ := ho3; obtain ⟨g3, o3, q3, rfl, _, _, _, _⟩ := hp3.1.1.form (by omega); have hp3' : ProfF w1.heap.size w3 (.slice (some ⟨g3, o3, none⟩) rs.length q3) fs3 rs := hp3; obtain ⟨⟨vc, vj, vf, va⟩, hfv, hfo⟩ := hp3'.each HX.out; obtain ⟨J, cj, rfl, _, _⟩ := hfo.2.1.1.slice; obtain ⟨F, cf, rfl, _, _⟩ := hfo.2.2.1.1.slice; obtain ⟨D3, ca, rfl, _, _⟩ := hfo.2.2.2.1.1.slice; have hvc : vc = x.calls := hfo.1; subst hvc; obtain ⟨s0, s1, s2, s3⟩ := hp3'.1.1.fps hfv; have pb2 := PB2.out.keep hM3 (by simp); have PB2 := Lib.hid pb2; have HM3 := Lib.hid hM3; have HP3 := Lib.hid hp3'; have HFV := Lib.hid hfv; have HFO := Lib.hid hfo; clear hx3 hM3 pb2 hp3 hp3' hfv hfo))
      have hor : Own w3 3 1 (.slice F x.falls.length cf) x.falls.length (intV x.falls) := HFO.out.2.2.1.1
      obtain ⟨gr, orr, qr, er, _, _, zz3, zz4⟩ := hor.form (by omega)
      cases er
      have hMw : Mods [] w3 (w3.alloc (Obj.cells #[.slice (some ⟨g3, o3, none⟩) rs.length q3] 27)) := (by repeat (first | exact Mods.refl _ _ | refine Mods.alloc ?_ _ | refine Mods.ext ?_ _ | refine Mods.drew ?_ | refine Mods.drewN ?_ _))
      have a0 := hMw.cell s2
      have a1 := hMw.cell (zz3 k _ (intV_get HY.out))
      have hgr : BlockOf w3 3 gr := hor.blockOf rfl
      have hgr5 := hgr.mods hMw (by simp)
      have hpo : PBox w3.heap.size (.slice (some ⟨g3, o3, none⟩) rs.length q3) (w3.alloc (Obj.cells #[.slice (some ⟨g3, o3, none⟩) rs.length q3] 27)) := heap_alloc_new _ _
      have hpr := PB2.out.keep (S := []) hMw (by simp)
      have hp5 := HP3.out.mods (S := []) hMw (by simp)
      have hfo5 := HFO.out.ext hMw
      have hor5 := hor.mods hMw (fun _ _ => by simp)
      have hM5 := HM3.out.trans hMw
      have hgr0 : w1.heap.size ≤ gr := HFO.out.2.2.1.2 gr rfl
      have HP5 := Lib.hid hp5
      have HFO5 := Lib.hid hfo5
      have HOR5 := Lib.hid hor5
      have HM5 := Lib.hid hM5
      have HPO := Lib.hid hpo
      have HPR := Lib.hid hpr
      have HGR5 := Lib.hid hgr5
      clear hp5 hfo5 hor5 hM5 hpo hpr hgr5 hor hMw zz3 zz4 hgr
      generalize w3.alloc (Obj.cells #[.slice (some ⟨g3, o3, none⟩) rs.length q3] 27) = w5 at *
      have a2 : w5.frozen? ⟨gr, orr + k, none⟩ = false := by
        obtain ⟨cur, hb⟩ := HOR5.out.block (k := gr) rfl
        simp [World.frozen?, hb]
      have a3 := HPO.out.cell
      have hms : ∀ z, Mods [gr] w5 (w5.setCell ⟨gr, orr + k, none⟩ z) := fun z => (Mods.refl [gr] w5).setCell (p := ⟨gr, orr + k, none⟩) (fun _ => by simp) z
      have hne : ∀ (b : Nat) (u : Value), PBox b u w5 → b ∉ [gr] := fun b u hb hs => by
        obtain rfl := List.mem_singleton.1 hs
        have h3 : BlockOf w5 27 b := ⟨_, _, hb⟩
        exact absurd (HGR5.out.ne h3) (by decide)
      have a4 : ∀ z, (w5.setCell ⟨gr, orr + k, none⟩ z).cell? ⟨w3.heap.size, 0, none⟩ = some (.slice (some ⟨g3, o3, none⟩) rs.length q3) := fun z => (HPO.out.keep (hms z) (hne _ _ HPO.out)).cell
      have a5 : ∀ z, (w5.setCell ⟨gr, orr + k, none⟩ z).cell? ⟨w.heap.size + 1 + 1, 0, none⟩ = some (.slice none 0 0) := fun z => (HPR.out.keep (hms z) (hne _ _ HPR.out)).cell
      have a6 : ∀ z, (w5.setCell ⟨gr, orr + k, none⟩ z).frozen? ⟨w.heap.size + 1 + 1, 0, none⟩ = false := fun z => (HPR.out.keep (hms z) (hne _ _ HPR.out)).frozen
      have a7 : ∀ z u, ((w5.setCell ⟨gr, orr + k, none⟩ z).setCell ⟨w.heap.size + 1 + 1, 0, none⟩ u).cell? ⟨w.heap.size + 1 + 1, 0, none⟩ = some u := fun z u => ((HPR.out.keep (hms z) (hne _ _ HPR.out)).set u).cell
      have b0 : (k : Int) < (x.falls.length : Int) := by omega
      clear hne
      (refine wp_region_still_drew 17 (by kernel_rfl) (by kernel_rfl) ?_; simp only [List.take_succ_cons, List.take_zero, List.drop_succ_cons, List.drop_zero])
      iterate 16 still_step
      still_call (rMore_calls y _ n0 n1)
      refine wpStill_nil ?_
      go_wp2
      refine bodyPost_ret (v := .tuple #[.agg #[.slice (some ⟨g3, o3, none⟩) rs.length q3], .int .i64 0]) (by simp [results, Tryz.results10, go_sem, a7]) rfl ?_
      rw [HR.out]
      have hmw := hms (.int .i64 (moreI y))
      have e1 := HOR5.out.set (j := k) (.int .i64 (moreI y))
      rw [intV_set, ← bump_eq HY.out] at e1
      have hn : FVO w1.heap.size _ _ (branchF x k false) := HFO5.out.updF (ys := bump x.falls k) hmw (by
        have : (bump x.falls k).length = x.falls.length := by simp [bump]
        rw [this]; exact e1)
      have hp6 := HP5.out.rows HFV.out hmw (fun b hb => by obtain rfl := List.mem_singleton.1 hb; simp [Value.ownBlock]) hn
      have hs2 := HM1.out.size
      have hr2 : w.heap.size + 1 + 1 < w1.heap.size := PB2l.out
      have hmw2 : Mods [] w ((w5.setCell ⟨gr, orr + k, none⟩ (.int .i64 (moreI y))).setCell ⟨w.heap.size + 1 + 1, 0, none⟩ (.slice (some ⟨g3, o3, none⟩) rs.length q3)) := (((HM1.out.trans HM5.out).nil.trans hmw).new (fun b hb => by obtain rfl := List.mem_singleton.1 hb; omega)).setCell (fun hq => by have hq' : w.heap.size + 1 + 1 < w.heap.size := hq; omega) _
      have hset : Mods [w.heap.size + 1 + 1] (w5.setCell ⟨gr, orr + k, none⟩ (.int .i64 (moreI y))) ((w5.setCell ⟨gr, orr + k, none⟩ (.int .i64 (moreI y))).setCell ⟨w.heap.size + 1 + 1, 0, none⟩ (.slice (some ⟨g3, o3, none⟩) rs.length q3)) := (Mods.refl _ _).setCell (fun _ => by simp) _
      have hp7 := ((hp6.mods hset (fun b hb => by obtain rfl := List.mem_singleton.1 hb; exact hr2)).o).low hs2
      exact ⟨_, rfl, hp7.ext ((Mods.refl [] _).drew), (hmw2.drew).ex⟩
  · have h6d : (i.kind != 13) = true := by simp [h6]
    have H6 := Lib.hid h6
    clear h6 hf hi
    have HN := Lib.hid (branchedR_no (p := p) (rs := rs) (fn := (n : Int)) (pc := (k : Int)) (j := j) (fun ⟨n', k', f', x', i', h'⟩ => by have e1 := h'.fnE; have e2 : n' = n := (by omega); subst e2; have e3 := h'.fE; rw [HFE.out] at e3; have e4 := Option.some.inj e3; subst e4; have e5 := h'.pcE; have e6 : k' = k := (by omega); subst e6; have e7 := h'.iE; rw [HIE.out] at e7; rw [Option.some.inj e7] at H6; exact H6.out h'.zero))
    go_enter Tryz.func10, Tryz.ntmps10
    go_wp2_with (first | (go_at_call 14; (with_reducible refine (rProfMay_is _ _ p rs _ _ h1 ?_ ?_).mono ?_); (exact HV.out.ext funR_grows (by repeat (first | exact Mods.refl _ _ | refine Mods.alloc ?_ _ | refine Mods.ext ?_ _ | refine Mods.drew ?_ | refine Mods.drewN ?_ _))); (exact HU.out.ext fpR_grows (by repeat (first | exact Mods.refl _ _ | refine Mods.alloc ?_ _ | refine Mods.ext ?_ _ | refine Mods.drew ?_ | refine Mods.drewN ?_ _))); rintro e w1 ⟨rfl, x1, hx1⟩; have hM0 := mods_of hx1; have hM1 : Mods [] w w1 := Mods.trans (by repeat (first | exact Mods.refl _ _ | refine Mods.alloc ?_ _)) hM0; have bb0 := hM0.cell (boxes3 w _ _ _ _).1; have pb1 := PBox.keep (boxes3 w _ _ _ _).2.1 hM0 (by simp); have pb2 := PBox.keep (boxes3 w _ _ _ _).2.2 hM0 (by simp); have bb1 := pb1.cell; have bb2 := pb2.cell; have bf2 := pb2.frozen; have HM1 := Lib.hid hM1; have PB1 := Lib.hid pb1; have PB2 := Lib.hid pb2; clear hM0 hM1 hx1 pb1 pb2; have g3' := HM1.out.cell F3.out; have g4' := HM1.out.cell U1.out; have PB2l := Lib.hid PB2.out.lt))
    have ce := (PB2.out.set (.slice none 0 0)).cell
    refine bodyPost_ret (v := .tuple #[.agg #[.slice none 0 0], .int .i64 900]) (by simp [results, Tryz.results10, go_sem, ce]) rfl ?_
    rw [HN.out]
    exact ⟨_, rfl, ProfO.nil, (HM1.out.setCell (fun hq => by have hq' : w.heap.size + 1 + 1 < w.heap.size := hq; omega) _).ex⟩
end Go.Proofs.YtjpgcokdlopkaaaGreatDoor


namespace Go.Proofs.YtjpgcokdlopkaaaGreatDoor
open Go.RowKit

set_option maxHeartbeats 4000000 in
set_option maxRecDepth 100000 in
theorem sameProf_calls (va vb : Value) (rs ss : List FunP) (w : World) (ha : Profs w va rs) (hb : Profs w vb ss) : Calls Tryz.prog 11 #[.agg #[va], .agg #[vb]] w fun e w' => e = .returned (.bool (decide (rs = ss))) ∧ ∃ x, w' = w.ext x := by
  obtain ⟨A, c, rfl, k1, k2⟩ := ha.form
  obtain ⟨B, d, rfl, k3, k4⟩ := hb.form
  have HA := Lib.hid ha
  have HB := Lib.hid hb
  clear ha hb
  by_cases hl : rs.length = ss.length
  · obtain ⟨m, hm⟩ : ∃ m, ss.length = m := ⟨_, rfl⟩
    rw [hm] at hl k3 HB ⊢
    subst hl
    have HL := Lib.hid hm
    clear hm
    go_enter Tryz.func11, Tryz.ntmps11
    go_wp2
    have hb0 : ((w.alloc (Obj.cells #[Value.slice A rs.length c] 27)).alloc (Obj.cells #[Value.slice B rs.length d] 27)).cell? ⟨w.heap.size, 0, none⟩ = some (.slice A rs.length c) := by go_simp
    have hb1 : ((w.alloc (Obj.cells #[Value.slice A rs.length c] 27)).alloc (Obj.cells #[Value.slice B rs.length d] 27)).cell? ⟨w.heap.size + 1, 0, none⟩ = some (.slice B rs.length d) := by go_simp
    have hM1 : Mods [] w ((w.alloc (Obj.cells #[Value.slice A rs.length c] 27)).alloc (Obj.cells #[Value.slice B rs.length d] 27)) := (by repeat (first | exact Mods.refl _ _ | refine Mods.alloc ?_ _ | refine Mods.ext ?_ _ | refine Mods.drew ?_ | refine Mods.drewN ?_ _))
    generalize (w.alloc (Obj.cells #[Value.slice A rs.length c] 27)).alloc (Obj.cells #[Value.slice B rs.length d] 27) = w1 at *
    have HM1 := Lib.hid hM1
    clear hM1
    go_loopw [5] (fun i wr => ∃ k : Nat, i = .int .i64 k ∧ k ≤ rs.length ∧ Hid (∀ j, j < k → rs[j]? = ss[j]?) ∧ Hid (Mods [] w1 wr)) (fun i _ => rs.length - (intOf i).toNat)
    case atStart => exact ⟨0, rfl, Nat.zero_le _, fun j h => absurd h (Nat.not_lt_zero _), Mods.refl _ _⟩
    case round =>
      obtain ⟨k, rfl, hk, HE, HW⟩ := hrel
      have hb0' := HW.out.cell hb0
      have hb1' := HW.out.cell hb1
      by_cases hlt : k < rs.length
      · have hlt2 : k < ss.length := by have := HL.out; omega
        obtain ⟨b, o, rfl, hx⟩ := HA.out.at_ (get_some hlt)
        obtain ⟨b2, o2, rfl, hy⟩ := HB.out.at_ (get_some hlt2)
        obtain ⟨hx0, ⟨x1, hx1, hi1⟩, ⟨x2, hx2, hi2⟩, x3, hx3, hi3⟩ := fpR_grows.ext (HM1.out.trans HW.out) hx
        obtain ⟨hy0, ⟨y1, hy1, hj1⟩, ⟨y2, hy2, hj2⟩, y3, hy3, hj3⟩ := fpR_grows.ext (HM1.out.trans HW.out) hy
        clear hx hy
        obtain ⟨Pi1, pi1, rfl, _, _⟩ := hi1.form
        obtain ⟨Pi2, pi2, rfl, _, _⟩ := hi2.form
        obtain ⟨Pi3, pi3, rfl, _, _⟩ := hi3.form
        obtain ⟨Pj1, pj1, rfl, _, _⟩ := hj1.form
        obtain ⟨Pj2, pj2, rfl, _, _⟩ := hj2.form
        obtain ⟨Pj3, pj3, rfl, _, _⟩ := hj3.form
        have HI1 := Lib.hid hi1
        have HI2 := Lib.hid hi2
        have HI3 := Lib.hid hi3
        have HJ1 := Lib.hid hj1
        have HJ2 := Lib.hid hj2
        have HJ3 := Lib.hid hj3
        clear hi1 hi2 hi3 hj1 hj2 hj3
        have i0 : (0 : Int) ≤ (k : Int) := by omega
        have i1 : (k : Int) < (rs.length : Int) := by omega
        have key : rs[k] = ss[k] ↔ rs[k].calls = ss[k].calls ∧ rs[k].jumps = ss[k].jumps ∧ rs[k].falls = ss[k].falls ∧ rs[k].args = ss[k].args := by
          generalize rs[k] = x
          generalize ss[k] = y
          obtain ⟨a, b, c, d⟩ := x
          obtain ⟨a', b', c', d'⟩ := y
          simp
        have HK := Lib.hid key
        clear key
        go_wp2
        go_region
        all_goals
          by_cases q0 : rs[k].calls = ss[k].calls
          · have n0 : (rs[k].calls != ss[k].calls) = false := by simp [q0]
            have Q0 := Lib.hid q0
            clear q0
            rcases dec_cases (rs[k].jumps = ss[k].jumps) with ⟨q1, d1⟩ | ⟨q1, d1⟩
            · have Q1 := Lib.hid q1
              clear q1
              rcases dec_cases (rs[k].falls = ss[k].falls) with ⟨q2, d2⟩ | ⟨q2, d2⟩
              · have Q2 := Lib.hid q2
                clear q2
                rcases dec_cases (rs[k].args = ss[k].args) with ⟨q3, d3⟩ | ⟨q3, d3⟩
                · have Q3 := Lib.hid q3
                  clear q3
                  go_wp2_with (first | (go_at_call 27; (with_reducible refine (sameInts_calls _ _ rs[k].jumps ss[k].jumps _ ?_ ?_).mono ?_); (exact HI1.out.ext intR_grows (by repeat (first | exact Mods.refl _ _ | refine Mods.alloc ?_ _ | refine Mods.ext ?_ _ | refine Mods.drew ?_ | refine Mods.drewN ?_ _))); (exact HJ1.out.ext intR_grows (by repeat (first | exact Mods.refl _ _ | refine Mods.alloc ?_ _ | refine Mods.ext ?_ _ | refine Mods.drew ?_ | refine Mods.drewN ?_ _))); rintro e w' ⟨he, xa, rfl⟩; rw [d1] at he; subst he) | (go_at_call 27; (with_reducible refine (sameInts_calls _ _ rs[k].falls ss[k].falls _ ?_ ?_).mono ?_); (exact HI2.out.ext intR_grows (by repeat (first | exact Mods.refl _ _ | refine Mods.alloc ?_ _ | refine Mods.ext ?_ _ | refine Mods.drew ?_ | refine Mods.drewN ?_ _))); (exact HJ2.out.ext intR_grows (by repeat (first | exact Mods.refl _ _ | refine Mods.alloc ?_ _ | refine Mods.ext ?_ _ | refine Mods.drew ?_ | refine Mods.drewN ?_ _))); rintro e w' ⟨he, xa, rfl⟩; rw [d2] at he; subst he) | (go_at_call 28; (with_reducible refine (sameArgs_calls _ _ rs[k].args ss[k].args _ ?_ ?_).mono ?_); (exact HI3.out.ext argR_grows (by repeat (first | exact Mods.refl _ _ | refine Mods.alloc ?_ _ | refine Mods.ext ?_ _ | refine Mods.drew ?_ | refine Mods.drewN ?_ _))); (exact HJ3.out.ext argR_grows (by repeat (first | exact Mods.refl _ _ | refine Mods.alloc ?_ _ | refine Mods.ext ?_ _ | refine Mods.drew ?_ | refine Mods.drewN ?_ _))); rintro e w' ⟨he, xa, rfl⟩; rw [d3] at he; subst he))
                  go_roundw
                  case rel =>
                    go_light
                    refine ⟨k + 1, by go_num, by omega, fun j hj => ?_, HW.out.trans (by repeat (first | exact Mods.refl _ _ | refine Mods.alloc ?_ _ | refine Mods.ext ?_ _ | refine Mods.drew ?_ | refine Mods.drewN ?_ _))⟩
                    by_cases hjk : j < k
                    · exact HE.out j hjk
                    · obtain rfl : j = k := by omega
                      rw [get_some hlt, get_some hlt2, HK.out.2 ⟨Q0.out, Q1.out, Q2.out, Q3.out⟩]
                  case measure => simp [intOf]; omega
                · have Q3 := Lib.hid q3
                  clear q3
                  go_wp2_with (first | (go_at_call 27; (with_reducible refine (sameInts_calls _ _ rs[k].jumps ss[k].jumps _ ?_ ?_).mono ?_); (exact HI1.out.ext intR_grows (by repeat (first | exact Mods.refl _ _ | refine Mods.alloc ?_ _ | refine Mods.ext ?_ _ | refine Mods.drew ?_ | refine Mods.drewN ?_ _))); (exact HJ1.out.ext intR_grows (by repeat (first | exact Mods.refl _ _ | refine Mods.alloc ?_ _ | refine Mods.ext ?_ _ | refine Mods.drew ?_ | refine Mods.drewN ?_ _))); rintro e w' ⟨he, xa, rfl⟩; rw [d1] at he; subst he) | (go_at_call 27; (with_reducible refine (sameInts_calls _ _ rs[k].falls ss[k].falls _ ?_ ?_).mono ?_); (exact HI2.out.ext intR_grows (by repeat (first | exact Mods.refl _ _ | refine Mods.alloc ?_ _ | refine Mods.ext ?_ _ | refine Mods.drew ?_ | refine Mods.drewN ?_ _))); (exact HJ2.out.ext intR_grows (by repeat (first | exact Mods.refl _ _ | refine Mods.alloc ?_ _ | refine Mods.ext ?_ _ | refine Mods.drew ?_ | refine Mods.drewN ?_ _))); rintro e w' ⟨he, xa, rfl⟩; rw [d2] at he; subst he) | (go_at_call 28; (with_reducible refine (sameArgs_calls _ _ rs[k].args ss[k].args _ ?_ ?_).mono ?_); (exact HI3.out.ext argR_grows (by repeat (first | exact Mods.refl _ _ | refine Mods.alloc ?_ _ | refine Mods.ext ?_ _ | refine Mods.drew ?_ | refine Mods.drewN ?_ _))); (exact HJ3.out.ext argR_grows (by repeat (first | exact Mods.refl _ _ | refine Mods.alloc ?_ _ | refine Mods.ext ?_ _ | refine Mods.drew ?_ | refine Mods.drewN ?_ _))); rintro e w' ⟨he, xa, rfl⟩; rw [d3] at he; subst he))
                  go_ret
                  exact ⟨ret_bool (decide_eq_false (list_ne_of_get (get_some hlt) (get_some hlt2) (fun e => Q3.out (HK.out.1 e).2.2.2))).symm, ((HM1.out.trans HW.out).trans (by repeat (first | exact Mods.refl _ _ | refine Mods.alloc ?_ _ | refine Mods.ext ?_ _ | refine Mods.drew ?_ | refine Mods.drewN ?_ _))).ex⟩
              · have Q2 := Lib.hid q2
                clear q2
                go_wp2_with (first | (go_at_call 27; (with_reducible refine (sameInts_calls _ _ rs[k].jumps ss[k].jumps _ ?_ ?_).mono ?_); (exact HI1.out.ext intR_grows (by repeat (first | exact Mods.refl _ _ | refine Mods.alloc ?_ _ | refine Mods.ext ?_ _ | refine Mods.drew ?_ | refine Mods.drewN ?_ _))); (exact HJ1.out.ext intR_grows (by repeat (first | exact Mods.refl _ _ | refine Mods.alloc ?_ _ | refine Mods.ext ?_ _ | refine Mods.drew ?_ | refine Mods.drewN ?_ _))); rintro e w' ⟨he, xa, rfl⟩; rw [d1] at he; subst he) | (go_at_call 27; (with_reducible refine (sameInts_calls _ _ rs[k].falls ss[k].falls _ ?_ ?_).mono ?_); (exact HI2.out.ext intR_grows (by repeat (first | exact Mods.refl _ _ | refine Mods.alloc ?_ _ | refine Mods.ext ?_ _ | refine Mods.drew ?_ | refine Mods.drewN ?_ _))); (exact HJ2.out.ext intR_grows (by repeat (first | exact Mods.refl _ _ | refine Mods.alloc ?_ _ | refine Mods.ext ?_ _ | refine Mods.drew ?_ | refine Mods.drewN ?_ _))); rintro e w' ⟨he, xa, rfl⟩; rw [d2] at he; subst he))
                go_ret
                exact ⟨ret_bool (decide_eq_false (list_ne_of_get (get_some hlt) (get_some hlt2) (fun e => Q2.out (HK.out.1 e).2.2.1))).symm, ((HM1.out.trans HW.out).trans (by repeat (first | exact Mods.refl _ _ | refine Mods.alloc ?_ _ | refine Mods.ext ?_ _ | refine Mods.drew ?_ | refine Mods.drewN ?_ _))).ex⟩
            · have Q1 := Lib.hid q1
              clear q1
              go_wp2_with (first | (go_at_call 27; (with_reducible refine (sameInts_calls _ _ rs[k].jumps ss[k].jumps _ ?_ ?_).mono ?_); (exact HI1.out.ext intR_grows (by repeat (first | exact Mods.refl _ _ | refine Mods.alloc ?_ _ | refine Mods.ext ?_ _ | refine Mods.drew ?_ | refine Mods.drewN ?_ _))); (exact HJ1.out.ext intR_grows (by repeat (first | exact Mods.refl _ _ | refine Mods.alloc ?_ _ | refine Mods.ext ?_ _ | refine Mods.drew ?_ | refine Mods.drewN ?_ _))); rintro e w' ⟨he, xa, rfl⟩; rw [d1] at he; subst he))
              go_ret
              exact ⟨ret_bool (decide_eq_false (list_ne_of_get (get_some hlt) (get_some hlt2) (fun e => Q1.out (HK.out.1 e).2.1))).symm, ((HM1.out.trans HW.out).trans (by repeat (first | exact Mods.refl _ _ | refine Mods.alloc ?_ _ | refine Mods.ext ?_ _ | refine Mods.drew ?_ | refine Mods.drewN ?_ _))).ex⟩
          · have n0 : (rs[k].calls != ss[k].calls) = true := by simp [q0]
            have Q0 := Lib.hid q0
            clear q0
            go_wp2
            go_ret
            exact ⟨ret_bool (decide_eq_false (list_ne_of_get (get_some hlt) (get_some hlt2) (fun e => Q0.out (HK.out.1 e).1))).symm, ((HM1.out.trans HW.out).trans (by repeat (first | exact Mods.refl _ _ | refine Mods.alloc ?_ _ | refine Mods.ext ?_ _ | refine Mods.drew ?_ | refine Mods.drewN ?_ _))).ex⟩
      · have hke : k = rs.length := by omega
        subst hke
        go_wp2
        go_ret
        exact ⟨ret_bool (decide_eq_true (list_eq_of_get HL.out.symm HE.out)).symm, (HM1.out.trans HW.out).ex⟩
  · have hn : ((rs.length : Int) != (ss.length : Int)) = true := by simp; omega
    have HL := Lib.hid hl
    clear hl
    go_enter Tryz.func11, Tryz.ntmps11
    go_wp2
    go_ret
    exact ⟨ret_bool (decide_eq_false (fun e => HL.out (by rw [e]))).symm, Mods.ex (by repeat (first | exact Mods.refl _ _ | refine Mods.alloc ?_ _ | refine Mods.ext ?_ _ | refine Mods.drew ?_ | refine Mods.drewN ?_ _))⟩
end Go.Proofs.YtjpgcokdlopkaaaGreatDoor
