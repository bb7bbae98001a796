/- Lemmas for a claim of the seat YtjpgcokdlopkaaaGreatDoor. Written in part by programs of the claim's repo. By an AI agent. -/
import Derived.Test.YtjpgcokdlopkaaaGreatDoorG14

namespace Go.Proofs.YtjpgcokdlopkaaaGreatDoor
open Go.RowKit

/-- what swageref1's walk comes to -/
def WalkPost (p : List Fun) (f : Fun) (w : World) (e : Ending) (w' : World) : Prop :=
  ∃ u pc c, e = .returned (.tuple #[u, .int .i64 pc, .int .i64 c]) ∧ ((c = 0 ∧ ∃ hs, Heights p f hs ∧ IntsB w' u hs) ∨ (c ≠ 0 ∧ NoHeights p f)) ∧ ∃ x, w' = w.ext x
def fillV (n k : Nat) : List Int := List.replicate k (-1) ++ List.replicate (n - k) 0
theorem fillV_zero (n : Nat) : (List.replicate n (Value.int .i64 0)).toArray = (intV (fillV n 0)).toArray := by simp [fillV, intV]
theorem fillV_step {n k : Nat} (h : k < n) : (fillV n k).set k (-1) = fillV n (k + 1) := by
  refine List.ext_getElem? fun i => ?_
  unfold fillV
  rw [List.getElem?_set]
  simp only [List.getElem?_append, List.getElem?_replicate, List.length_append, List.length_replicate]
  repeat' split
  all_goals first | rfl | (exfalso; omega)
theorem fillV_full (n : Nat) : fillV n n = List.replicate n (-1) := by simp [fillV]
theorem fillV_at {n k : Nat} (h : k < n) : (fillV n k)[k]? = some 0 := by
  unfold fillV
  rw [List.getElem?_append_right (by simp), List.getElem?_replicate, if_pos (by simp; omega)]
theorem fillV_len {n k : Nat} (h : k ≤ n) : (fillV n k).length = n := by simp [fillV]; omega
def WIn (p : List Fun) (f : Fun) (w1 : World) (gr B B2 : Nat) (A : Option Addr) (us : List Int) (pc : Nat) (h0 hh : Int) (hs : List Int) (R : List Nat) (k : Nat) (v : Value) (wi : World) : Prop :=
  (HI p f hs (pc :: R) ∧ Own wi 3 1 v R.length (natV R) ∧ wi.heap[gr]? = some (.cells (intV hs).toArray 3 (0, 0)) ∧ (∀ k, v.ownBlock = some k → gr < k) ∧ Mods [] w1 wi ∧ nNone hs + (R.length + 1) ≤ f.code.length) ∧
    UAt B B2 A us wi ∧ (∀ k, v.ownBlock = some k → k < B ∨ B2 ≤ k) ∧ B2 ≤ wi.heap.size ∧ hs[pc]? = some h0 ∧ ∀ (i : Nat) (x : Int), i < k → us[i]? = some x → hs[x.toNat]? = some hh
theorem OwnI.uat {B : Nat} {w : World} {A : Option Addr} {n c : Nat} {us : List Int} (h : OwnI B w (.slice A n c) us) : UAt B w.heap.size A us w := fun i x hx => by
  have hi := (List.getElem?_eq_some_iff.1 hx).1
  obtain ⟨g, o, c', e, _, _, h4, _⟩ := h.1.form (by omega)
  cases e
  have hc := h4 i (.int .i64 x) (by simp only [intV, List.getElem?_map, hx, Option.map_some])
  exact ⟨g, o, rfl, h.2 g rfl, cell_lt (a := ⟨g, o + i, none⟩) (by rw [hc]; rfl), hc⟩
set_option maxHeartbeats 4000000 in
set_option maxRecDepth 100000 in
theorem walk_calls (v cv : Value) (p : List Fun) (f : Fun) (w : World) (hv : Funs w v p) (hc : Inss w cv f.code) (hm : codeMay f.code = true) (hpl : Plain p f) :
    Calls Tryz.prog 52 #[.agg #[v], .agg #[.int .i64 f.args, .int .i64 f.locals, cv]] w (WalkPost p f w) := by
  obtain ⟨l1, l2⟩ := codeMay_lens hm
  obtain ⟨A, c, rfl, k1, k2⟩ := hv.form
  obtain ⟨B, d, rfl, k3, k4⟩ := hc.form
  have HV := Lib.hid hv
  have HC := Lib.hid hc
  have HPL := Lib.hid hpl
  clear hv hc hpl
  have hmk := fun W => mk_ints W f.code.length (by omega)
  go_enter Tryz.func52, Tryz.ntmps52
  go_wp2
  have hb : ((w.alloc (Obj.cells #[Value.slice A p.length c] 24)).alloc (Obj.cells #[Value.int IntKind.i64 f.args, Value.int IntKind.i64 f.locals, Value.slice B f.code.length d] 52)).cell? ⟨w.heap.size, 0, none⟩ = some (.slice A p.length c) := by go_simp
  have hb0 : ((w.alloc (Obj.cells #[Value.slice A p.length c] 24)).alloc (Obj.cells #[Value.int IntKind.i64 f.args, Value.int IntKind.i64 f.locals, Value.slice B f.code.length d] 52)).cell? ⟨w.heap.size + 1, 0, none⟩ = some (.int .i64 f.args) := by go_simp
  have hb1 : ((w.alloc (Obj.cells #[Value.slice A p.length c] 24)).alloc (Obj.cells #[Value.int IntKind.i64 f.args, Value.int IntKind.i64 f.locals, Value.slice B f.code.length d] 52)).cell? ⟨w.heap.size + 1, 1, none⟩ = some (.int .i64 f.locals) := by go_simp
  have hb2 : ((w.alloc (Obj.cells #[Value.slice A p.length c] 24)).alloc (Obj.cells #[Value.int IntKind.i64 f.args, Value.int IntKind.i64 f.locals, Value.slice B f.code.length d] 52)).cell? ⟨w.heap.size + 1, 2, none⟩ = some (.slice B f.code.length d) := by go_simp
  have hgs : w.heap.size + 1 + 1 = ((w.alloc (Obj.cells #[Value.slice A p.length c] 24)).alloc (Obj.cells #[Value.int IntKind.i64 f.args, Value.int IntKind.i64 f.locals, Value.slice B f.code.length d] 52)).heap.size := by simp
  have hM1 : Mods [] w ((w.alloc (Obj.cells #[Value.slice A p.length c] 24)).alloc (Obj.cells #[Value.int IntKind.i64 f.args, Value.int IntKind.i64 f.locals, Value.slice B f.code.length d] 52)) := (by repeat (first | exact Mods.refl _ _ | refine Mods.alloc ?_ _ | refine Mods.ext ?_ _ | refine Mods.drew ?_ | refine Mods.drewN ?_ _))
  rw [hgs]
  generalize (w.alloc (Obj.cells #[Value.slice A p.length c] 24)).alloc (Obj.cells #[Value.int IntKind.i64 f.args, Value.int IntKind.i64 f.locals, Value.slice B f.code.length d] 52) = w1 at *
  have HM1 := Lib.hid hM1
  clear hM1
  go_loopw [8] (fun i wr => ∃ k : Nat, i = .int .i64 k ∧ k ≤ f.code.length ∧ Hid (wr.heap[w1.heap.size]? = some (.cells (intV (fillV f.code.length k)).toArray 3 (0, 0))) ∧ Hid (Mods [] w1 wr)) (fun i _ => f.code.length - (intOf i).toNat)
  case atStart => exact ⟨0, rfl, Nat.zero_le _, by unfold Hid; rw [alloc_new_at rfl, ← fillV_zero]; simp, (by repeat (first | exact Mods.refl _ _ | refine Mods.alloc ?_ _ | refine Mods.ext ?_ _ | refine Mods.drew ?_ | refine Mods.drewN ?_ _))⟩
  case round =>
    obtain ⟨k, rfl, hk, HF, HM⟩ := hrel
    by_cases hlt : k < f.code.length
    · have hc0 := intHeap_cell HF.out (fillV_at hlt)
      have hf0 := boolHeap_frozen HF.out k
      go_wp2
      go_roundw
      case rel =>
        go_light
        refine ⟨k + 1, by go_num, by omega, ?_, HM.out.setCell (by simp) _⟩
        unfold Hid
        rw [heap_setCell_at HF.out, ← fillV_step hlt]
        simp [intV, List.map_set]
      case measure => simp [intOf]; omega
    · have hke : k = f.code.length := by omega
      subst hke
      have hF := HF.out
      rw [fillV_full] at hF
      have hc00 : wr.cell? ⟨w1.heap.size, 0, none⟩ = some (.int .i64 (-1)) := intHeap_cell hF (by rw [List.getElem?_replicate, if_pos (by omega)])
      have hf00 := boolHeap_frozen hF 0
      have HFF := Lib.hid hF
      clear hF HF
      have hwr := HM.out.size
      go_wp2
      go_loopg [9] (2 * f.code.length + 1) (fun m v wq => ∃ hs row, Hid (2 * nNone hs + row.length ≤ m) ∧ Hid (HRel p f w1 w1.heap.size hs row v wq))
      case atStart =>
        have hnf : nNone ((List.replicate f.code.length (-1 : Int)).set 0 0) + 1 = f.code.length := by
          have h0 : (List.replicate f.code.length (-1 : Int))[0]? = some (-1) := by rw [List.getElem?_replicate, if_pos (by omega)]
          have := nNone_set h0 (h := 0) (by omega)
          rw [this]; simp [nNone]
        have hgl : w1.heap.size < wr.heap.size := (Array.getElem?_eq_some_iff.1 HFF.out).1
        refine ⟨_, [0], ?_, HI.start l1, ⟨rfl, .inr ⟨wr.heap.size, 0, 1, #[.int .i64 0], rfl, ?_, by simp, by simp [maxLen], by simp, rfl⟩⟩, ?_, ?_, ?_, ?_⟩
        · unfold Hid; simp only [List.length_singleton]; omega
        · exact alloc_new_at (by simp [World.setCell])
        · refine (Below.heap_alloc _ _ _ (by simp [World.setCell]; omega)).trans ?_
          rw [heap_setCell_at HFF.out]
          refine congrArg (fun l : Array Value => some (Obj.cells l 3 (0, 0))) ?_
          rw [intV, intV, List.map_set, ← List.setIfInBounds_toArray]
        · intro k hk
          have : wr.heap.size = k := by simpa [Value.ownBlock] using hk
          omega
        · exact (HM.out.setCell (fun h => by simp at h) _).alloc _
        · simp only [List.length_singleton]; omega
      case round =>
        obtain ⟨hs, row, hmeas, hR⟩ := hrel
        obtain ⟨r1, r2, r3, r4, r5, r6⟩ := hR.out
        clear hR
        cases row with
        | nil =>
          obtain ⟨Ar, cp, rfl, _, _⟩ := r2.slice
          have HR := Lib.hid r1; clear r1
          have H3 := Lib.hid r3; clear r3
          have H5 := Lib.hid r5; clear r5
          have H2 := Lib.hid r2; clear r2
          have H4 := Lib.hid r4; clear r4
          have H6 := Lib.hid r6; clear r6
          go_wp2
          go_ret3
          go_light
          exact ⟨_, _, _, rfl, .inl ⟨rfl, hs, HR.out.done, ⟨w1.heap.size, by rw [HR.out.len]; rfl, H3.out, by rw [HR.out.len]; exact l2⟩⟩, (HM1.out.trans H5.out).ex⟩
        | cons pc rest =>
          obtain ⟨g, og, cp, rfl, q1, q2, q3, q4⟩ := r2.form (by simp)
          obtain ⟨h0, hpc, h0n⟩ := r1.rows pc (by simp)
          have hpl : pc < f.code.length := by rw [← r1.len]; exact (List.getElem?_eq_some_iff.1 hpc).1
          obtain ⟨hlo, hhi⟩ := r1.lo pc h0 hpc
          have hreach := r1.sound pc h0 hpc h0n
          have hcell0 : wr.cell? ⟨w1.heap.size, pc, none⟩ = some (.int .i64 h0) := intHeap_cell r3 hpc
          have hc0 : wr.cell? ⟨g, og, none⟩ = some (.int .i64 pc) := q3 0 _ rfl
          have b' := r5.cell hb
          have b0' := r5.cell hb0
          have b1' := r5.cell hb1
          have b2' := r5.cell hb2
          obtain ⟨bc, oc, rfl, c1, c2⟩ := HC.out.at_ (get_some hpl)
          have c1' := (HM1.out.trans r5).cell c1
          have c2' := (HM1.out.trans r5).cell c2
          have hcall : f.code[pc].kind = 14 → 0 ≤ f.code[pc].a ∧ f.code[pc].a < p.length := fun hk => outside_call (HPL.out.range pc _ hreach (get_some hpl)) (codeMay_may hm (get_some hpl)) hk
          have HR := Lib.hid r1; clear r1
          have H3 := Lib.hid r3; clear r3
          have H5 := Lib.hid r5; clear r5
          have H2 := Lib.hid r2; clear r2
          have H4 := Lib.hid r4; clear r4
          have H6 := Lib.hid r6; clear r6
          clear q3 q4
          have Hpc := Lib.hid hpc; clear hpc
          have HH0 := Lib.hid h0n; clear h0n
          have hmt := codeMay_may hm (get_some hpl)
          obtain ⟨t1, t2, t3, t4⟩ := effect_range f.code[pc].kind f.code[pc].a (callArgs p f.code[pc])
          obtain ⟨T, hT⟩ : ∃ T, (effectF f.code[pc].kind f.code[pc].a (callArgs p f.code[pc])).1 = T := ⟨_, rfl⟩
          obtain ⟨U, hU⟩ : ∃ U, (effectF f.code[pc].kind f.code[pc].a (callArgs p f.code[pc])).2.1 = U := ⟨_, rfl⟩
          rw [hT] at t1 t2
          rw [hU] at t3 t4
          have HT : Hid (takes p f.code[pc] = T) := hT
          have HE : Hid (∀ h : Int, h - T + U = h - takes p f.code[pc] + puts p f.code[pc]) := fun h => by rw [HT.out, ← hU]; rfl
          have hle : 2 * f.code.length + 1 ≤ 129 := by omega
          by_cases h14 : f.code[pc].kind = 14
          · obtain ⟨n0, n1⟩ := hcall h14
            obtain ⟨n, hn⟩ : ∃ n : Nat, f.code[pc].a = n := ⟨f.code[pc].a.toNat, by omega⟩
            have hnl : n < p.length := by omega
            obtain ⟨bp, op, hA, pc1, _, _, _, _⟩ := HV.out.at_ (get_some hnl)
            subst hA
            have pc1' := (HM1.out.trans H5.out).cell pc1
            have HN14 : Hid (callArgs p f.code[pc] = p[n].args) := by unfold Hid callArgs; rw [if_pos h14, hn]; simp [hnl]
            have e14 : (f.code[pc].kind == 14) = true := by simp [h14]
            rw [hn] at c2'
            clear h14 hcall
            have hT' : (effectF f.code[pc].kind (n : Int) p[n].args).1 = T := by have := hT; rw [HN14.out, hn] at this; exact this
            have hU' : (effectF f.code[pc].kind (n : Int) p[n].args).2.1 = U := by have := hU; rw [HN14.out, hn] at this; exact this
            by_cases hcv : cp = 1
            · subst hcv
              rcases dec_cases (h0 < T) with ⟨d1, d1d⟩ | ⟨d1, d1d⟩
              · go_wp2
                (refine wp_region_ext (by kernel_rfl) (by kernel_rfl) ?_; (repeat (go_big_quiet_step (fail))); refine wpQuiet_nil ?_; rintro _ ⟨xq, rfl⟩)
                go_wp2_with ((go_at_call 64; (with_reducible refine (refEffect_calls _ _ _ _).mono ?_); rintro e w2 ⟨he, x2, hx2⟩; rw [hT', hU'] at he; subst he; have hME : Mods [] wr w2 := (by first | exact mods_of hx2 | exact ((Mods.refl [] wr).ext _).trans (mods_of hx2)); have a0 := hME.cell b0'; have a1 := hME.cell b1'; have a2 := hME.cell b2'; have hcell := hME.cell hcell0; have HME := Lib.hid hME; clear hx2 hME))
                go_ret3
                go_light
                exact ⟨_, _, _, rfl, .inr ⟨by omega, HR.out.fail1 (get_some hpl) Hpc.out HH0.out (fun hh => by have := hh.1; rw [HT.out] at this; omega)⟩, (HM1.out.trans (H5.out.trans HME.out)).ex⟩
              rcases dec_cases (8 < h0 - T + U) with ⟨d2, d2d⟩ | ⟨d2, d2d⟩
              · go_wp2
                (refine wp_region_ext (by kernel_rfl) (by kernel_rfl) ?_; (repeat (go_big_quiet_step (fail))); refine wpQuiet_nil ?_; rintro _ ⟨xq, rfl⟩)
                go_wp2_with ((go_at_call 64; (with_reducible refine (refEffect_calls _ _ _ _).mono ?_); rintro e w2 ⟨he, x2, hx2⟩; rw [hT', hU'] at he; subst he; have hME : Mods [] wr w2 := (by first | exact mods_of hx2 | exact ((Mods.refl [] wr).ext _).trans (mods_of hx2)); have a0 := hME.cell b0'; have a1 := hME.cell b1'; have a2 := hME.cell b2'; have hcell := hME.cell hcell0; have HME := Lib.hid hME; clear hx2 hME))
                go_ret3
                go_light
                exact ⟨_, _, _, rfl, .inr ⟨by omega, HR.out.fail1 (get_some hpl) Hpc.out HH0.out (fun hh => by have := hh.2; rw [← HE.out] at this; omega)⟩, (HM1.out.trans (H5.out.trans HME.out)).ex⟩
              go_wp2
              (refine wp_region_ext (by kernel_rfl) (by kernel_rfl) ?_; (repeat (go_big_quiet_step (fail))); refine wpQuiet_nil ?_; rintro _ ⟨xq, rfl⟩)
              go_wp2_with (first | (go_at_call 64; (with_reducible refine (refEffect_calls _ _ _ _).mono ?_); rintro e w2 ⟨he, x2, hx2⟩; rw [hT', hU'] at he; subst he; have hME : Mods [] wr w2 := (by first | exact mods_of hx2 | exact ((Mods.refl [] wr).ext _).trans (mods_of hx2)); have a0 := hME.cell b0'; have a1 := hME.cell b1'; have a2 := hME.cell b2'; have hcell := hME.cell hcell0; have HME := Lib.hid hME; clear hx2 hME) | (go_at_call 63; (with_reducible refine (rNext_calls f _ pc _ ?_ hm hpl).mono ?_); (exact HC.out.ext insR_grows (HM1.out.trans (H5.out.trans HME.out))); rintro e w4 ⟨u, rfl, hu, x4, hx4⟩; obtain ⟨Au, cu, rfl, hu1, hu2⟩ := hu.1.slice; have HU := Lib.hid hu; have HX := Lib.hid (mods_of hx4); clear hu hx4))
              have hwq : Mods [] wr w4 := HME.out.trans HX.out
              have hw24 := HX.out.size
              have hw2r := HME.out.size
              clear HX
              have HU2 : Hid (UAt w2.heap.size w4.heap.size Au (nextI f.code[pc] pc f.code.length) w4) := HU.out.uat
              clear HU
              have hnx : ∀ (i : Nat) (x : Int), (nextI f.code[pc] pc f.code.length)[i]? = some x → 0 ≤ x ∧ x < f.code.length := fun i x hx => codeMay_next hm (get_some hpl) (List.mem_of_getElem? hx)
              have hmem : ∀ (i : Nat) (x : Int), (nextI f.code[pc] pc f.code.length)[i]? = some x → x ∈ nextI f.code[pc] pc f.code.length := fun i x hx => List.mem_of_getElem? hx
              have hmk2 : ∀ (to : Nat) (hs : List Int) (R : List Nat), (to : Int) ∈ nextI f.code[pc] pc f.code.length → hs[pc]? = some h0 → hs[to]? = some (-1) → HI p f hs (pc :: R) → HI p f (hs.set to (h0 - T + U)) (pc :: R ++ [to]) := fun to hs R h1 h2 h3 h4 => h4.mark (get_some hpl) h2 HH0.out (HE.out h0) (by omega) (by omega) h1 h3
              have hfl2 : ∀ (to : Nat) (hs : List Int) (R : List Nat) (x : Int), (to : Int) ∈ nextI f.code[pc] pc f.code.length → hs[pc]? = some h0 → hs[to]? = some x → x ≠ -1 → x ≠ h0 - T + U → HI p f hs (pc :: R) → NoHeights p f := fun to hs R x h1 h2 h3 h4 h5 h6 => h6.fail2 (get_some hpl) h2 HH0.out h1 h3 h4 (by rw [← HE.out]; exact h5)
              have hpop : ∀ (hs : List Int) (R : List Nat), HI p f hs (pc :: R) → hs[pc]? = some h0 → (∀ (i : Nat) (x : Int), i < (nextI f.code[pc] pc f.code.length).length → (nextI f.code[pc] pc f.code.length)[i]? = some x → hs[x.toNat]? = some (h0 - T + U)) → HI p f hs R := fun hs R h1 hp0 h2 => h1.pop hp0 fun i hi => by
                have e : i = f.code[pc] := by rw [get_some hpl] at hi; exact (Option.some.inj hi).symm
                subst e
                refine ⟨by rw [HT.out]; omega, by rw [← HE.out]; omega, fun to ht => ?_⟩
                obtain ⟨n, hn, hx⟩ := List.getElem_of_mem ht
                have := h2 n _ hn (get_some hn)
                rw [hx] at this
                rw [← HE.out]
                simpa using this
              have HN := Lib.hid hnx
              have HM := Lib.hid hmem
              have HK := Lib.hid hmk2
              have HFL := Lib.hid hfl2
              have HPO := Lib.hid hpop
              clear hnx hmem hmk2 hpop hfl2
              have hul : (nextI f.code[pc] pc f.code.length).length ≤ 2 := nextF_len _ _ _ _
              generalize nextI f.code[pc] pc f.code.length = us at *
              have hhb : 0 ≤ h0 - T + U ∧ h0 - T + U ≤ 8 := by omega
              obtain ⟨hh1, hh2⟩ := hhb
              clear HE hT' hU' hT hU
              generalize h0 - T + U = hh at *
              obtain ⟨wo, rfl⟩ : ∃ wo : World, wo = wr := ⟨_, rfl⟩
              go_loopg [9, 18] us.length (fun m v i wi => ∃ k hs R, i = .int .i64 (k : Nat) ∧ k ≤ us.length ∧ Hid (us.length - k ≤ m) ∧ Hid (2 * nNone hs + (R.length + 1) ≤ gk) ∧ Hid (WIn p f w1 w1.heap.size w2.heap.size w4.heap.size Au us pc h0 hh hs R k v wi))
              case atStart =>
                refine ⟨0, hs, rest, rfl, by omega, by simp [Hid], by simpa [Hid] using hmeas.out, ⟨HR.out, ?_, ?_, H4.out, H5.out.trans hwq, by have := H6.out; simpa using this⟩, HU2.out, ?_, by omega, Hpc.out, fun i x h => by omega⟩
                · exact H2.out.tail1.mods hwq (by simp)
                · exact (hwq.block _ (Array.getElem?_eq_some_iff.1 H3.out).1 (by simp)).trans H3.out
                · exact fun k hk => .inl (by have := H2.out.lt hk; omega)
              case round =>
                obtain ⟨k, hs, R, rfl, hk, hm1, hm2, hI⟩ := hrel
                obtain ⟨⟨r1, r2, r3, r4, r5, r6⟩, iu, ib, is, ip, id⟩ := hI.out
                clear hI
                by_cases hlt : k < us.length
                · obtain ⟨j, hj⟩ : ∃ j : Nat, us[k] = (j : Int) := ⟨us[k].toNat, by have := (HN.out k _ (get_some hlt)).1; omega⟩
                  have hjl : j < f.code.length := by have := (HN.out k _ (get_some hlt)).2; omega
                  obtain ⟨bu, ou, hA, hb1u, hb2u, hcu⟩ := iu k _ (get_some hlt)
                  rw [hj] at hcu
                  have HJ := Lib.hid hj; clear hj
                  have HIU := Lib.hid iu; clear iu
                  subst hA
                  have hbs : ∃ bv, hs[j]? = some bv := ⟨hs[j]'(by rw [r1.len]; exact hjl), get_some _⟩
                  obtain ⟨x, hbv⟩ := hbs
                  have hxlo := (r1.lo j x hbv).1
                  have hout := intHeap_cell r3 hbv
                  have hfz := boolHeap_frozen r3 j
                  obtain ⟨Av, cv, rfl, _, _⟩ := r2.slice
                  have HR1 := Lib.hid r1; clear r1
                  have HR2 := Lib.hid r2; clear r2
                  have HR3 := Lib.hid r3; clear r3
                  have HR4 := Lib.hid r4; clear r4
                  have HR5 := Lib.hid r5; clear r5
                  have HR6 := Lib.hid r6
                  have hn17 : R.length + 1 ≤ 17592186044416 := by omega
                  clear r6
                  have HID := Lib.hid id; clear id
                  have HIB := Lib.hid ib; clear ib
                  have HIP := Lib.hid ip; clear ip
                  have HBV := Lib.hid hbv; clear hbv
                  by_cases hx1 : x = -1
                  · subst hx1
                    have hgo : w1.heap.size < wr.heap.size := (Array.getElem?_eq_some_iff.1 HR3.out).1
                    have hgw2 : w1.heap.size < w2.heap.size := Nat.lt_of_lt_of_le (Array.getElem?_eq_some_iff.1 H3.out).1 hw2r
                    have hne : ∀ k, (Value.slice Av R.length cv).ownBlock = some k → w1.heap.size < k := HR4.out
                    have hMm : Mods [w1.heap.size] wr ((wr.setCell ⟨w1.heap.size, j, none⟩ (.int .i64 hh)).alloc (.cells #[.int .i64 j] 3)) := ((Mods.refl [w1.heap.size] wr).setCell (by simp) _).alloc _
                    have hsz : ((wr.setCell ⟨w1.heap.size, j, none⟩ (.int .i64 hh)).alloc (.cells #[.int .i64 (j : Int)] 3)).heap.size = wr.heap.size + 1 := by simp [World.setCell]
                    have hW : ((wr.setCell ⟨w1.heap.size, j, none⟩ (.int .i64 hh)).alloc (.cells #[.int .i64 (j : Int)] 3)).heap[w1.heap.size]? = some (.cells (intV (hs.set j hh)).toArray 3 (0, 0)) := by
                      refine (Below.heap_alloc _ _ _ (by simp [World.setCell]; omega)).trans ?_
                      rw [heap_setCell_at HR3.out]
                      refine congrArg (fun l : Array Value => some (Obj.cells l 3 (0, 0))) ?_
                      simp [intV, List.map_set]
                    have hjs : (hs.set j hh)[j]? = some hh := by
                      have : j < hs.length := (List.getElem?_eq_some_iff.1 HBV.out).1
                      simp [this]
                    go_wp2_with (at_builtin; refine wpList_append_int _ rfl _ _ rfl _ R.length (natV R) rfl ?_ _ _ (j : Int) rfl ?_ ?_ ?_; (exact HR2.out.mods (((Mods.refl [w1.heap.size] wr).setCell (by simp) _).alloc _) (fun k hk => by have := HR4.out k hk; simp; omega)); (go_simp); (exact hn17); (intro v' w3 hown3 hg3 hat3; have hq : Mods ((Value.slice Av R.length cv).ownBlock).toList ((wr.setCell ⟨w1.heap.size, j, none⟩ (.int .i64 hh)).alloc (.cells #[.int .i64 j] 3)) w3 := ((Mods.refl _ _).grown hg3 (fun k hk _ => by have hk' : (Value.slice Av R.length cv).ownBlock = some k := hk; simp [hk'])); have hcu3 : w3.cell? ⟨bu, ou + k, none⟩ = some (.int .i64 j) := (World.cell?_of_block ((hq.block bu (by rw [hsz]; omega) (fun h => by have := HIB.out bu (by simpa using h); omega)).trans (hMm.block bu (by omega) (by simp; omega)))).trans hcu; have hout3 : w3.cell? ⟨w1.heap.size, j, none⟩ = some (.int .i64 hh) := intHeap_cell ((hq.block w1.heap.size (by rw [hsz]; omega) (fun h => by have := hne w1.heap.size (by simpa using h); omega)).trans hW) hjs; have HO3 := Lib.hid hown3; have HG3 := Lib.hid hg3; have HA3 := Lib.hid hat3; clear hown3 hg3 hat3 hq))
                    go_roundg (us.length - (k + 1))
                    case measure => have := hm1.out; omega
                    case rel =>
                      go_light
                      have hnf := nNone_set (h := hh) HBV.out (by omega)
                      have hx := HM.out k _ (get_some hlt)
                      rw [HJ.out] at hx
                      have hpj : pc ≠ j := fun e => by
                        have h1 := HIP.out
                        rw [e, HBV.out] at h1
                        exact HH0.out (Option.some.inj h1).symm
                      have hnew : ∀ k, v'.ownBlock = some k → (Value.slice Av R.length cv).ownBlock = some k ∨ k = wr.heap.size + 1 := fun k hk => by
                        rcases HA3.out with h | h
                        · exact .inl (h ▸ hk)
                        · rw [hk] at h
                          have h' := Option.some.inj h
                          exact .inr (h'.trans hsz)
                      have hsz3 := HG3.out.size
                      rw [hsz] at hsz3
                      refine ⟨k + 1, hs.set j hh, R ++ [j], by go_num, by omega, by simp [Hid], ?_, ⟨HK.out j hs R hx HIP.out HBV.out HR1.out, ?_, ?_, ?_, ?_, ?_⟩, ?_, ?_, by omega, ?_, fun i x hi hx' => ?_⟩
                      · have := hm2.out; unfold Hid; simp; omega
                      · have := HO3.out; simpa [natV] using this
                      · refine (HG3.out.block _ (by rw [hsz]; omega) (fun h => ?_)).trans ?_
                        · have := hne _ h.symm; omega
                        · refine (Below.heap_alloc _ _ _ (by simp [World.setCell]; omega)).trans ?_
                          rw [heap_setCell_at HR3.out]
                          refine congrArg (fun l : Array Value => some (Obj.cells l 3 (0, 0))) ?_
                          simp [intV, List.map_set]
                      · intro k hk
                        rcases hnew k hk with h | h
                        · exact hne k h
                        · omega
                      · exact (((HR5.out.setCell (fun h => by simp at h) _).alloc _).grown HG3.out (fun k hk hlt => by have := hne k hk; omega))
                      · have := HR6.out; simp at this ⊢; omega
                      · refine (HIU.out.step hMm (fun k hk => ?_)).step (w' := w3) (S := ((Value.slice Av R.length cv).ownBlock).toList) ((Mods.refl _ _).grown HG3.out (fun k hk _ => by have hk' : (Value.slice Av R.length cv).ownBlock = some k := hk; simp [hk'])) (fun k hk => HIB.out k (by simpa using hk))
                        obtain rfl := List.mem_singleton.1 hk
                        left; exact hgw2
                      · intro k hk
                        rcases hnew k hk with h | h
                        · exact HIB.out k h
                        · right; omega
                      · rw [List.getElem?_set, if_neg (Ne.symm hpj)]; exact HIP.out
                      · rw [List.getElem?_set]
                        rcases Nat.lt_or_ge i k with h | h
                        · have hb := HID.out i x h hx'
                          split
                          · rename_i e
                            rw [← e, HBV.out] at hb
                            have := Option.some.inj hb
                            omega
                          · exact hb
                        · obtain rfl : i = k := by omega
                          rw [get_some hlt] at hx'
                          obtain rfl := Option.some.inj hx'
                          rw [HJ.out]
                          have : j < hs.length := (List.getElem?_eq_some_iff.1 HBV.out).1
                          simp [this]
                  · have hx0d : decide (x < 0) = false := by simp; omega
                    rcases dec_cases (x = hh) with ⟨hx2, _⟩ | ⟨hx2, _⟩
                    · subst hx2
                      go_wp2
                      go_roundg (us.length - (k + 1))
                      case measure => have := hm1.out; omega
                      case rel =>
                        go_light
                        refine ⟨k + 1, hs, R, by go_num, by omega, by simp [Hid], hm2, ⟨HR1.out, HR2.out, HR3.out, HR4.out, HR5.out, HR6.out⟩, HIU.out, HIB.out, is, HIP.out, fun i x hi hx => ?_⟩
                        rcases Nat.lt_or_ge i k with h | h
                        · exact HID.out i x h hx
                        · obtain rfl : i = k := by omega
                          rw [get_some hlt] at hx
                          obtain rfl := Option.some.inj hx
                          rw [HJ.out]; exact HBV.out
                    · have hx2d : (x != hh) = true := by simp [hx2]
                      go_wp2
                      go_ret3
                      go_light
                      have hx := HM.out k _ (get_some hlt)
                      rw [HJ.out] at hx
                      exact ⟨_, _, _, rfl, .inr ⟨by omega, HFL.out j hs R x hx HIP.out HBV.out hx1 hx2 HR1.out⟩, (HM1.out.trans HR5.out).ex⟩
                · have hke : k = us.length := by omega
                  obtain ⟨Av, cv, rfl, _, _⟩ := r2.slice
                  have HR1 := Lib.hid r1; clear r1
                  have HR2 := Lib.hid r2; clear r2
                  have HR3 := Lib.hid r3; clear r3
                  have HR4 := Lib.hid r4; clear r4
                  have HR5 := Lib.hid r5; clear r5
                  have HR6 := Lib.hid r6; clear r6
                  have HID := Lib.hid id; clear id
                  have HIB := Lib.hid ib; clear ib
                  have HIU := Lib.hid iu; clear iu
                  have HIP := Lib.hid ip; clear ip
                  go_wp2
                  go_roundg (2 * nNone hs + R.length)
                  case measure => have := hm2.out; omega
                  case rel =>
                    go_light
                    exact ⟨hs, R, by unfold Hid; omega, HPO.out hs R HR1.out HIP.out (fun i x hi hx => HID.out i x (by omega) hx), HR2.out, HR3.out, HR4.out, HR5.out, by have := HR6.out; omega⟩
            · rcases dec_cases (h0 < T) with ⟨d1, d1d⟩ | ⟨d1, d1d⟩
              · go_wp2
                (refine wp_region_ext (by kernel_rfl) (by kernel_rfl) ?_; (repeat (go_big_quiet_step (fail))); refine wpQuiet_nil ?_; rintro _ ⟨xq, rfl⟩)
                go_wp2_with ((go_at_call 64; (with_reducible refine (refEffect_calls _ _ _ _).mono ?_); rintro e w2 ⟨he, x2, hx2⟩; rw [hT', hU'] at he; subst he; have hME : Mods [] wr w2 := (by first | exact mods_of hx2 | exact ((Mods.refl [] wr).ext _).trans (mods_of hx2)); have a0 := hME.cell b0'; have a1 := hME.cell b1'; have a2 := hME.cell b2'; have hcell := hME.cell hcell0; have HME := Lib.hid hME; clear hx2 hME))
                go_ret3
                go_light
                exact ⟨_, _, _, rfl, .inr ⟨by omega, HR.out.fail1 (get_some hpl) Hpc.out HH0.out (fun hh => by have := hh.1; rw [HT.out] at this; omega)⟩, (HM1.out.trans (H5.out.trans HME.out)).ex⟩
              rcases dec_cases (8 < h0 - T + U) with ⟨d2, d2d⟩ | ⟨d2, d2d⟩
              · go_wp2
                (refine wp_region_ext (by kernel_rfl) (by kernel_rfl) ?_; (repeat (go_big_quiet_step (fail))); refine wpQuiet_nil ?_; rintro _ ⟨xq, rfl⟩)
                go_wp2_with ((go_at_call 64; (with_reducible refine (refEffect_calls _ _ _ _).mono ?_); rintro e w2 ⟨he, x2, hx2⟩; rw [hT', hU'] at he; subst he; have hME : Mods [] wr w2 := (by first | exact mods_of hx2 | exact ((Mods.refl [] wr).ext _).trans (mods_of hx2)); have a0 := hME.cell b0'; have a1 := hME.cell b1'; have a2 := hME.cell b2'; have hcell := hME.cell hcell0; have HME := Lib.hid hME; clear hx2 hME))
                go_ret3
                go_light
                exact ⟨_, _, _, rfl, .inr ⟨by omega, HR.out.fail1 (get_some hpl) Hpc.out HH0.out (fun hh => by have := hh.2; rw [← HE.out] at this; omega)⟩, (HM1.out.trans (H5.out.trans HME.out)).ex⟩
              go_wp2
              (refine wp_region_ext (by kernel_rfl) (by kernel_rfl) ?_; (repeat (go_big_quiet_step (fail))); refine wpQuiet_nil ?_; rintro _ ⟨xq, rfl⟩)
              go_wp2_with (first | (go_at_call 64; (with_reducible refine (refEffect_calls _ _ _ _).mono ?_); rintro e w2 ⟨he, x2, hx2⟩; rw [hT', hU'] at he; subst he; have hME : Mods [] wr w2 := (by first | exact mods_of hx2 | exact ((Mods.refl [] wr).ext _).trans (mods_of hx2)); have a0 := hME.cell b0'; have a1 := hME.cell b1'; have a2 := hME.cell b2'; have hcell := hME.cell hcell0; have HME := Lib.hid hME; clear hx2 hME) | (go_at_call 63; (with_reducible refine (rNext_calls f _ pc _ ?_ hm hpl).mono ?_); (exact HC.out.ext insR_grows (HM1.out.trans (H5.out.trans HME.out))); rintro e w4 ⟨u, rfl, hu, x4, hx4⟩; obtain ⟨Au, cu, rfl, hu1, hu2⟩ := hu.1.slice; have HU := Lib.hid hu; have HX := Lib.hid (mods_of hx4); clear hu hx4))
              have hwq : Mods [] wr w4 := HME.out.trans HX.out
              have hw24 := HX.out.size
              have hw2r := HME.out.size
              clear HX
              have HU2 : Hid (UAt w2.heap.size w4.heap.size Au (nextI f.code[pc] pc f.code.length) w4) := HU.out.uat
              clear HU
              have hnx : ∀ (i : Nat) (x : Int), (nextI f.code[pc] pc f.code.length)[i]? = some x → 0 ≤ x ∧ x < f.code.length := fun i x hx => codeMay_next hm (get_some hpl) (List.mem_of_getElem? hx)
              have hmem : ∀ (i : Nat) (x : Int), (nextI f.code[pc] pc f.code.length)[i]? = some x → x ∈ nextI f.code[pc] pc f.code.length := fun i x hx => List.mem_of_getElem? hx
              have hmk2 : ∀ (to : Nat) (hs : List Int) (R : List Nat), (to : Int) ∈ nextI f.code[pc] pc f.code.length → hs[pc]? = some h0 → hs[to]? = some (-1) → HI p f hs (pc :: R) → HI p f (hs.set to (h0 - T + U)) (pc :: R ++ [to]) := fun to hs R h1 h2 h3 h4 => h4.mark (get_some hpl) h2 HH0.out (HE.out h0) (by omega) (by omega) h1 h3
              have hfl2 : ∀ (to : Nat) (hs : List Int) (R : List Nat) (x : Int), (to : Int) ∈ nextI f.code[pc] pc f.code.length → hs[pc]? = some h0 → hs[to]? = some x → x ≠ -1 → x ≠ h0 - T + U → HI p f hs (pc :: R) → NoHeights p f := fun to hs R x h1 h2 h3 h4 h5 h6 => h6.fail2 (get_some hpl) h2 HH0.out h1 h3 h4 (by rw [← HE.out]; exact h5)
              have hpop : ∀ (hs : List Int) (R : List Nat), HI p f hs (pc :: R) → hs[pc]? = some h0 → (∀ (i : Nat) (x : Int), i < (nextI f.code[pc] pc f.code.length).length → (nextI f.code[pc] pc f.code.length)[i]? = some x → hs[x.toNat]? = some (h0 - T + U)) → HI p f hs R := fun hs R h1 hp0 h2 => h1.pop hp0 fun i hi => by
                have e : i = f.code[pc] := by rw [get_some hpl] at hi; exact (Option.some.inj hi).symm
                subst e
                refine ⟨by rw [HT.out]; omega, by rw [← HE.out]; omega, fun to ht => ?_⟩
                obtain ⟨n, hn, hx⟩ := List.getElem_of_mem ht
                have := h2 n _ hn (get_some hn)
                rw [hx] at this
                rw [← HE.out]
                simpa using this
              have HN := Lib.hid hnx
              have HM := Lib.hid hmem
              have HK := Lib.hid hmk2
              have HFL := Lib.hid hfl2
              have HPO := Lib.hid hpop
              clear hnx hmem hmk2 hpop hfl2
              have hul : (nextI f.code[pc] pc f.code.length).length ≤ 2 := nextF_len _ _ _ _
              generalize nextI f.code[pc] pc f.code.length = us at *
              have hhb : 0 ≤ h0 - T + U ∧ h0 - T + U ≤ 8 := by omega
              obtain ⟨hh1, hh2⟩ := hhb
              clear HE hT' hU' hT hU
              generalize h0 - T + U = hh at *
              obtain ⟨wo, rfl⟩ : ∃ wo : World, wo = wr := ⟨_, rfl⟩
              go_loopg [9, 18] us.length (fun m v i wi => ∃ k hs R, i = .int .i64 (k : Nat) ∧ k ≤ us.length ∧ Hid (us.length - k ≤ m) ∧ Hid (2 * nNone hs + (R.length + 1) ≤ gk) ∧ Hid (WIn p f w1 w1.heap.size w2.heap.size w4.heap.size Au us pc h0 hh hs R k v wi))
              case atStart =>
                refine ⟨0, hs, rest, rfl, by omega, by simp [Hid], by simpa [Hid] using hmeas.out, ⟨HR.out, ?_, ?_, H4.out, H5.out.trans hwq, by have := H6.out; simpa using this⟩, HU2.out, ?_, by omega, Hpc.out, fun i x h => by omega⟩
                · exact H2.out.tail.mods hwq (by simp)
                · exact (hwq.block _ (Array.getElem?_eq_some_iff.1 H3.out).1 (by simp)).trans H3.out
                · exact fun k hk => .inl (by have := H2.out.lt hk; omega)
              case round =>
                obtain ⟨k, hs, R, rfl, hk, hm1, hm2, hI⟩ := hrel
                obtain ⟨⟨r1, r2, r3, r4, r5, r6⟩, iu, ib, is, ip, id⟩ := hI.out
                clear hI
                by_cases hlt : k < us.length
                · obtain ⟨j, hj⟩ : ∃ j : Nat, us[k] = (j : Int) := ⟨us[k].toNat, by have := (HN.out k _ (get_some hlt)).1; omega⟩
                  have hjl : j < f.code.length := by have := (HN.out k _ (get_some hlt)).2; omega
                  obtain ⟨bu, ou, hA, hb1u, hb2u, hcu⟩ := iu k _ (get_some hlt)
                  rw [hj] at hcu
                  have HJ := Lib.hid hj; clear hj
                  have HIU := Lib.hid iu; clear iu
                  subst hA
                  have hbs : ∃ bv, hs[j]? = some bv := ⟨hs[j]'(by rw [r1.len]; exact hjl), get_some _⟩
                  obtain ⟨x, hbv⟩ := hbs
                  have hxlo := (r1.lo j x hbv).1
                  have hout := intHeap_cell r3 hbv
                  have hfz := boolHeap_frozen r3 j
                  obtain ⟨Av, cv, rfl, _, _⟩ := r2.slice
                  have HR1 := Lib.hid r1; clear r1
                  have HR2 := Lib.hid r2; clear r2
                  have HR3 := Lib.hid r3; clear r3
                  have HR4 := Lib.hid r4; clear r4
                  have HR5 := Lib.hid r5; clear r5
                  have HR6 := Lib.hid r6
                  have hn17 : R.length + 1 ≤ 17592186044416 := by omega
                  clear r6
                  have HID := Lib.hid id; clear id
                  have HIB := Lib.hid ib; clear ib
                  have HIP := Lib.hid ip; clear ip
                  have HBV := Lib.hid hbv; clear hbv
                  by_cases hx1 : x = -1
                  · subst hx1
                    have hgo : w1.heap.size < wr.heap.size := (Array.getElem?_eq_some_iff.1 HR3.out).1
                    have hgw2 : w1.heap.size < w2.heap.size := Nat.lt_of_lt_of_le (Array.getElem?_eq_some_iff.1 H3.out).1 hw2r
                    have hne : ∀ k, (Value.slice Av R.length cv).ownBlock = some k → w1.heap.size < k := HR4.out
                    have hMm : Mods [w1.heap.size] wr ((wr.setCell ⟨w1.heap.size, j, none⟩ (.int .i64 hh)).alloc (.cells #[.int .i64 j] 3)) := ((Mods.refl [w1.heap.size] wr).setCell (by simp) _).alloc _
                    have hsz : ((wr.setCell ⟨w1.heap.size, j, none⟩ (.int .i64 hh)).alloc (.cells #[.int .i64 (j : Int)] 3)).heap.size = wr.heap.size + 1 := by simp [World.setCell]
                    have hW : ((wr.setCell ⟨w1.heap.size, j, none⟩ (.int .i64 hh)).alloc (.cells #[.int .i64 (j : Int)] 3)).heap[w1.heap.size]? = some (.cells (intV (hs.set j hh)).toArray 3 (0, 0)) := by
                      refine (Below.heap_alloc _ _ _ (by simp [World.setCell]; omega)).trans ?_
                      rw [heap_setCell_at HR3.out]
                      refine congrArg (fun l : Array Value => some (Obj.cells l 3 (0, 0))) ?_
                      simp [intV, List.map_set]
                    have hjs : (hs.set j hh)[j]? = some hh := by
                      have : j < hs.length := (List.getElem?_eq_some_iff.1 HBV.out).1
                      simp [this]
                    go_wp2_with (at_builtin; refine wpList_append_int _ rfl _ _ rfl _ R.length (natV R) rfl ?_ _ _ (j : Int) rfl ?_ ?_ ?_; (exact HR2.out.mods (((Mods.refl [w1.heap.size] wr).setCell (by simp) _).alloc _) (fun k hk => by have := HR4.out k hk; simp; omega)); (go_simp); (exact hn17); (intro v' w3 hown3 hg3 hat3; have hq : Mods ((Value.slice Av R.length cv).ownBlock).toList ((wr.setCell ⟨w1.heap.size, j, none⟩ (.int .i64 hh)).alloc (.cells #[.int .i64 j] 3)) w3 := ((Mods.refl _ _).grown hg3 (fun k hk _ => by have hk' : (Value.slice Av R.length cv).ownBlock = some k := hk; simp [hk'])); have hcu3 : w3.cell? ⟨bu, ou + k, none⟩ = some (.int .i64 j) := (World.cell?_of_block ((hq.block bu (by rw [hsz]; omega) (fun h => by have := HIB.out bu (by simpa using h); omega)).trans (hMm.block bu (by omega) (by simp; omega)))).trans hcu; have hout3 : w3.cell? ⟨w1.heap.size, j, none⟩ = some (.int .i64 hh) := intHeap_cell ((hq.block w1.heap.size (by rw [hsz]; omega) (fun h => by have := hne w1.heap.size (by simpa using h); omega)).trans hW) hjs; have HO3 := Lib.hid hown3; have HG3 := Lib.hid hg3; have HA3 := Lib.hid hat3; clear hown3 hg3 hat3 hq))
                    go_roundg (us.length - (k + 1))
                    case measure => have := hm1.out; omega
                    case rel =>
                      go_light
                      have hnf := nNone_set (h := hh) HBV.out (by omega)
                      have hx := HM.out k _ (get_some hlt)
                      rw [HJ.out] at hx
                      have hpj : pc ≠ j := fun e => by
                        have h1 := HIP.out
                        rw [e, HBV.out] at h1
                        exact HH0.out (Option.some.inj h1).symm
                      have hnew : ∀ k, v'.ownBlock = some k → (Value.slice Av R.length cv).ownBlock = some k ∨ k = wr.heap.size + 1 := fun k hk => by
                        rcases HA3.out with h | h
                        · exact .inl (h ▸ hk)
                        · rw [hk] at h
                          have h' := Option.some.inj h
                          exact .inr (h'.trans hsz)
                      have hsz3 := HG3.out.size
                      rw [hsz] at hsz3
                      refine ⟨k + 1, hs.set j hh, R ++ [j], by go_num, by omega, by simp [Hid], ?_, ⟨HK.out j hs R hx HIP.out HBV.out HR1.out, ?_, ?_, ?_, ?_, ?_⟩, ?_, ?_, by omega, ?_, fun i x hi hx' => ?_⟩
                      · have := hm2.out; unfold Hid; simp; omega
                      · have := HO3.out; simpa [natV] using this
                      · refine (HG3.out.block _ (by rw [hsz]; omega) (fun h => ?_)).trans ?_
                        · have := hne _ h.symm; omega
                        · refine (Below.heap_alloc _ _ _ (by simp [World.setCell]; omega)).trans ?_
                          rw [heap_setCell_at HR3.out]
                          refine congrArg (fun l : Array Value => some (Obj.cells l 3 (0, 0))) ?_
                          simp [intV, List.map_set]
                      · intro k hk
                        rcases hnew k hk with h | h
                        · exact hne k h
                        · omega
                      · exact (((HR5.out.setCell (fun h => by simp at h) _).alloc _).grown HG3.out (fun k hk hlt => by have := hne k hk; omega))
                      · have := HR6.out; simp at this ⊢; omega
                      · refine (HIU.out.step hMm (fun k hk => ?_)).step (w' := w3) (S := ((Value.slice Av R.length cv).ownBlock).toList) ((Mods.refl _ _).grown HG3.out (fun k hk _ => by have hk' : (Value.slice Av R.length cv).ownBlock = some k := hk; simp [hk'])) (fun k hk => HIB.out k (by simpa using hk))
                        obtain rfl := List.mem_singleton.1 hk
                        left; exact hgw2
                      · intro k hk
                        rcases hnew k hk with h | h
                        · exact HIB.out k h
                        · right; omega
                      · rw [List.getElem?_set, if_neg (Ne.symm hpj)]; exact HIP.out
                      · rw [List.getElem?_set]
                        rcases Nat.lt_or_ge i k with h | h
                        · have hb := HID.out i x h hx'
                          split
                          · rename_i e
                            rw [← e, HBV.out] at hb
                            have := Option.some.inj hb
                            omega
                          · exact hb
                        · obtain rfl : i = k := by omega
                          rw [get_some hlt] at hx'
                          obtain rfl := Option.some.inj hx'
                          rw [HJ.out]
                          have : j < hs.length := (List.getElem?_eq_some_iff.1 HBV.out).1
                          simp [this]
                  · have hx0d : decide (x < 0) = false := by simp; omega
                    rcases dec_cases (x = hh) with ⟨hx2, _⟩ | ⟨hx2, _⟩
                    · subst hx2
                      go_wp2
                      go_roundg (us.length - (k + 1))
                      case measure => have := hm1.out; omega
                      case rel =>
                        go_light
                        refine ⟨k + 1, hs, R, by go_num, by omega, by simp [Hid], hm2, ⟨HR1.out, HR2.out, HR3.out, HR4.out, HR5.out, HR6.out⟩, HIU.out, HIB.out, is, HIP.out, fun i x hi hx => ?_⟩
                        rcases Nat.lt_or_ge i k with h | h
                        · exact HID.out i x h hx
                        · obtain rfl : i = k := by omega
                          rw [get_some hlt] at hx
                          obtain rfl := Option.some.inj hx
                          rw [HJ.out]; exact HBV.out
                    · have hx2d : (x != hh) = true := by simp [hx2]
                      go_wp2
                      go_ret3
                      go_light
                      have hx := HM.out k _ (get_some hlt)
                      rw [HJ.out] at hx
                      exact ⟨_, _, _, rfl, .inr ⟨by omega, HFL.out j hs R x hx HIP.out HBV.out hx1 hx2 HR1.out⟩, (HM1.out.trans HR5.out).ex⟩
                · have hke : k = us.length := by omega
                  obtain ⟨Av, cv, rfl, _, _⟩ := r2.slice
                  have HR1 := Lib.hid r1; clear r1
                  have HR2 := Lib.hid r2; clear r2
                  have HR3 := Lib.hid r3; clear r3
                  have HR4 := Lib.hid r4; clear r4
                  have HR5 := Lib.hid r5; clear r5
                  have HR6 := Lib.hid r6; clear r6
                  have HID := Lib.hid id; clear id
                  have HIB := Lib.hid ib; clear ib
                  have HIU := Lib.hid iu; clear iu
                  have HIP := Lib.hid ip; clear ip
                  go_wp2
                  go_roundg (2 * nNone hs + R.length)
                  case measure => have := hm2.out; omega
                  case rel =>
                    go_light
                    exact ⟨hs, R, by unfold Hid; omega, HPO.out hs R HR1.out HIP.out (fun i x hi hx => HID.out i x (by omega) hx), HR2.out, HR3.out, HR4.out, HR5.out, by have := HR6.out; omega⟩
          · have HN14 : Hid (callArgs p f.code[pc] = 0) := by unfold Hid callArgs; rw [if_neg h14]
            have e14 : (f.code[pc].kind == 14) = false := by simp [h14]
            have hT' : (effectF f.code[pc].kind f.code[pc].a 0).1 = T := by have := hT; rw [HN14.out] at this; exact this
            have hU' : (effectF f.code[pc].kind f.code[pc].a 0).2.1 = U := by have := hU; rw [HN14.out] at this; exact this
            by_cases hcv : cp = 1
            · subst hcv
              rcases dec_cases (h0 < T) with ⟨d1, d1d⟩ | ⟨d1, d1d⟩
              · go_wp2_with ((go_at_call 64; (with_reducible refine (refEffect_calls _ _ _ _).mono ?_); rintro e w2 ⟨he, x2, hx2⟩; rw [hT', hU'] at he; subst he; have hME : Mods [] wr w2 := (by first | exact mods_of hx2 | exact ((Mods.refl [] wr).ext _).trans (mods_of hx2)); have a0 := hME.cell b0'; have a1 := hME.cell b1'; have a2 := hME.cell b2'; have hcell := hME.cell hcell0; have HME := Lib.hid hME; clear hx2 hME))
                go_ret3
                go_light
                exact ⟨_, _, _, rfl, .inr ⟨by omega, HR.out.fail1 (get_some hpl) Hpc.out HH0.out (fun hh => by have := hh.1; rw [HT.out] at this; omega)⟩, (HM1.out.trans (H5.out.trans HME.out)).ex⟩
              rcases dec_cases (8 < h0 - T + U) with ⟨d2, d2d⟩ | ⟨d2, d2d⟩
              · go_wp2_with ((go_at_call 64; (with_reducible refine (refEffect_calls _ _ _ _).mono ?_); rintro e w2 ⟨he, x2, hx2⟩; rw [hT', hU'] at he; subst he; have hME : Mods [] wr w2 := (by first | exact mods_of hx2 | exact ((Mods.refl [] wr).ext _).trans (mods_of hx2)); have a0 := hME.cell b0'; have a1 := hME.cell b1'; have a2 := hME.cell b2'; have hcell := hME.cell hcell0; have HME := Lib.hid hME; clear hx2 hME))
                go_ret3
                go_light
                exact ⟨_, _, _, rfl, .inr ⟨by omega, HR.out.fail1 (get_some hpl) Hpc.out HH0.out (fun hh => by have := hh.2; rw [← HE.out] at this; omega)⟩, (HM1.out.trans (H5.out.trans HME.out)).ex⟩
              go_wp2_with (first | (go_at_call 64; (with_reducible refine (refEffect_calls _ _ _ _).mono ?_); rintro e w2 ⟨he, x2, hx2⟩; rw [hT', hU'] at he; subst he; have hME : Mods [] wr w2 := (by first | exact mods_of hx2 | exact ((Mods.refl [] wr).ext _).trans (mods_of hx2)); have a0 := hME.cell b0'; have a1 := hME.cell b1'; have a2 := hME.cell b2'; have hcell := hME.cell hcell0; have HME := Lib.hid hME; clear hx2 hME) | (go_at_call 63; (with_reducible refine (rNext_calls f _ pc _ ?_ hm hpl).mono ?_); (exact HC.out.ext insR_grows (HM1.out.trans (H5.out.trans HME.out))); rintro e w4 ⟨u, rfl, hu, x4, hx4⟩; obtain ⟨Au, cu, rfl, hu1, hu2⟩ := hu.1.slice; have HU := Lib.hid hu; have HX := Lib.hid (mods_of hx4); clear hu hx4))
              have hwq : Mods [] wr w4 := HME.out.trans HX.out
              have hw24 := HX.out.size
              have hw2r := HME.out.size
              clear HX
              have HU2 : Hid (UAt w2.heap.size w4.heap.size Au (nextI f.code[pc] pc f.code.length) w4) := HU.out.uat
              clear HU
              have hnx : ∀ (i : Nat) (x : Int), (nextI f.code[pc] pc f.code.length)[i]? = some x → 0 ≤ x ∧ x < f.code.length := fun i x hx => codeMay_next hm (get_some hpl) (List.mem_of_getElem? hx)
              have hmem : ∀ (i : Nat) (x : Int), (nextI f.code[pc] pc f.code.length)[i]? = some x → x ∈ nextI f.code[pc] pc f.code.length := fun i x hx => List.mem_of_getElem? hx
              have hmk2 : ∀ (to : Nat) (hs : List Int) (R : List Nat), (to : Int) ∈ nextI f.code[pc] pc f.code.length → hs[pc]? = some h0 → hs[to]? = some (-1) → HI p f hs (pc :: R) → HI p f (hs.set to (h0 - T + U)) (pc :: R ++ [to]) := fun to hs R h1 h2 h3 h4 => h4.mark (get_some hpl) h2 HH0.out (HE.out h0) (by omega) (by omega) h1 h3
              have hfl2 : ∀ (to : Nat) (hs : List Int) (R : List Nat) (x : Int), (to : Int) ∈ nextI f.code[pc] pc f.code.length → hs[pc]? = some h0 → hs[to]? = some x → x ≠ -1 → x ≠ h0 - T + U → HI p f hs (pc :: R) → NoHeights p f := fun to hs R x h1 h2 h3 h4 h5 h6 => h6.fail2 (get_some hpl) h2 HH0.out h1 h3 h4 (by rw [← HE.out]; exact h5)
              have hpop : ∀ (hs : List Int) (R : List Nat), HI p f hs (pc :: R) → hs[pc]? = some h0 → (∀ (i : Nat) (x : Int), i < (nextI f.code[pc] pc f.code.length).length → (nextI f.code[pc] pc f.code.length)[i]? = some x → hs[x.toNat]? = some (h0 - T + U)) → HI p f hs R := fun hs R h1 hp0 h2 => h1.pop hp0 fun i hi => by
                have e : i = f.code[pc] := by rw [get_some hpl] at hi; exact (Option.some.inj hi).symm
                subst e
                refine ⟨by rw [HT.out]; omega, by rw [← HE.out]; omega, fun to ht => ?_⟩
                obtain ⟨n, hn, hx⟩ := List.getElem_of_mem ht
                have := h2 n _ hn (get_some hn)
                rw [hx] at this
                rw [← HE.out]
                simpa using this
              have HN := Lib.hid hnx
              have HM := Lib.hid hmem
              have HK := Lib.hid hmk2
              have HFL := Lib.hid hfl2
              have HPO := Lib.hid hpop
              clear hnx hmem hmk2 hpop hfl2
              have hul : (nextI f.code[pc] pc f.code.length).length ≤ 2 := nextF_len _ _ _ _
              generalize nextI f.code[pc] pc f.code.length = us at *
              have hhb : 0 ≤ h0 - T + U ∧ h0 - T + U ≤ 8 := by omega
              obtain ⟨hh1, hh2⟩ := hhb
              clear HE hT' hU' hT hU
              generalize h0 - T + U = hh at *
              obtain ⟨wo, rfl⟩ : ∃ wo : World, wo = wr := ⟨_, rfl⟩
              go_loopg [9, 18] us.length (fun m v i wi => ∃ k hs R, i = .int .i64 (k : Nat) ∧ k ≤ us.length ∧ Hid (us.length - k ≤ m) ∧ Hid (2 * nNone hs + (R.length + 1) ≤ gk) ∧ Hid (WIn p f w1 w1.heap.size w2.heap.size w4.heap.size Au us pc h0 hh hs R k v wi))
              case atStart =>
                refine ⟨0, hs, rest, rfl, by omega, by simp [Hid], by simpa [Hid] using hmeas.out, ⟨HR.out, ?_, ?_, H4.out, H5.out.trans hwq, by have := H6.out; simpa using this⟩, HU2.out, ?_, by omega, Hpc.out, fun i x h => by omega⟩
                · exact H2.out.tail1.mods hwq (by simp)
                · exact (hwq.block _ (Array.getElem?_eq_some_iff.1 H3.out).1 (by simp)).trans H3.out
                · exact fun k hk => .inl (by have := H2.out.lt hk; omega)
              case round =>
                obtain ⟨k, hs, R, rfl, hk, hm1, hm2, hI⟩ := hrel
                obtain ⟨⟨r1, r2, r3, r4, r5, r6⟩, iu, ib, is, ip, id⟩ := hI.out
                clear hI
                by_cases hlt : k < us.length
                · obtain ⟨j, hj⟩ : ∃ j : Nat, us[k] = (j : Int) := ⟨us[k].toNat, by have := (HN.out k _ (get_some hlt)).1; omega⟩
                  have hjl : j < f.code.length := by have := (HN.out k _ (get_some hlt)).2; omega
                  obtain ⟨bu, ou, hA, hb1u, hb2u, hcu⟩ := iu k _ (get_some hlt)
                  rw [hj] at hcu
                  have HJ := Lib.hid hj; clear hj
                  have HIU := Lib.hid iu; clear iu
                  subst hA
                  have hbs : ∃ bv, hs[j]? = some bv := ⟨hs[j]'(by rw [r1.len]; exact hjl), get_some _⟩
                  obtain ⟨x, hbv⟩ := hbs
                  have hxlo := (r1.lo j x hbv).1
                  have hout := intHeap_cell r3 hbv
                  have hfz := boolHeap_frozen r3 j
                  obtain ⟨Av, cv, rfl, _, _⟩ := r2.slice
                  have HR1 := Lib.hid r1; clear r1
                  have HR2 := Lib.hid r2; clear r2
                  have HR3 := Lib.hid r3; clear r3
                  have HR4 := Lib.hid r4; clear r4
                  have HR5 := Lib.hid r5; clear r5
                  have HR6 := Lib.hid r6
                  have hn17 : R.length + 1 ≤ 17592186044416 := by omega
                  clear r6
                  have HID := Lib.hid id; clear id
                  have HIB := Lib.hid ib; clear ib
                  have HIP := Lib.hid ip; clear ip
                  have HBV := Lib.hid hbv; clear hbv
                  by_cases hx1 : x = -1
                  · subst hx1
                    have hgo : w1.heap.size < wr.heap.size := (Array.getElem?_eq_some_iff.1 HR3.out).1
                    have hgw2 : w1.heap.size < w2.heap.size := Nat.lt_of_lt_of_le (Array.getElem?_eq_some_iff.1 H3.out).1 hw2r
                    have hne : ∀ k, (Value.slice Av R.length cv).ownBlock = some k → w1.heap.size < k := HR4.out
                    have hMm : Mods [w1.heap.size] wr ((wr.setCell ⟨w1.heap.size, j, none⟩ (.int .i64 hh)).alloc (.cells #[.int .i64 j] 3)) := ((Mods.refl [w1.heap.size] wr).setCell (by simp) _).alloc _
                    have hsz : ((wr.setCell ⟨w1.heap.size, j, none⟩ (.int .i64 hh)).alloc (.cells #[.int .i64 (j : Int)] 3)).heap.size = wr.heap.size + 1 := by simp [World.setCell]
                    have hW : ((wr.setCell ⟨w1.heap.size, j, none⟩ (.int .i64 hh)).alloc (.cells #[.int .i64 (j : Int)] 3)).heap[w1.heap.size]? = some (.cells (intV (hs.set j hh)).toArray 3 (0, 0)) := by
                      refine (Below.heap_alloc _ _ _ (by simp [World.setCell]; omega)).trans ?_
                      rw [heap_setCell_at HR3.out]
                      refine congrArg (fun l : Array Value => some (Obj.cells l 3 (0, 0))) ?_
                      simp [intV, List.map_set]
                    have hjs : (hs.set j hh)[j]? = some hh := by
                      have : j < hs.length := (List.getElem?_eq_some_iff.1 HBV.out).1
                      simp [this]
                    go_wp2_with (at_builtin; refine wpList_append_int _ rfl _ _ rfl _ R.length (natV R) rfl ?_ _ _ (j : Int) rfl ?_ ?_ ?_; (exact HR2.out.mods (((Mods.refl [w1.heap.size] wr).setCell (by simp) _).alloc _) (fun k hk => by have := HR4.out k hk; simp; omega)); (go_simp); (exact hn17); (intro v' w3 hown3 hg3 hat3; have hq : Mods ((Value.slice Av R.length cv).ownBlock).toList ((wr.setCell ⟨w1.heap.size, j, none⟩ (.int .i64 hh)).alloc (.cells #[.int .i64 j] 3)) w3 := ((Mods.refl _ _).grown hg3 (fun k hk _ => by have hk' : (Value.slice Av R.length cv).ownBlock = some k := hk; simp [hk'])); have hcu3 : w3.cell? ⟨bu, ou + k, none⟩ = some (.int .i64 j) := (World.cell?_of_block ((hq.block bu (by rw [hsz]; omega) (fun h => by have := HIB.out bu (by simpa using h); omega)).trans (hMm.block bu (by omega) (by simp; omega)))).trans hcu; have hout3 : w3.cell? ⟨w1.heap.size, j, none⟩ = some (.int .i64 hh) := intHeap_cell ((hq.block w1.heap.size (by rw [hsz]; omega) (fun h => by have := hne w1.heap.size (by simpa using h); omega)).trans hW) hjs; have HO3 := Lib.hid hown3; have HG3 := Lib.hid hg3; have HA3 := Lib.hid hat3; clear hown3 hg3 hat3 hq))
                    go_roundg (us.length - (k + 1))
                    case measure => have := hm1.out; omega
                    case rel =>
                      go_light
                      have hnf := nNone_set (h := hh) HBV.out (by omega)
                      have hx := HM.out k _ (get_some hlt)
                      rw [HJ.out] at hx
                      have hpj : pc ≠ j := fun e => by
                        have h1 := HIP.out
                        rw [e, HBV.out] at h1
                        exact HH0.out (Option.some.inj h1).symm
                      have hnew : ∀ k, v'.ownBlock = some k → (Value.slice Av R.length cv).ownBlock = some k ∨ k = wr.heap.size + 1 := fun k hk => by
                        rcases HA3.out with h | h
                        · exact .inl (h ▸ hk)
                        · rw [hk] at h
                          have h' := Option.some.inj h
                          exact .inr (h'.trans hsz)
                      have hsz3 := HG3.out.size
                      rw [hsz] at hsz3
                      refine ⟨k + 1, hs.set j hh, R ++ [j], by go_num, by omega, by simp [Hid], ?_, ⟨HK.out j hs R hx HIP.out HBV.out HR1.out, ?_, ?_, ?_, ?_, ?_⟩, ?_, ?_, by omega, ?_, fun i x hi hx' => ?_⟩
                      · have := hm2.out; unfold Hid; simp; omega
                      · have := HO3.out; simpa [natV] using this
                      · refine (HG3.out.block _ (by rw [hsz]; omega) (fun h => ?_)).trans ?_
                        · have := hne _ h.symm; omega
                        · refine (Below.heap_alloc _ _ _ (by simp [World.setCell]; omega)).trans ?_
                          rw [heap_setCell_at HR3.out]
                          refine congrArg (fun l : Array Value => some (Obj.cells l 3 (0, 0))) ?_
                          simp [intV, List.map_set]
                      · intro k hk
                        rcases hnew k hk with h | h
                        · exact hne k h
                        · omega
                      · exact (((HR5.out.setCell (fun h => by simp at h) _).alloc _).grown HG3.out (fun k hk hlt => by have := hne k hk; omega))
                      · have := HR6.out; simp at this ⊢; omega
                      · refine (HIU.out.step hMm (fun k hk => ?_)).step (w' := w3) (S := ((Value.slice Av R.length cv).ownBlock).toList) ((Mods.refl _ _).grown HG3.out (fun k hk _ => by have hk' : (Value.slice Av R.length cv).ownBlock = some k := hk; simp [hk'])) (fun k hk => HIB.out k (by simpa using hk))
                        obtain rfl := List.mem_singleton.1 hk
                        left; exact hgw2
                      · intro k hk
                        rcases hnew k hk with h | h
                        · exact HIB.out k h
                        · right; omega
                      · rw [List.getElem?_set, if_neg (Ne.symm hpj)]; exact HIP.out
                      · rw [List.getElem?_set]
                        rcases Nat.lt_or_ge i k with h | h
                        · have hb := HID.out i x h hx'
                          split
                          · rename_i e
                            rw [← e, HBV.out] at hb
                            have := Option.some.inj hb
                            omega
                          · exact hb
                        · obtain rfl : i = k := by omega
                          rw [get_some hlt] at hx'
                          obtain rfl := Option.some.inj hx'
                          rw [HJ.out]
                          have : j < hs.length := (List.getElem?_eq_some_iff.1 HBV.out).1
                          simp [this]
                  · have hx0d : decide (x < 0) = false := by simp; omega
                    rcases dec_cases (x = hh) with ⟨hx2, _⟩ | ⟨hx2, _⟩
                    · subst hx2
                      go_wp2
                      go_roundg (us.length - (k + 1))
                      case measure => have := hm1.out; omega
                      case rel =>
                        go_light
                        refine ⟨k + 1, hs, R, by go_num, by omega, by simp [Hid], hm2, ⟨HR1.out, HR2.out, HR3.out, HR4.out, HR5.out, HR6.out⟩, HIU.out, HIB.out, is, HIP.out, fun i x hi hx => ?_⟩
                        rcases Nat.lt_or_ge i k with h | h
                        · exact HID.out i x h hx
                        · obtain rfl : i = k := by omega
                          rw [get_some hlt] at hx
                          obtain rfl := Option.some.inj hx
                          rw [HJ.out]; exact HBV.out
                    · have hx2d : (x != hh) = true := by simp [hx2]
                      go_wp2
                      go_ret3
                      go_light
                      have hx := HM.out k _ (get_some hlt)
                      rw [HJ.out] at hx
                      exact ⟨_, _, _, rfl, .inr ⟨by omega, HFL.out j hs R x hx HIP.out HBV.out hx1 hx2 HR1.out⟩, (HM1.out.trans HR5.out).ex⟩
                · have hke : k = us.length := by omega
                  obtain ⟨Av, cv, rfl, _, _⟩ := r2.slice
                  have HR1 := Lib.hid r1; clear r1
                  have HR2 := Lib.hid r2; clear r2
                  have HR3 := Lib.hid r3; clear r3
                  have HR4 := Lib.hid r4; clear r4
                  have HR5 := Lib.hid r5; clear r5
                  have HR6 := Lib.hid r6; clear r6
                  have HID := Lib.hid id; clear id
                  have HIB := Lib.hid ib; clear ib
                  have HIU := Lib.hid iu; clear iu
                  have HIP := Lib.hid ip; clear ip
                  go_wp2
                  go_roundg (2 * nNone hs + R.length)
                  case measure => have := hm2.out; omega
                  case rel =>
                    go_light
                    exact ⟨hs, R, by unfold Hid; omega, HPO.out hs R HR1.out HIP.out (fun i x hi hx => HID.out i x (by omega) hx), HR2.out, HR3.out, HR4.out, HR5.out, by have := HR6.out; omega⟩
            · rcases dec_cases (h0 < T) with ⟨d1, d1d⟩ | ⟨d1, d1d⟩
              · go_wp2_with ((go_at_call 64; (with_reducible refine (refEffect_calls _ _ _ _).mono ?_); rintro e w2 ⟨he, x2, hx2⟩; rw [hT', hU'] at he; subst he; have hME : Mods [] wr w2 := (by first | exact mods_of hx2 | exact ((Mods.refl [] wr).ext _).trans (mods_of hx2)); have a0 := hME.cell b0'; have a1 := hME.cell b1'; have a2 := hME.cell b2'; have hcell := hME.cell hcell0; have HME := Lib.hid hME; clear hx2 hME))
                go_ret3
                go_light
                exact ⟨_, _, _, rfl, .inr ⟨by omega, HR.out.fail1 (get_some hpl) Hpc.out HH0.out (fun hh => by have := hh.1; rw [HT.out] at this; omega)⟩, (HM1.out.trans (H5.out.trans HME.out)).ex⟩
              rcases dec_cases (8 < h0 - T + U) with ⟨d2, d2d⟩ | ⟨d2, d2d⟩
              · go_wp2_with ((go_at_call 64; (with_reducible refine (refEffect_calls _ _ _ _).mono ?_); rintro e w2 ⟨he, x2, hx2⟩; rw [hT', hU'] at he; subst he; have hME : Mods [] wr w2 := (by first | exact mods_of hx2 | exact ((Mods.refl [] wr).ext _).trans (mods_of hx2)); have a0 := hME.cell b0'; have a1 := hME.cell b1'; have a2 := hME.cell b2'; have hcell := hME.cell hcell0; have HME := Lib.hid hME; clear hx2 hME))
                go_ret3
                go_light
                exact ⟨_, _, _, rfl, .inr ⟨by omega, HR.out.fail1 (get_some hpl) Hpc.out HH0.out (fun hh => by have := hh.2; rw [← HE.out] at this; omega)⟩, (HM1.out.trans (H5.out.trans HME.out)).ex⟩
              go_wp2_with (first | (go_at_call 64; (with_reducible refine (refEffect_calls _ _ _ _).mono ?_); rintro e w2 ⟨he, x2, hx2⟩; rw [hT', hU'] at he; subst he; have hME : Mods [] wr w2 := (by first | exact mods_of hx2 | exact ((Mods.refl [] wr).ext _).trans (mods_of hx2)); have a0 := hME.cell b0'; have a1 := hME.cell b1'; have a2 := hME.cell b2'; have hcell := hME.cell hcell0; have HME := Lib.hid hME; clear hx2 hME) | (go_at_call 63; (with_reducible refine (rNext_calls f _ pc _ ?_ hm hpl).mono ?_); (exact HC.out.ext insR_grows (HM1.out.trans (H5.out.trans HME.out))); rintro e w4 ⟨u, rfl, hu, x4, hx4⟩; obtain ⟨Au, cu, rfl, hu1, hu2⟩ := hu.1.slice; have HU := Lib.hid hu; have HX := Lib.hid (mods_of hx4); clear hu hx4))
              have hwq : Mods [] wr w4 := HME.out.trans HX.out
              have hw24 := HX.out.size
              have hw2r := HME.out.size
              clear HX
              have HU2 : Hid (UAt w2.heap.size w4.heap.size Au (nextI f.code[pc] pc f.code.length) w4) := HU.out.uat
              clear HU
              have hnx : ∀ (i : Nat) (x : Int), (nextI f.code[pc] pc f.code.length)[i]? = some x → 0 ≤ x ∧ x < f.code.length := fun i x hx => codeMay_next hm (get_some hpl) (List.mem_of_getElem? hx)
              have hmem : ∀ (i : Nat) (x : Int), (nextI f.code[pc] pc f.code.length)[i]? = some x → x ∈ nextI f.code[pc] pc f.code.length := fun i x hx => List.mem_of_getElem? hx
              have hmk2 : ∀ (to : Nat) (hs : List Int) (R : List Nat), (to : Int) ∈ nextI f.code[pc] pc f.code.length → hs[pc]? = some h0 → hs[to]? = some (-1) → HI p f hs (pc :: R) → HI p f (hs.set to (h0 - T + U)) (pc :: R ++ [to]) := fun to hs R h1 h2 h3 h4 => h4.mark (get_some hpl) h2 HH0.out (HE.out h0) (by omega) (by omega) h1 h3
              have hfl2 : ∀ (to : Nat) (hs : List Int) (R : List Nat) (x : Int), (to : Int) ∈ nextI f.code[pc] pc f.code.length → hs[pc]? = some h0 → hs[to]? = some x → x ≠ -1 → x ≠ h0 - T + U → HI p f hs (pc :: R) → NoHeights p f := fun to hs R x h1 h2 h3 h4 h5 h6 => h6.fail2 (get_some hpl) h2 HH0.out h1 h3 h4 (by rw [← HE.out]; exact h5)
              have hpop : ∀ (hs : List Int) (R : List Nat), HI p f hs (pc :: R) → hs[pc]? = some h0 → (∀ (i : Nat) (x : Int), i < (nextI f.code[pc] pc f.code.length).length → (nextI f.code[pc] pc f.code.length)[i]? = some x → hs[x.toNat]? = some (h0 - T + U)) → HI p f hs R := fun hs R h1 hp0 h2 => h1.pop hp0 fun i hi => by
                have e : i = f.code[pc] := by rw [get_some hpl] at hi; exact (Option.some.inj hi).symm
                subst e
                refine ⟨by rw [HT.out]; omega, by rw [← HE.out]; omega, fun to ht => ?_⟩
                obtain ⟨n, hn, hx⟩ := List.getElem_of_mem ht
                have := h2 n _ hn (get_some hn)
                rw [hx] at this
                rw [← HE.out]
                simpa using this
              have HN := Lib.hid hnx
              have HM := Lib.hid hmem
              have HK := Lib.hid hmk2
              have HFL := Lib.hid hfl2
              have HPO := Lib.hid hpop
              clear hnx hmem hmk2 hpop hfl2
              have hul : (nextI f.code[pc] pc f.code.length).length ≤ 2 := nextF_len _ _ _ _
              generalize nextI f.code[pc] pc f.code.length = us at *
              have hhb : 0 ≤ h0 - T + U ∧ h0 - T + U ≤ 8 := by omega
              obtain ⟨hh1, hh2⟩ := hhb
              clear HE hT' hU' hT hU
              generalize h0 - T + U = hh at *
              obtain ⟨wo, rfl⟩ : ∃ wo : World, wo = wr := ⟨_, rfl⟩
              go_loopg [9, 18] us.length (fun m v i wi => ∃ k hs R, i = .int .i64 (k : Nat) ∧ k ≤ us.length ∧ Hid (us.length - k ≤ m) ∧ Hid (2 * nNone hs + (R.length + 1) ≤ gk) ∧ Hid (WIn p f w1 w1.heap.size w2.heap.size w4.heap.size Au us pc h0 hh hs R k v wi))
              case atStart =>
                refine ⟨0, hs, rest, rfl, by omega, by simp [Hid], by simpa [Hid] using hmeas.out, ⟨HR.out, ?_, ?_, H4.out, H5.out.trans hwq, by have := H6.out; simpa using this⟩, HU2.out, ?_, by omega, Hpc.out, fun i x h => by omega⟩
                · exact H2.out.tail.mods hwq (by simp)
                · exact (hwq.block _ (Array.getElem?_eq_some_iff.1 H3.out).1 (by simp)).trans H3.out
                · exact fun k hk => .inl (by have := H2.out.lt hk; omega)
              case round =>
                obtain ⟨k, hs, R, rfl, hk, hm1, hm2, hI⟩ := hrel
                obtain ⟨⟨r1, r2, r3, r4, r5, r6⟩, iu, ib, is, ip, id⟩ := hI.out
                clear hI
                by_cases hlt : k < us.length
                · obtain ⟨j, hj⟩ : ∃ j : Nat, us[k] = (j : Int) := ⟨us[k].toNat, by have := (HN.out k _ (get_some hlt)).1; omega⟩
                  have hjl : j < f.code.length := by have := (HN.out k _ (get_some hlt)).2; omega
                  obtain ⟨bu, ou, hA, hb1u, hb2u, hcu⟩ := iu k _ (get_some hlt)
                  rw [hj] at hcu
                  have HJ := Lib.hid hj; clear hj
                  have HIU := Lib.hid iu; clear iu
                  subst hA
                  have hbs : ∃ bv, hs[j]? = some bv := ⟨hs[j]'(by rw [r1.len]; exact hjl), get_some _⟩
                  obtain ⟨x, hbv⟩ := hbs
                  have hxlo := (r1.lo j x hbv).1
                  have hout := intHeap_cell r3 hbv
                  have hfz := boolHeap_frozen r3 j
                  obtain ⟨Av, cv, rfl, _, _⟩ := r2.slice
                  have HR1 := Lib.hid r1; clear r1
                  have HR2 := Lib.hid r2; clear r2
                  have HR3 := Lib.hid r3; clear r3
                  have HR4 := Lib.hid r4; clear r4
                  have HR5 := Lib.hid r5; clear r5
                  have HR6 := Lib.hid r6
                  have hn17 : R.length + 1 ≤ 17592186044416 := by omega
                  clear r6
                  have HID := Lib.hid id; clear id
                  have HIB := Lib.hid ib; clear ib
                  have HIP := Lib.hid ip; clear ip
                  have HBV := Lib.hid hbv; clear hbv
                  by_cases hx1 : x = -1
                  · subst hx1
                    have hgo : w1.heap.size < wr.heap.size := (Array.getElem?_eq_some_iff.1 HR3.out).1
                    have hgw2 : w1.heap.size < w2.heap.size := Nat.lt_of_lt_of_le (Array.getElem?_eq_some_iff.1 H3.out).1 hw2r
                    have hne : ∀ k, (Value.slice Av R.length cv).ownBlock = some k → w1.heap.size < k := HR4.out
                    have hMm : Mods [w1.heap.size] wr ((wr.setCell ⟨w1.heap.size, j, none⟩ (.int .i64 hh)).alloc (.cells #[.int .i64 j] 3)) := ((Mods.refl [w1.heap.size] wr).setCell (by simp) _).alloc _
                    have hsz : ((wr.setCell ⟨w1.heap.size, j, none⟩ (.int .i64 hh)).alloc (.cells #[.int .i64 (j : Int)] 3)).heap.size = wr.heap.size + 1 := by simp [World.setCell]
                    have hW : ((wr.setCell ⟨w1.heap.size, j, none⟩ (.int .i64 hh)).alloc (.cells #[.int .i64 (j : Int)] 3)).heap[w1.heap.size]? = some (.cells (intV (hs.set j hh)).toArray 3 (0, 0)) := by
                      refine (Below.heap_alloc _ _ _ (by simp [World.setCell]; omega)).trans ?_
                      rw [heap_setCell_at HR3.out]
                      refine congrArg (fun l : Array Value => some (Obj.cells l 3 (0, 0))) ?_
                      simp [intV, List.map_set]
                    have hjs : (hs.set j hh)[j]? = some hh := by
                      have : j < hs.length := (List.getElem?_eq_some_iff.1 HBV.out).1
                      simp [this]
                    go_wp2_with (at_builtin; refine wpList_append_int _ rfl _ _ rfl _ R.length (natV R) rfl ?_ _ _ (j : Int) rfl ?_ ?_ ?_; (exact HR2.out.mods (((Mods.refl [w1.heap.size] wr).setCell (by simp) _).alloc _) (fun k hk => by have := HR4.out k hk; simp; omega)); (go_simp); (exact hn17); (intro v' w3 hown3 hg3 hat3; have hq : Mods ((Value.slice Av R.length cv).ownBlock).toList ((wr.setCell ⟨w1.heap.size, j, none⟩ (.int .i64 hh)).alloc (.cells #[.int .i64 j] 3)) w3 := ((Mods.refl _ _).grown hg3 (fun k hk _ => by have hk' : (Value.slice Av R.length cv).ownBlock = some k := hk; simp [hk'])); have hcu3 : w3.cell? ⟨bu, ou + k, none⟩ = some (.int .i64 j) := (World.cell?_of_block ((hq.block bu (by rw [hsz]; omega) (fun h => by have := HIB.out bu (by simpa using h); omega)).trans (hMm.block bu (by omega) (by simp; omega)))).trans hcu; have hout3 : w3.cell? ⟨w1.heap.size, j, none⟩ = some (.int .i64 hh) := intHeap_cell ((hq.block w1.heap.size (by rw [hsz]; omega) (fun h => by have := hne w1.heap.size (by simpa using h); omega)).trans hW) hjs; have HO3 := Lib.hid hown3; have HG3 := Lib.hid hg3; have HA3 := Lib.hid hat3; clear hown3 hg3 hat3 hq))
                    go_roundg (us.length - (k + 1))
                    case measure => have := hm1.out; omega
                    case rel =>
                      go_light
                      have hnf := nNone_set (h := hh) HBV.out (by omega)
                      have hx := HM.out k _ (get_some hlt)
                      rw [HJ.out] at hx
                      have hpj : pc ≠ j := fun e => by
                        have h1 := HIP.out
                        rw [e, HBV.out] at h1
                        exact HH0.out (Option.some.inj h1).symm
                      have hnew : ∀ k, v'.ownBlock = some k → (Value.slice Av R.length cv).ownBlock = some k ∨ k = wr.heap.size + 1 := fun k hk => by
                        rcases HA3.out with h | h
                        · exact .inl (h ▸ hk)
                        · rw [hk] at h
                          have h' := Option.some.inj h
                          exact .inr (h'.trans hsz)
                      have hsz3 := HG3.out.size
                      rw [hsz] at hsz3
                      refine ⟨k + 1, hs.set j hh, R ++ [j], by go_num, by omega, by simp [Hid], ?_, ⟨HK.out j hs R hx HIP.out HBV.out HR1.out, ?_, ?_, ?_, ?_, ?_⟩, ?_, ?_, by omega, ?_, fun i x hi hx' => ?_⟩
                      · have := hm2.out; unfold Hid; simp; omega
                      · have := HO3.out; simpa [natV] using this
                      · refine (HG3.out.block _ (by rw [hsz]; omega) (fun h => ?_)).trans ?_
                        · have := hne _ h.symm; omega
                        · refine (Below.heap_alloc _ _ _ (by simp [World.setCell]; omega)).trans ?_
                          rw [heap_setCell_at HR3.out]
                          refine congrArg (fun l : Array Value => some (Obj.cells l 3 (0, 0))) ?_
                          simp [intV, List.map_set]
                      · intro k hk
                        rcases hnew k hk with h | h
                        · exact hne k h
                        · omega
                      · exact (((HR5.out.setCell (fun h => by simp at h) _).alloc _).grown HG3.out (fun k hk hlt => by have := hne k hk; omega))
                      · have := HR6.out; simp at this ⊢; omega
                      · refine (HIU.out.step hMm (fun k hk => ?_)).step (w' := w3) (S := ((Value.slice Av R.length cv).ownBlock).toList) ((Mods.refl _ _).grown HG3.out (fun k hk _ => by have hk' : (Value.slice Av R.length cv).ownBlock = some k := hk; simp [hk'])) (fun k hk => HIB.out k (by simpa using hk))
                        obtain rfl := List.mem_singleton.1 hk
                        left; exact hgw2
                      · intro k hk
                        rcases hnew k hk with h | h
                        · exact HIB.out k h
                        · right; omega
                      · rw [List.getElem?_set, if_neg (Ne.symm hpj)]; exact HIP.out
                      · rw [List.getElem?_set]
                        rcases Nat.lt_or_ge i k with h | h
                        · have hb := HID.out i x h hx'
                          split
                          · rename_i e
                            rw [← e, HBV.out] at hb
                            have := Option.some.inj hb
                            omega
                          · exact hb
                        · obtain rfl : i = k := by omega
                          rw [get_some hlt] at hx'
                          obtain rfl := Option.some.inj hx'
                          rw [HJ.out]
                          have : j < hs.length := (List.getElem?_eq_some_iff.1 HBV.out).1
                          simp [this]
                  · have hx0d : decide (x < 0) = false := by simp; omega
                    rcases dec_cases (x = hh) with ⟨hx2, _⟩ | ⟨hx2, _⟩
                    · subst hx2
                      go_wp2
                      go_roundg (us.length - (k + 1))
                      case measure => have := hm1.out; omega
                      case rel =>
                        go_light
                        refine ⟨k + 1, hs, R, by go_num, by omega, by simp [Hid], hm2, ⟨HR1.out, HR2.out, HR3.out, HR4.out, HR5.out, HR6.out⟩, HIU.out, HIB.out, is, HIP.out, fun i x hi hx => ?_⟩
                        rcases Nat.lt_or_ge i k with h | h
                        · exact HID.out i x h hx
                        · obtain rfl : i = k := by omega
                          rw [get_some hlt] at hx
                          obtain rfl := Option.some.inj hx
                          rw [HJ.out]; exact HBV.out
                    · have hx2d : (x != hh) = true := by simp [hx2]
                      go_wp2
                      go_ret3
                      go_light
                      have hx := HM.out k _ (get_some hlt)
                      rw [HJ.out] at hx
                      exact ⟨_, _, _, rfl, .inr ⟨by omega, HFL.out j hs R x hx HIP.out HBV.out hx1 hx2 HR1.out⟩, (HM1.out.trans HR5.out).ex⟩
                · have hke : k = us.length := by omega
                  obtain ⟨Av, cv, rfl, _, _⟩ := r2.slice
                  have HR1 := Lib.hid r1; clear r1
                  have HR2 := Lib.hid r2; clear r2
                  have HR3 := Lib.hid r3; clear r3
                  have HR4 := Lib.hid r4; clear r4
                  have HR5 := Lib.hid r5; clear r5
                  have HR6 := Lib.hid r6; clear r6
                  have HID := Lib.hid id; clear id
                  have HIB := Lib.hid ib; clear ib
                  have HIU := Lib.hid iu; clear iu
                  have HIP := Lib.hid ip; clear ip
                  go_wp2
                  go_roundg (2 * nNone hs + R.length)
                  case measure => have := hm2.out; omega
                  case rel =>
                    go_light
                    exact ⟨hs, R, by unfold Hid; omega, HPO.out hs R HR1.out HIP.out (fun i x hi hx => HID.out i x (by omega) hx), HR2.out, HR3.out, HR4.out, HR5.out, by have := HR6.out; omega⟩
end Go.Proofs.YtjpgcokdlopkaaaGreatDoor
