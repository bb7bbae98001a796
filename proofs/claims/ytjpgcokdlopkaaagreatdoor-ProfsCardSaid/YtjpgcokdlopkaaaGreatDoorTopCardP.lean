/-
  PROVED: the law 'swagelaw9.Profs' answers true at every input that the row admits, and its arguments read behind the call as they read before: the tied card 'Rows.ProfsCardSaid'.
  CONDITIONS: those of the row and the card alone (the variable errors.errorType holds what the program's text lays). By an AI agent.
-/
import Derived.Test.YtjpgcokdlopkaaaGreatDoorG23
import Derived.Test.YtjpgcokdlopkaaaGreatDoorRows
import Derived.Test.YtjpgcokdlopkaaaGreatDoorTie
import Derived.Test.YtjpgcokdlopkaaaGreatDoorCards
import Derived.ChangeSame
import Derived.ChangeVars
import Derived.JoinedOf
import Derived.RowKit
import Derived.RowKitTokens
import Derived.LaidLaws
import Derived.LaidHandle
import Derived.Stop.Joined
import Derived.SevenTiedAt
namespace Go.Proofs.YtjpgcokdlopkaaaGreatDoor
open Go.ChangeShapes Go.WideShapes Go.RowKit

theorem p_own : ownKnob Tryz.prog.godebug = none := by kernel_rfl
theorem p_laidOut : laidOutB Tryz.prog = true := by kernel_rfl
theorem p_et : Tryz.prog.globalNamed "errors.errorType" = some 0 := by kernel_rfl
theorem p_rt : (Tryz.prog.cutTypes.find? (·.1 == "internal/reflectlite.rtype")).map (·.2) = some 156 := by kernel_rfl
theorem p_oneRow : ((List.range Tryz.prog.types.size).filter fun t => Tryz.prog.rowNamed t [101, 114, 114, 111, 114]) = [103] := by kernel_rfl
/-- what the condition gives: the variable's one cell -/
theorem etype_of_laid {W : World} (h : laidMetH Tryz.prog [("errors.errorType", Rows.laid_errors_errorType)] W) : EType W := by
  have h' : laidMet Tryz.prog [] W ∧ handlesMet Tryz.prog [("errors.errorType", Rows.laid_errors_errorType)] W := h
  obtain ⟨name, u, ty, e1, e2, e3, e4, e5⟩ := h'.2 _ (List.mem_singleton.2 rfl)
  have en : name = [101, 114, 114, 111, 114] := (Option.some.inj e1).symm
  subst en
  obtain rfl := Option.some.inj (p_rt.symm.trans e2)
  have hm : ty ∈ (List.range Tryz.prog.types.size).filter fun t => Tryz.prog.rowNamed t [101, 114, 114, 111, 114] := List.mem_filter.2 ⟨List.mem_range.2 e3, e4⟩
  rw [p_oneRow] at hm
  obtain rfl := List.mem_singleton.1 hm
  have hh : typeHandle Tryz.prog 103 = .pointer (some ⟨1, 103, none⟩) := by kernel_rfl
  rw [hh] at e5
  simpa [EType] using World.var?_cell p_et e5 0
/-- a world that meets the condition -/
noncomputable def laidWorld (os : Os) : World :=
  let w0 := World.holding Tryz.prog os ⟨#[], #[], []⟩
  { w0 with heap := w0.heap.modify 0 fun
      | .cells _ t frozen => .cells #[.iface 156 (.agg #[.pointer (some ⟨1, 103, none⟩)])] t frozen
      | o => o }
theorem laidWorld_met (os : Os) (args : Array Value) : laidMetH Tryz.prog [("errors.errorType", Rows.laid_errors_errorType)] ((laidWorld os).forCall (fun _ _ => 0) ⟨#[], args, []⟩).memory :=
  laidMetH_of_parts (laidMet_nil _ _) (by kernel_rfl)
/-- below the old heap's size nothing has turned: all arguments read as they did -/
theorem all_stay {H : Type} {enc : TypeId × Value → H} {W W' : World} (hb : Below W.heap.size W W') : ∀ {ts : List TypeId} {vs : List Value} {ds : List (DataW H)} {p : List MemPlace}, DataW.TrodAll enc Tryz.prog W 0 (fun _ => true) true ts vs ds p →
    (∀ t ∈ ts, (Tryz.prog.readableRec t && decide (t < Tryz.prog.types.size)) = true) → (∀ x ∈ p, x.block < W.heap.size) → DataW.TrodAll enc Tryz.prog W' 0 (fun b => decide (b < W.heap.size)) true ts vs ds p
  | [], _, _, _, h, _, _ => by obtain ⟨rfl, rfl, rfl⟩ := trodAll_nil h; exact trodAll_mk0
  | t :: ts, _, _, _, h, ht, hp => by
    obtain ⟨v, vs, d, ds, a, b, rfl, rfl, rfl, h1, h2⟩ := trodAll_cons h
    have h3 := ht t (List.mem_cons_self)
    rw [Bool.and_eq_true, decide_eq_true_eq] at h3
    exact ⟨_, _, (Below.trod p_laidOut h3.1 h3.2 h1 hb fun x hx => hp x (List.mem_append_left _ hx)), (all_stay hb h2 (fun t h => ht t (List.mem_cons_of_mem _ h)) fun x hx => hp x (List.mem_append_right _ hx)), rfl⟩
section
variable {H : Type} {enc : TypeId × Value → H} {w : World} {base : Nat} {spare : Nat → Bool} {held : Bool} {r : Go.Reach} {b0 : Nat} {v : Value} {d : DataW H} {p : List MemPlace}
set_option maxRecDepth 100000 in
theorem prog_open (hv : Value.okWide Tryz.prog w r b0 24 v) (h : DataW.Trod enc Tryz.prog w base spare held 24 v d p) (hw : Lighter Tryz.prog 24 d) : ∃ u q, v = .agg #[u] ∧ Funs w u q := by
  obtain ⟨cs, rfl, hcs⟩ := okWide_struct Tryz.underlying24 hv
  obtain ⟨l⟩ := cs
  match l, hcs.trans (show Tryz.prog.cellsOf 24 = 1 by kernel_rfl) with
  | [u], _ =>
    obtain ⟨fuel, hf⟩ := h
    have F := fields_open Tryz.underlying24 (by kernel_rfl) (cs := [u]) hf hw rfl
    obtain ⟨u0, n0, z0, e0, t0, l0⟩ := F 0 _ rfl
    cases e0
    obtain ⟨q, hq⟩ := funs_open t0 l0
    exact ⟨u, q, rfl, hq⟩
set_option maxRecDepth 100000 in
theorem prof_open (hv : Value.okWide Tryz.prog w r b0 27 v) (h : DataW.Trod enc Tryz.prog w base spare held 27 v d p) (hw : Lighter Tryz.prog 27 d) : ∃ u rs, v = .agg #[u] ∧ Profs w u rs ∧ PFits rs := by
  obtain ⟨cs, rfl, hcs⟩ := okWide_struct Tryz.underlying27 hv
  obtain ⟨l⟩ := cs
  match l, hcs.trans (show Tryz.prog.cellsOf 27 = 1 by kernel_rfl) with
  | [u], _ =>
    obtain ⟨fuel, hf⟩ := h
    have F := fields_open Tryz.underlying27 (by kernel_rfl) (cs := [u]) hf hw rfl
    obtain ⟨u0, n0, z0, e0, t0, l0⟩ := F 0 _ rfl
    cases e0
    obtain ⟨rs, h1, h2⟩ := profs_open t0 l0
    exact ⟨u, rs, rfl, h1, h2⟩
set_option maxRecDepth 100000 in
theorem row_open (hv : Value.okWide Tryz.prog w r b0 28 v) (h : DataW.Trod enc Tryz.prog w base spare held 28 v d p) (hw : Lighter Tryz.prog 28 d) : ∃ xs, Ints w v xs := by
  obtain ⟨a, n, c, rfl⟩ := okWide_slice Tryz.underlying28 hv
  obtain ⟨fuel, hf⟩ := h
  obtain ⟨xs, hx, _⟩ := ints_open (v := .slice a n c) hf hw
  exact ⟨xs, hx⟩
end
set_option maxRecDepth 100000 in
theorem law_lifted (os : Os) (started : os.Started) (H : Type) (enc : TypeId × Value → H) :
    ReturnsInHanded {} Tryz.checked os 3 .any (fun w args => (Rows.profsSpec.pre enc Tryz.prog Tryz.f3 [] false w args ∧ laidMetH Tryz.prog [("errors.errorType", Rows.laid_errors_errorType)] w) ∧ sizedMet enc Tryz.prog Tryz.f3 (OpenSpec.ofChange Rows.profsSpec) false w args)
      (Rows.profsSpec.post enc Tryz.prog Tryz.f3 false true false false) := by
  refine returnsInHanded_of_change_and (C := Tryz.checked) (X := fun w _ => laidMetH Tryz.prog [("errors.errorType", Rows.laid_errors_errorType)] w) (fun _ _ _ hh h => h.of_heap hh) p_own started (by kernel_rfl) Tryz.func3
    (ChangeSpec.witness_at (enc := enc) (C := Tryz.checked) (os := os) (X := fun w _ => laidMetH Tryz.prog [("errors.errorType", Rows.laid_errors_errorType)] w) false (laidWorld os) #[.agg #[.slice none 0 0], .agg #[.slice none 0 0], .int .i64 0, .slice none 0 0, .int .i64 0, .bool false] 8 rfl (by kernel_rfl) (by kernel_rfl) (by kernel_rfl) (by kernel_rfl) (by kernel_rfl) (laidWorld_met os _)) ?_
  intro W base args ds gs before hval0 hW _ hsz0 hL _
  have hval : ∀ (j : Nat) t v, Tryz.f3.params[j]? = some t → args[j]? = some v → Value.okWide Tryz.prog W .any base t v := hval0
  have hsz1 : (DataW.weightsEach Tryz.prog (Tryz.f3.params.toList ++ Rows.profsSpec.plain.varTypes Tryz.prog) (ds ++ gs)).all (· ≤ reachBytes) = true := hsz0
  have hW' := hW
  obtain ⟨p, q, hA0, hV, rfl, hfz, hnd⟩ := hW
  have hA : DataW.TrodAll enc Tryz.prog W 0 (fun _ => true) true Tryz.f3.params.toList args.toList ds p := hA0
  have hsz : ∀ k ∈ DataW.weightsEach Tryz.prog (Tryz.f3.params.toList ++ Rows.profsSpec.plain.varTypes Tryz.prog) (ds ++ gs), k ≤ reachBytes := fun k hk => by simpa using List.all_eq_true.1 hsz1 k hk
  rw [Tryz.params3] at hA hval hsz
  have hA1 := hA
  obtain ⟨v0, vs, d0, ds, p0, ps, e0, rfl, rfl, h0, hA⟩ := trodAll_cons hA
  obtain ⟨v1, vs, d1, ds, p1, ps, rfl, rfl, rfl, h1, hA⟩ := trodAll_cons hA
  obtain ⟨v2, vs, d2, ds, p2, ps, rfl, rfl, rfl, h2, hA⟩ := trodAll_cons hA
  obtain ⟨v3, vs, d3, ds, p3, ps, rfl, rfl, rfl, h3, hA⟩ := trodAll_cons hA
  obtain ⟨v4, vs, d4, ds, p4, ps, rfl, rfl, rfl, h4, hA⟩ := trodAll_cons hA
  obtain ⟨v5, vs, d5, ds, p5, ps, rfl, rfl, rfl, h5, hA⟩ := trodAll_cons hA
  obtain ⟨rfl, rfl, rfl⟩ := trodAll_nil hA
  have ea : args = #[v0, v1, v2, v3, v4, v5] := by rw [← Array.toArray_toList (xs := args), e0]
  subst ea
  have L : ∀ (i : Nat) (t : TypeId) (d : DataW H), ([24, 27, 3, 28, 3, 4] : List TypeId)[i]? = some t → ([d0, d1, d2, d3, d4, d5] : List (DataW H))[i]? = some d → Lighter Tryz.prog t d := fun i t d ht hd =>
    lighter_each hsz i t d (by
      have hi := (List.getElem?_eq_some_iff.1 ht).1
      rw [List.getElem?_append_left (by simpa using hi)]; exact ht) (by
      have hi := (List.getElem?_eq_some_iff.1 hd).1
      rw [List.getElem?_append_left (by simpa using hi)]; exact hd)
  have hg := etype_of_laid hL
  obtain ⟨rfl, rfl⟩ : gs = [] ∧ q = [] := by
    cases gs with
    | nil => exact ⟨rfl, hV⟩
    | cons g r => exact absurd hV (by intro h; cases h)
  obtain ⟨u0, pr, rfl, hp⟩ := prog_open (hval 0 24 v0 rfl rfl) h0 (L 0 _ _ rfl rfl)
  obtain ⟨u1, rs, rfl, hr, hfit⟩ := prof_open (hval 1 27 v1 rfl rfl) h1 (L 1 _ _ rfl rfl)
  obtain ⟨fn, rfl⟩ := okWide_int Tryz.underlying3 (hval 2 3 v2 rfl rfl)
  obtain ⟨xs, hx⟩ := row_open (hval 3 28 v3 rfl rfl) h3 (L 3 _ _ rfl rfl)
  obtain ⟨pc, rfl⟩ := okWide_int Tryz.underlying3 (hval 4 3 v4 rfl rfl)
  obtain ⟨j, rfl⟩ := okWide_bool Tryz.underlying4 (hval 5 4 v5 rfl rfl)
  have hlt : ∀ x ∈ p0 ++ (p1 ++ (p2 ++ (p3 ++ (p4 ++ (p5 ++ []))))), x.block < W.heap.size := fun x hx => hW'.lt x (List.mem_append_left _ hx)
  have e1 : Rows.profsSpec.fn H ([d0, d1, d2, d3, d4, d5] ++ []) = { results := [.lit (.bool true)], args := [d0, d1, d2, d3, d4, d5] } := by simp [Rows.profsSpec]
  refine (law_calls u0 u1 v3 pr rs fn xs pc j W hg hp hr hx hfit).mono fun e W' ⟨he, x, hx⟩ => ?_
  subst he
  have hM := mods_of hx
  have hb : Below W.heap.size W W' := ⟨hM.os, hM.tape, hM.output, hM.size, fun k hk => hM.block k hk (by simp)⟩
  refine ⟨_, rfl, _, _, _, [], p0 ++ (p1 ++ (p2 ++ (p3 ++ (p4 ++ (p5 ++ []))))), [], hW', ?_, ?_, ?_, Below.frame hb _, fun h => by cases h⟩
  · rw [e1]; exact trodAll_mk1 (shut_bool Tryz.underlying4 true)
  · rw [e1]; exact all_stay hb hA1 (by decide) hlt
  · rw [e1]; rfl
theorem profs_holds : Rows.ProfsSaid :=
  OpenClaim.holds_of_wide 3 Tryz.f3 rfl rfl rfl rfl rfl rfl rfl ⟨rfl, rfl, rfl, rfl, rfl⟩ rfl rfl rfl rfl rfl (by kernel_rfl) Tryz.func3 (by kernel_rfl)
    (of_decide_eq_true (by kernel_rfl)) (by unfold Func.isWrapper; rw [if_neg (of_decide_eq_false (by kernel_rfl))]; exact ⟨rfl, rfl⟩)
    (fun os started H enc _ => law_lifted os started H enc)
theorem profsCard_holds : Rows.ProfsCardSaid :=
  Claim7.holds_tied_plain_at .later [] [.handle] true (true, "1cd52fdff461b8ca6b3da857548b9d2ce9bb170841b466664a68b0ec5ca3fa5d") true
    profs_holds (fun _ h => by cases h) (by kernel_rfl) (fun _ h => by cases h) profs_row_tie rfl ⟨rfl, rfl⟩ (by kernel_rfl) rfl
    (fun f fn hf hfn => by
      obtain rfl : f = 3 := Option.some.inj ((show Tryz.prog.funcNamed "swage/swagelaw9.Profs" = some 3 by kernel_rfl).symm.trans hf) |>.symm
      obtain rfl : fn = Tryz.f3 := (Option.some.inj (Tryz.func3.symm.trans hfn)).symm
      exact ⟨by kernel_rfl, fun j t ht => by
        rw [Tryz.params3] at ht
        have hm : t ∈ [24, 27, 3, 28, 3, 4] := by
          have := Array.mem_of_getElem? ht
          simpa using this
        have hall : ([24, 27, 3, 28, 3, 4] : List TypeId).all (fun t => !Tryz.prog.wantsStandIn t) = true := by kernel_rfl
        have := List.all_eq_true.1 hall t hm
        exact (show Tryz.prog.wantsStandIn t = false by simpa using this)⟩)
    (by kernel_rfl)
#print axioms profsCard_holds
end Go.Proofs.YtjpgcokdlopkaaaGreatDoor
