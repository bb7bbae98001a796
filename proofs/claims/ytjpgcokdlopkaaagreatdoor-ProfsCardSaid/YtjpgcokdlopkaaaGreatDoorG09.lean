/- Lemmas for a claim of the seat YtjpgcokdlopkaaaGreatDoor. Written in part by programs of the claim's repo. By an AI agent. -/
import Derived.Test.YtjpgcokdlopkaaaGreatDoorG08
import Derived.Test.YtjpgcokdlopkaaaGreatDoorG06
import Derived.Test.YtjpgcokdlopkaaaGreatDoorG02

namespace Go.Proofs.YtjpgcokdlopkaaaGreatDoor
open Go.RowKit

/-- The heights of a whole program. -/
def Hss (w : World) (v : Value) (hss : List (List Int)) : Prop :=
  ∃ A c, v = .slice A hss.length c ∧ hss.length ≤ c ∧ c ≤ maxLen ∧ ∀ (i : Nat) (hs : List Int), hss[i]? = some hs → ∃ b o u, A = some ⟨b, o, none⟩ ∧ w.cell? ⟨b, o + i, none⟩ = some u ∧ Ints w u hs
theorem Hss.ext {w w' : World} {v : Value} {hss : List (List Int)} (h : Hss w v hss) (hw : Mods [] w w') : Hss w' v hss := by
  obtain ⟨A, c, h1, h2, h3, h4⟩ := h
  exact ⟨A, c, h1, h2, h3, fun i hs hi => by
    obtain ⟨b, o, u, e1, e2, e3⟩ := h4 i hs hi
    exact ⟨b, o, u, e1, hw.cell e2, e3.ext intR_grows hw⟩⟩
theorem info_ints : (Tryz.prog.info? 28).map (fun i => (i.zero, i.size, i.bytes)) = some (some (.slice none 0 0), 1, 24) := by kernel_rfl
/-- append(v, u), rows. -/
theorem wpList_append_ints (w : World) {ops : Array Oper} {rest : List Oper} {o : Oper} {a : Act} {Q : Exit → Act → World → Prop} (hgd : o.guard = none) (s x : Operand)
    (ho : o.op = .call { callee := .builtin .append, args := #[s, x], argTypes := #[74, 74] })
    (v : Value) (n : Nat) (xs : List Value) (hs : a.eval s = v) (hown : Own w 28 1 v n xs) (g c : Nat) (A : Option Addr) (l k : Nat) (hx : a.eval x = .slice (some ⟨g, 0, none⟩) 1 c) (hu : w.cell? ⟨g, 0, none⟩ = some (.slice A l k)) (hn : n + 1 ≤ 1000000)
    (h : ∀ v' w', Own w' 28 1 v' (n + 1) (xs ++ [.slice A l k]) → w.grownBy w' v.ownBlock → (v'.ownBlock = v.ownBlock ∨ v'.ownBlock = some w.heap.size) → wpList Tryz.prog ops Q rest (a.put o.dst v') w') :
    wpList Tryz.prog ops Q (o :: rest) a w := by
  obtain ⟨i0, hi, hz0, hz1, hz2⟩ := info_parts info_ints
  refine wpList_append_q w hgd s x 74 ho 28 i0 (.slice none 0 0) 1 24 Tryz.underlying74 hi hz0 hz1 hz2 rfl v n xs hs hown ⟨g, 0, none⟩ 1 c [.slice A l k] (by omega) hx rfl (one_cell hu) ?_ (by simp [maxLen]; omega) (by omega) h
  simp [Value.oneCell']
theorem verifyHeights_yes (v : Value) (p : List Fun) (k : Nat) (f : Fun) (w : World) (hG : EType w) (hv : Funs w v p) (hpk : packs p = true) (hk : p[k]? = some f) (hpl : Plain p f) (hs : List Int) (hh : Heights p f hs) :
    Calls Tryz.prog 48 #[.agg #[v], .int .i64 k] w fun e w' => ∃ g pc, e = .returned (.tuple #[.slice (some ⟨g, 0, none⟩) hs.length hs.length, .int .i64 pc, .int .i64 0]) ∧ IntsB w' (.slice (some ⟨g, 0, none⟩) hs.length hs.length) hs ∧ ∃ x, w' = w.ext x :=
  (verifyHeights_calls v p k f w hG hv hpk hk).mono fun e w' ⟨u, pc, c, he, hc, hx⟩ => by
    rcases hc with ⟨rfl, _, hs', h', hu⟩ | ⟨_, hn⟩
    · rw [h'.unique hh] at hu
      have hu2 := hu
      obtain ⟨g, rfl, _⟩ := hu2
      exact ⟨g, pc, he, hu, hx⟩
    · exact absurd ⟨hpl, hs, hh⟩ hn
theorem verifyHeights_no (v : Value) (p : List Fun) (k : Nat) (f : Fun) (w : World) (hG : EType w) (hv : Funs w v p) (hpk : packs p = true) (hk : p[k]? = some f) (hn : ¬ (Plain p f ∧ ∃ hs, Heights p f hs)) :
    Calls Tryz.prog 48 #[.agg #[v], .int .i64 k] w fun e w' => ∃ u pc c, e = .returned (.tuple #[u, .int .i64 pc, .int .i64 c]) ∧ c ≠ 0 ∧ ∃ x, w' = w.ext x :=
  (verifyHeights_calls v p k f w hG hv hpk hk).mono fun e w' ⟨u, pc, c, he, hc, hx⟩ => by
    rcases hc with ⟨_, h1, h2⟩ | ⟨hc, _⟩
    · exact absurd ⟨h1, h2.imp fun _ h => h.1⟩ hn
    · exact ⟨u, pc, c, he, hc, hx⟩
theorem IntsB.kept {w w' : World} {v v' : Value} {hs : List Int} {n : Nat} {xs : List Value} (h : IntsB w v hs) (ho : Own w 28 1 v' n xs) (hg : w.grownBy w' v'.ownBlock) : IntsB w' v hs := by
  obtain ⟨g, rfl, hb, hl⟩ := h
  refine ⟨g, rfl, (hg.block g (Array.getElem?_eq_some_iff.1 hb).1 fun e => ?_).trans hb, hl⟩
  obtain ⟨_, ⟨rfl, _⟩ | ⟨g', o, cap, cur, rfl, h3, _⟩⟩ := ho
  · simp [Value.ownBlock] at e
  · have e' : g = g' := by simpa [Value.ownBlock] using e
    subst e'
    rw [hb] at h3
    have := congrArg (fun o => match o with | some (Obj.cells _ t _) => t | _ => 0) h3
    simp at this
theorem Own.hss {w : World} {v : Value} {vs : List Value} {hss : List (List Int)} (h : Own w 28 1 v hss.length vs) (h3 : ∀ (i : Nat) (hs : List Int), hss[i]? = some hs → ∃ u, vs[i]? = some u ∧ IntsB w u hs) : Hss w v hss := by
  obtain ⟨A, c, rfl, h1, h2⟩ := h.slice
  refine ⟨A, c, rfl, h1, h2, fun i hs hi => ?_⟩
  obtain ⟨g, o, c', e, _, _, h4, _⟩ := h.form (Nat.lt_of_le_of_lt (Nat.zero_le _) (List.getElem?_eq_some_iff.1 hi).1)
  obtain ⟨u, hu, hb⟩ := h3 i hs hi
  cases e
  exact ⟨g, o, u, rfl, h4 i u hu, hb.ints⟩
def NoVer (p : List Fun) : Prop := ¬ ∃ hss, Ver p hss
def AllRel (p : List Fun) (w : World) (k : Nat) (v : Value) (wr : World) : Prop :=
  ∃ (vs : List Value) (hss : List (List Int)), Own wr 28 1 v k vs ∧ hss.length = k ∧ (∀ (i : Nat) (hs : List Int), hss[i]? = some hs → ∃ u, vs[i]? = some u ∧ IntsB wr u hs) ∧
    (∀ (i : Nat) (f : Fun) (hs : List Int), p[i]? = some f → hss[i]? = some hs → Plain p f ∧ Heights p f hs) ∧ (∀ j, v.ownBlock = some j → w.heap.size ≤ j) ∧ Mods [] w wr
def AllPost (p : List Fun) (w : World) (e : Ending) (w' : World) : Prop :=
  ∃ u c, e = .returned (.tuple #[u, .int .i64 c]) ∧ ((c = 0 ∧ ∃ hss, Ver p hss ∧ Hss w' u hss) ∨ (c ≠ 0 ∧ u = .slice none 0 0 ∧ NoVer p)) ∧ ∃ x, w' = w.ext x

set_option maxHeartbeats 2000000 in
set_option maxRecDepth 100000 in
theorem all_calls (p1 p2 : Nat) (p : List Fun) (w : World) (hG : EType w) (hp : ProgAt w p1 p2 p) : Calls Tryz.prog 35 #[.pointer (some ⟨p1, p2, none⟩)] w (AllPost p w) := by
  obtain ⟨v, hv, hfs⟩ := hp
  obtain ⟨A, c, rfl, k1, k2⟩ := hfs.form
  have HV := Lib.hid hfs
  have HG := Lib.hid hG
  clear hfs hG
  cases hpk : packs p with
  | false =>
    go_enter Tryz.func35, Tryz.ntmps35
    go_wp2_with (go_at_call 47; (with_reducible refine (packMay_calls _ _ (.slice A p.length c) p _ hv HV.out).mono ?_); rintro e w' ⟨rfl, x, rfl⟩)
    go_ret2
    exact ⟨_, _, rfl, .inr ⟨by omega, rfl, fun ⟨hss, h⟩ => by rw [h.packs] at hpk; cases hpk⟩, Mods.ex (by repeat (first | exact Mods.refl _ _ | refine Mods.alloc ?_ _ | refine Mods.ext ?_ _ | refine Mods.drew ?_ | refine Mods.drewN ?_ _))⟩
  | true =>
    have hp8 : p.length ≤ 8 := by simp [packs] at hpk; omega
    have HPK := Lib.hid hpk
    go_enter Tryz.func35, Tryz.ntmps35
    go_wp2_with (go_at_call 47; (with_reducible refine (packMay_calls _ _ (.slice A p.length c) p _ hv HV.out).mono ?_); rintro e w' ⟨rfl, x, rfl⟩)
    go_loopw [4, 17] (fun v i wr => ∃ k : Nat, i = .int .i64 k ∧ k ≤ p.length ∧ Hid (AllRel p w k v wr)) (fun _ i _ => p.length - (intOf i).toNat)
    case atStart => exact ⟨0, rfl, Nat.zero_le _, [], [], Own.nil, rfl, fun i hs h => by simp at h, fun i f hs _ h => by simp at h, fun j h => by simp [Value.ownBlock] at h, (by repeat (first | exact Mods.refl _ _ | refine Mods.alloc ?_ _ | refine Mods.ext ?_ _ | refine Mods.drew ?_ | refine Mods.drewN ?_ _))⟩
    case round =>
      obtain ⟨k, rfl, hk, hR⟩ := hrel
      obtain ⟨vs, hss, a1, a2, a3, a4, a5, a6⟩ := hR.out
      clear hR
      obtain ⟨A4, c4, rfl, _, _⟩ := a1.slice
      have hv' := a6.cell hv
      have H1 := Lib.hid a1
      have H2 := Lib.hid a2
      have H3 := Lib.hid a3
      have H4 := Lib.hid a4
      have H5 := Lib.hid a5
      have H6 := Lib.hid a6
      clear a1 a2 a3 a4 a5 a6
      by_cases hlt : k < p.length
      · by_cases hgood : Plain p p[k] ∧ ∃ hs, Heights p p[k] hs
        · obtain ⟨hpl, hs, hh⟩ := hgood
          have HPL := Lib.hid hpl
          have HH := Lib.hid hh
          clear hpl hh
          go_wp2_with (first
            | (go_at_call 48; (with_reducible refine (verifyHeights_yes _ p k p[k] _ (HG.out.ext H6.out) (HV.out.ext funR_grows H6.out) HPK.out (get_some hlt) HPL.out hs HH.out).mono ?_); rintro e w2 ⟨g, pc, rfl, hib, x2, hx2⟩; have HIB := Lib.hid hib; have HX2 := Lib.hid hx2; clear hib hx2)
            | (at_builtin; refine wpList_append_ints _ rfl _ _ rfl _ k vs rfl ?_ _ _ (some ⟨g, 0, none⟩) hs.length hs.length rfl ?_ ?_ ?_; (exact H1.out.mods ((mods_of HX2.out).alloc _) (by simp)); (go_simp); (omega); (intro v' w3 hown3 hg3 hat3; have HO3 := Lib.hid hown3; have HG3 := Lib.hid hg3; have HA3 := Lib.hid hat3; clear hown3 hg3 hat3)))
          go_roundw
          case rel =>
            go_light
            refine ⟨k + 1, by go_num, by omega, ?_⟩
            refine ⟨_, hss ++ [hs], HO3.out, by simp [H2.out], fun i hs' hi => ?_, fun i f' hs' hf' hi => ?_, ?_, ?_⟩
            · have HG4 : (w2.alloc (Obj.cells #[Value.slice (some { block := g, off := 0 }) hs.length hs.length] 28)).grownBy w3 (Value.slice A4 k c4).ownBlock := HG3.out
              have o1 : Own (w2.alloc (Obj.cells #[Value.slice (some { block := g, off := 0 }) hs.length hs.length] 28)) 28 1 (.slice A4 k c4) k vs := H1.out.mods ((mods_of HX2.out).alloc _) (by simp)
              have hl : vs.length = k := by have := H1.out.1; omega
              by_cases hik : i < k
              · rw [List.getElem?_append_left (by rw [H2.out]; exact hik)] at hi
                obtain ⟨u, hu, hb⟩ := H3.out i hs' hi
                exact ⟨u, by rw [List.getElem?_append_left (by rw [hl]; exact hik)]; exact hu, (hb.ext ((mods_of HX2.out).alloc _)).kept o1 HG4⟩
              · have hlt2 := (List.getElem?_eq_some_iff.1 hi).1
                simp [H2.out] at hlt2
                have hik2 : i = k := by omega
                subst hik2
                have hi2 : hs' = hs := by
                  rw [List.getElem?_append_right (by rw [H2.out]; exact Nat.le_refl _)] at hi
                  have hz : i - hss.length = 0 := by rw [H2.out]; omega
                  rw [hz] at hi
                  simpa using hi.symm
                subst hi2
                refine ⟨_, by rw [List.getElem?_append_right (by rw [hl]; exact Nat.le_refl _)]; rw [hl, Nat.sub_self]; rfl, (HIB.out.ext ((Mods.refl _ _).alloc _)).kept o1 HG4⟩
            · by_cases hik : i < k
              · rw [List.getElem?_append_left (by rw [H2.out]; exact hik)] at hi
                exact H4.out i f' hs' hf' hi
              · have hlt2 := (List.getElem?_eq_some_iff.1 hi).1
                simp [H2.out] at hlt2
                have hik2 : i = k := by omega
                subst hik2
                have hi2 : hs' = hs := by
                  rw [List.getElem?_append_right (by rw [H2.out]; exact Nat.le_refl _)] at hi
                  have hz : i - hss.length = 0 := by rw [H2.out]; omega
                  rw [hz] at hi
                  simpa using hi.symm
                subst hi2
                rw [get_some hlt] at hf'
                obtain rfl := Option.some.inj hf'
                exact ⟨HPL.out, HH.out⟩
            · have HA4 : v'.ownBlock = (Value.slice A4 k c4).ownBlock ∨ v'.ownBlock = some (w2.alloc (Obj.cells #[Value.slice (some { block := g, off := 0 }) hs.length hs.length] 28)).heap.size := HA3.out
              intro j hj
              rcases HA4 with e | e
              · exact H5.out j (e ▸ hj)
              · rw [e] at hj
                have h1 := Option.some.inj hj
                have h2 := ((H6.out.trans (mods_of HX2.out)).alloc (Obj.cells #[Value.slice (some { block := g, off := 0 }) hs.length hs.length] 28)).size
                omega
            · have HG4 : (w2.alloc (Obj.cells #[Value.slice (some { block := g, off := 0 }) hs.length hs.length] 28)).grownBy w3 (Value.slice A4 k c4).ownBlock := HG3.out
              refine ((H6.out.trans (mods_of HX2.out)).alloc _).grown HG4 fun j hj hlt' => ?_
              have := H5.out j hj
              omega
          case measure => simp [intOf]; omega
        · have HNG := Lib.hid hgood
          clear hgood
          go_wp2_with (go_at_call 48; (with_reducible refine (verifyHeights_no _ p k p[k] _ (HG.out.ext H6.out) (HV.out.ext funR_grows H6.out) HPK.out (get_some hlt) HNG.out).mono ?_); rintro e w2 ⟨u2, pc, c3, rfl, hc3, x2, hx2⟩; have hc3d : (c3 == 0) = false := (by simp [hc3]); have hc3e : (c3 != 0) = true := (by simp [hc3]); have HX2 := Lib.hid hx2; have HC3 := Lib.hid hc3; clear hx2 hc3)
          go_ret2
          go_light
          refine ⟨_, _, rfl, .inr ⟨HC3.out, rfl, fun ⟨hss', h'⟩ => ?_⟩, (H6.out.trans (mods_of HX2.out)).ex⟩
          have e := get_some (show k < hss'.length by rw [h'.len]; exact hlt)
          have := h'.each k _ _ (get_some hlt) e
          exact HNG.out ⟨this.1, _, this.2⟩
      · have hke : k = p.length := by omega
        go_wp2
        go_ret2
        go_light
        have hke2 : hss.length = k := H2.out
        refine ⟨_, _, rfl, .inl ⟨rfl, hss, ⟨HPK.out, by rw [H2.out, hke], H4.out⟩, ?_⟩, H6.out.ex⟩
        have h1 := H1.out
        rw [← hke2] at h1
        show Hss wr (.slice A4 k c4) hss
        rw [← hke2]
        exact h1.hss H3.out
end Go.Proofs.YtjpgcokdlopkaaaGreatDoor


namespace Go.Proofs.YtjpgcokdlopkaaaGreatDoor
open Go.RowKit

set_option maxHeartbeats 1000000 in
/-- verify.Program. -/
theorem program_calls (v : Value) (p : List Fun) (w : World) (hG : EType w) (hv : Funs w v p) : Calls Tryz.prog 18 #[.agg #[v]] w fun e w' =>
    ∃ c, e = .returned (.int .i64 c) ∧ ((c = 0 ∧ ∃ hss, Ver p hss) ∨ (c ≠ 0 ∧ NoVer p)) ∧ ∃ x, w' = w.ext x := by
  have HV := Lib.hid hv
  have HG := Lib.hid hG
  clear hv hG
  go_enter Tryz.func18, Tryz.ntmps18
  go_wp2_with (go_at_call 35; (with_reducible refine (all_calls _ _ p _ (HG.out.ext (by repeat (first | exact Mods.refl _ _ | refine Mods.alloc ?_ _ | refine Mods.ext ?_ _ | refine Mods.drew ?_ | refine Mods.drewN ?_ _))) ?_).mono ?_); (exact ⟨v, by go_simp, HV.out.ext funR_grows (by repeat (first | exact Mods.refl _ _ | refine Mods.alloc ?_ _ | refine Mods.ext ?_ _ | refine Mods.drew ?_ | refine Mods.drewN ?_ _))⟩); rintro e w' ⟨u, c, rfl, hc, x, rfl⟩; have HC := Lib.hid hc; clear hc)
  go_ret
  refine ⟨_, rfl, ?_, Mods.ex (by repeat (first | exact Mods.refl _ _ | refine Mods.alloc ?_ _ | refine Mods.ext ?_ _ | refine Mods.drew ?_ | refine Mods.drewN ?_ _))⟩
  rcases HC.out with ⟨h1, hss, h2, _⟩ | ⟨h1, _, h2⟩
  · exact .inl ⟨h1, hss, h2⟩
  · exact .inr ⟨h1, h2⟩
end Go.Proofs.YtjpgcokdlopkaaaGreatDoor


namespace Go.Proofs.YtjpgcokdlopkaaaGreatDoor
open Go.RowKit

def countB (n : Int) : Bool := decide (0 ≤ n ∧ n ≤ 1073741824)
def countsB (xs : List Int) (k : Int) : Bool := decide ((xs.length : Int) = k) && !xs.any fun n => !countB n
def argMay (a : ArgP) : Bool := numB a.value && countB a.same && countB a.other
def fpMay (f : Fun) (x : FunP) : Bool := countB x.calls && countsB x.jumps f.code.length && countsB x.falls f.code.length && decide ((x.args.length : Int) = f.args) && !x.args.any fun a => !argMay a
structure ProfMayP (p : List Fun) (rs : List FunP) : Prop where
  ver : ∃ hss, Ver p hss
  len : rs.length = p.length
  each : ∀ (i : Nat) (f : Fun) (x : FunP), p[i]? = some f → rs[i]? = some x → fpMay f x = true
open Classical in
noncomputable def profMay (p : List Fun) (rs : List FunP) : Bool := decide (ProfMayP p rs)
open Classical in
theorem profMay_true {p : List Fun} {rs : List FunP} (h : ProfMayP p rs) : profMay p rs = true := by unfold profMay; exact decide_eq_true h
open Classical in
theorem profMay_false {p : List Fun} {rs : List FunP} (h : ¬ ProfMayP p rs) : profMay p rs = false := by unfold profMay; exact decide_eq_false h
open Classical in
theorem profMay_iff {p : List Fun} {rs : List FunP} : profMay p rs = true ↔ ProfMayP p rs := by unfold profMay; exact decide_eq_true_iff

set_option maxHeartbeats 400000 in
theorem count_calls (n : Int) (w : World) : Calls Tryz.prog 44 #[.int .i64 n] w fun e w' => e = .returned (.bool (countB n)) ∧ w' = w := by
  rcases dec_cases (0 ≤ n) with ⟨h, hd⟩ | ⟨h, hd⟩
  all_goals
    go_enter Tryz.func44, Tryz.ntmps44
    go_wp2
    go_ret
    exact ⟨ret_bool (by simp [countB]; try omega), rfl⟩
set_option maxHeartbeats 400000 in
theorem counts1_calls (n : Int) (w : World) : Calls Tryz.prog 54 #[.int .i64 n] w fun e w' => e = .returned (.bool (!countB n)) ∧ ∃ x, w' = w.ext x := by
  go_enter Tryz.func54, Tryz.ntmps54
  go_wp2_with (go_at_call 44; refine (count_calls _ _).mono ?_; rintro e w' ⟨rfl, rfl⟩)
  go_ret
  exact ⟨rfl, Mods.ex (by repeat (first | exact Mods.refl _ _ | refine Mods.alloc ?_ _ | refine Mods.ext ?_ _ | refine Mods.drew ?_ | refine Mods.drewN ?_ _))⟩
set_option maxHeartbeats 400000 in
theorem may1_calls (a : ArgP) (w : World) : Calls Tryz.prog 43 #[.agg #[.int .i64 a.value, .int .i64 a.same, .int .i64 a.other]] w fun e w' => e = .returned (.bool (!argMay a)) ∧ ∃ x, w' = w.ext x := by
  cases h1 : numB a.value <;> cases h2 : countB a.same <;> cases h3 : countB a.other
  all_goals
    go_enter Tryz.func43, Tryz.ntmps43
    go_wp2_with (first | (go_at_call 44; refine (count_calls _ _).mono ?_; rintro e w' ⟨rfl, rfl⟩) | (go_at_call 38; refine (wrapIs_calls _ _).mono ?_; rintro e w' ⟨rfl, rfl⟩))
    go_ret
    exact ⟨ret_bool (by simp [argMay, h1, h2, h3]), Mods.ex (by repeat (first | exact Mods.refl _ _ | refine Mods.alloc ?_ _ | refine Mods.ext ?_ _ | refine Mods.drew ?_ | refine Mods.drewN ?_ _))⟩

set_option maxHeartbeats 400000 in
theorem idxCounts_calls (v : Value) (xs : List Int) (w : World) (h : SlR 1 intR w v xs) : Calls Tryz.prog 65 #[v, .func (.func 54) #[] #[]] w fun e w' => e = .returned (.int .i64 (idxFrom (fun n => !countB n) xs 0)) ∧ ∃ x, w' = w.ext x := by
  obtain ⟨c, h1, h2, ⟨rfl, A, rfl⟩ | ⟨b, o, rfl, h3⟩⟩ := h
  · go_enter Tryz.func65, Tryz.ntmps65
    go_wp2
    refine wp_loop_rounds 1 ?_
    rw [rounds_succ]
    go_wp2
    go_ret
    exact ⟨rfl, Mods.ex (by repeat (first | exact Mods.refl _ _ | refine Mods.alloc ?_ _ | refine Mods.ext ?_ _ | refine Mods.drew ?_ | refine Mods.drewN ?_ _))⟩
  · go_enter Tryz.func65, Tryz.ntmps65
    go_wp2
    go_loopw [8] (fun i wr => ∃ k : Nat, k ≤ xs.length ∧ i = .int .i64 k ∧ Hid (idxFrom (fun n => !countB n) (xs.drop k) k = idxFrom (fun n => !countB n) xs 0) ∧ ∃ x, wr = w.ext x) (fun i _ => xs.length - (intOf i).toNat)
    case atStart => exact ⟨0, Nat.zero_le _, rfl, rfl, Mods.ex (by repeat (first | exact Mods.refl _ _ | refine Mods.alloc ?_ _ | refine Mods.ext ?_ _ | refine Mods.drew ?_ | refine Mods.drewN ?_ _))⟩
    case round =>
      obtain ⟨k, hk, rfl, hr, x, rfl⟩ := hrel
      by_cases hlt : k < xs.length
      · obtain c1 := h3 k xs[k] (get_some hlt)
        simp only [intR, Nat.mul_one] at c1
        cases hp : (!countB xs[k])
        · go_wp2_with (go_at_call 54; refine (counts1_calls _ _).mono ?_; rintro e w' ⟨rfl, x2, rfl⟩)
          go_roundw
          case rel =>
            go_light
            exact ⟨k + 1, by omega, by go_num, by have := hr.out; rw [drop_cons hlt, idxFrom, if_neg (by simp [hp])] at this; exact this, Mods.ex (by repeat (first | exact Mods.refl _ _ | refine Mods.alloc ?_ _ | refine Mods.ext ?_ _ | refine Mods.drew ?_ | refine Mods.drewN ?_ _))⟩
          case measure => simp [intOf]; omega
        · go_wp2_with (go_at_call 54; refine (counts1_calls _ _).mono ?_; rintro e w' ⟨rfl, x2, rfl⟩)
          go_ret
          go_light
          exact ⟨ret_int (by rw [← hr.out, drop_cons hlt, idxFrom, if_pos (by simp [hp])]), Mods.ex (by repeat (first | exact Mods.refl _ _ | refine Mods.alloc ?_ _ | refine Mods.ext ?_ _ | refine Mods.drew ?_ | refine Mods.drewN ?_ _))⟩
      · go_wp2
        go_ret
        go_light
        exact ⟨ret_int (by rw [← hr.out, List.drop_eq_nil_of_le (by omega)]; rfl), Mods.ex (by repeat (first | exact Mods.refl _ _ | refine Mods.alloc ?_ _ | refine Mods.ext ?_ _ | refine Mods.drew ?_ | refine Mods.drewN ?_ _))⟩
set_option maxHeartbeats 400000 in
theorem anyCounts_calls (v : Value) (xs : List Int) (w : World) (h : SlR 1 intR w v xs) : Calls Tryz.prog 53 #[v, .func (.func 54) #[] #[]] w fun e w' => e = .returned (.bool (xs.any (fun n => !countB n))) ∧ ∃ x, w' = w.ext x := by
  go_enter Tryz.func53, Tryz.ntmps53
  go_wp2_with (go_at_call 65; refine (idxCounts_calls _ xs _ h).mono ?_; rintro e w' ⟨rfl, x, rfl⟩)
  go_ret
  exact ⟨ret_bool (idxFrom_any _ _ _), Mods.ex (by repeat (first | exact Mods.refl _ _ | refine Mods.alloc ?_ _ | refine Mods.ext ?_ _ | refine Mods.drew ?_ | refine Mods.drewN ?_ _))⟩

set_option maxHeartbeats 400000 in
theorem idxArgp_calls (v : Value) (xs : List ArgP) (w : World) (h : SlR 3 argR w v xs) : Calls Tryz.prog 55 #[v, .func (.func 43) #[] #[]] w fun e w' => e = .returned (.int .i64 (idxFrom (fun a => !argMay a) xs 0)) ∧ ∃ x, w' = w.ext x := by
  obtain ⟨c, h1, h2, ⟨rfl, A, rfl⟩ | ⟨b, o, rfl, h3⟩⟩ := h
  · go_enter Tryz.func55, Tryz.ntmps55
    go_wp2
    refine wp_loop_rounds 1 ?_
    rw [rounds_succ]
    go_wp2
    go_ret
    exact ⟨rfl, Mods.ex (by repeat (first | exact Mods.refl _ _ | refine Mods.alloc ?_ _ | refine Mods.ext ?_ _ | refine Mods.drew ?_ | refine Mods.drewN ?_ _))⟩
  · go_enter Tryz.func55, Tryz.ntmps55
    go_wp2
    go_loopw [8] (fun i wr => ∃ k : Nat, k ≤ xs.length ∧ i = .int .i64 k ∧ Hid (idxFrom (fun a => !argMay a) (xs.drop k) k = idxFrom (fun a => !argMay a) xs 0) ∧ ∃ x, wr = w.ext x) (fun i _ => xs.length - (intOf i).toNat)
    case atStart => exact ⟨0, Nat.zero_le _, rfl, rfl, Mods.ex (by repeat (first | exact Mods.refl _ _ | refine Mods.alloc ?_ _ | refine Mods.ext ?_ _ | refine Mods.drew ?_ | refine Mods.drewN ?_ _))⟩
    case round =>
      obtain ⟨k, hk, rfl, hr, x, rfl⟩ := hrel
      by_cases hlt : k < xs.length
      · obtain ⟨c1, c2, c3⟩ := h3 k xs[k] (get_some hlt)
        cases hp : (!argMay xs[k])
        · go_wp2_with (go_at_call 43; refine (may1_calls xs[k] _).mono ?_; rintro e w' ⟨rfl, x2, rfl⟩)
          go_roundw
          case rel =>
            go_light
            exact ⟨k + 1, by omega, by go_num, by have := hr.out; rw [drop_cons hlt, idxFrom, if_neg (by simp [hp])] at this; exact this, Mods.ex (by repeat (first | exact Mods.refl _ _ | refine Mods.alloc ?_ _ | refine Mods.ext ?_ _ | refine Mods.drew ?_ | refine Mods.drewN ?_ _))⟩
          case measure => simp [intOf]; omega
        · go_wp2_with (go_at_call 43; refine (may1_calls xs[k] _).mono ?_; rintro e w' ⟨rfl, x2, rfl⟩)
          go_ret
          go_light
          exact ⟨ret_int (by rw [← hr.out, drop_cons hlt, idxFrom, if_pos (by simp [hp])]), Mods.ex (by repeat (first | exact Mods.refl _ _ | refine Mods.alloc ?_ _ | refine Mods.ext ?_ _ | refine Mods.drew ?_ | refine Mods.drewN ?_ _))⟩
      · go_wp2
        go_ret
        go_light
        exact ⟨ret_int (by rw [← hr.out, List.drop_eq_nil_of_le (by omega)]; rfl), Mods.ex (by repeat (first | exact Mods.refl _ _ | refine Mods.alloc ?_ _ | refine Mods.ext ?_ _ | refine Mods.drew ?_ | refine Mods.drewN ?_ _))⟩
set_option maxHeartbeats 400000 in
theorem anyArgp_calls (v : Value) (xs : List ArgP) (w : World) (h : SlR 3 argR w v xs) : Calls Tryz.prog 46 #[v, .func (.func 43) #[] #[]] w fun e w' => e = .returned (.bool (xs.any (fun a => !argMay a))) ∧ ∃ x, w' = w.ext x := by
  go_enter Tryz.func46, Tryz.ntmps46
  go_wp2_with (go_at_call 55; refine (idxArgp_calls _ xs _ h).mono ?_; rintro e w' ⟨rfl, x, rfl⟩)
  go_ret
  exact ⟨ret_bool (idxFrom_any _ _ _), Mods.ex (by repeat (first | exact Mods.refl _ _ | refine Mods.alloc ?_ _ | refine Mods.ext ?_ _ | refine Mods.drew ?_ | refine Mods.drewN ?_ _))⟩


set_option maxHeartbeats 1000000 in
theorem counts_calls (v : Value) (xs : List Int) (k : Int) (w : World) (h : Ints w v xs) : Calls Tryz.prog 45 #[v, .int .i64 k] w fun e w' => e = .returned (.bool (countsB xs k)) ∧ ∃ x, w' = w.ext x := by
  obtain ⟨A, c, rfl, k1, k2⟩ := h.form
  have H := Lib.hid h
  clear h
  by_cases hk : (xs.length : Int) = k
  · have hd : ((xs.length : Int) == k) = true := by simp [hk]
    have HK := Lib.hid hk
    clear hk
    go_enter Tryz.func45, Tryz.ntmps45
    go_wp2_with (go_at_call 53; (with_reducible refine (anyCounts_calls _ xs _ H.out).mono ?_); rintro e w' ⟨rfl, x, rfl⟩)
    go_ret
    exact ⟨ret_bool (by unfold countsB; rw [decide_eq_true HK.out]; simp), Mods.ex (by repeat (first | exact Mods.refl _ _ | refine Mods.alloc ?_ _ | refine Mods.ext ?_ _ | refine Mods.drew ?_ | refine Mods.drewN ?_ _))⟩
  · have hd : ((xs.length : Int) == k) = false := by simp [hk]
    have HK := Lib.hid hk
    clear hk
    go_enter Tryz.func45, Tryz.ntmps45
    go_wp2
    go_ret
    exact ⟨ret_bool (by unfold countsB; rw [decide_eq_false HK.out]; simp), Mods.ex (by repeat (first | exact Mods.refl _ _ | refine Mods.alloc ?_ _ | refine Mods.ext ?_ _ | refine Mods.drew ?_ | refine Mods.drewN ?_ _))⟩


theorem count_is (n : Int) (b : Bool) (w : World) (h : countB n = b) : Calls Tryz.prog 44 #[.int .i64 n] w fun e w' => e = .returned (.bool b) ∧ w' = w := h ▸ count_calls n w
theorem counts_is (v : Value) (xs : List Int) (k : Int) (b : Bool) (w : World) (hb : countsB xs k = b) (h : Ints w v xs) : Calls Tryz.prog 45 #[v, .int .i64 k] w fun e w' => e = .returned (.bool b) ∧ ∃ x, w' = w.ext x := hb ▸ counts_calls v xs k w h


set_option maxHeartbeats 4000000 in
set_option maxRecDepth 100000 in
theorem fpMay_calls (f1 f2 g1 g2 : Nat) (f : Fun) (x : FunP) (w : World) (hf : funR w f1 f2 f) (hx : fpR w g1 g2 x) : Calls Tryz.prog 29 #[.pointer (some ⟨f1, f2, none⟩), .pointer (some ⟨g1, g2, none⟩)] w fun e w' => e = .returned (.bool (fpMay f x)) ∧ ∃ x, w' = w.ext x := by
  obtain ⟨a1, a2, cv, a3, ac⟩ := hf
  obtain ⟨A, cc, rfl, k1, k2⟩ := ac.form
  obtain ⟨b0, ⟨vj, b1, hj⟩, ⟨vf, b2, hfl⟩, va, b3, ha⟩ := hx
  obtain ⟨J, cj, rfl, k3, k4⟩ := hj.form
  obtain ⟨F, cf, rfl, k5, k6⟩ := hfl.form
  obtain ⟨B, ca, rfl, k7, k8⟩ := ha.form
  have HJ := Lib.hid hj
  have HF := Lib.hid hfl
  have HA := Lib.hid ha
  clear hj hfl ha ac
  cases h1 : countB x.calls with
  | false =>
    go_enter Tryz.func29, Tryz.ntmps29
    go_wp2
    (refine wp_region_ext (by kernel_rfl) (by kernel_rfl) ?_; (repeat (go_big_quiet_step ((first | exact Calls_same (count_is _ _ _ h1) | exact Calls_ext (counts_is _ x.jumps _ _ _ h2 (HJ.out.ext intR_grows (by repeat (first | exact Mods.refl _ _ | refine Mods.alloc ?_ _ | refine Mods.ext ?_ _ | refine Mods.drew ?_ | refine Mods.drewN ?_ _)))) | exact Calls_ext (counts_is _ x.falls _ _ _ h3 (HF.out.ext intR_grows (by repeat (first | exact Mods.refl _ _ | refine Mods.alloc ?_ _ | refine Mods.ext ?_ _ | refine Mods.drew ?_ | refine Mods.drewN ?_ _)))) | exact Calls_ext (anyArgp_calls _ x.args _ (HA.out.ext argR_grows (by repeat (first | exact Mods.refl _ _ | refine Mods.alloc ?_ _ | refine Mods.ext ?_ _ | refine Mods.drew ?_ | refine Mods.drewN ?_ _)))))))); refine wpQuiet_nil ?_; rintro _ ⟨xq, rfl⟩)
    go_wp2
    go_ret
    exact ⟨ret_bool (by unfold fpMay; rw [h1]; rfl), Mods.ex (by repeat (first | exact Mods.refl _ _ | refine Mods.alloc ?_ _ | refine Mods.ext ?_ _ | refine Mods.drew ?_ | refine Mods.drewN ?_ _))⟩
  | true =>
  cases h2 : countsB x.jumps f.code.length with
  | false =>
    go_enter Tryz.func29, Tryz.ntmps29
    go_wp2
    (refine wp_region_ext (by kernel_rfl) (by kernel_rfl) ?_; (repeat (go_big_quiet_step ((first | exact Calls_same (count_is _ _ _ h1) | exact Calls_ext (counts_is _ x.jumps _ _ _ h2 (HJ.out.ext intR_grows (by repeat (first | exact Mods.refl _ _ | refine Mods.alloc ?_ _ | refine Mods.ext ?_ _ | refine Mods.drew ?_ | refine Mods.drewN ?_ _)))) | exact Calls_ext (counts_is _ x.falls _ _ _ h3 (HF.out.ext intR_grows (by repeat (first | exact Mods.refl _ _ | refine Mods.alloc ?_ _ | refine Mods.ext ?_ _ | refine Mods.drew ?_ | refine Mods.drewN ?_ _)))) | exact Calls_ext (anyArgp_calls _ x.args _ (HA.out.ext argR_grows (by repeat (first | exact Mods.refl _ _ | refine Mods.alloc ?_ _ | refine Mods.ext ?_ _ | refine Mods.drew ?_ | refine Mods.drewN ?_ _)))))))); refine wpQuiet_nil ?_; rintro _ ⟨xq, rfl⟩)
    go_wp2
    go_ret
    exact ⟨ret_bool (by unfold fpMay; rw [h1, h2]; rfl), Mods.ex (by repeat (first | exact Mods.refl _ _ | refine Mods.alloc ?_ _ | refine Mods.ext ?_ _ | refine Mods.drew ?_ | refine Mods.drewN ?_ _))⟩
  | true =>
  cases h3 : countsB x.falls f.code.length with
  | false =>
    go_enter Tryz.func29, Tryz.ntmps29
    go_wp2
    (refine wp_region_ext (by kernel_rfl) (by kernel_rfl) ?_; (repeat (go_big_quiet_step ((first | exact Calls_same (count_is _ _ _ h1) | exact Calls_ext (counts_is _ x.jumps _ _ _ h2 (HJ.out.ext intR_grows (by repeat (first | exact Mods.refl _ _ | refine Mods.alloc ?_ _ | refine Mods.ext ?_ _ | refine Mods.drew ?_ | refine Mods.drewN ?_ _)))) | exact Calls_ext (counts_is _ x.falls _ _ _ h3 (HF.out.ext intR_grows (by repeat (first | exact Mods.refl _ _ | refine Mods.alloc ?_ _ | refine Mods.ext ?_ _ | refine Mods.drew ?_ | refine Mods.drewN ?_ _)))) | exact Calls_ext (anyArgp_calls _ x.args _ (HA.out.ext argR_grows (by repeat (first | exact Mods.refl _ _ | refine Mods.alloc ?_ _ | refine Mods.ext ?_ _ | refine Mods.drew ?_ | refine Mods.drewN ?_ _)))))))); refine wpQuiet_nil ?_; rintro _ ⟨xq, rfl⟩)
    go_wp2
    go_ret
    exact ⟨ret_bool (by unfold fpMay; rw [h1, h2, h3]; rfl), Mods.ex (by repeat (first | exact Mods.refl _ _ | refine Mods.alloc ?_ _ | refine Mods.ext ?_ _ | refine Mods.drew ?_ | refine Mods.drewN ?_ _))⟩
  | true =>
  by_cases h4 : (x.args.length : Int) = f.args
  · have h4d : ((x.args.length : Int) == f.args) = true := by simp [h4]
    have H4 := Lib.hid h4
    clear h4
    go_enter Tryz.func29, Tryz.ntmps29
    go_wp2
    (refine wp_region_ext (by kernel_rfl) (by kernel_rfl) ?_; (repeat (go_big_quiet_step ((first | exact Calls_same (count_is _ _ _ h1) | exact Calls_ext (counts_is _ x.jumps _ _ _ h2 (HJ.out.ext intR_grows (by repeat (first | exact Mods.refl _ _ | refine Mods.alloc ?_ _ | refine Mods.ext ?_ _ | refine Mods.drew ?_ | refine Mods.drewN ?_ _)))) | exact Calls_ext (counts_is _ x.falls _ _ _ h3 (HF.out.ext intR_grows (by repeat (first | exact Mods.refl _ _ | refine Mods.alloc ?_ _ | refine Mods.ext ?_ _ | refine Mods.drew ?_ | refine Mods.drewN ?_ _)))) | exact Calls_ext (anyArgp_calls _ x.args _ (HA.out.ext argR_grows (by repeat (first | exact Mods.refl _ _ | refine Mods.alloc ?_ _ | refine Mods.ext ?_ _ | refine Mods.drew ?_ | refine Mods.drewN ?_ _)))))))); refine wpQuiet_nil ?_; rintro _ ⟨xq, rfl⟩)
    go_wp2
    go_ret
    exact ⟨ret_bool (by unfold fpMay; rw [h1, h2, h3, decide_eq_true H4.out]; simp), Mods.ex (by repeat (first | exact Mods.refl _ _ | refine Mods.alloc ?_ _ | refine Mods.ext ?_ _ | refine Mods.drew ?_ | refine Mods.drewN ?_ _))⟩
  · have h4d : ((x.args.length : Int) == f.args) = false := by simp [h4]
    have H4 := Lib.hid h4
    clear h4
    go_enter Tryz.func29, Tryz.ntmps29
    go_wp2
    (refine wp_region_ext (by kernel_rfl) (by kernel_rfl) ?_; (repeat (go_big_quiet_step ((first | exact Calls_same (count_is _ _ _ h1) | exact Calls_ext (counts_is _ x.jumps _ _ _ h2 (HJ.out.ext intR_grows (by repeat (first | exact Mods.refl _ _ | refine Mods.alloc ?_ _ | refine Mods.ext ?_ _ | refine Mods.drew ?_ | refine Mods.drewN ?_ _)))) | exact Calls_ext (counts_is _ x.falls _ _ _ h3 (HF.out.ext intR_grows (by repeat (first | exact Mods.refl _ _ | refine Mods.alloc ?_ _ | refine Mods.ext ?_ _ | refine Mods.drew ?_ | refine Mods.drewN ?_ _)))) | exact Calls_ext (anyArgp_calls _ x.args _ (HA.out.ext argR_grows (by repeat (first | exact Mods.refl _ _ | refine Mods.alloc ?_ _ | refine Mods.ext ?_ _ | refine Mods.drew ?_ | refine Mods.drewN ?_ _)))))))); refine wpQuiet_nil ?_; rintro _ ⟨xq, rfl⟩)
    go_wp2
    go_ret
    exact ⟨ret_bool (by unfold fpMay; rw [h1, h2, h3, decide_eq_false H4.out]; simp), Mods.ex (by repeat (first | exact Mods.refl _ _ | refine Mods.alloc ?_ _ | refine Mods.ext ?_ _ | refine Mods.drew ?_ | refine Mods.drewN ?_ _))⟩
theorem fpMay_is (f1 f2 g1 g2 : Nat) (f : Fun) (x : FunP) (b : Bool) (w : World) (hb : fpMay f x = b) (hf : funR w f1 f2 f) (hx : fpR w g1 g2 x) : Calls Tryz.prog 29 #[.pointer (some ⟨f1, f2, none⟩), .pointer (some ⟨g1, g2, none⟩)] w fun e w' => e = .returned (.bool b) ∧ ∃ x, w' = w.ext x := hb ▸ fpMay_calls f1 f2 g1 g2 f x w hf hx
theorem program_yes (v : Value) (p : List Fun) (w : World) (hG : EType w) (hv : Funs w v p) (h : ∃ hss, Ver p hss) : Calls Tryz.prog 18 #[.agg #[v]] w fun e w' => e = .returned (.int .i64 0) ∧ ∃ x, w' = w.ext x :=
  (program_calls v p w hG hv).mono fun e w' ⟨c, he, hc, hx⟩ => by
    rcases hc with ⟨rfl, _⟩ | ⟨_, hn⟩
    · exact ⟨he, hx⟩
    · exact absurd h hn
theorem program_no (v : Value) (p : List Fun) (w : World) (hG : EType w) (hv : Funs w v p) (h : ¬ ∃ hss, Ver p hss) : Calls Tryz.prog 18 #[.agg #[v]] w fun e w' => ∃ c, e = .returned (.int .i64 c) ∧ c ≠ 0 ∧ ∃ x, w' = w.ext x :=
  (program_calls v p w hG hv).mono fun e w' ⟨c, he, hc, hx⟩ => by
    rcases hc with ⟨_, hn⟩ | ⟨hc, _⟩
    · exact absurd hn h
    · exact ⟨c, he, hc, hx⟩
set_option maxHeartbeats 4000000 in
set_option maxRecDepth 100000 in
theorem profMay_calls (v u : Value) (p : List Fun) (rs : List FunP) (w : World) (hG : EType w) (hv : Funs w v p) (hu : Profs w u rs) : Calls Tryz.prog 13 #[.agg #[v], .agg #[u]] w fun e w' => e = .returned (.bool (profMay p rs)) ∧ ∃ x, w' = w.ext x := by
  obtain ⟨A, c, rfl, k1, k2⟩ := hv.form
  obtain ⟨B, d, rfl, k3, k4⟩ := hu.form
  have HV := Lib.hid hv
  have HU := Lib.hid hu
  have HG := Lib.hid hG
  clear hv hu hG
  by_cases hver : ∃ hss, Ver p hss
  · have HVER := Lib.hid hver
    clear hver
    by_cases hl : rs.length = p.length
    · obtain ⟨m, hm⟩ : ∃ m, rs.length = m := ⟨_, rfl⟩
      rw [hm] at hl k3 HU ⊢
      subst hl
      have HL := Lib.hid hm
      clear hm
      go_enter Tryz.func13, Tryz.ntmps13
      go_wp2_with (go_at_call 18; (with_reducible refine (program_yes _ p _ ?_ ?_ HVER.out).mono ?_); (exact HG.out.ext (by repeat (first | exact Mods.refl _ _ | refine Mods.alloc ?_ _ | refine Mods.ext ?_ _ | refine Mods.drew ?_ | refine Mods.drewN ?_ _))); (exact HV.out.ext funR_grows (by repeat (first | exact Mods.refl _ _ | refine Mods.alloc ?_ _ | refine Mods.ext ?_ _ | refine Mods.drew ?_ | refine Mods.drewN ?_ _))); rintro e w1 ⟨rfl, x1, hx1⟩; have hM := ((Mods.refl [] w).alloc (Obj.cells #[Value.slice A p.length c] 24) |>.alloc (Obj.cells #[Value.slice B p.length d] 27)).trans (mods_of hx1); have hb0 : w1.cell? ⟨w.heap.size, 0, none⟩ = some (.slice A p.length c) := (mods_of hx1).cell (by go_simp); have hb1 : w1.cell? ⟨w.heap.size + 1, 0, none⟩ = some (.slice B p.length d) := (mods_of hx1).cell (by go_simp); have HM := Lib.hid hM; clear hM hx1)
      go_loopw [5, 21] (fun _ i wr => ∃ k : Nat, i = .int .i64 k ∧ k ≤ p.length ∧ Hid (∀ (j : Nat) (f : Fun) (x : FunP), j < k → p[j]? = some f → rs[j]? = some x → fpMay f x = true) ∧ Hid (Mods [] w1 wr)) (fun _ i _ => p.length - (intOf i).toNat)
      case atStart => exact ⟨0, rfl, Nat.zero_le _, fun j f x h => absurd h (Nat.not_lt_zero _), Mods.refl _ _⟩
      case round =>
        obtain ⟨k, rfl, hk, HE, HW⟩ := hrel
        have hb0' := HW.out.cell hb0
        have hb1' := HW.out.cell hb1
        by_cases hlt : k < p.length
        · have hlt2 : k < rs.length := by have := HL.out; omega
          obtain ⟨b, o, rfl, hx⟩ := HV.out.at_ (get_some hlt)
          obtain ⟨b2, o2, rfl, hy⟩ := HU.out.at_ (get_some hlt2)
          have HX := Lib.hid (funR_grows.ext (HM.out.trans HW.out) hx)
          have HY := Lib.hid (fpR_grows.ext (HM.out.trans HW.out) hy)
          clear hx hy
          have i0 : (0 : Int) ≤ (k : Int) := by omega
          have i1 : (k : Int) < (p.length : Int) := by omega
          cases hq : fpMay p[k] rs[k] with
          | true =>
            go_wp2
            (refine wp_region_ext (by kernel_rfl) (by kernel_rfl) ?_; (repeat (go_big_quiet_step (((exact Calls_ext (fpMay_is _ _ _ _ p[k] rs[k] _ _ hq (funR_grows.ext (by repeat (first | exact Mods.refl _ _ | refine Mods.alloc ?_ _ | refine Mods.ext ?_ _ | refine Mods.drew ?_ | refine Mods.drewN ?_ _)) HX.out) (fpR_grows.ext (by repeat (first | exact Mods.refl _ _ | refine Mods.alloc ?_ _ | refine Mods.ext ?_ _ | refine Mods.drew ?_ | refine Mods.drewN ?_ _)) HY.out))))))); refine wpQuiet_nil ?_; rintro _ ⟨xq, rfl⟩)
            go_wp2
            go_roundw
            case rel =>
              go_light
              refine ⟨k + 1, by go_num, by omega, fun j f x hj hf hx => ?_, HW.out.ext _⟩
              by_cases hjk : j < k
              · exact HE.out j f x hjk hf hx
              · obtain rfl : j = k := by omega
                rw [get_some hlt] at hf
                rw [get_some hlt2] at hx
                rw [← Option.some.inj hf, ← Option.some.inj hx]
                exact hq
            case measure => simp [intOf]; omega
          | false =>
            go_wp2
            (refine wp_region_ext (by kernel_rfl) (by kernel_rfl) ?_; (repeat (go_big_quiet_step (((exact Calls_ext (fpMay_is _ _ _ _ p[k] rs[k] _ _ hq (funR_grows.ext (by repeat (first | exact Mods.refl _ _ | refine Mods.alloc ?_ _ | refine Mods.ext ?_ _ | refine Mods.drew ?_ | refine Mods.drewN ?_ _)) HX.out) (fpR_grows.ext (by repeat (first | exact Mods.refl _ _ | refine Mods.alloc ?_ _ | refine Mods.ext ?_ _ | refine Mods.drew ?_ | refine Mods.drewN ?_ _)) HY.out))))))); refine wpQuiet_nil ?_; rintro _ ⟨xq, rfl⟩)
            go_wp2
            go_ret
            exact ⟨ret_bool (profMay_false (fun h => by have := h.each k _ _ (get_some hlt) (get_some hlt2); rw [hq] at this; cases this)).symm, ((HM.out.trans HW.out).ext _).ex⟩
        · have hke : k = p.length := by omega
          subst hke
          go_wp2
          go_ret
          exact ⟨ret_bool (profMay_true ⟨HVER.out, HL.out, fun i f x hf hx => HE.out i f x (List.getElem?_eq_some_iff.1 hf).1 hf hx⟩).symm, (HM.out.trans HW.out).ex⟩
    · have hn : ((rs.length : Int) != (p.length : Int)) = true := by simp; omega
      have HL := Lib.hid hl
      clear hl
      go_enter Tryz.func13, Tryz.ntmps13
      go_wp2_with (go_at_call 18; (with_reducible refine (program_yes _ p _ ?_ ?_ HVER.out).mono ?_); (exact HG.out.ext (by repeat (first | exact Mods.refl _ _ | refine Mods.alloc ?_ _ | refine Mods.ext ?_ _ | refine Mods.drew ?_ | refine Mods.drewN ?_ _))); (exact HV.out.ext funR_grows (by repeat (first | exact Mods.refl _ _ | refine Mods.alloc ?_ _ | refine Mods.ext ?_ _ | refine Mods.drew ?_ | refine Mods.drewN ?_ _))); rintro e w1 ⟨rfl, x1, rfl⟩)
      go_ret
      exact ⟨ret_bool (profMay_false (fun h => HL.out h.len)).symm, Mods.ex (by repeat (first | exact Mods.refl _ _ | refine Mods.alloc ?_ _ | refine Mods.ext ?_ _ | refine Mods.drew ?_ | refine Mods.drewN ?_ _))⟩
  · have HVER := Lib.hid hver
    clear hver
    go_enter Tryz.func13, Tryz.ntmps13
    go_wp2_with (go_at_call 18; (with_reducible refine (program_no _ p _ ?_ ?_ HVER.out).mono ?_); (exact HG.out.ext (by repeat (first | exact Mods.refl _ _ | refine Mods.alloc ?_ _ | refine Mods.ext ?_ _ | refine Mods.drew ?_ | refine Mods.drewN ?_ _))); (exact HV.out.ext funR_grows (by repeat (first | exact Mods.refl _ _ | refine Mods.alloc ?_ _ | refine Mods.ext ?_ _ | refine Mods.drew ?_ | refine Mods.drewN ?_ _))); rintro e w1 ⟨c1, rfl, hc1, x1, rfl⟩; have hc1d : (c1 != 0) = true := (by simp [hc1]); clear hc1)
    go_ret
    exact ⟨ret_bool (profMay_false (fun h => HVER.out h.ver)).symm, Mods.ex (by repeat (first | exact Mods.refl _ _ | refine Mods.alloc ?_ _ | refine Mods.ext ?_ _ | refine Mods.drew ?_ | refine Mods.drewN ?_ _))⟩
end Go.Proofs.YtjpgcokdlopkaaaGreatDoor
