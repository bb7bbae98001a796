/- Lemmas for a claim of the seat YtjpgcokdlopkaaaGreatDoor. Written in part by programs of the claim's repo. By an AI agent. -/
import Derived.Test.YtjpgcokdlopkaaaGreatDoorG03
import Derived.Test.YtjpgcokdlopkaaaGreatDoorG13
import Derived.Test.YtjpgcokdlopkaaaGreatDoorG06
import Derived.Test.YtjpgcokdlopkaaaGreatDoorG01

namespace Go.Proofs.YtjpgcokdlopkaaaGreatDoor
open Go.RowKit

theorem nextF_len (k a : Int) (pc n : Nat) : (nextF k a pc n).length ≤ 2 := by
  unfold nextF
  repeat' split
  all_goals simp
/-- The reference's way: marked when taken off the row. -/
structure RR (c : List Ins) (bs : List Bool) (row : List Nat) : Prop where
  len : bs.length = c.length
  zero : bs[0]? = some true ∨ 0 ∈ row
  rows : ∀ j : Nat, j ∈ row → j < c.length ∧ Reach c j
  sound : ∀ j : Nat, bs[j]? = some true → Reach c j
  closed : ∀ (j : Nat) (i : Ins), bs[j]? = some true → c[j]? = some i → ∀ to : Nat, (to : Int) ∈ nextI i j c.length → bs[to]? = some true ∨ to ∈ row
theorem RR.start {c : List Ins} (h : 1 ≤ c.length) : RR c (List.replicate c.length false) [0] := by
  have key : ∀ j : Nat, (List.replicate c.length false)[j]? = some true → False := fun j hj => by
    rw [List.getElem?_replicate] at hj; split at hj <;> simp at hj
  exact ⟨by simp, .inr (by simp), fun j hj => by rw [List.mem_singleton.1 hj]; exact ⟨h, .zero⟩, fun j hj => (key j hj).elim, fun j _ hj => (key j hj).elim⟩
theorem RR.skip {c : List Ins} {bs : List Bool} {row : List Nat} {pc : Nat} (h : RR c bs (pc :: row)) (hp : bs[pc]? = some true) : RR c bs row := by
  have key : ∀ j : Nat, bs[j]? = some true ∨ j ∈ pc :: row → bs[j]? = some true ∨ j ∈ row := fun j hj => by
    rcases hj with h1 | h1
    · exact .inl h1
    · rcases List.mem_cons.1 h1 with rfl | h1
      · exact .inl hp
      · exact .inr h1
  exact ⟨h.len, key 0 h.zero, fun j hj => h.rows j (List.mem_cons_of_mem _ hj), h.sound, fun j i hj hi to ht => key to (h.closed j i hj hi to ht)⟩
theorem RR.mark {c : List Ins} {bs : List Bool} {row : List Nat} {pc : Nat} {i : Ins} (h : RR c bs (pc :: row)) (hi : c[pc]? = some i) (hr : ∀ x ∈ nextI i pc c.length, 0 ≤ x ∧ x < c.length) :
    RR c (bs.set pc true) (row ++ (nextI i pc c.length).map Int.toNat) := by
  obtain ⟨hpl, hpr⟩ := h.rows pc (by simp)
  have hs : ∀ j : Nat, (bs.set pc true)[j]? = some true ↔ j = pc ∨ bs[j]? = some true := fun j => by
    rw [List.getElem?_set]
    split
    · rename_i e; subst e; simp [h.len, hpl]
    · rename_i e; constructor
      · exact .inr
      · rintro (rfl | h')
        · exact absurd rfl e
        · exact h'
  have key : ∀ j : Nat, bs[j]? = some true ∨ j ∈ pc :: row → (bs.set pc true)[j]? = some true ∨ j ∈ row ++ (nextI i pc c.length).map Int.toNat := fun j hj => by
    rcases hj with h1 | h1
    · exact .inl ((hs j).2 (.inr h1))
    · rcases List.mem_cons.1 h1 with rfl | h1
      · exact .inl ((hs j).2 (.inl rfl))
      · exact .inr (List.mem_append_left _ h1)
  have mem : ∀ to : Nat, (to : Int) ∈ nextI i pc c.length → to ∈ row ++ (nextI i pc c.length).map Int.toNat := fun to ht => List.mem_append_right _ (List.mem_map.2 ⟨_, ht, by simp⟩)
  refine ⟨by simp [h.len], key 0 h.zero, fun j hj => ?_, fun j hj => ?_, fun j i' hj hi' to ht => ?_⟩
  · rcases List.mem_append.1 hj with h1 | h1
    · exact h.rows j (List.mem_cons_of_mem _ h1)
    · obtain ⟨x, hx, rfl⟩ := List.mem_map.1 h1
      have := hr x hx
      exact ⟨by omega, .step hpr hi (by rw [Int.toNat_of_nonneg this.1]; exact hx)⟩
  · rcases (hs j).1 hj with rfl | h1
    · exact hpr
    · exact h.sound j h1
  · rcases (hs j).1 hj with rfl | h1
    · rw [hi] at hi'
      obtain rfl := Option.some.inj hi'
      exact .inr (mem to ht)
    · exact key to (h.closed j i' h1 hi' to ht)
theorem RR.done {c : List Ins} {bs : List Bool} (h : RR c bs []) : ∀ (pc : Nat) (b : Bool), bs[pc]? = some b → (b = true ↔ Reach c pc) := fun pc b hb => by
  have hr : ∀ j, Reach c j → bs[j]? = some true := fun j hj => by
    induction hj with
    | zero => rcases h.zero with h1 | h1
              · exact h1
              · cases h1
    | step _ hi ht ih =>
      rcases h.closed _ _ ih hi _ ht with h1 | h1
      · exact h1
      · cases h1
  constructor
  · rintro rfl; exact h.sound pc hb
  · intro h1; have := hr pc h1; rw [hb] at this; exact Option.some.inj this
end Go.Proofs.YtjpgcokdlopkaaaGreatDoor


namespace Go.Proofs.YtjpgcokdlopkaaaGreatDoor
open Go.RowKit

theorem natV_toNat {us : List Int} (h : ∀ x ∈ us, 0 ≤ x) : natV (us.map Int.toNat) = intV us := by
  simp only [natV, intV, List.map_map]
  refine List.map_congr_left fun x hx => ?_
  simp [Int.toNat_of_nonneg (h x hx)]
theorem natV_append (a b : List Nat) : natV (a ++ b) = natV a ++ natV b := by simp [natV]
def RRel (c : List Ins) (w1 : World) (bs : List Bool) (row : List Nat) (v : Value) (wr : World) : Prop :=
  RR c bs row ∧ Own wr 3 1 v row.length (natV row) ∧ wr.heap[w1.heap.size]? = some (.cells (bs.map Value.bool).toArray 4 (0, 0)) ∧ (∀ k, v.ownBlock = some k → w1.heap.size < k) ∧ Mods [] w1 wr

theorem OwnI.at {B : Nat} {w : World} {A : Option Addr} {n c : Nat} {us : List Int} (h : OwnI B w (.slice A n c) us) : IntsAt w A us := fun i x hx => by
  have hi := (List.getElem?_eq_some_iff.1 hx).1
  obtain ⟨g, o, c', e, _, _, h4, _⟩ := h.1.form (by omega)
  cases e
  exact ⟨g, o, rfl, h4 i _ (by simp only [intV, List.getElem?_map, hx, Option.map_some])⟩
theorem RRel.next {c : List Ins} {w1 wr w2 w3 : World} {bs : List Bool} {pc : Nat} {rest : List Nat} {g : Nat} {v' : Value} (hcm : codeMay c = true) (hpl : pc < c.length) (h : RR c bs (pc :: rest))
    (hb : wr.heap[w1.heap.size]? = some (.cells (bs.map Value.bool).toArray 4 (0, 0))) (hlt : w1.heap.size < g) (h5 : Mods [] w1 wr) (hm : Mods [] (wr.setCell ⟨w1.heap.size, pc, none⟩ (.bool true)) w2)
    (ho : Own w3 3 1 v' (rest.length + (nextI c[pc] pc c.length).length) (natV rest ++ intV (nextI c[pc] pc c.length))) (hg : w2.grownBy w3 (some g)) (ha : v'.ownBlock = some g ∨ v'.ownBlock = some w2.heap.size) :
    RRel c w1 (bs.set pc true) (rest ++ (nextI c[pc] pc c.length).map Int.toNat) v' w3 := by
  have hw := (Array.getElem?_eq_some_iff.1 hb).1
  have hset : Mods [] w1 (wr.setCell ⟨w1.heap.size, pc, none⟩ (.bool true)) := h5.setCell (by simp) _
  have hsz : (wr.setCell ⟨w1.heap.size, pc, none⟩ (.bool true)).heap.size = wr.heap.size := by simp [World.setCell]
  have hs2 := hm.size
  refine ⟨h.mark (get_some hpl) (fun x hx => codeMay_next hcm (get_some hpl) hx), ?_, ?_, fun k hk => ?_, ?_⟩
  · rw [natV_append, natV_toNat (fun x hx => (codeMay_next hcm (get_some hpl) hx).1)]
    simpa using ho
  · refine (hg.block _ (by omega) (fun e => by have := Option.some.inj e; omega)).trans ?_
    refine (hm.block _ (by omega) (by simp)).trans ?_
    rw [heap_setCell_at hb]
    congr 2
    simp
  · rcases ha with e | e <;> rw [e] at hk <;> have := Option.some.inj hk <;> omega
  · exact (hset.trans hm).grown hg (fun k hk hlt' => by have := Option.some.inj hk; omega)
set_option maxHeartbeats 4000000 in
set_option maxRecDepth 100000 in
theorem rReached_calls (f : Fun) (v : Value) (w : World) (hi : Inss w v f.code) (hm : codeMay f.code = true) : Calls Tryz.prog 50 #[.agg #[.int .i64 f.args, .int .i64 f.locals, v]] w fun e w' =>
    ∃ u bs, e = .returned (.tuple #[u, .int .i64 0]) ∧ bs.length = f.code.length ∧ SlR 1 boolR w' u bs ∧ (∀ (pc : Nat) (b : Bool), bs[pc]? = some b → (b = true ↔ Reach f.code pc)) ∧ ∃ x, w' = w.ext x := by
  obtain ⟨l1, l2⟩ := codeMay_lens hm
  obtain ⟨A, cap, rfl, k1, k2⟩ := hi.form
  have HI := Lib.hid hi
  clear hi
  have hmk := fun W => mk_bools W f.code.length (by omega)
  go_enter Tryz.func50, Tryz.ntmps50
  go_wp2_with (first | (go_at_call 49; (with_reducible refine (rFuncMay_calls f _ _ ?_).mono ?_); (exact HI.out.ext insR_grows (by repeat (first | exact Mods.refl _ _ | refine Mods.alloc ?_ _ | refine Mods.ext ?_ _ | refine Mods.drew ?_ | refine Mods.drewN ?_ _))); rintro e w1 ⟨he, x2, hx2⟩; rw [hm] at he; subst he; have hM2 := mods_of hx2; have hM2' := ((Mods.refl [] w).alloc _).trans hM2; have hb0 : w1.cell? ⟨w.heap.size, 0, none⟩ = some (.int .i64 f.args) := hM2.cell (by go_simp); have hb1 : w1.cell? ⟨w.heap.size, 1, none⟩ = some (.int .i64 f.locals) := hM2.cell (by go_simp); have hb2 : w1.cell? ⟨w.heap.size, 2, none⟩ = some (.slice A f.code.length cap) := hM2.cell (by go_simp); have HM1 := Lib.hid hM2'; have hsz : w.heap.size < w1.heap.size := Nat.lt_of_lt_of_le (by simp) hM2.size; clear hx2 hM2 hM2'))
  go_loopg [5] (3 * f.code.length + 2) (fun m v wr => ∃ bs row, Hid (3 * nFalse bs + row.length ≤ m) ∧ Hid (m ≤ 194) ∧ Hid (RRel f.code w1 bs row v wr))
  case atStart =>
    have hnf : nFalse (List.replicate f.code.length false) = f.code.length := by simp [nFalse]
    refine ⟨_, [0], ?_, ?_, RR.start l1, ⟨rfl, .inr ⟨w1.heap.size + 1, 0, 1, #[.int .i64 0], rfl, ?_, by simp, by simp [maxLen], by simp, rfl⟩⟩, ?_, ?_, ?_⟩
    · unfold Hid; simp only [List.length_singleton]; omega
    · unfold Hid; omega
    · exact alloc_new_at (by simp)
    · refine (Below.heap_alloc _ _ _ (by simp)).trans ?_
      rw [alloc_new_at rfl]
      simp
    · intro k hk
      have : w1.heap.size + 1 = k := by simpa [Value.ownBlock] using hk
      omega
    · exact (by repeat (first | exact Mods.refl _ _ | refine Mods.alloc ?_ _ | refine Mods.ext ?_ _ | refine Mods.drew ?_ | refine Mods.drewN ?_ _))
  case round =>
    obtain ⟨bs, row, hmeas, hbound, hR⟩ := hrel
    obtain ⟨r1, r2, r3, r4, r5⟩ := hR.out
    clear hR
    cases row with
    | nil =>
      obtain ⟨A, cp, rfl, _, _⟩ := r2.slice
      have HR := Lib.hid r1; clear r1
      have H3 := Lib.hid r3; clear r3
      have H5 := Lib.hid r5; clear r5
      have H2 := Lib.hid r2; clear r2
      have H4 := Lib.hid r4; clear r4
      go_wp2
      go_ret2
      go_light
      refine ⟨_, bs, rfl, HR.out.len, ⟨f.code.length, by rw [HR.out.len]; omega, by omega, .inr ⟨w1.heap.size, 0, by rw [HR.out.len]; rfl, fun i x hx => ?_⟩⟩, HR.out.done, (HM1.out.trans H5.out).ex⟩
      rw [Nat.zero_add, Nat.mul_one]
      exact boolHeap_cell H3.out hx
    | cons pc rest =>
      obtain ⟨g, og, cp, rfl, q1, q2, q3, q4⟩ := r2.form (by simp)
      obtain ⟨hpl, _⟩ := r1.rows pc (by simp)
      have hc0 : wr.cell? ⟨g, og, none⟩ = some (.int .i64 pc) := q3 0 _ rfl
      have hb0' := r5.cell hb0
      have hb1' := r5.cell hb1
      have hb2' := r5.cell hb2
      obtain ⟨bv, hbv⟩ : ∃ bv, bs[pc]? = some bv := ⟨bs[pc]'(by rw [r1.len]; exact hpl), get_some _⟩
      have hout := boolHeap_cell r3 hbv
      have hfz := boolHeap_frozen r3 pc
      have hrl : rest.length + 1 ≤ 194 := by have := hmeas.out; have := hbound.out; simp at *; omega
      have HR := Lib.hid r1; clear r1
      have H3 := Lib.hid r3; clear r3
      have H5 := Lib.hid r5; clear r5
      have H2 := Lib.hid r2; clear r2
      have H4 := Lib.hid r4; clear r4
      have HBV := Lib.hid hbv; clear hbv
      clear q3 q4
      cases bv with
      | true =>
        by_cases hcv : cp = 1
        · subst hcv
          go_wp2
          go_roundg (3 * nFalse bs + rest.length)
          case measure => have := hmeas.out; simp at this; omega
          case rel =>
            go_light
            exact ⟨bs, rest, by unfold Hid; omega, by have := hmeas.out; have := hbound.out; unfold Hid; simp at *; omega, HR.out.skip HBV.out, H2.out.tail1, H3.out, H4.out, H5.out⟩
        · go_wp2
          go_roundg (3 * nFalse bs + rest.length)
          case measure => have := hmeas.out; simp at this; omega
          case rel =>
            go_light
            exact ⟨bs, rest, by unfold Hid; omega, by have := hmeas.out; have := hbound.out; unfold Hid; simp at *; omega, HR.out.skip HBV.out, H2.out.tail, H3.out, H4.out, H5.out⟩
      | false =>
        have hsetm : Mods [] w1 (wr.setCell ⟨w1.heap.size, pc, none⟩ (.bool true)) := H5.out.setCell (by simp) _
        have hnf := nf_set HBV.out
        have hnl : (nextI f.code[pc] pc f.code.length).length ≤ 2 := nextF_len _ _ _ _
        by_cases hcv : cp = 1
        · subst hcv
          go_wp2_with (first | (go_at_call 63; (with_reducible refine (rNext_calls f (.slice A f.code.length cap) pc _ ?_ hm hpl).mono ?_); (exact HI.out.ext insR_grows (HM1.out.trans hsetm)); rintro e w2 ⟨u, rfl, hu, x2, hx2⟩; obtain ⟨Au, cu, rfl, hu1, hu2⟩ := hu.1.slice; have HU := Lib.hid hu; clear hu; have HX := Lib.hid (mods_of hx2); clear hx2) | (at_builtin; refine wpList_append_us _ rfl _ _ rfl (.slice (some ⟨g, og, none⟩) rest.length 0) rest.length (natV rest) rfl ?_ Au cu (nextI f.code[pc] pc f.code.length) rfl ?_ ?_ ?_; (exact H2.out.tail1.mods (S := [w1.heap.size]) (((Mods.refl _ wr).setCell (by simp) _).trans HX.out.nil) (fun k hk => by have := H4.out k hk; simp; omega)); (exact HU.out.at); (omega); (intro v' w3 hown3 hg3 hat3; have HO3 := Lib.hid hown3; have HG3 := Lib.hid hg3; have HA3 := Lib.hid hat3; clear hown3 hg3 hat3)))
          go_roundg (3 * nFalse (bs.set pc true) + (rest.length + (nextI f.code[pc] pc f.code.length).length))
          case measure => have := hmeas.out; simp at this; omega
          case rel =>
            go_light
            exact ⟨bs.set pc true, rest ++ (nextI f.code[pc] pc f.code.length).map Int.toNat, by unfold Hid; simp, by have := hmeas.out; have := hbound.out; unfold Hid; simp at *; omega, RRel.next hm hpl HR.out H3.out (H4.out g rfl) H5.out HX.out HO3.out HG3.out HA3.out⟩
        · go_wp2_with (first | (go_at_call 63; (with_reducible refine (rNext_calls f (.slice A f.code.length cap) pc _ ?_ hm hpl).mono ?_); (exact HI.out.ext insR_grows (HM1.out.trans hsetm)); rintro e w2 ⟨u, rfl, hu, x2, hx2⟩; obtain ⟨Au, cu, rfl, hu1, hu2⟩ := hu.1.slice; have HU := Lib.hid hu; clear hu; have HX := Lib.hid (mods_of hx2); clear hx2) | (at_builtin; refine wpList_append_us _ rfl _ _ rfl (.slice (some ⟨g, og + 1, none⟩) rest.length (cp - 1)) rest.length (natV rest) rfl ?_ Au cu (nextI f.code[pc] pc f.code.length) rfl ?_ ?_ ?_; (exact H2.out.tail.mods (S := [w1.heap.size]) (((Mods.refl _ wr).setCell (by simp) _).trans HX.out.nil) (fun k hk => by have := H4.out k hk; simp; omega)); (exact HU.out.at); (omega); (intro v' w3 hown3 hg3 hat3; have HO3 := Lib.hid hown3; have HG3 := Lib.hid hg3; have HA3 := Lib.hid hat3; clear hown3 hg3 hat3)))
          go_roundg (3 * nFalse (bs.set pc true) + (rest.length + (nextI f.code[pc] pc f.code.length).length))
          case measure => have := hmeas.out; simp at this; omega
          case rel =>
            go_light
            exact ⟨bs.set pc true, rest ++ (nextI f.code[pc] pc f.code.length).map Int.toNat, by unfold Hid; simp, by have := hmeas.out; have := hbound.out; unfold Hid; simp at *; omega, RRel.next hm hpl HR.out H3.out (H4.out g rfl) H5.out HX.out HO3.out HG3.out HA3.out⟩
end Go.Proofs.YtjpgcokdlopkaaaGreatDoor


namespace Go.Proofs.YtjpgcokdlopkaaaGreatDoor
open Go.RowKit

set_option maxHeartbeats 1000000 in
set_option maxRecDepth 100000 in
theorem ranged_calls (v cv : Value) (p : List Fun) (f : Fun) (i : Ins) (w : World) (hv : Funs w v p) (hc : Inss w cv f.code) : Calls Tryz.prog 51 #[.agg #[v], .agg #[.int .i64 f.args, .int .i64 f.locals, cv], .agg #[.int .i64 i.kind, .int .i64 i.a]] w fun e w' =>
    e = .returned (.bool (!outsideB p f i)) ∧ ∃ x, w' = w.ext x := by
  obtain ⟨A, c, rfl, k1, k2⟩ := hv.form
  obtain ⟨B, d, rfl, k3, k4⟩ := hc.form
  clear hv hc
  go_enter Tryz.func51, Tryz.ntmps51
  go_wp2
  all_goals (go_ret; go_light; refine ⟨ret_bool ?_, Mods.ex (by repeat (first | exact Mods.refl _ _ | refine Mods.alloc ?_ _ | refine Mods.ext ?_ _ | refine Mods.drew ?_ | refine Mods.drewN ?_ _))⟩; simp only [beq_iff_eq, beq_eq_false_iff_ne, ne_eq] at *; unfold outsideB; repeat (first | rw [if_pos (by omega)] | rw [if_neg (by omega)]))
  all_goals (first | rfl | (rw [Bool.eq_iff_iff]; simp))
end Go.Proofs.YtjpgcokdlopkaaaGreatDoor


namespace Go.Proofs.YtjpgcokdlopkaaaGreatDoor
open Go.RowKit

set_option maxHeartbeats 1000000 in
theorem refEffect_calls (k a n : Int) (w : World) : Calls Tryz.prog 64 #[.agg #[.int .i64 k, .int .i64 a], .int .i64 n] w fun e w' =>
    e = .returned (.tuple #[.int .i64 (effectF k a n).1, .int .i64 (effectF k a n).2.1, .int .i64 (effectF k a n).2.2]) ∧ ∃ x, w' = w.ext x := by
  cases hm : insMayB k a with
  | false =>
    go_enter Tryz.func64, Tryz.ntmps64
    go_wp2_with (go_at_call 62; refine (refInsMay_calls _ _ _).mono ?_; rintro e w' ⟨rfl, x, rfl⟩)
    go_ret3
    exact ⟨ret_tri (by simp [effectF, hm]), Mods.ex (by repeat (first | exact Mods.refl _ _ | refine Mods.alloc ?_ _ | refine Mods.ext ?_ _ | refine Mods.drew ?_ | refine Mods.drewN ?_ _))⟩
  | true =>
  by_cases h1 : n < 0
  · go_enter Tryz.func64, Tryz.ntmps64
    go_wp2_with (go_at_call 62; refine (refInsMay_calls _ _ _).mono ?_; rintro e w' ⟨rfl, x, rfl⟩)
    go_ret3
    exact ⟨ret_tri (by simp [effectF, h1]), Mods.ex (by repeat (first | exact Mods.refl _ _ | refine Mods.alloc ?_ _ | refine Mods.ext ?_ _ | refine Mods.drew ?_ | refine Mods.drewN ?_ _))⟩
  by_cases h2 : 4 < n
  · go_enter Tryz.func64, Tryz.ntmps64
    go_wp2_with (go_at_call 62; refine (refInsMay_calls _ _ _).mono ?_; rintro e w' ⟨rfl, x, rfl⟩)
    go_ret3
    exact ⟨ret_tri (by simp [effectF, h2]), Mods.ex (by repeat (first | exact Mods.refl _ _ | refine Mods.alloc ?_ _ | refine Mods.ext ?_ _ | refine Mods.drew ?_ | refine Mods.drewN ?_ _))⟩
  have hk : 0 ≤ k ∧ k ≤ 16 := by
    rcases (show k < 0 ∨ 0 ≤ k by omega) with h | h
    · rw [insMayB, if_pos (by omega)] at hm; cases hm
    · rcases (show 16 < k ∨ k ≤ 16 by omega) with h' | h'
      · rw [insMayB, if_pos (by omega)] at hm; cases hm
      · exact ⟨h, h'⟩
  obtain ⟨hk0, hk1⟩ := hk
  go_enter Tryz.func64, Tryz.ntmps64
  go_wp2_with (go_at_call 62; refine (refInsMay_calls _ _ _).mono ?_; rintro e w' ⟨rfl, x, rfl⟩)
  all_goals (go_ret3; go_light; refine ⟨ret_tri ?_, Mods.ex (by repeat (first | exact Mods.refl _ _ | refine Mods.alloc ?_ _ | refine Mods.ext ?_ _ | refine Mods.drew ?_ | refine Mods.drewN ?_ _))⟩; simp only [beq_iff_eq, beq_eq_false_iff_ne, ne_eq] at *; unfold effectF; rw [if_neg (by rw [hm]; simp; omega)]; repeat (first | rw [if_pos (by omega)] | rw [if_neg (by omega)]))

end Go.Proofs.YtjpgcokdlopkaaaGreatDoor
