/- Lemmas for a claim of the seat YtjpgcokdlopkaaaGreatDoor. Written in part by programs of the claim's repo. By an AI agent. -/
import Derived.Test.YtjpgcokdlopkaaaGreatDoorG02
import Derived.Test.YtjpgcokdlopkaaaGreatDoorG03
import Derived.Deep.LoopGhost
import Derived.Laws.MakeOwn

namespace Go.Proofs.YtjpgcokdlopkaaaGreatDoor
open Go.RowKit

theorem codeMay_lens {c : List Ins} (h : codeMay c = true) : 1 ≤ c.length ∧ c.length ≤ 64 := by
  simp [codeMay] at h; omega
/-- the memory of an instruction -/
theorem inss_at {w : World} {v : Value} {c : List Ins} (h : Inss w v c) (hc : 0 < c.length) : ∃ b o cap, v = .slice (some ⟨b, o, none⟩) c.length cap ∧ c.length ≤ cap ∧ cap ≤ 9223372036854775807 ∧
    ∀ pc (hp : pc < c.length), w.cell? ⟨b, o + pc * 2, none⟩ = some (.int .i64 c[pc].kind) ∧ w.cell? ⟨b, o + pc * 2 + 1, none⟩ = some (.int .i64 c[pc].a) := by
  obtain ⟨cap, h1, h2, ⟨rfl, A, rfl⟩ | ⟨b, o, rfl, h3⟩⟩ := h
  · simp at hc
  · exact ⟨b, o, cap, rfl, h1, h2, fun pc hp => h3 pc _ (get_some hp)⟩

set_option maxHeartbeats 1000000 in
set_option maxRecDepth 100000 in
theorem flowNext_calls (f : Fun) (v : Value) (pc : Nat) (w : World) (hi : Inss w v f.code) (hm : codeMay f.code = true) (hpc : pc < f.code.length) : Calls Tryz.prog 76 #[.agg #[.int .i64 f.args, .int .i64 f.locals, v], .int .i64 pc] w fun e w' =>
    ∃ u, e = .returned (.tuple #[u, .int .i64 0]) ∧ SlF w.heap.size 1 intR w' u (nextI f.code[pc] pc f.code.length) ∧ ∃ x, w' = w.ext x := by
  obtain ⟨l1, l2⟩ := codeMay_lens hm
  obtain ⟨b, o, cap, rfl, k1, k2, hat⟩ := inss_at hi l1
  obtain ⟨c1, c2⟩ := hat pc hpc
  go_enter Tryz.func76, Tryz.ntmps76
  go_wp2_with (first | (go_at_call 70; refine (flowMay_calls _ _ f _ ?_).mono ?_; (exact ⟨by go_simp, by go_simp, _, by go_simp, hi.ext insR_grows (by repeat (first | exact Mods.refl _ _ | refine Mods.alloc ?_ _ | refine Mods.ext ?_ _ | refine Mods.drew ?_ | refine Mods.drewN ?_ _))⟩); rintro e w' ⟨rfl, xm, rfl⟩) | (go_at_call 71; refine (next_calls _ _ f.code.length pc f.code[pc].kind f.code[pc].a _ ?_).mono ?_; (exact ⟨b, o, cap, by go_simp, hpc, l2, k1, k2, by go_simp, by go_simp⟩); rintro e w' ⟨u, rfl, hu, x, rfl⟩))
  go_ret2
  exact ⟨_, rfl, hu.low (by have := mod_size (w.alloc (.cells #[.int .i64 f.args, .int .i64 f.locals, .slice (some ⟨b, o, none⟩) f.code.length cap] 52)) [] xm; simp at this; change w.heap.size ≤ ((w.alloc (.cells #[.int .i64 f.args, .int .i64 f.locals, .slice (some ⟨b, o, none⟩) f.code.length cap] 52)).mod [] xm).heap.size; omega), Mods.ex (by repeat (first | exact Mods.refl _ _ | refine Mods.alloc ?_ _ | refine Mods.ext ?_ _ | refine Mods.drew ?_ | refine Mods.drewN ?_ _))⟩

theorem mods_of {w w' x : World} {S : List Nat} (h : w' = w.mod S x) : Mods S w w' := by rw [h]; exact mod_mods _ _ _
theorem info_bool : (Tryz.prog.info? 4).map (fun i => (i.zero, i.size, i.bytes)) = some (some (.bool false), 1, 1) := by kernel_rfl
theorem mk_bools (W : World) (n : Nat) (hn : n ≤ 140737488355328) : (Instr.makeSlice 92 (.int .i64 n) (.int .i64 n)).run Tryz.prog W = .ok (.slice (some ⟨W.heap.size, 0, none⟩) n n) (W.alloc (.cells ((List.replicate n false).map Value.bool).toArray 4)) := by
  obtain ⟨i0, hi, hz0, hz1, hz2⟩ := info_parts info_bool
  have h := run_make (P := Tryz.prog) W 92 4 i0 (.bool false) Tryz.underlying92 hi hz0 .i64 .i64 n n (by omega) (Int.le_refl _) (by rw [hz2]; omega) (by omega)
  rw [h, hz1]
  have e : madeCells (Value.bool false).cells (n * 1) = ((List.replicate n false).map Value.bool).toArray := by
    apply Array.ext
    · simp [madeCells]
    · intro i h1 h2
      simp [madeCells, Value.cells, Nat.mod_one]
  rw [Int.toNat_natCast, e]
def natV (l : List Nat) : List Value := l.map fun (j : Nat) => Value.int .i64 (j : Int)
theorem boolHeap_cell {w : World} {g : Nat} {bs : List Bool} (h : w.heap[g]? = some (.cells (bs.map Value.bool).toArray 4 (0, 0))) {j : Nat} {b : Bool} (hb : bs[j]? = some b) : w.cell? ⟨g, j, none⟩ = some (.bool b) := by
  simp [World.cell?, h, hb]
theorem boolHeap_frozen {w : World} {g : Nat} {c : Array Value} {t : Nat} (h : w.heap[g]? = some (.cells c t (0, 0))) (j : Nat) : w.frozen? ⟨g, j, none⟩ = false := by simp [World.frozen?, h]
theorem heap_setCell_at {w : World} {g j t : Nat} {c : Array Value} {fr : Nat × Nat} (h : w.heap[g]? = some (.cells c t fr)) (u : Value) : (w.setCell ⟨g, j, none⟩ u).heap[g]? = some (.cells (c.setIfInBounds j u) t fr) := by
  simp [World.setCell, Array.getElem?_modify, h]
def OutRel (c : List Ins) (w1 : World) (bs : List Bool) (row : List Nat) (v : Value) (wr : World) : Prop :=
  RI c bs row ∧ Own wr 3 1 v row.length (natV row) ∧ wr.heap[w1.heap.size]? = some (.cells (bs.map Value.bool).toArray 4 (0, 0)) ∧ (∀ k, v.ownBlock = some k → w1.heap.size < k) ∧ Mods [] w1 wr ∧ nFalse bs + row.length ≤ c.length

/-- u's elements, in blocks from B on and below B2. -/
def UAt (B B2 : Nat) (A : Option Addr) (us : List Int) (w : World) : Prop := ∀ i x, us[i]? = some x → ∃ b o, A = some ⟨b, o, none⟩ ∧ B ≤ b ∧ b < B2 ∧ w.cell? ⟨b, o + i, none⟩ = some (.int .i64 x)
theorem UAt.start {B : Nat} {A : Option Addr} {n c : Nat} {us : List Int} {w : World} (h : SlF B 1 intR w (.slice A n c) us) : UAt B w.heap.size A us w := fun i x hx => by
  obtain ⟨b, o, rfl, hb, hr⟩ := h.at_ hx
  have hr' : w.cell? ⟨b, o + i, none⟩ = some (.int .i64 x) := by simpa [intR] using hr
  exact ⟨b, o, rfl, hb, cell_lt (a := ⟨b, o + i, none⟩) (by rw [hr']; rfl), hr'⟩
theorem UAt.step {B B2 : Nat} {A : Option Addr} {us : List Int} {w w' : World} {S : List Nat} (h : UAt B B2 A us w) (hw : Mods S w w') (hs : ∀ k, k ∈ S → k < B ∨ B2 ≤ k) : UAt B B2 A us w' := fun i x hx => by
  obtain ⟨b, o, rfl, h1, h2, h3⟩ := h i x hx
  exact ⟨b, o, rfl, h1, h2, (World.cell?_of_block (hw.block _ (cell_lt (by rw [h3]; rfl)) (fun hk => by have := hs _ hk; simp at this; omega))).trans h3⟩
def InRel (c : List Ins) (w1 : World) (B B2 : Nat) (A : Option Addr) (us : List Int) (pc : Nat) (bs : List Bool) (R : List Nat) (k : Nat) (v : Value) (wi : World) : Prop :=
  OutRel c w1 bs (pc :: R) v wi ∧ UAt B B2 A us wi ∧ (∀ k, v.ownBlock = some k → k < B ∨ B2 ≤ k) ∧ B2 ≤ wi.heap.size ∧ ∀ (i : Nat) (x : Int), i < k → us[i]? = some x → bs[x.toNat]? = some true
theorem Own.tail {w : World} {e g o n c : Nat} {x : Value} {xs : List Value} (h : Own w e 1 (.slice (some ⟨g, o, none⟩) (n + 1) c) (n + 1) (x :: xs)) : Own w e 1 (.slice (some ⟨g, o + 1, none⟩) n (c - 1)) n xs := by
  obtain ⟨h1, ⟨h2, _⟩ | ⟨g', o', c', cur, he, h3, h4, h5, h6, h7⟩⟩ := h
  · cases h2
  · cases he
    refine ⟨by simpa using h1, .inr ⟨g, o + 1, c - 1, cur, rfl, h3, by omega, by omega, by omega, ?_⟩⟩
    have := congrArg (List.drop 1) h7
    rw [List.drop_take] at this
    rw [← List.drop_drop]
    simpa using this
theorem Own.tail1 {w : World} {e g o n : Nat} {x : Value} {xs : List Value} (h : Own w e 1 (.slice (some ⟨g, o, none⟩) (n + 1) 1) (n + 1) (x :: xs)) : Own w e 1 (.slice (some ⟨g, o, none⟩) n 0) n xs := by
  obtain ⟨h1, ⟨h2, _⟩ | ⟨g', o', c', cur, he, h3, h4, h5, h6, h7⟩⟩ := h
  · cases h2
  · cases he
    obtain rfl : n = 0 := by omega
    have hx : xs = [] := by simpa using h1
    subst hx
    exact ⟨rfl, .inr ⟨g, o, 0, cur, rfl, h3, by omega, by simp [maxLen], by omega, by simp⟩⟩
theorem alloc_new_at {W : World} {o : Obj} {n : Nat} (h : n = W.heap.size) : (W.alloc o).heap[n]? = some o := by subst h; exact heap_alloc_new W o
theorem bools_set0 (n : Nat) : (Array.replicate n (Value.bool false)).setIfInBounds 0 (Value.bool true) = ((((List.replicate n false).set 0 true).map Value.bool).toArray) := by
  rw [List.map_set, ← List.setIfInBounds_toArray]
  simp
theorem natV_len (l : List Nat) : (natV l).length = l.length := by simp [natV]

set_option maxHeartbeats 4000000 in
set_option maxRecDepth 100000 in
theorem flowReached_calls (f : Fun) (v : Value) (w : World) (hi : Inss w v f.code) (hm : codeMay f.code = true) : Calls Tryz.prog 58 #[.agg #[.int .i64 f.args, .int .i64 f.locals, v]] w fun e w' =>
    ∃ u bs, e = .returned (.tuple #[u, .int .i64 0]) ∧ bs.length = f.code.length ∧ SlR 1 boolR w' u bs ∧ (∀ (pc : Nat) (b : Bool), bs[pc]? = some b → (b = true ↔ Reach f.code pc)) ∧ ∃ x, w' = w.ext x := by
  obtain ⟨l1, l2⟩ := codeMay_lens hm
  obtain ⟨b, o, cap, rfl, k1, k2, hat⟩ := inss_at hi l1
  have hmk := fun W => mk_bools W f.code.length (by omega)
  have h00 : (Array.replicate f.code.length (Value.bool false))[0]? = some (.bool false) := by rw [Array.getElem?_replicate, if_pos (by omega)]
  go_enter Tryz.func58, Tryz.ntmps58
  go_wp2_with (first | (go_at_call 70; refine (flowMay_calls _ _ f _ ?_).mono ?_; (exact ⟨by go_simp, by go_simp, _, by go_simp, hi.ext insR_grows (by repeat (first | exact Mods.refl _ _ | refine Mods.alloc ?_ _ | refine Mods.ext ?_ _ | refine Mods.drew ?_ | refine Mods.drewN ?_ _))⟩); rintro e w1 ⟨rfl, x, hx⟩; have hM := mods_of hx; have hb2 : w1.cell? ⟨w.heap.size, 2, none⟩ = some (.slice (some ⟨b, o, none⟩) f.code.length cap) := hM.cell (by go_simp); have hw1 : Mods [] w w1 := ((Mods.refl [] w).alloc _).trans hM; have hlt : w.heap.size < w1.heap.size := Nat.lt_of_lt_of_le (by simp) hM.size; clear hx hM))
  go_loopg [5] (2 * f.code.length + 1) (fun m v wr => ∃ bs row, Hid (2 * nFalse bs + row.length ≤ m) ∧ Hid (OutRel f.code w1 bs row v wr))
  case atStart =>
    have hnf : nFalse ((List.replicate f.code.length false).set 0 true) + 1 = f.code.length := by
      have h0 : (List.replicate f.code.length false)[0]? = some false := by rw [List.getElem?_replicate, if_pos (by omega)]
      have := nf_set h0
      rw [this]; simp [nFalse]
    refine ⟨_, [0], ?_, RI.start l1, ⟨rfl, .inr ⟨w1.heap.size + 1, 0, 1, #[.int .i64 0], rfl, ?_, by simp, by simp [maxLen], by simp, rfl⟩⟩, ?_, ?_, ?_, ?_⟩
    · unfold Hid; simp only [List.length_singleton]; omega
    · exact alloc_new_at (by simp)
    · refine (Below.heap_alloc _ _ _ (by simp)).trans ?_
      rw [alloc_new_at rfl, bools_set0]
    · intro k hk
      have : w1.heap.size + 1 = k := by simpa [Value.ownBlock] using hk
      omega
    · exact (by repeat (first | exact Mods.refl _ _ | refine Mods.alloc ?_ _ | refine Mods.ext ?_ _ | refine Mods.drew ?_ | refine Mods.drewN ?_ _))
    · simp only [List.length_singleton]; omega
  case round =>
    obtain ⟨bs, row, hmeas, hR⟩ := hrel
    obtain ⟨r1, r2, r3, r4, r5, r6⟩ := hR.out
    clear hR
    cases row with
    | nil =>
      obtain ⟨A, cp, rfl, _, _⟩ := r2.slice
      have HR := Lib.hid r1; clear r1
      have H3 := Lib.hid r3; clear r3
      have H5 := Lib.hid r5; clear r5
      have H2 := Lib.hid r2; clear r2
      have H4 := Lib.hid r4; clear r4
      have H6 := Lib.hid r6; clear r6
      go_wp2
      go_ret2
      go_light
      refine ⟨_, bs, rfl, HR.out.len, ⟨f.code.length, by rw [HR.out.len]; omega, by omega, .inr ⟨w1.heap.size, 0, by rw [HR.out.len]; rfl, fun i x hx => ?_⟩⟩, HR.out.done, (hw1.trans H5.out).ex⟩
      rw [Nat.zero_add, Nat.mul_one]
      exact boolHeap_cell H3.out hx
    | cons pc rest =>
      obtain ⟨g, og, cp, rfl, q1, q2, q3, q4⟩ := r2.form (by simp)
      have hpc : bs[pc]? = some true := r1.rows pc (by simp)
      have hpl : pc < f.code.length := by rw [← r1.len]; exact (List.getElem?_eq_some_iff.1 hpc).1
      have hc0 : wr.cell? ⟨g, og, none⟩ = some (.int .i64 pc) := q3 0 _ rfl
      have hb2' := r5.cell hb2
      obtain ⟨c1, c2⟩ := hat pc hpl
      have c1' := (hw1.trans r5).cell c1
      have c2' := (hw1.trans r5).cell c2
      have HR := Lib.hid r1; clear r1
      have H3 := Lib.hid r3; clear r3
      have H5 := Lib.hid r5; clear r5
      have H2 := Lib.hid r2; clear r2
      have H4 := Lib.hid r4; clear r4
      have H6 := Lib.hid r6; clear r6
      have HQ := Lib.hid q4; clear q4 q3
      have Hpc := Lib.hid hpc; clear hpc
      go_wp2_with (go_at_call 71; refine (next_calls _ _ f.code.length pc f.code[pc].kind f.code[pc].a _ ?_).mono ?_; (exact ⟨b, o, cap, by go_simp, hpl, l2, k1, k2, by go_simp, by go_simp⟩); rintro e w2 ⟨u, rfl, hu, x2, hx2⟩; obtain ⟨Au, cu, rfl, hu1, hu2⟩ := hu.form; have HU := Lib.hid hu; clear hu; have HX := Lib.hid hx2; clear hx2)
      have hw2 : Mods [] wr w2 := mods_of HX.out
      clear HX
      have HU2 : Hid (UAt wr.heap.size w2.heap.size Au (nextI f.code[pc] pc f.code.length) w2) := UAt.start HU.out
      clear HU
      have hnx : ∀ (i : Nat) (x : Int), (nextI f.code[pc] pc f.code.length)[i]? = some x → 0 ≤ x ∧ x < f.code.length := fun i x hx => codeMay_next hm (get_some hpl) (List.mem_of_getElem? hx)
      have hmem : ∀ (i : Nat) (x : Int), (nextI f.code[pc] pc f.code.length)[i]? = some x → x ∈ nextI f.code[pc] pc f.code.length := fun i x hx => List.mem_of_getElem? hx
      have hmk2 : ∀ (to : Nat) (bs : List Bool) (R : List Nat), (to : Int) ∈ nextI f.code[pc] pc f.code.length → to < f.code.length → RI f.code bs (pc :: R) → RI f.code (bs.set to true) (pc :: R ++ [to]) := fun to bs R h1 h2 h3 => h3.mark (get_some hpl) h1 h2
      have hpop : ∀ (bs : List Bool) (R : List Nat), RI f.code bs (pc :: R) → (∀ (i : Nat) (x : Int), i < (nextI f.code[pc] pc f.code.length).length → (nextI f.code[pc] pc f.code.length)[i]? = some x → bs[x.toNat]? = some true) → RI f.code bs R := fun bs R h1 h2 => h1.pop fun i to hi ht => by
        have e : i = f.code[pc] := by rw [get_some hpl] at hi; exact (Option.some.inj hi).symm
        subst e
        obtain ⟨n, hn, hx⟩ := List.getElem_of_mem ht
        have := h2 n _ hn (get_some hn)
        rw [hx] at this
        simpa using this
      have HN := Lib.hid hnx
      have HM := Lib.hid hmem
      have HK := Lib.hid hmk2
      have HP := Lib.hid hpop
      clear hnx hmem hmk2 hpop
      change Code.wp _ _ _ { tmps := _, defers := _ } _
      rw [show nextF f.code[pc].kind f.code[pc].a pc f.code.length = nextI f.code[pc] pc f.code.length from rfl] at *
      generalize nextI f.code[pc] pc f.code.length = us at *
      obtain ⟨wo, rfl⟩ : ∃ wo : World, wo = wr := ⟨_, rfl⟩
      go_loopg [5, 27] us.length (fun m v i wi => ∃ k bs R, i = .int .i64 (k : Nat) ∧ k ≤ us.length ∧ Hid (us.length - k ≤ m) ∧ Hid (2 * nFalse bs + (R.length + 1) ≤ gk) ∧ Hid (InRel f.code w1 wo.heap.size w2.heap.size Au us pc bs R k v wi))
      case atStart =>
        refine ⟨0, bs, rest, rfl, by omega, by simp [Hid], by simpa [Hid] using hmeas.out, ⟨HR.out, ?_, ?_, H4.out, H5.out.trans hw2, H6.out⟩, HU2.out, ?_, by omega, fun i x h => by omega⟩
        · exact H2.out.mods hw2 (by simp)
        · exact (hw2.block _ (Array.getElem?_eq_some_iff.1 H3.out).1 (by simp)).trans H3.out
        · exact fun k hk => .inl (H2.out.lt hk)
      case round =>
        obtain ⟨k, bs, R, rfl, hk, hm1, hm2, hI⟩ := hrel
        obtain ⟨⟨r1, r2, r3, r4, r5, r6⟩, iu, ib, is, id⟩ := hI.out
        clear hI
        by_cases hlt : k < us.length
        · obtain ⟨j, hj⟩ : ∃ j : Nat, us[k] = (j : Int) := ⟨us[k].toNat, by have := (HN.out k _ (get_some hlt)).1; omega⟩
          have hjl : j < f.code.length := by have := (HN.out k _ (get_some hlt)).2; omega
          obtain ⟨bu, ou, hA, _, _, hcu⟩ := iu k _ (get_some hlt)
          rw [hj] at hcu
          have HJ := Lib.hid hj; clear hj
          have HIU := Lib.hid iu; clear iu
          subst hA
          have hbs : ∃ bv, bs[j]? = some bv := ⟨bs[j]'(by rw [r1.len]; exact hjl), get_some _⟩
          obtain ⟨bv, hbv⟩ := hbs
          have hout := boolHeap_cell r3 hbv
          have hfz := boolHeap_frozen r3 j
          obtain ⟨Av, cv, rfl, _, _⟩ := r2.slice
          have HR1 := Lib.hid r1; clear r1
          have HR2 := Lib.hid r2; clear r2
          have HR3 := Lib.hid r3; clear r3
          have HR4 := Lib.hid r4; clear r4
          have HR5 := Lib.hid r5; clear r5
          have HR6 := Lib.hid r6
          have hn17 : R.length + 1 + 1 ≤ 17592186044416 := by simp at r6; omega
          clear r6
          have HID := Lib.hid id; clear id
          have HIB := Lib.hid ib; clear ib
          have HBV := Lib.hid hbv; clear hbv
          cases bv with
          | true =>
            go_wp2
            go_roundg (us.length - (k + 1))
            case measure => have := hm1.out; omega
            case rel =>
              go_light
              refine ⟨k + 1, bs, R, by go_num, by omega, by simp [Hid], hm2, ⟨HR1.out, HR2.out, HR3.out, HR4.out, HR5.out, HR6.out⟩, HIU.out, HIB.out, is, fun i x hi hx => ?_⟩
              rcases Nat.lt_or_ge i k with h | h
              · exact HID.out i x h hx
              · obtain rfl : i = k := by omega
                rw [get_some hlt] at hx
                obtain rfl := Option.some.inj hx
                rw [HJ.out]; exact HBV.out
          | false =>
            go_wp2_with (at_builtin; refine wpList_append_int _ rfl _ _ rfl _ (R.length + 1) (natV (pc :: R)) rfl ?_ _ _ (j : Int) rfl ?_ ?_ ?_; (exact HR2.out.mods (((Mods.refl [w1.heap.size] wr).setCell (by simp) _).alloc _) (fun k hk => by have := HR4.out k hk; simp; omega)); (go_simp); (exact hn17); (intro v' w3 hown3 hg3 hat3; have HO3 := Lib.hid hown3; have HG3 := Lib.hid hg3; have HA3 := Lib.hid hat3; clear hown3 hg3 hat3))
            go_roundg (us.length - (k + 1))
            case measure => have := hm1.out; omega
            case rel =>
              go_light
              have hgo : w1.heap.size < wr.heap.size := (Array.getElem?_eq_some_iff.1 HR3.out).1
              have hnf := nf_set HBV.out
              have hx := HM.out k _ (get_some hlt)
              rw [HJ.out] at hx
              have hMm : Mods [w1.heap.size] wr ((wr.setCell ⟨w1.heap.size, j, none⟩ (.bool true)).alloc (.cells #[.int .i64 j] 3)) := ((Mods.refl [w1.heap.size] wr).setCell (by simp) _).alloc _
              have hsz : ((wr.setCell ⟨w1.heap.size, j, none⟩ (.bool true)).alloc (.cells #[.int .i64 (j : Int)] 3)).heap.size = wr.heap.size + 1 := by simp [World.setCell]
              have hne : ∀ k, (Value.slice Av (R.length + 1) cv).ownBlock = some k → w1.heap.size < k := HR4.out
              have hnew : ∀ k, v'.ownBlock = some k → (Value.slice Av (R.length + 1) cv).ownBlock = some k ∨ k = wr.heap.size + 1 := fun k hk => by
                rcases HA3.out with h | h
                · exact .inl (h ▸ hk)
                · rw [hk] at h
                  have h' := Option.some.inj h
                  exact .inr (h'.trans hsz)
              have hsz3 := HG3.out.size
              rw [hsz] at hsz3
              refine ⟨k + 1, bs.set j true, R ++ [j], by go_num, by omega, by simp [Hid], ?_, ⟨HK.out j bs R hx hjl HR1.out, ?_, ?_, ?_, ?_, ?_⟩, ?_, ?_, by omega, fun i x hi hx' => ?_⟩
              · have := hm2.out; unfold Hid; simp; omega
              · have := HO3.out; simpa [natV] using this
              · refine (HG3.out.block _ (by rw [hsz]; omega) (fun h => ?_)).trans ?_
                · have := hne _ h.symm; omega
                · refine (Below.heap_alloc _ _ _ (by simp [World.setCell]; omega)).trans ?_
                  rw [heap_setCell_at HR3.out]
                  congr 2
                  simp
              · intro k hk
                rcases hnew k hk with h | h
                · exact hne k h
                · omega
              · exact (((HR5.out.setCell (by simp) _).alloc _).grown HG3.out (fun k hk hlt => by have := hne k hk; omega))
              · have := HR6.out; simp at this ⊢; omega
              · refine (HIU.out.step hMm (fun k hk => ?_)).step (w' := w3) (S := ((Value.slice Av (R.length + 1) cv).ownBlock).toList) ((Mods.refl _ _).grown HG3.out (fun k hk _ => by have hk' : (Value.slice Av (R.length + 1) cv).ownBlock = some k := hk; simp [hk'])) (fun k hk => HIB.out k (by simpa using hk))
                obtain rfl := List.mem_singleton.1 hk
                left; exact Nat.lt_of_lt_of_le (by have := H3.out; exact (Array.getElem?_eq_some_iff.1 this).1) (Nat.le_refl _)
              · intro k hk
                rcases hnew k hk with h | h
                · exact HIB.out k h
                · right; omega
              · rw [List.getElem?_set]
                rcases Nat.lt_or_ge i k with h | h
                · have hb := HID.out i x h hx'
                  split
                  · rename_i e
                    have := (List.getElem?_eq_some_iff.1 hb).1
                    simp; omega
                  · exact hb
                · obtain rfl : i = k := by omega
                  rw [get_some hlt] at hx'
                  obtain rfl := Option.some.inj hx'
                  rw [HJ.out]
                  have : j < bs.length := (List.getElem?_eq_some_iff.1 HBV.out).1
                  simp [this]
        · have hke : k = us.length := by omega
          obtain ⟨gv, ov, cv, rfl, v1, v2, v3, v4⟩ := r2.form (by simp)
          have HR1 := Lib.hid r1; clear r1
          have HR2 := Lib.hid r2; clear r2
          have HR3 := Lib.hid r3; clear r3
          have HR4 := Lib.hid r4; clear r4
          have HR5 := Lib.hid r5; clear r5
          have HR6 := Lib.hid r6; clear r6
          have HID := Lib.hid id; clear id
          have HIB := Lib.hid ib; clear ib
          have HIU := Lib.hid iu; clear iu
          clear v3 v4
          by_cases hcv : cv = 1
          · subst hcv
            go_wp2
            go_roundg (2 * nFalse bs + R.length)
            case measure => have := hm2.out; omega
            case rel =>
              go_light
              exact ⟨bs, R, by unfold Hid; omega, HP.out bs R HR1.out (fun i x hi hx => HID.out i x (by omega) hx), HR2.out.tail1, HR3.out, HR4.out, HR5.out, by have := HR6.out; simp at this; omega⟩
          · go_wp2
            go_roundg (2 * nFalse bs + R.length)
            case measure => have := hm2.out; omega
            case rel =>
              go_light
              exact ⟨bs, R, by unfold Hid; omega, HP.out bs R HR1.out (fun i x hi hx => HID.out i x (by omega) hx), HR2.out.tail, HR3.out, HR4.out, HR5.out, by have := HR6.out; simp at this; omega⟩
end Go.Proofs.YtjpgcokdlopkaaaGreatDoor


namespace Go.Proofs.YtjpgcokdlopkaaaGreatDoor
open Go.RowKit

/-- A pointer's program. -/
def ProgAt (w : World) (p1 p2 : Nat) (p : List Fun) : Prop := ∃ v, w.cell? ⟨p1, p2, none⟩ = some v ∧ Funs w v p
theorem ProgAt.ext {w w' : World} {p1 p2 : Nat} {p : List Fun} (h : ProgAt w p1 p2 p) (hw : Mods [] w w') : ProgAt w' p1 p2 p := by
  obtain ⟨v, h1, h2⟩ := h
  exact ⟨v, hw.cell h1, h2.ext funR_grows hw⟩
theorem SlR.form {α : Type} {sz : Nat} {R : World → Nat → Nat → α → Prop} {w : World} {v : Value} {xs : List α} (h : SlR sz R w v xs) : ∃ A c, v = .slice A xs.length c ∧ xs.length ≤ c ∧ c ≤ 9223372036854775807 := by
  obtain ⟨c, h1, h2, ⟨rfl, A, rfl⟩ | ⟨b, o, rfl, h3⟩⟩ := h
  · exact ⟨A, c, rfl, h1, h2⟩
  · exact ⟨_, c, rfl, h1, h2⟩
theorem SlR.at_ {α : Type} {sz : Nat} {R : World → Nat → Nat → α → Prop} {w : World} {A : Option Addr} {n c : Nat} {xs : List α} (h : SlR sz R w (.slice A n c) xs) {i : Nat} {x : α} (hx : xs[i]? = some x) : ∃ b o, A = some ⟨b, o, none⟩ ∧ R w b (o + i * sz) x := by
  obtain ⟨c, h1, h2, ⟨rfl, A, _⟩ | ⟨b, o, he, h3⟩⟩ := h
  · simp at hx
  · cases he
    exact ⟨b, o, rfl, h3 i x hx⟩
/-- An error of package verify: a fault that wraps a number that is not 0. -/
def FaultAt (w : World) (ev : Value) : Prop := ∃ g pc c, ev = .iface 120 (.pointer (some ⟨g, 0, none⟩)) ∧ w.cell? ⟨g, 0, none⟩ = some (.int .i64 pc) ∧ w.cell? ⟨g, 1, none⟩ = some (.iface 30 (.int .i64 c)) ∧ c ≠ 0

set_option maxHeartbeats 1000000 in
theorem outside_calls (p1 p2 f1 f2 : Nat) (p : List Fun) (f : Fun) (i : Ins) (w : World) (hp : ProgAt w p1 p2 p) (hf : funR w f1 f2 f) : Calls Tryz.prog 72 #[.pointer (some ⟨p1, p2, none⟩), .pointer (some ⟨f1, f2, none⟩), .agg #[.int .i64 i.kind, .int .i64 i.a]] w fun e w' =>
    e = .returned (.bool (outsideB p f i)) ∧ ∃ x, w' = w.ext x := by
  obtain ⟨v, hv, hfs⟩ := hp
  obtain ⟨A, c, rfl, k1, k2⟩ := hfs.form
  obtain ⟨e1, e2, u, e3, hc⟩ := hf
  obtain ⟨B, d, rfl, k3, k4⟩ := hc.form
  clear hfs hc e1
  go_enter Tryz.func72, Tryz.ntmps72
  go_wp2
  all_goals try ((refine wp_region_ext (by kernel_rfl) (by kernel_rfl) ?_; (repeat (go_big_quiet_step (fail))); refine wpQuiet_nil ?_; rintro _ ⟨xq, rfl⟩); go_wp2)
  all_goals (go_ret; go_light; refine ⟨ret_bool ?_, Mods.ex (by repeat (first | exact Mods.refl _ _ | refine Mods.alloc ?_ _ | refine Mods.ext ?_ _ | refine Mods.drew ?_ | refine Mods.drewN ?_ _))⟩; simp only [beq_iff_eq, beq_eq_false_iff_ne, ne_eq] at *; unfold outsideB; repeat (first | rw [if_pos (by omega)] | rw [if_neg (by omega)]))

set_option maxHeartbeats 1000000 in
theorem args_calls (p1 p2 : Nat) (p : List Fun) (i : Ins) (w : World) (hp : ProgAt w p1 p2 p) (hi : i.kind = 14 → 0 ≤ i.a ∧ i.a < p.length) : Calls Tryz.prog 75 #[.pointer (some ⟨p1, p2, none⟩), .agg #[.int .i64 i.kind, .int .i64 i.a]] w fun e w' =>
    e = .returned (.int .i64 (callArgs p i)) ∧ ∃ x, w' = w.ext x := by
  obtain ⟨v, hv, hfs⟩ := hp
  obtain ⟨A, c, rfl, k1, k2⟩ := hfs.form
  by_cases h : i.kind = 14
  · obtain ⟨h0, h1⟩ := hi h
    obtain ⟨n, hn⟩ : ∃ n : Nat, i.a = n := ⟨i.a.toNat, by omega⟩
    have hl : n < p.length := by omega
    obtain ⟨b, o, rfl, c1, c2, u, c3, c4⟩ := hfs.at_ (get_some hl)
    have HR : Hid (callArgs p i = p[n].args) := by unfold Hid callArgs; rw [if_pos h, hn]; simp [hl]
    have hk : (i.kind == 14) = true := by simp [h]
    rw [hn]
    clear hfs hi h0 h1 hn c4
    go_enter Tryz.func75, Tryz.ntmps75
    go_wp2
    refine wp_region_ext (by kernel_rfl) (by kernel_rfl) ?_
    repeat (go_big_quiet_step (fail))
    refine wpQuiet_nil ?_
    rintro _ ⟨xq, rfl⟩
    go_wp2
    go_ret
    exact ⟨ret_int HR.out.symm, Mods.ex (by repeat (first | exact Mods.refl _ _ | refine Mods.alloc ?_ _ | refine Mods.ext ?_ _ | refine Mods.drew ?_ | refine Mods.drewN ?_ _))⟩
  · have hk : (i.kind == 14) = false := by simp [h]
    go_enter Tryz.func75, Tryz.ntmps75
    go_wp2
    go_ret
    exact ⟨ret_int (by unfold callArgs; rw [if_neg h]), Mods.ex (by repeat (first | exact Mods.refl _ _ | refine Mods.alloc ?_ _ | refine Mods.ext ?_ _ | refine Mods.drew ?_ | refine Mods.drewN ?_ _))⟩

/-- nothing is wrong ahead of k -/
def PlainTo (p : List Fun) (f : Fun) (bs : List Bool) (k : Nat) : Prop := ∀ (j : Nat) (i : Ins), j < k → bs[j]? = some true → f.code[j]? = some i → outsideB p f i = false
theorem fault_new {W : World} {pc c : Int} (hc : c ≠ 0) : FaultAt (W.alloc (.cells #[.int .i64 pc, .iface 30 (.int .i64 c)] 122)) (.iface 120 (.pointer (some ⟨W.heap.size, 0, none⟩))) := ⟨W.heap.size, pc, c, rfl, by simp, by simp, hc⟩

set_option maxHeartbeats 2000000 in
set_option maxRecDepth 100000 in
theorem plain_calls (p1 p2 f1 f2 : Nat) (p : List Fun) (f : Fun) (u : Value) (bs : List Bool) (w : World) (hp : ProgAt w p1 p2 p) (hf : funR w f1 f2 f) (hu : SlR 1 boolR w u bs) (hbl : bs.length = f.code.length) (hl1 : 1 ≤ f.code.length)
    (hbs : ∀ (pc : Nat) (b : Bool), bs[pc]? = some b → (b = true ↔ Reach f.code pc)) : Calls Tryz.prog 59 #[.pointer (some ⟨p1, p2, none⟩), .pointer (some ⟨f1, f2, none⟩), u] w fun e w' =>
    ∃ ev, e = .returned ev ∧ ((Plain p f ∧ ev = .nilIface) ∨ (¬ Plain p f ∧ FaultAt w' ev)) ∧ ∃ x, w' = w.ext x := by
  have hf2 := hf
  obtain ⟨e1, e2, cv, e3, hc⟩ := hf2
  obtain ⟨b, o, cap, rfl, k1, k2, hat⟩ := inss_at hc hl1
  obtain ⟨A, cu, rfl, k3, k4⟩ := hu.form
  obtain ⟨bu, ou, rfl, -⟩ := hu.at_ (get_some (show 0 < bs.length by omega))
  have hL : f.code.length ≤ 9223372036854775807 := by omega
  have HP := Lib.hid hp
  have HF := Lib.hid hf
  have HB := Lib.hid hbs
  have HC := Lib.hid hc
  have hbl' := Lib.hid hbl
  have hcell : ∀ (j : Nat) (bv : Bool), bs[j]? = some bv → w.cell? ⟨bu, ou + j, none⟩ = some (.bool bv) := fun j bv hj => by
    obtain ⟨b', o', he, hr⟩ := hu.at_ hj
    cases he
    simpa [boolR] using hr
  have HCell := Lib.hid hcell
  have hkb : bs.length ≤ f.code.length ∧ f.code.length ≤ bs.length := by omega
  obtain ⟨hkb1, hkb2⟩ := hkb
  clear hp hf hbs hc hu hcell hbl e1 e2
  go_enter Tryz.func59, Tryz.ntmps59
  go_wp2
  go_loopw [16] (fun i wr => ∃ k : Nat, k ≤ f.code.length ∧ i = .int .i64 k ∧ Hid (PlainTo p f bs k) ∧ ∃ x, wr = w.ext x) (fun i _ => f.code.length - (intOf i).toNat)
  case atStart => exact ⟨0, Nat.zero_le _, rfl, fun j i h => by omega, Mods.ex (by repeat (first | exact Mods.refl _ _ | refine Mods.alloc ?_ _ | refine Mods.ext ?_ _ | refine Mods.drew ?_ | refine Mods.drewN ?_ _))⟩
  case round =>
    obtain ⟨k, hk, rfl, hpt, x, rfl⟩ := hrel
    by_cases hlt : k < f.code.length
    · obtain ⟨c1, c2⟩ := hat k hlt
      have hbk := get_some (show k < bs.length by omega)
      have cb := HCell.out k _ hbk
      have HBK := Lib.hid hbk; clear hbk
      cases hb : bs[k]
      · rw [hb] at cb
        go_wp2
        go_roundw
        case rel =>
          go_light
          refine ⟨k + 1, by omega, by go_num, fun j i hj h1 h2 => ?_, Mods.ex (by repeat (first | exact Mods.refl _ _ | refine Mods.alloc ?_ _ | refine Mods.ext ?_ _ | refine Mods.drew ?_ | refine Mods.drewN ?_ _))⟩
          rcases Nat.lt_or_ge j k with h | h
          · exact hpt.out j i h h1 h2
          · obtain rfl : j = k := by omega
            rw [HBK.out, hb] at h1; cases h1
        case measure => simp [intOf]; omega
      · rw [hb] at cb
        cases ho : outsideB p f f.code[k]
        · go_wp2_with (go_at_call 72; refine (outside_calls _ _ _ _ p f f.code[k] _ (HP.out.ext (by repeat (first | exact Mods.refl _ _ | refine Mods.alloc ?_ _ | refine Mods.ext ?_ _ | refine Mods.drew ?_ | refine Mods.drewN ?_ _))) (funR_grows.ext (by repeat (first | exact Mods.refl _ _ | refine Mods.alloc ?_ _ | refine Mods.ext ?_ _ | refine Mods.drew ?_ | refine Mods.drewN ?_ _)) HF.out)).mono ?_; rintro e w' ⟨rfl, x2, rfl⟩)
          go_roundw
          case rel =>
            go_light
            refine ⟨k + 1, by omega, by go_num, fun j i hj h1 h2 => ?_, Mods.ex (by repeat (first | exact Mods.refl _ _ | refine Mods.alloc ?_ _ | refine Mods.ext ?_ _ | refine Mods.drew ?_ | refine Mods.drewN ?_ _))⟩
            rcases Nat.lt_or_ge j k with h | h
            · exact hpt.out j i h h1 h2
            · obtain rfl : j = k := by omega
              rw [get_some hlt] at h2
              obtain rfl := Option.some.inj h2
              exact ho
          case measure => simp [intOf]; omega
        · go_wp2_with (go_at_call 72; refine (outside_calls _ _ _ _ p f f.code[k] _ (HP.out.ext (by repeat (first | exact Mods.refl _ _ | refine Mods.alloc ?_ _ | refine Mods.ext ?_ _ | refine Mods.drew ?_ | refine Mods.drewN ?_ _))) (funR_grows.ext (by repeat (first | exact Mods.refl _ _ | refine Mods.alloc ?_ _ | refine Mods.ext ?_ _ | refine Mods.drew ?_ | refine Mods.drewN ?_ _)) HF.out)).mono ?_; rintro e w' ⟨rfl, x2, rfl⟩)
          go_ret
          go_light
          refine ⟨_, rfl, .inr ⟨fun hpl => ?_, fault_new (by omega)⟩, Mods.ex (by repeat (first | exact Mods.refl _ _ | refine Mods.alloc ?_ _ | refine Mods.ext ?_ _ | refine Mods.drew ?_ | refine Mods.drewN ?_ _))⟩
          rw [hpl.range k _ ((HB.out k _ HBK.out).1 hb) (get_some hlt)] at ho
          cases ho
    · obtain rfl : k = f.code.length := by omega
      obtain ⟨c1, c2⟩ := hat (f.code.length - 1) (by omega)
      have hbk := get_some (show f.code.length - 1 < bs.length by omega)
      have cb := HCell.out (f.code.length - 1) _ hbk
      have HBK := Lib.hid hbk; clear hbk
      have hcond : Plain p f ↔ (bs[f.code.length - 1] = true → f.code[f.code.length - 1].kind = 12 ∨ f.code[f.code.length - 1].kind = 16) := by
        have hgl := get_some (show f.code.length - 1 < f.code.length by omega)
        constructor
        · intro hpl hb
          exact hpl.last _ ((HB.out _ _ HBK.out).1 hb) hgl
        · intro h
          refine ⟨fun pc i hr hi => ?_, fun i hr hi => ?_⟩
          · have hlt := (List.getElem?_eq_some_iff.1 hi).1
            have hb := get_some (show pc < bs.length by omega)
            refine hpt.out pc i hlt ?_ hi
            rw [hb, (HB.out _ _ hb).2 hr]
          · rw [hgl] at hi
            obtain rfl := Option.some.inj hi
            exact h ((HB.out _ _ HBK.out).2 hr)
      have HCO := Lib.hid hcond; clear hcond
      have hlm : ((f.code.length - 1 : Nat) : Int) = (f.code.length : Int) - 1 := by omega
      cases hb : bs[f.code.length - 1]
      · rw [hb] at cb
        go_wp2
        go_ret
        go_light
        exact ⟨_, rfl, .inl ⟨HCO.out.2 (fun h => by rw [hb] at h; cases h), rfl⟩, Mods.ex (by repeat (first | exact Mods.refl _ _ | refine Mods.alloc ?_ _ | refine Mods.ext ?_ _ | refine Mods.drew ?_ | refine Mods.drewN ?_ _))⟩
      · rw [hb] at cb
        by_cases h12 : f.code[f.code.length - 1].kind = 12
        · have b12 : (f.code[f.code.length - 1].kind == 12) = true := by simp [h12]
          have b12' : (f.code[f.code.length - 1].kind != 12) = false := by simp [h12]
          clear h12
          go_wp2
          go_ret
          go_light
          exact ⟨_, rfl, .inl ⟨HCO.out.2 (fun _ => .inl (by simpa using b12)), rfl⟩, Mods.ex (by repeat (first | exact Mods.refl _ _ | refine Mods.alloc ?_ _ | refine Mods.ext ?_ _ | refine Mods.drew ?_ | refine Mods.drewN ?_ _))⟩
        · have b12 : (f.code[f.code.length - 1].kind == 12) = false := by simp [h12]
          have b12' : (f.code[f.code.length - 1].kind != 12) = true := by simp [h12]
          by_cases h16 : f.code[f.code.length - 1].kind = 16
          · have b16 : (f.code[f.code.length - 1].kind == 16) = true := by simp [h16]
            have b16' : (f.code[f.code.length - 1].kind != 16) = false := by simp [h16]
            clear h12 h16
            go_wp2
            go_ret
            go_light
            exact ⟨_, rfl, .inl ⟨HCO.out.2 (fun _ => .inr (by simpa using b16)), rfl⟩, Mods.ex (by repeat (first | exact Mods.refl _ _ | refine Mods.alloc ?_ _ | refine Mods.ext ?_ _ | refine Mods.drew ?_ | refine Mods.drewN ?_ _))⟩
          · have b16 : (f.code[f.code.length - 1].kind == 16) = false := by simp [h16]
            have b16' : (f.code[f.code.length - 1].kind != 16) = true := by simp [h16]
            clear h12 h16
            go_wp2
            go_ret
            go_light
            refine ⟨_, rfl, .inr ⟨fun hpl => ?_, fault_new (by omega)⟩, Mods.ex (by repeat (first | exact Mods.refl _ _ | refine Mods.alloc ?_ _ | refine Mods.ext ?_ _ | refine Mods.drew ?_ | refine Mods.drewN ?_ _))⟩
            rcases HCO.out.1 hpl hb with h | h
            · simp [h] at b12
            · simp [h] at b16
end Go.Proofs.YtjpgcokdlopkaaaGreatDoor
