/- Lemmas for a claim of the seat YtjpgcokdlopkaaaGreatDoor. Written in part by programs of the claim's repo. By an AI agent. -/
import Derived.Test.YtjpgcokdlopkaaaGreatDoorG17
import Derived.Test.YtjpgcokdlopkaaaGreatDoorG11
import Derived.Laws.MakeOwn
import Derived.Test.YtjpgcokdlopkaaaGreatDoorG01
import Derived.Test.YtjpgcokdlopkaaaGreatDoorG16

/-! prof.New: the region that makes three rows; what a round of its loop keeps. -/
namespace Go.Proofs.YtjpgcokdlopkaaaGreatDoor
open Go.RowKit

def makesB (md : Region.Mode) (ops : Array Oper) (n i j k : Nat) (listed : Array Bool) : Bool :=
  (decide (Region.ready md ops listed = [i, j, k]) && decide (Region.ready md ops (listed.setIfInBounds i true) = [j, k]) && decide (Region.ready md ops (listed.setIfInBounds j true) = [i, k]) && decide (Region.ready md ops (listed.setIfInBounds k true) = [i, j]) &&
      decide (Region.ready md ops ((listed.setIfInBounds i true).setIfInBounds j true) = [k]) && decide (Region.ready md ops ((listed.setIfInBounds i true).setIfInBounds k true) = [j]) && decide (Region.ready md ops ((listed.setIfInBounds j true).setIfInBounds k true) = [i])) &&
    (decide (Region.ready md ops (((listed.setIfInBounds i true).setIfInBounds j true).setIfInBounds k true) = [n]) && decide (Region.ready md ops ((((listed.setIfInBounds i true).setIfInBounds j true).setIfInBounds k true).setIfInBounds n true) = [n + 1])) &&
    Region.seqB md ops (ops.size - (n + 2)) (n + 2) (((((listed.setIfInBounds i true).setIfInBounds j true).setIfInBounds k true).setIfInBounds n true).setIfInBounds (n + 1) true)
/-- the two operations that build the new element, behind the makes -/
def builtQ (P : Program) (ops : Array Oper) (Q : Exit → Act → World → Prop) (o1 o2 : Oper) (tl : List Oper) (a : Act) (w : World) : Prop :=
  ∃ (v u : Value) (c : Array Value) (e : Nat), (execOp a.eval o1).run P w = .ok (.value v) w ∧ (execOp (a.put o1.dst v).eval o2).run P w = .ok (.value u) (w.alloc (.cells c e)) ∧ wpList P ops Q tl ((a.put o1.dst v).put o2.dst u) (w.alloc (.cells c e))
def madeQ (P : Program) (ops : Array Oper) (Q : Exit → Act → World → Prop) (o1 o2 : Oper) (tl : List Oper) (t1 s1 d1 t2 s2 d2 t3 s3 d3 : Nat) (w : World) (a : Act) : Prop :=
  ∃ (n1 n2 n3 e1 e2 e3 : Nat) (c1 c2 c3 : Array Value), (∀ W, (Instr.makeSlice t1 (a.eval (.tmp s1)) (a.eval (.tmp s1))).run P W = .ok (.slice (some ⟨W.heap.size, 0, none⟩) n1 n1) (W.alloc (.cells c1 e1))) ∧
    (∀ W, (Instr.makeSlice t2 (a.eval (.tmp s2)) (a.eval (.tmp s2))).run P W = .ok (.slice (some ⟨W.heap.size, 0, none⟩) n2 n2) (W.alloc (.cells c2 e2))) ∧
    (∀ W, (Instr.makeSlice t3 (a.eval (.tmp s3)) (a.eval (.tmp s3))).run P W = .ok (.slice (some ⟨W.heap.size, 0, none⟩) n3 n3) (W.alloc (.cells c3 e3))) ∧
    ∀ b1 b2 b3 w', New3 w w' b1 b2 b3 c1 c2 c3 e1 e2 e3 → builtQ P ops Q o1 o2 tl (((a.put (some d1) (.slice (some ⟨b1, 0, none⟩) n1 n1)).put (some d2) (.slice (some ⟨b2, 0, none⟩) n2 n2)).put (some d3) (.slice (some ⟨b3, 0, none⟩) n3 n3)) w'
def pick (l : List Oper) : List Nat → List Oper
  | [] => []
  | i :: is => match l[i]? with | some o => o :: pick l is | none => pick l is
theorem wpAnyK_add {P : Program} {md : Region.Mode} {ops : Array Oper} {Q : Exit → Act → World → Prop} {S : World → Prop} {n g : Nat} {L : Array Bool → Act → World → Prop} : ∀ (f : Nat) (listed : Array Bool) (a : Act) (w : World), wpAnyK P md ops Q S n (wpAnyK P md ops Q S n L g) f listed a w → wpAnyK P md ops Q S n L (f + g) listed a w
  | 0, listed, a, w, h => by rw [Nat.zero_add]; exact h
  | f + 1, listed, a, w, h => by
    rw [show f + 1 + g = (f + g) + 1 by omega]
    exact ⟨h.1, fun i hi => ⟨(h.2 i hi).1, wpOp_mono (fun a' w' h' => ⟨h'.1, wpAnyK_add f _ a' w' h'.2⟩) (h.2 i hi).2⟩⟩
theorem wpAnyK_value {P : Program} {md : Region.Mode} {ops : Array Oper} {Q : Exit → Act → World → Prop} {S : World → Prop} {n f i : Nat} {L : Array Bool → Act → World → Prop} {listed : Array Bool} {a : Act} {w w' : World} {o : Oper} {v : Value} (hr : Region.ready md ops listed = [i]) (hin : i < n) (ho : ops[i]? = some o) (hg : o.guard.isNone = true)
    (hx : (execOp a.eval o).run P w = .ok (.value v) w') (hS : S w') (h : wpAnyK P md ops Q S n L f (listed.setIfInBounds i true) (a.put o.dst v) w') : wpAnyK P md ops Q S n L (f + 1) listed a w := by
  refine ⟨by rw [hr]; simp, fun j hj => ?_⟩
  rw [hr] at hj
  obtain rfl : j = i := by simpa using hj
  have hgn : o.guard = none := by simpa using hg
  refine ⟨hin, ?_⟩
  unfold wpOp
  simp only [ho]
  rw [if_pos (by simp [Region.wanted, hgn])]
  refine .inl ?_
  unfold Oper.wp
  rw [hx]
  exact ⟨hS, h⟩
theorem wp_region_makes {P : Program} {id : Nat} {Q : Exit → Act → World → Prop} {a : Act} {w : World} {l : List Oper} (is : List Nat) (i j k t1 s1 d1 t2 s2 d2 t3 s3 d3 : Nat) {o1 o2 : Oper} (hm : P.follows .mixedOrders = true) (hs : Region.noSelect l.toArray = true)
    (hsk : sinkM .any l.toArray 0 (is.length + 5) = true) (hc : Region.chainB .any l.toArray (is.length + 5) = true) (hn : is.length + 5 < l.length)
    (hB : takesB .any l.toArray (is.length + 5) (makesB .any l.toArray (is.length + 3) i j k) is (Array.replicate l.toArray.size false) = true) (hp : is.map (fun i => l.toArray[i]?) = (pick l is).map some)
    (hlt : i < is.length + 5 ∧ j < is.length + 5 ∧ k < is.length + 5) (hij : i ≠ j) (hik : i ≠ k) (hjk : j ≠ k) (m1 : MakeAt l.toArray i t1 s1 d1) (m2 : MakeAt l.toArray j t2 s2 d2) (m3 : MakeAt l.toArray k t3 s3 d3) (hd : d1 ≠ d2 ∧ d1 ≠ d3 ∧ d2 ≠ d3) (hds : d1 ≠ s2 ∧ d1 ≠ s3 ∧ d2 ≠ s1 ∧ d2 ≠ s3 ∧ d3 ≠ s1 ∧ d3 ≠ s2)
    (h1 : l.toArray[is.length + 3]? = some o1) (h2 : l.toArray[is.length + 3 + 1]? = some o2) (hg : (o1.guard.isNone && o2.guard.isNone) = true)
    (h : wpQuiet P l.toArray (fun w' => ∃ x, w' = w.mod [] x) (madeQ P l.toArray Q o1 o2 (l.drop (is.length + 5)) t1 s1 d1 t2 s2 d2 t3 s3 d3 w.drew) (pick l is) a) : (Code.region id l.toArray true).wp P Q a w := by
  refine wp_region_any hm ?_
  have hn' : is.length + 5 < l.toArray.size := by simpa using hn
  have hC : ∀ W, Mods [] w.drew W → ∃ x, W = w.mod [] x := fun W h => (((Mods.refl [] w).drew).trans h).ex
  have inv0 : InvM .any l.toArray (is.length + 5) (Array.replicate l.toArray.size false) :=
    ⟨by simp, fun j oj _ hl => (by rw [getD_replicate_false] at hl; cases hl), fun t _ ht => getD_in (by simpa using ht) (getD_replicate_false _ _)⟩
  have hdl : (l.drop (is.length + 5)).length = l.toArray.size - (is.length + 5) := by simp
  rw [Bool.and_eq_true] at hg
  have key := wpAny_of_K (P := P) (md := .any) (ops := l.toArray) (Q := Q) (S := fun w' => ∃ x, w' = w.mod [] x) (n := is.length + 5) (g := l.toArray.size - (is.length + 5))
    (L := fun listed a w => Region.seqB .any l.toArray (l.toArray.size - (is.length + 5)) (is.length + 5) listed = true ∧ wpList P l.toArray Q (l.drop (is.length + 5)) a w)
    (fun listed a' w' hL => by
      have := wpAny_of_seq (md := .any) (Q' := Q) (l.drop (is.length + 5)) (is.length + 5) listed a' w' (fun j => by simp [List.getElem?_drop]) (by rw [hdl]; exact hL.1) hL.2
      rwa [hdl] at this)
    (is.length + 5) (Array.replicate l.toArray.size false) a w.drew
    (wpAnyK_takes (f := 3 + 2) (rest := makesB .any l.toArray (is.length + 3) i j k) (R := madeQ P l.toArray Q o1 o2 (l.drop (is.length + 5)) t1 s1 d1 t2 s2 d2 t3 s3 d3 w.drew) hs (fun _ _ _ _ _ h => h) hsk hc hn' (fun listed a w hL => seqB_ready hL.1) (hC _ (Mods.refl _ _))
      (fun listed a' inv hr hR => by
        obtain ⟨n1, n2, n3, e1, e2, e3, c1, c2, c3, r1, r2, r3, hR⟩ := hR
        unfold makesB at hr
        rw [Bool.and_eq_true, Bool.and_eq_true, Bool.and_eq_true (decide _) (decide _), decide_eq_true_eq, decide_eq_true_eq] at hr
        obtain ⟨⟨hr1, hr2, hr3⟩, hr4⟩ := hr
        refine wpAnyK_add 3 _ _ _ (wpAnyK_makes hr1 hlt hij hik hjk m1 m2 m3 hd hds r1 r2 r3 hC fun b1 b2 b3 w' h3 => ?_)
        obtain ⟨v, u, c, e, x1, x2, hR⟩ := hR b1 b2 b3 w' h3
        exact wpAnyK_value hr2 (by omega) h1 hg.1 x1 (hC _ h3.mods) (wpAnyK_value hr3 (by omega) h2 hg.2 x2 (hC _ (h3.mods.alloc _)) ⟨hr4, hR⟩))
      is (pick l is) _ a hp inv0 hB h)
  rw [show is.length + 5 + (l.toArray.size - (is.length + 5)) = l.toArray.size by omega] at key
  exact key

def newFun (f : Fun) : FunP := ⟨0, List.replicate f.code.length 0, List.replicate f.code.length 0, List.replicate f.args.toNat ⟨0, 0, 0⟩⟩
open Classical in
noncomputable def newR (p : List Fun) : List FunP × Int := if ∃ hss, Ver p hss then (p.map newFun, 0) else ([], 900)
theorem newR_yes {p : List Fun} (h : ∃ hss, Ver p hss) : newR p = (p.map newFun, 0) := if_pos h
theorem newR_no {p : List Fun} (h : ¬ ∃ hss, Ver p hss) : newR p = ([], 900) := if_neg h
theorem made_i (n : Nat) : (madeCells (Value.int .i64 0).cells n).toList = intV (List.replicate n 0) := by
  refine List.ext_getElem? fun i => ?_
  by_cases hi : i < n
  · simp [madeCells, intV, hi, Value.cells, Nat.mod_one]
  · simp [madeCells, intV, hi]
theorem made_a (n : Nat) : (madeCells (Value.agg #[.int .i64 0, .int .i64 0, .int .i64 0]).cells (n * 3)).toList = argV (List.replicate n ⟨0, 0, 0⟩) := by
  refine List.ext_getElem? fun i => ?_
  have hi : i / 3 * 3 + i % 3 = i := Nat.div_add_mod' i 3
  have hlt : i % 3 < 3 := Nat.mod_lt _ (by omega)
  have e : (argV (List.replicate n ⟨0, 0, 0⟩))[i]? = ((List.replicate n (⟨0, 0, 0⟩ : ArgP))[i / 3]?).bind fun x => x.cells[i % 3]? := by
    have := flat_get ArgP.cells 3 ArgP.cells_len (List.replicate n (⟨0, 0, 0⟩ : ArgP)) (i / 3) (i % 3) hlt
    rwa [hi] at this
  rw [e]
  by_cases hi : i < n * 3
  · have h1 : i / 3 < n := by omega
    have h3 : i % 3 = 0 ∨ i % 3 = 1 ∨ i % 3 = 2 := by omega
    simp [madeCells, hi, h1, Value.cells, ArgP.cells]
    rcases h3 with h | h | h <;> simp [h]
  · have h1 : ¬ i / 3 < n := by omega
    simp [madeCells, hi, h1]
theorem make_i (n : Nat) (h : n * 8 ≤ 281474976710656) (W : World) : (Instr.makeSlice 28 (.int .i64 n) (.int .i64 n)).run Tryz.prog W = .ok (.slice (some ⟨W.heap.size, 0, none⟩) n n) (W.alloc (.cells (intV (List.replicate n 0)).toArray 3)) := by
  obtain ⟨i0, hi, hz0, hz1, hz2⟩ := info_parts info_i
  have := run_make (P := Tryz.prog) W 28 3 i0 _ Tryz.underlying28 hi hz0 .i64 .i64 (n : Int) (n : Int) (by omega) (by omega) (by rw [hz2]; omega) (by omega)
  rw [this, Int.toNat_natCast, hz1, Nat.mul_one, ← made_i, Array.toArray_toList]
theorem make_a (n : Nat) (h : n * 24 ≤ 281474976710656) (W : World) : (Instr.makeSlice 45 (.int .i64 n) (.int .i64 n)).run Tryz.prog W = .ok (.slice (some ⟨W.heap.size, 0, none⟩) n n) (W.alloc (.cells (argV (List.replicate n ⟨0, 0, 0⟩)).toArray 62)) := by
  obtain ⟨i0, hi, hz0, hz1, hz2⟩ := info_parts info_ap
  have := run_make (P := Tryz.prog) W 45 62 i0 _ Tryz.underlying45 hi hz0 .i64 .i64 (n : Int) (n : Int) (by omega) (by omega) (by rw [hz2]; omega) (by omega)
  rw [this, Int.toNat_natCast, hz1, ← made_a, Array.toArray_toList]
theorem own_made {B : Nat} {w : World} {e sz n b : Nat} {xs : List Value} (h : w.heap[b]? = some (.cells xs.toArray e (0, 0))) (hl : xs.length = n * sz) (hn : n ≤ maxLen) (hb : B ≤ b) : OwnF B w e sz (.slice (some ⟨b, 0, none⟩) n n) n xs :=
  ⟨⟨hl, .inr ⟨b, 0, n, xs.toArray, rfl, h, Nat.le_refl _, hn, by simp [hl], by simp [← hl]⟩⟩, fun k hk => by
    have : b = k := by simpa [Value.ownBlock] using hk
    omega⟩
theorem new3_fvo {wr wd : World} {f : Fun} {b1 b2 b3 m : Nat} (h : New3 wr wd b1 b2 b3 (intV (List.replicate f.code.length 0)).toArray (intV (List.replicate f.code.length 0)).toArray (argV (List.replicate m ⟨0, 0, 0⟩)).toArray 3 3 62) (hm : f.args = (m : Int)) (h1 : f.code.length * 8 ≤ 140737488355328) (h2 : m * 24 ≤ 140737488355328) :
    FVO wr.heap.size wd ⟨0, .slice (some ⟨b1, 0, none⟩) f.code.length f.code.length, .slice (some ⟨b2, 0, none⟩) f.code.length f.code.length, .slice (some ⟨b3, 0, none⟩) m m⟩ (newFun f) := by
  have k1 : f.code.length ≤ maxLen := by simp only [maxLen]; omega
  have k2 : m ≤ maxLen := by simp only [maxLen]; omega
  refine ⟨rfl, ?_, ?_, ?_, fun k hk hk' => h.ne12 ?_⟩
  · simpa [newFun] using own_made (B := wr.heap.size) h.one (by simp [intV]) k1 h.ge1
  · simpa [newFun] using own_made (B := wr.heap.size) h.two (by simp [intV]) k1 h.ge2
  · simpa [newFun, hm] using own_made (B := wr.heap.size) h.three (by rw [argV_len]; simp) k2 h.ge3
  · have e1 : b1 = k := by simpa [Value.ownBlock] using hk
    have e2 : b2 = k := by simpa [Value.ownBlock] using hk'
    omega
/-- the making loop at k: the rows so far, in variable ob -/
def NRel (w : World) (ob : Nat) (rs : List FunP) (k : Nat) (wr : World) : Prop :=
  ∃ v fs, PBox ob v wr ∧ OwnF w.heap.size wr 47 4 v k (fvV fs) ∧ FreshFs w.heap.size wr fs (rs.take k) ∧ Mods [] w wr
theorem NRel.step {w : World} {ob k : Nat} {v v' : Value} {rs : List FunP} {fs : List FV} {wr wd wf : World} {fv : FV} {x : FunP} {S : List Nat} {gb : Nat}
    (hx : rs[k]? = some x) (hob : PBox ob v wr) (ho : OwnF w.heap.size wr 47 4 v k (fvV fs)) (hf : FreshFs w.heap.size wr fs (rs.take k)) (hw : Mods [] w wr)
    (hob0 : w.heap.size ≤ ob) (hn : FVO wr.heap.size wd fv x) (hm : Mods S wr wd) (hS : ∀ b ∈ S, wr.heap.size ≤ b)
    (hown : Own wf 47 4 v' (k + 1) (fvV fs ++ fv.cells)) (hg : (wd.alloc (.cells fv.cells.toArray 47)).grownBy wf v.ownBlock) (ha : v'.ownBlock = v.ownBlock ∨ v'.ownBlock = some gb) (hgb : wd.heap.size ≤ gb) :
    NRel w ob rs (k + 1) (wf.setCell ⟨ob, 0, none⟩ v') := by
  have hws : w.heap.size ≤ wr.heap.size := hw.size
  have hm0 : Mods [] wr wd := hm.new hS
  have hme : Mods [] wr (wd.alloc (.cells fv.cells.toArray 47)) := hm0.alloc _
  have hv : ∀ b, v.ownBlock = some b → BlockOf wr 47 b := fun b hb => ho.1.blockOf hb
  have hmf : Mods v.ownBlock.toList wr wf := (hme.nil).grown hg fun b hb _ => by simp [hb.symm]
  have hdf : Mods v.ownBlock.toList wd wf := (((Mods.refl [] wd).alloc _).nil).grown hg fun b hb _ => by simp [hb.symm]
  have notv : ∀ (b : Nat) (u : Value), PBox b u wr → b ∉ v.ownBlock.toList := fun b u hb hs => by
    have h1 := hv b (by simpa using hs)
    have h3 : BlockOf wr 27 b := ⟨_, _, hb⟩
    exact absurd (h1.ne h3) (by decide)
  have hset : Mods [ob] wf (wf.setCell ⟨ob, 0, none⟩ v') := (Mods.refl _ _).setCell (by simp) _
  have hob' := hob.keep hmf (notv ob v hob)
  have htk : rs.take (k + 1) = rs.take k ++ [x] := by rw [List.take_add_one, hx]; rfl
  have hown' : OwnF w.heap.size wf 47 4 v' (k + 1) (fvV (fs ++ [fv])) := ⟨by rw [fvV_snoc]; exact hown, fun b hb => by
    rcases ha with e | e
    · exact ho.2 b (e ▸ hb)
    · rw [e] at hb
      have := Option.some.inj hb
      have := hm0.size
      omega⟩
  refine ⟨v', fs ++ [fv], hob'.set v', ?_, ?_, ?_⟩
  · refine hown'.mods hset fun b hb hs => ?_
    obtain rfl := List.mem_singleton.1 hs
    have h3 : BlockOf wf 27 b := ⟨_, _, hob'⟩
    exact absurd ((hown'.1.blockOf hb).ne h3) (by decide)
  · rw [htk]
    have h1 := hf.snoc hm0 hn hws
    have h2 : FreshFs w.heap.size wf (fs ++ [fv]) (rs.take k ++ [x]) := h1.others hdf fun b hb => by
      have hb' : v.ownBlock = some b := by simpa using hb
      have h4 := (hv b hb').mods hm0 (by simp)
      exact ⟨47, h4, by decide, by decide⟩
    exact h2.others hset fun b hb => by
      obtain rfl := List.mem_singleton.1 hb
      exact hob'.other
  · have h1 : Mods (ob :: v.ownBlock.toList) w wf := (hw.nil (S := ob :: v.ownBlock.toList)).trans (hmf.mono fun b hb => List.mem_cons_of_mem _ hb)
    exact (h1.setCell (fun _ => by simp) v').new fun b hb => by
      rcases List.mem_cons.1 hb with rfl | hb
      · exact hob0
      · exact ho.2 b (by simpa using hb)
end Go.Proofs.YtjpgcokdlopkaaaGreatDoor


/-! THE LAW's OWN PROGRAM OF TWO FUNCTIONS: what its profiles come to. -/
namespace Go.Proofs.YtjpgcokdlopkaaaGreatDoor
open Go.RowKit

theorem profMay_of_all {p : List Fun} {rs : List FunP} (h : ∃ hss, Ver p hss) (hl : rs.length = p.length) (hd : ((p.zip rs).all fun y => fpMay y.1 y.2) = true) : ProfMayP p rs := by
  refine ⟨h, hl, fun i f x hf hx => ?_⟩
  have := List.all_eq_true.1 hd (f, x) (List.mem_of_getElem? (i := i) (by rw [List.getElem?_zip_eq_some]; exact ⟨hf, hx⟩))
  exact this
def awF : FunP := ⟨0, [0, 0, 0, 0, 0, 0], [0, 0, 0, 0, 0, 0], [⟨0, 0, 0⟩]⟩
def aw1 : List FunP := [awF, ⟨0, [0, 0, 0, 0], [0, 0, 0, 0], [⟨0, 0, 0⟩, ⟨0, 0, 0⟩]⟩]
def aw2 : List FunP := [awF, ⟨1, [0, 0, 0, 0], [0, 0, 0, 0], [⟨4, 1, 0⟩, ⟨5, 1, 0⟩]⟩]
def aw3 : List FunP := [awF, ⟨2, [0, 0, 0, 0], [0, 0, 0, 0], [⟨4, 2, 0⟩, ⟨5, 1, 1⟩]⟩]
theorem may1 : ProfMayP twoP aw1 := profMay_of_all ver_two rfl (by decide)
theorem may2 : ProfMayP twoP aw2 := profMay_of_all ver_two rfl (by decide)
theorem may3 : ProfMayP twoP aw3 := profMay_of_all ver_two rfl (by decide)
theorem new_two : newR twoP = (aw1, 0) := (newR_yes ver_two).trans (by rfl)
theorem new_none : newR [] = ([], 900) := newR_no fun ⟨_, h⟩ => by have := h.packs; revert this; decide
theorem called1 : calledR twoP aw1 1 [4, 5] = (aw2, 0) :=
  (calledR_yes (n := 1) ⟨may1, rfl, rfl, rfl, rfl, by decide⟩).trans (by rw [show aw1.set 1 (calledF ⟨0, [0, 0, 0, 0], [0, 0, 0, 0], [⟨0, 0, 0⟩, ⟨0, 0, 0⟩]⟩ [4, 5]) = aw2 by decide])
theorem called2 : calledR twoP aw2 1 [4, 6] = (aw3, 0) :=
  (calledR_yes (n := 1) ⟨may2, rfl, rfl, rfl, rfl, by decide⟩).trans (by rw [show aw2.set 1 (calledF ⟨1, [0, 0, 0, 0], [0, 0, 0, 0], [⟨4, 1, 0⟩, ⟨5, 1, 0⟩]⟩ [4, 6]) = aw3 by decide])
theorem branched1 : branchedR twoP aw1 0 0 true = ([], 900) := branchedR_no fun ⟨n, k, f, x, i, h⟩ => by
  have e1 : n = 0 := by have := h.fnE; omega
  have e2 : k = 0 := by have := h.pcE; omega
  subst e1; subst e2
  have e3 := h.fE
  cases e3
  have e4 := h.iE
  cases e4
  exact absurd h.zero (by decide)
theorem may_yes : profMay twoP aw3 = true := profMay_true may3
theorem may_no : profMay twoP [] = false := profMay_false fun h => by have := h.len; revert this; decide
end Go.Proofs.YtjpgcokdlopkaaaGreatDoor


namespace Go.Proofs.YtjpgcokdlopkaaaGreatDoor
open Go.RowKit

theorem boxes3 (w : World) (x y z : Value) (p : Nat) : (((w.alloc (.cells #[x] p)).alloc (.cells #[y] 27)).alloc (.cells #[z] 27)).cell? ⟨w.heap.size, 0, none⟩ = some x ∧ PBox (w.heap.size + 1) y (((w.alloc (.cells #[x] p)).alloc (.cells #[y] 27)).alloc (.cells #[z] 27)) ∧ PBox (w.heap.size + 1 + 1) z (((w.alloc (.cells #[x] p)).alloc (.cells #[y] 27)).alloc (.cells #[z] 27)) :=
  ⟨by go_simp, (Below.heap_alloc _ _ _ (by simp)).trans (alloc_new_at (by simp)), alloc_new_at (by simp)⟩

set_option maxHeartbeats 8000000 in
set_option maxRecDepth 100000 in
theorem called_calls (v u va : Value) (p : List Fun) (rs : List FunP) (fn : Int) (xs : List Int) (w : World) (hG : EType w) (hv : Funs w v p) (hu : Profs w u rs) (ha : Ints w va xs) : Calls Tryz.prog 7 #[.agg #[v], .agg #[u], .int .i64 fn, va] w (ResPost w (calledR p rs fn xs)) := by
  obtain ⟨A, c, rfl, k1, k2⟩ := hv.form
  obtain ⟨B, d, rfl, k3, k4⟩ := hu.form
  obtain ⟨D, q, rfl, k5, k6⟩ := ha.form
  have HV := Lib.hid hv
  have HU := Lib.hid hu
  have HA := Lib.hid ha
  have HG := Lib.hid hG
  clear hv hu ha hG
  cases h1 : profMay p rs with
  | false =>
    have HN := Lib.hid (calledR_no (p := p) (rs := rs) (fn := fn) (xs := xs) (fun ⟨n', f', x', h'⟩ => by have := profMay_true h'.may; rw [h1] at this; cases this))
    go_enter Tryz.func7, Tryz.ntmps7
    go_wp2_with (first | (go_at_call 13; (with_reducible refine (profMay_is _ _ p rs _ _ h1 ?_ ?_ ?_).mono ?_); (exact HG.out.ext (by repeat (first | exact Mods.refl _ _ | refine Mods.alloc ?_ _ | refine Mods.ext ?_ _ | refine Mods.drew ?_ | refine Mods.drewN ?_ _))); (exact HV.out.ext funR_grows (by repeat (first | exact Mods.refl _ _ | refine Mods.alloc ?_ _ | refine Mods.ext ?_ _ | refine Mods.drew ?_ | refine Mods.drewN ?_ _))); (exact HU.out.ext fpR_grows (by repeat (first | exact Mods.refl _ _ | refine Mods.alloc ?_ _ | refine Mods.ext ?_ _ | refine Mods.drew ?_ | refine Mods.drewN ?_ _))); rintro e w1 ⟨rfl, x1, hx1⟩; have hM0 := mods_of hx1; have hM1 : Mods [] w w1 := Mods.trans (by repeat (first | exact Mods.refl _ _ | refine Mods.alloc ?_ _)) hM0; have bb0 := hM0.cell (boxes3 w _ _ _ _).1; have pb1 := PBox.keep (boxes3 w _ _ _ _).2.1 hM0 (by simp); have pb2 := PBox.keep (boxes3 w _ _ _ _).2.2 hM0 (by simp); have bb1 := pb1.cell; have bb2 := pb2.cell; have bf2 := pb2.frozen; have HM1 := Lib.hid hM1; have PB1 := Lib.hid pb1; have PB2 := Lib.hid pb2; clear hM0 hM1 hx1 pb1 pb2))
    have ce := (PB2.out.set (.slice none 0 0)).cell
    refine bodyPost_ret (v := .tuple #[.agg #[.slice none 0 0], .int .i64 900]) (by simp [results, Tryz.results7, go_sem, ce]) rfl ?_
    rw [HN.out]
    exact ⟨_, rfl, ProfO.nil, (HM1.out.setCell (fun hq => by have hq' : w.heap.size + 1 + 1 < w.heap.size := hq; omega) _).ex⟩
  | true =>
  have HPM := Lib.hid (profMay_iff.1 h1)
  rcases dec_cases (fn < 0) with ⟨h2, h2d⟩ | ⟨h2, h2d⟩
  · have HN := Lib.hid (calledR_no (p := p) (rs := rs) (fn := fn) (xs := xs) (fun ⟨n', f', x', h'⟩ => by have := h'.fnE; omega))
    go_enter Tryz.func7, Tryz.ntmps7
    go_wp2_with (first | (go_at_call 13; (with_reducible refine (profMay_is _ _ p rs _ _ h1 ?_ ?_ ?_).mono ?_); (exact HG.out.ext (by repeat (first | exact Mods.refl _ _ | refine Mods.alloc ?_ _ | refine Mods.ext ?_ _ | refine Mods.drew ?_ | refine Mods.drewN ?_ _))); (exact HV.out.ext funR_grows (by repeat (first | exact Mods.refl _ _ | refine Mods.alloc ?_ _ | refine Mods.ext ?_ _ | refine Mods.drew ?_ | refine Mods.drewN ?_ _))); (exact HU.out.ext fpR_grows (by repeat (first | exact Mods.refl _ _ | refine Mods.alloc ?_ _ | refine Mods.ext ?_ _ | refine Mods.drew ?_ | refine Mods.drewN ?_ _))); rintro e w1 ⟨rfl, x1, hx1⟩; have hM0 := mods_of hx1; have hM1 : Mods [] w w1 := Mods.trans (by repeat (first | exact Mods.refl _ _ | refine Mods.alloc ?_ _)) hM0; have bb0 := hM0.cell (boxes3 w _ _ _ _).1; have pb1 := PBox.keep (boxes3 w _ _ _ _).2.1 hM0 (by simp); have pb2 := PBox.keep (boxes3 w _ _ _ _).2.2 hM0 (by simp); have bb1 := pb1.cell; have bb2 := pb2.cell; have bf2 := pb2.frozen; have HM1 := Lib.hid hM1; have PB1 := Lib.hid pb1; have PB2 := Lib.hid pb2; clear hM0 hM1 hx1 pb1 pb2))
    have ce := (PB2.out.set (.slice none 0 0)).cell
    refine bodyPost_ret (v := .tuple #[.agg #[.slice none 0 0], .int .i64 900]) (by simp [results, Tryz.results7, go_sem, ce]) rfl ?_
    rw [HN.out]
    exact ⟨_, rfl, ProfO.nil, (HM1.out.setCell (fun hq => by have hq' : w.heap.size + 1 + 1 < w.heap.size := hq; omega) _).ex⟩
  obtain ⟨n, rfl⟩ : ∃ n : Nat, fn = n := ⟨fn.toNat, by omega⟩
  by_cases h3 : p.length ≤ n
  · have h3d : decide ((p.length : Int) ≤ (n : Int)) = true := by simp; omega
    have HN := Lib.hid (calledR_no (p := p) (rs := rs) (fn := (n : Int)) (xs := xs) (fun ⟨n', f', x', h'⟩ => by have := h'.fnE; have := (List.getElem?_eq_some_iff.1 h'.fE).1; omega))
    go_enter Tryz.func7, Tryz.ntmps7
    go_wp2_with (first | (go_at_call 13; (with_reducible refine (profMay_is _ _ p rs _ _ h1 ?_ ?_ ?_).mono ?_); (exact HG.out.ext (by repeat (first | exact Mods.refl _ _ | refine Mods.alloc ?_ _ | refine Mods.ext ?_ _ | refine Mods.drew ?_ | refine Mods.drewN ?_ _))); (exact HV.out.ext funR_grows (by repeat (first | exact Mods.refl _ _ | refine Mods.alloc ?_ _ | refine Mods.ext ?_ _ | refine Mods.drew ?_ | refine Mods.drewN ?_ _))); (exact HU.out.ext fpR_grows (by repeat (first | exact Mods.refl _ _ | refine Mods.alloc ?_ _ | refine Mods.ext ?_ _ | refine Mods.drew ?_ | refine Mods.drewN ?_ _))); rintro e w1 ⟨rfl, x1, hx1⟩; have hM0 := mods_of hx1; have hM1 : Mods [] w w1 := Mods.trans (by repeat (first | exact Mods.refl _ _ | refine Mods.alloc ?_ _)) hM0; have bb0 := hM0.cell (boxes3 w _ _ _ _).1; have pb1 := PBox.keep (boxes3 w _ _ _ _).2.1 hM0 (by simp); have pb2 := PBox.keep (boxes3 w _ _ _ _).2.2 hM0 (by simp); have bb1 := pb1.cell; have bb2 := pb2.cell; have bf2 := pb2.frozen; have HM1 := Lib.hid hM1; have PB1 := Lib.hid pb1; have PB2 := Lib.hid pb2; clear hM0 hM1 hx1 pb1 pb2))
    have ce := (PB2.out.set (.slice none 0 0)).cell
    refine bodyPost_ret (v := .tuple #[.agg #[.slice none 0 0], .int .i64 900]) (by simp [results, Tryz.results7, go_sem, ce]) rfl ?_
    rw [HN.out]
    exact ⟨_, rfl, ProfO.nil, (HM1.out.setCell (fun hq => by have hq' : w.heap.size + 1 + 1 < w.heap.size := hq; omega) _).ex⟩
  have hlt : n < p.length := by omega
  have h3d : decide ((p.length : Int) ≤ (n : Int)) = false := by simp; omega
  have i0 : (0 : Int) ≤ (n : Int) := by omega
  have i1 : (n : Int) < (p.length : Int) := by omega
  obtain ⟨f, hf⟩ : ∃ f, p[n]? = some f := ⟨_, get_some hlt⟩
  obtain ⟨x, hx⟩ : ∃ x, rs[n]? = some x := ⟨_, get_some (by rw [HPM.out.len]; exact hlt)⟩
  obtain ⟨b, o, rfl, hfr⟩ := HV.out.at_ hf
  obtain ⟨f1, f2, fv, f3, _⟩ := hfr
  have F1 := Lib.hid f1
  by_cases h4 : (xs.length : Int) = f.args
  · have h4d : ((xs.length : Int) != f.args) = false := by simp [h4]
    have H4 := Lib.hid h4
    clear h4
    cases h5 : xs.all numB with
    | false =>
      have HN := Lib.hid (calledR_no (p := p) (rs := rs) (fn := (n : Int)) (xs := xs) (fun ⟨n', f', x', h'⟩ => by have := h'.nums; rw [h5] at this; cases this))
      go_enter Tryz.func7, Tryz.ntmps7
      go_wp2_with (first | (go_at_call 13; (with_reducible refine (profMay_is _ _ p rs _ _ h1 ?_ ?_ ?_).mono ?_); (exact HG.out.ext (by repeat (first | exact Mods.refl _ _ | refine Mods.alloc ?_ _ | refine Mods.ext ?_ _ | refine Mods.drew ?_ | refine Mods.drewN ?_ _))); (exact HV.out.ext funR_grows (by repeat (first | exact Mods.refl _ _ | refine Mods.alloc ?_ _ | refine Mods.ext ?_ _ | refine Mods.drew ?_ | refine Mods.drewN ?_ _))); (exact HU.out.ext fpR_grows (by repeat (first | exact Mods.refl _ _ | refine Mods.alloc ?_ _ | refine Mods.ext ?_ _ | refine Mods.drew ?_ | refine Mods.drewN ?_ _))); rintro e w1 ⟨rfl, x1, hx1⟩; have hM0 := mods_of hx1; have hM1 : Mods [] w w1 := Mods.trans (by repeat (first | exact Mods.refl _ _ | refine Mods.alloc ?_ _)) hM0; have bb0 := hM0.cell (boxes3 w _ _ _ _).1; have pb1 := PBox.keep (boxes3 w _ _ _ _).2.1 hM0 (by simp); have pb2 := PBox.keep (boxes3 w _ _ _ _).2.2 hM0 (by simp); have bb1 := pb1.cell; have bb2 := pb2.cell; have bf2 := pb2.frozen; have HM1 := Lib.hid hM1; have PB1 := Lib.hid pb1; have PB2 := Lib.hid pb2; clear hM0 hM1 hx1 pb1 pb2; have g1 := HM1.out.cell F1.out) | (go_at_call 20; (with_reducible refine (wrapAll_is _ xs _ _ h5 ?_).mono ?_); (exact HA.out.ext intR_grows HM1.out); rintro e w2 ⟨rfl, x2, hx2⟩; have hM2 := mods_of hx2; have pb2 := PB2.out.keep hM2 (by simp); have bb2' := pb2.cell; have bf2' := pb2.frozen; have pb1 := PB1.out.keep hM2 (by simp); have bb1' := pb1.cell; have PB1 := Lib.hid pb1; have PB2l := Lib.hid pb2.lt; have PB2 := Lib.hid pb2; have HM1 := Lib.hid (HM1.out.trans hM2); clear hx2 hM2 pb1 pb2))
      have ce := (PB2.out.set (.slice none 0 0)).cell
      refine bodyPost_ret (v := .tuple #[.agg #[.slice none 0 0], .int .i64 900]) (by simp [results, Tryz.results7, go_sem, ce]) rfl ?_
      rw [HN.out]
      exact ⟨_, rfl, ProfO.nil, (HM1.out.setCell (fun hq => by have hq' : w.heap.size + 1 + 1 < w.heap.size := hq; omega) _).ex⟩
    | true =>
      have hok : CalledOk p rs n xs n f x := ⟨HPM.out, rfl, hf, hx, H4.out, h5⟩
      have HR := Lib.hid (calledR_yes hok)
      obtain ⟨a1, a2, a3, a4, a5, a6, a7⟩ := HPM.out.at hf hx
      have hxl : xs.length = x.args.length := by have := H4.out; omega
      have HC := Lib.hid a1
      have HAS := Lib.hid a5
      have HXL := Lib.hid hxl
      have HX := Lib.hid hx
      have HRL := Lib.hid HPM.out.len
      have j1 : (n : Int) < (rs.length : Int) := by have := HPM.out.len; omega
      clear hok a1 a2 a3 a4 a5 a6 a7 hxl hx hf
      go_enter Tryz.func7, Tryz.ntmps7
      go_wp2_with (first
        | (go_at_call 13; (with_reducible refine (profMay_is _ _ p rs _ _ h1 ?_ ?_ ?_).mono ?_); (exact HG.out.ext (by repeat (first | exact Mods.refl _ _ | refine Mods.alloc ?_ _ | refine Mods.ext ?_ _ | refine Mods.drew ?_ | refine Mods.drewN ?_ _))); (exact HV.out.ext funR_grows (by repeat (first | exact Mods.refl _ _ | refine Mods.alloc ?_ _ | refine Mods.ext ?_ _ | refine Mods.drew ?_ | refine Mods.drewN ?_ _))); (exact HU.out.ext fpR_grows (by repeat (first | exact Mods.refl _ _ | refine Mods.alloc ?_ _ | refine Mods.ext ?_ _ | refine Mods.drew ?_ | refine Mods.drewN ?_ _))); rintro e w1 ⟨rfl, x1, hx1⟩; have hM0 := mods_of hx1; have hM1 : Mods [] w w1 := Mods.trans (by repeat (first | exact Mods.refl _ _ | refine Mods.alloc ?_ _)) hM0; have bb0 := hM0.cell (boxes3 w _ _ _ _).1; have pb1 := PBox.keep (boxes3 w _ _ _ _).2.1 hM0 (by simp); have pb2 := PBox.keep (boxes3 w _ _ _ _).2.2 hM0 (by simp); have bb1 := pb1.cell; have bb2 := pb2.cell; have bf2 := pb2.frozen; have HM1 := Lib.hid hM1; have PB1 := Lib.hid pb1; have PB2 := Lib.hid pb2; clear hM0 hM1 hx1 pb1 pb2; have g1 := HM1.out.cell F1.out)
        | (go_at_call 20; (with_reducible refine (wrapAll_is _ xs _ _ h5 ?_).mono ?_); (exact HA.out.ext intR_grows HM1.out); rintro e w2 ⟨rfl, x2, hx2⟩; have hM2 := mods_of hx2; have pb2 := PB2.out.keep hM2 (by simp); have bb2' := pb2.cell; have bf2' := pb2.frozen; have pb1 := PB1.out.keep hM2 (by simp); have bb1' := pb1.cell; have PB1 := Lib.hid pb1; have PB2l := Lib.hid pb2.lt; have PB2 := Lib.hid pb2; have HM1 := Lib.hid (HM1.out.trans hM2); clear hx2 hM2 pb1 pb2)
        | (go_at_call 21; (with_reducible refine (profCopy_calls _ _ (.slice B rs.length d) rs _ ?_ ?_ HPM.out.fits).mono ?_); (assumption); (exact HU.out.ext fpR_grows HM1.out); rintro e w3 ⟨v3, rfl, ho3, x3, hx3⟩; have hM3 := mods_of hx3; obtain ⟨fs3, hp3⟩ := ho3; obtain ⟨g3, o3, q3, rfl, _, _, _, _⟩ := hp3.1.1.form (by omega); have pb2 := PB2.out.keep hM3 (by simp); have PB2 := Lib.hid pb2; have HM3 := Lib.hid hM3; have HP3 := Lib.hid (show ProfF w2.heap.size w3 (.slice (some ⟨g3, o3, none⟩) rs.length q3) fs3 rs from hp3); clear hx3 hM3 pb2 hp3 bb1' bb2' bf2')
        | (go_at_call 22; (with_reducible refine (call_calls w2.heap.size g3 o3 q3 n fs3 rs x _ xs w2 _ ?_ HX.out ?_ HXL.out HC.out HAS.out).mono ?_); (exact HP3.out.mods (S := []) (by repeat (first | exact Mods.refl _ _ | refine Mods.alloc ?_ _ | refine Mods.ext ?_ _ | refine Mods.drew ?_ | refine Mods.drewN ?_ _)) (by simp)); (exact ⟨HA.out.ext intR_grows HM1.out, HM3.out.trans (by repeat (first | exact Mods.refl _ _ | refine Mods.alloc ?_ _ | refine Mods.ext ?_ _ | refine Mods.drew ?_ | refine Mods.drewN ?_ _)), Nat.le_refl _⟩); rintro e w4 ⟨rfl, hp4, hm4, hb4⟩; have po := hb4 _ _ (show PBox w3.heap.size (.slice (some ⟨g3, o3, none⟩) rs.length q3) (w3.alloc (Obj.cells #[.slice (some ⟨g3, o3, none⟩) rs.length q3] 27)) from heap_alloc_new _ _); have pr := hb4 _ _ (PB2.out.keep (S := []) (by repeat (first | exact Mods.refl _ _ | refine Mods.alloc ?_ _ | refine Mods.ext ?_ _ | refine Mods.drew ?_ | refine Mods.drewN ?_ _)) (by simp)); have co := po.cell; have cr := pr.cell; have fr := pr.frozen; have PR := Lib.hid pr; have HP4 := Lib.hid hp4; have HM4 := Lib.hid hm4; clear hp4 hm4 hb4 po pr))
      have ce := (PR.out.set (.slice (some ⟨g3, o3, none⟩) rs.length q3)).cell
      have hs2 := HM1.out.size
      have hr2 : w.heap.size + 1 + 1 < w2.heap.size := PB2l.out
      refine bodyPost_ret (v := .tuple #[.agg #[.slice (some ⟨g3, o3, none⟩) rs.length q3], .int .i64 0]) (by simp [results, Tryz.results7, go_sem, ce]) rfl ?_
      rw [HR.out]
      obtain ⟨fs4, hp4⟩ := HP4.out
      have hset : Mods [w.heap.size + 1 + 1] w4 (w4.setCell ⟨w.heap.size + 1 + 1, 0, none⟩ (.slice (some ⟨g3, o3, none⟩) rs.length q3)) := (Mods.refl _ _).setCell (fun _ => by simp) _
      exact ⟨_, rfl, ((hp4.mods hset (fun b hb => by obtain rfl := List.mem_singleton.1 hb; exact hr2)).o).low hs2, ((HM1.out.trans HM4.out).setCell (fun hq => by have hq' : w.heap.size + 1 + 1 < w.heap.size := hq; omega) _).ex⟩
  · have h4d : ((xs.length : Int) != f.args) = true := by simp [h4]
    have H4 := Lib.hid h4
    clear h4
    have HN := Lib.hid (calledR_no (p := p) (rs := rs) (fn := (n : Int)) (xs := xs) (fun ⟨n', f', x', h'⟩ => by have e1 := h'.fnE; have e2 : n' = n := (by omega); subst e2; have e3 := h'.fE; rw [hf] at e3; rw [Option.some.inj e3] at H4; exact H4.out h'.len))
    go_enter Tryz.func7, Tryz.ntmps7
    go_wp2_with (first | (go_at_call 13; (with_reducible refine (profMay_is _ _ p rs _ _ h1 ?_ ?_ ?_).mono ?_); (exact HG.out.ext (by repeat (first | exact Mods.refl _ _ | refine Mods.alloc ?_ _ | refine Mods.ext ?_ _ | refine Mods.drew ?_ | refine Mods.drewN ?_ _))); (exact HV.out.ext funR_grows (by repeat (first | exact Mods.refl _ _ | refine Mods.alloc ?_ _ | refine Mods.ext ?_ _ | refine Mods.drew ?_ | refine Mods.drewN ?_ _))); (exact HU.out.ext fpR_grows (by repeat (first | exact Mods.refl _ _ | refine Mods.alloc ?_ _ | refine Mods.ext ?_ _ | refine Mods.drew ?_ | refine Mods.drewN ?_ _))); rintro e w1 ⟨rfl, x1, hx1⟩; have hM0 := mods_of hx1; have hM1 : Mods [] w w1 := Mods.trans (by repeat (first | exact Mods.refl _ _ | refine Mods.alloc ?_ _)) hM0; have bb0 := hM0.cell (boxes3 w _ _ _ _).1; have pb1 := PBox.keep (boxes3 w _ _ _ _).2.1 hM0 (by simp); have pb2 := PBox.keep (boxes3 w _ _ _ _).2.2 hM0 (by simp); have bb1 := pb1.cell; have bb2 := pb2.cell; have bf2 := pb2.frozen; have HM1 := Lib.hid hM1; have PB1 := Lib.hid pb1; have PB2 := Lib.hid pb2; clear hM0 hM1 hx1 pb1 pb2; have g1 := HM1.out.cell F1.out))
    have ce := (PB2.out.set (.slice none 0 0)).cell
    refine bodyPost_ret (v := .tuple #[.agg #[.slice none 0 0], .int .i64 900]) (by simp [results, Tryz.results7, go_sem, ce]) rfl ?_
    rw [HN.out]
    exact ⟨_, rfl, ProfO.nil, (HM1.out.setCell (fun hq => by have hq' : w.heap.size + 1 + 1 < w.heap.size := hq; omega) _).ex⟩
end Go.Proofs.YtjpgcokdlopkaaaGreatDoor
