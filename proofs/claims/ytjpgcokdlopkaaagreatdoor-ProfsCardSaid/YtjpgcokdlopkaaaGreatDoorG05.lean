/- Lemmas for a claim of the seat YtjpgcokdlopkaaaGreatDoor. Written in part by programs of the claim's repo. By an AI agent. -/
import Derived.Test.YtjpgcokdlopkaaaGreatDoorG04
import Derived.Laws.BitsLemmas
import Derived.Laws.CopyOwn
import Derived.StillTailTactics
import Derived.Test.YtjpgcokdlopkaaaGreatDoorG03

namespace Go.Proofs.YtjpgcokdlopkaaaGreatDoor
open Go.RowKit

theorem ret_uu {a b c d : Int} (h : a = c) (h' : b = d) : Ending.returned (.tuple #[.int .u64 a, .int .u64 b]) = .returned (.tuple #[.int .u64 c, .int .u64 d]) := by rw [h, h']
theorem u64_wrap (x : Int) : IntKind.u64.wrap x = x % 18446744073709551616 := rfl
theorem and_low (x : Int) (h0 : 0 ≤ x) (h1 : x ≤ 64) : bits BinOp.and IntKind.u64 x 4294967295 = x := by
  have h := bits_mask .u64 64 (by decide) (fun n h0 h1 => by rw [u64_wrap]; omega) 32 (by decide) x h0 (by omega)
  have e : (2 : Int) ^ 32 - 1 = 4294967295 := by decide
  have e2 : (2 : Int) ^ 32 = 4294967296 := by decide
  rw [e, e2] at h
  rw [h]; omega
set_option maxHeartbeats 2000000 in
set_option maxRecDepth 100000 in
theorem mul64_calls (n : Nat) (w : World) (hn : n ≤ 64) : Calls Tryz.prog 90 #[.int .u64 1, .int .u64 n] w fun e w' => e = .returned (.tuple #[.int .u64 0, .int .u64 n]) ∧ w' = w := by
  have HA := Lib.hid (and_low 1 (by omega) (by omega))
  have HB := Lib.hid (and_low n (by omega) (by omega))
  have HC := Lib.hid (and_low 0 (by omega) (by omega))
  have HD := Lib.hid (show (n : Int) / 4294967296 = 0 by omega)
  have HE := Lib.hid (show (n : Int) % 18446744073709551616 = n by omega)
  go_enter Tryz.func90, Tryz.ntmps90
  go_wp2
  go_ret2
  refine ⟨ret_uu ?_ ?_, rfl⟩
  · simp [u64_wrap, HA.out, HB.out, HC.out, HD.out, HE.out]
  · simp
set_option maxHeartbeats 2000000 in
theorem mul_calls (n : Nat) (w : World) (hn : n ≤ 64) : Calls Tryz.prog 84 #[.int .u64 1, .int .u64 n] w fun e w' => e = .returned (.tuple #[.int .u64 0, .int .u64 n]) ∧ w' = w := by
  go_enter Tryz.func84, Tryz.ntmps84
  go_wp2_with (go_at_call 90; refine (mul64_calls _ _ hn).mono ?_; rintro e w' ⟨rfl, rfl⟩)
  go_ret2
  exact ⟨rfl, rfl⟩
theorem mk_ints (W : World) (n : Nat) (hn : n ≤ 17592186044416) : (Instr.makeSlice 28 (.int .i64 n) (.int .i64 n)).run Tryz.prog W = .ok (.slice (some ⟨W.heap.size, 0, none⟩) n n) (W.alloc (.cells (List.replicate n (Value.int .i64 0)).toArray 3)) := by
  obtain ⟨i0, hi, hz0, hz1, hz2⟩ := info_parts info_int
  have h := run_make (P := Tryz.prog) W 28 3 i0 (.int .i64 0) Tryz.underlying28 hi hz0 .i64 .i64 n n (by omega) (Int.le_refl _) (by rw [hz2]; omega) (by omega)
  rw [h, hz1]
  have e : madeCells (Value.int .i64 0).cells (n * 1) = (List.replicate n (Value.int .i64 0)).toArray := by
    apply Array.ext
    · simp [madeCells]
    · intro i h1 h2
      simp [madeCells, Value.cells, Nat.mod_one]
  rw [Int.toNat_natCast, e]
def rep (N k : Nat) : List Value := List.replicate k (Value.int .i64 (-1)) ++ List.replicate (N - k) (Value.int .i64 0)

theorem size_int : (Tryz.prog.info? 3).map (·.size) = some 1 := by kernel_rfl
theorem rep_copy (w : World) (N k : Nat) {wr : World} (hk : k < N) (hh : wr.heap[w.heap.size]? = some (.cells (rep N k).toArray 3 (0, 0))) (hb : Below w.heap.size w wr) :
    ∃ w2, (Builtin.copy_ #[28, 28] 3 #[.slice (some ⟨w.heap.size, k, none⟩) (N - k) (N - k), .slice (some ⟨w.heap.size, 0, none⟩) k N]).run Tryz.prog wr.drew = .ok (.int .i64 ((min k (N - k) : Nat) : Int)) w2 ∧
      w2.heap[w.heap.size]? = some (.cells (rep N (k + min k (N - k))).toArray 3 (0, 0)) ∧ Below w.heap.size w w2 := by
  have hl : (rep N k).length = N := by simp [rep]; omega
  have hm : k + min k (N - k) ≤ N := by omega
  have hrun := run_copy_row (P := Tryz.prog) wr.drew 28 28 3 3 w.heap.size k (N - k) (N - k) ⟨w.heap.size, 0, none⟩ k N (rep N k).toArray 3 (List.replicate (min k (N - k)) (Value.int .i64 (-1))) Tryz.underlying28 size_int hh
    (by simp [Nat.min_def]) (fun j v hv => by
      obtain ⟨hj, rfl⟩ := List.getElem?_eq_some_iff.1 hv
      simp at hj
      have hj2 : j < k := by omega
      have hc : (rep N k)[j]? = some (Value.int .i64 (-1)) := by rw [rep, List.getElem?_append_left (by simpa using hj2), List.getElem?_replicate, if_pos hj2]
      rw [addr_add, Nat.zero_add]
      have hh' : wr.drew.heap[w.heap.size]? = some (.cells (rep N k).toArray 3 (0, 0)) := hh
      simp [World.cell?, hh', hc]) (by simp [hl]; omega) (by intro v hv; rw [List.eq_of_mem_replicate hv]; rfl)
  rw [List.length_replicate] at hrun
  refine ⟨_, hrun, ?_, ?_⟩
  · refine (setRow_heap wr.drew w.heap.size _ _ 3 _ hh).trans ?_
    refine congrArg (fun l : List Value => some (Obj.cells l.toArray 3 (0, 0))) ?_
    show (rep N k).take k ++ List.replicate (min k (N - k)) (Value.int .i64 (-1)) ++ (rep N k).drop (k + min k (N - k)) = _
    have e1 : (rep N k).take k = List.replicate k (Value.int .i64 (-1)) := by simp [rep]
    have e2 : (rep N k).drop (k + min k (N - k)) = List.replicate (N - (k + min k (N - k))) (Value.int .i64 0) := by
      have : (rep N k).drop (k + min k (N - k)) = ((rep N k).drop k).drop (min k (N - k)) := by rw [List.drop_drop]
      rw [this]
      simp [rep]
      omega
    rw [e1, e2, List.replicate_append_replicate]
    rfl
  · exact below_setRow hb.drew (Nat.le_refl _) _
theorem rep_start (w : World) (N : Nat) : (w.alloc (.cells (Array.replicate N (Value.int .i64 0)) 3)).heap[w.heap.size]? = some (.cells (List.replicate N (Value.int .i64 0)).toArray 3 (0, 0)) := by
  rw [alloc_new_at rfl]; simp
theorem rep_below (w : World) (N : Nat) : Below w.heap.size w (w.alloc (.cells (Array.replicate N (Value.int .i64 0)) 3)) := (Below.refl _ _).alloc (Nat.le_refl _) _
theorem rep_min {N : Nat} (h : 1 ≤ N) : [Value.int .i64 (-1)].length = Nat.min 1 N := by simp [Nat.min_def]; omega
theorem one_cell {w : World} {g : Nat} {x : Value} (h : w.cell? ⟨g, 0, none⟩ = some x) : ∀ j v, [x][j]? = some v → w.cell? ((⟨g, 0, none⟩ : Addr).add j) = some v := by
  intro j v hv
  obtain ⟨hj, rfl⟩ := List.getElem?_eq_some_iff.1 hv
  have : j = 0 := by simpa using hj
  subst this
  simpa [addr_add] using h
set_option maxHeartbeats 2000000 in
set_option maxRecDepth 100000 in
theorem repeat_calls (g N : Nat) (w : World) (hN : 1 ≤ N) (hN2 : N ≤ 64) (hg : w.cell? ⟨g, 0, none⟩ = some (.int .i64 (-1))) : Calls Tryz.prog 73 #[.slice (some ⟨g, 0, none⟩) 1 1, .int .i64 N] w fun e w' =>
    ∃ gr, e = .returned (.slice (some ⟨gr, 0, none⟩) N N) ∧ w'.heap[gr]? = some (.cells (List.replicate N (Value.int .i64 (-1))).toArray 3 (0, 0)) ∧ w.heap.size ≤ gr ∧ Mods [] w w' := by
  have hmk := fun W => mk_ints W N (by omega)
  have hu : IntKind.u64.wrap (N : Int) = N := by rw [u64_wrap]; omega
  go_enter Tryz.func73, Tryz.ntmps73
  go_wp2_with (first | (go_at_call 84; refine (mul_calls N _ hN2).mono ?_; rintro e w' ⟨rfl, h⟩; obtain rfl := h.symm) | (with_reducible refine wpList_copy_splice rfl (.tmp 31) (.tmp 32) 28 28 rfl 3 Tryz.underlying28 size_int (some ⟨w.heap.size, 0, none⟩) (some ⟨g, 0, none⟩) N N 1 1 rfl rfl w.heap.size 0 (List.replicate N (.int .i64 0)) 3 (rep_start w N) [.int .i64 (-1)] (rep_min hN) ?_ ?_ ?_ w.heap.size w (rep_below w N) (Nat.le_refl _) ?_; (exact fun _ => ⟨rfl, _, rfl, one_cell (by go_simp)⟩); (simp; omega); (simp [Value.oneCell']); intro w1 hg1 hb1))
  go_loopg [8] N (fun m v wr => ∃ k : Nat, v = .int .i64 k ∧ 1 ≤ k ∧ k ≤ N ∧ Hid (N - k ≤ m) ∧ Hid (wr.heap[w.heap.size]? = some (.cells (rep N k).toArray 3 (0, 0))) ∧ Hid (Below w.heap.size w wr))
  case atStart => 
    refine ⟨1, rfl, by omega, hN, by unfold Hid; omega, ?_, hb1⟩
    have := hg1.out
    obtain ⟨M, rfl⟩ : ∃ M, N = M + 1 := ⟨N - 1, by omega⟩
    unfold Hid
    simpa [splice, rep, List.replicate_succ] using this
  case round =>
    obtain ⟨k, rfl, hk1, hk2, hm, hh, hb⟩ := hrel
    by_cases hlt : k < N
    · obtain ⟨w2, hcp, hh2, hb2⟩ := rep_copy w N k hlt hh.out hb.out
      have HH2 := Lib.hid hh2
      have HB2 := Lib.hid hb2
      clear hh2 hb2
      go_wp2
      go_region
      go_wp2
      go_roundg (N - (k + min k (N - k)))
      case measure => have := hm.out; omega
      case rel =>
        go_light
        exact ⟨k + min k (N - k), by go_num, by omega, by omega, by simp [Hid], HH2.out, HB2.out⟩
    · obtain rfl : k = N := by omega
      go_wp2
      go_ret
      go_light
      exact ⟨_, rfl, by have := hh.out; simpa [rep] using this, Nat.le_refl _, mods_of_below hb.out⟩
end Go.Proofs.YtjpgcokdlopkaaaGreatDoor


namespace Go.Proofs.YtjpgcokdlopkaaaGreatDoor
open Go.RowKit

def nNone (hs : List Int) : Nat := hs.count (-1)
theorem nNone_set : ∀ {hs : List Int} {i : Nat} {h : Int}, hs[i]? = some (-1) → h ≠ -1 → nNone (hs.set i h) + 1 = nNone hs
  | [], i, h, hi, _ => by simp at hi
  | b :: bs, 0, h, hi, hh => by
    have : b = -1 := by simpa using hi
    subst this; simp [nNone, hh]
  | b :: bs, i + 1, h, hi, hh => by
    have ih := nNone_set (hs := bs) (i := i) (by simpa using hi) hh
    simp only [nNone, List.set_cons_succ, List.count_cons] at *
    omega
theorem effect_range (k a n : Int) : 0 ≤ (effectF k a n).1 ∧ (effectF k a n).1 ≤ 4 ∧ 0 ≤ (effectF k a n).2.1 ∧ (effectF k a n).2.1 ≤ 2 := by
  unfold effectF
  split
  · simp
  · rename_i h
    have h1 : 0 ≤ n ∧ n ≤ 4 := by
      constructor
      · exact Int.not_lt.1 fun e => h (.inr (.inl e))
      · exact Int.not_lt.1 fun e => h (.inr (.inr e))
    split
    · simp
    · split
      · simp
      · split
        · simp
        · split
          · simp
          · split
            · simp; omega
            · simp
structure HI (p : List Fun) (f : Fun) (hs : List Int) (row : List Nat) : Prop where
  len : hs.length = f.code.length
  zero : hs[0]? = some 0
  rows : ∀ j : Nat, j ∈ row → ∃ h, hs[j]? = some h ∧ h ≠ -1
  lo : ∀ (j : Nat) (h : Int), hs[j]? = some h → -1 ≤ h ∧ h ≤ 8
  sound : ∀ (j : Nat) (h : Int), hs[j]? = some h → h ≠ -1 → Reach f.code j
  closed : ∀ (j : Nat) (h : Int), hs[j]? = some h → h ≠ -1 → j ∈ row ∨ ∀ i : Ins, f.code[j]? = some i → takes p i ≤ h ∧ h - takes p i + puts p i ≤ 8 ∧ ∀ to : Nat, (to : Int) ∈ nextI i j f.code.length → hs[to]? = some (h - takes p i + puts p i)
  agree : ∀ hs', Heights p f hs' → ∀ (j : Nat) (h : Int), hs[j]? = some h → h ≠ -1 → hs'[j]? = some h
theorem HI.start {p : List Fun} {f : Fun} (h : 1 ≤ f.code.length) : HI p f ((List.replicate f.code.length (-1)).set 0 0) [0] := by
  have key : ∀ (j : Nat) (x : Int), ((List.replicate f.code.length (-1 : Int)).set 0 0)[j]? = some x → (j = 0 ∧ x = 0) ∨ x = -1 := fun j x hj => by
    rw [List.getElem?_set] at hj
    split at hj
    · rename_i e
      split at hj
      · exact .inl ⟨e.symm, (Option.some.inj hj).symm⟩
      · cases hj
    · rw [List.getElem?_replicate] at hj
      split at hj
      · exact .inr (Option.some.inj hj).symm
      · cases hj
  have z : ((List.replicate f.code.length (-1 : Int)).set 0 0)[0]? = some 0 := by
    obtain ⟨m, hm⟩ : ∃ m, f.code.length = m + 1 := ⟨f.code.length - 1, by omega⟩
    rw [hm]; rfl
  refine ⟨by simp, z, fun j hj => ⟨0, by rw [List.mem_singleton.1 hj]; exact z, by omega⟩, fun j x hj => ?_, fun j x hj hx => ?_, fun j x hj hx => .inl ?_, fun hs' h' j x hj hx => ?_⟩
  · rcases key j x hj with ⟨_, rfl⟩ | rfl <;> omega
  · rcases key j x hj with ⟨rfl, _⟩ | h
    · exact .zero
    · exact absurd h hx
  · rcases key j x hj with ⟨rfl, _⟩ | h
    · simp
    · exact absurd h hx
  · rcases key j x hj with ⟨rfl, rfl⟩ | h
    · exact h'.first
    · exact absurd h hx
theorem HI.mark {p : List Fun} {f : Fun} {hs : List Int} {row : List Nat} {pc to : Nat} {i : Ins} {h0 hh : Int} (h : HI p f hs (pc :: row)) (hi : f.code[pc]? = some i) (hp : hs[pc]? = some h0) (h0n : h0 ≠ -1)
    (hd : hh = h0 - takes p i + puts p i) (hlo : 0 ≤ hh) (hhi : hh ≤ 8) (ht : (to : Int) ∈ nextI i pc f.code.length) (hto : hs[to]? = some (-1)) : HI p f (hs.set to hh) (pc :: row ++ [to]) := by
  have hne : hh ≠ -1 := by omega
  have hn : to < hs.length := (List.getElem?_eq_some_iff.1 hto).1
  have hs1 : ∀ (j : Nat) (x : Int), (hs.set to hh)[j]? = some x → (j = to ∧ x = hh) ∨ (j ≠ to ∧ hs[j]? = some x) := fun j x hj => by
    rw [List.getElem?_set] at hj
    split at hj
    · rename_i e
      exact .inl ⟨e.symm, (Option.some.inj (by simpa [hn] using hj)).symm⟩
    · rename_i e
      exact .inr ⟨fun e' => e e'.symm, hj⟩
  have keep : ∀ (j : Nat) (x : Int), hs[j]? = some x → x ≠ -1 → (hs.set to hh)[j]? = some x := fun j x hj hx => by
    rw [List.getElem?_set, if_neg]
    · exact hj
    · rintro rfl
      rw [hto] at hj
      exact hx (Option.some.inj hj).symm
  have self : (hs.set to hh)[to]? = some hh := by rw [List.getElem?_set]; simp [hn]
  refine ⟨by simp [h.len], keep 0 0 h.zero (by omega), fun j hj => ?_, fun j x hj => ?_, fun j x hj hx => ?_, fun j x hj hx => ?_, fun hs' h' j x hj hx => ?_⟩
  · rcases List.mem_append.1 hj with h1 | h1
    · obtain ⟨x, hx, hx2⟩ := h.rows j h1
      exact ⟨x, keep j x hx hx2, hx2⟩
    · exact ⟨hh, by rw [List.mem_singleton.1 h1]; exact self, hne⟩
  · rcases hs1 j x hj with ⟨_, rfl⟩ | ⟨_, h1⟩
    · omega
    · exact h.lo j x h1
  · rcases hs1 j x hj with ⟨rfl, _⟩ | ⟨_, h1⟩
    · exact .step (h.sound pc h0 hp h0n) hi ht
    · exact h.sound j x h1 hx
  · rcases hs1 j x hj with ⟨rfl, _⟩ | ⟨_, h1⟩
    · exact .inl (by simp)
    · rcases h.closed j x h1 hx with h2 | h2
      · exact .inl (List.mem_append_left _ h2)
      · refine .inr fun i' hi' => ⟨(h2 i' hi').1, (h2 i' hi').2.1, fun to' ht' => keep to' _ ((h2 i' hi').2.2 to' ht') ?_⟩
        have h3 := (h2 i' hi').1
        have h4 := (effect_range i'.kind i'.a (callArgs p i')).2.2.1
        have : 0 ≤ puts p i' := h4
        omega
  · rcases hs1 j x hj with ⟨rfl, rfl⟩ | ⟨_, h1⟩
    · have hp' := h.agree hs' h' pc h0 hp h0n
      rw [hd]
      exact (h'.step pc i h0 hi hp' h0n).2.2 j ht
    · exact h.agree hs' h' j x h1 hx
theorem HI.pop {p : List Fun} {f : Fun} {hs : List Int} {row : List Nat} {pc : Nat} {h0 : Int} (h : HI p f hs (pc :: row)) (hp : hs[pc]? = some h0)
    (hc : ∀ i : Ins, f.code[pc]? = some i → takes p i ≤ h0 ∧ h0 - takes p i + puts p i ≤ 8 ∧ ∀ to : Nat, (to : Int) ∈ nextI i pc f.code.length → hs[to]? = some (h0 - takes p i + puts p i)) : HI p f hs row := by
  refine ⟨h.len, h.zero, fun j hj => h.rows j (List.mem_cons_of_mem _ hj), h.lo, h.sound, fun j x hj hx => ?_, h.agree⟩
  rcases h.closed j x hj hx with h1 | h1
  · rcases List.mem_cons.1 h1 with rfl | h1
    · rw [hp] at hj
      obtain rfl := Option.some.inj hj
      exact .inr hc
    · exact .inl h1
  · exact .inr h1
theorem HI.done {p : List Fun} {f : Fun} {hs : List Int} (h : HI p f hs []) : Heights p f hs := by
  have all : ∀ j, Reach f.code j → ∃ x, hs[j]? = some x ∧ x ≠ -1 := fun j hr => by
    induction hr with
    | zero => exact ⟨0, h.zero, by omega⟩
    | @step pc to i hr hi ht ih =>
      obtain ⟨x, hx, hx2⟩ := ih
      rcases h.closed _ x hx hx2 with h1 | h1
      · cases h1
      · have h2 := h1 i hi
        refine ⟨_, h2.2.2 to ht, ?_⟩
        have : 0 ≤ puts p i := (effect_range i.kind i.a (callArgs p i)).2.2.1
        have := h2.1
        omega
  refine ⟨h.len, h.zero, fun pc x hx => ⟨?_, ?_⟩, fun pc x hx => (h.lo pc x hx).1, fun pc i x hi hx hx2 => ?_⟩
  · rintro rfl hr
    obtain ⟨y, hy, hy2⟩ := all pc hr
    rw [hx] at hy
    exact hy2 (Option.some.inj hy).symm
  · intro hr
    by_cases e : x = -1
    · exact e
    · exact absurd (h.sound pc x hx e) hr
  · rcases h.closed pc x hx hx2 with h1 | h1
    · cases h1
    · exact h1 i hi
theorem HI.fail1 {p : List Fun} {f : Fun} {hs : List Int} {row : List Nat} {pc : Nat} {i : Ins} {h0 : Int} (h : HI p f hs row) (hi : f.code[pc]? = some i) (hp : hs[pc]? = some h0) (h0n : h0 ≠ -1) (hc : ¬ (takes p i ≤ h0 ∧ h0 - takes p i + puts p i ≤ 8)) : ¬ ∃ hs', Heights p f hs' := by
  rintro ⟨hs', h'⟩
  have := h'.step pc i h0 hi (h.agree hs' h' pc h0 hp h0n) h0n
  exact hc ⟨this.1, this.2.1⟩
theorem HI.fail2 {p : List Fun} {f : Fun} {hs : List Int} {row : List Nat} {pc to : Nat} {i : Ins} {h0 x : Int} (h : HI p f hs row) (hi : f.code[pc]? = some i) (hp : hs[pc]? = some h0) (h0n : h0 ≠ -1) (ht : (to : Int) ∈ nextI i pc f.code.length)
    (hx : hs[to]? = some x) (hx1 : x ≠ -1) (hx2 : x ≠ h0 - takes p i + puts p i) : ¬ ∃ hs', Heights p f hs' := by
  rintro ⟨hs', h'⟩
  have h1 := (h'.step pc i h0 hi (h.agree hs' h' pc h0 hp h0n) h0n).2.2 to ht
  rw [h.agree hs' h' to x hx hx1] at h1
  exact hx2 (Option.some.inj h1)
end Go.Proofs.YtjpgcokdlopkaaaGreatDoor


namespace Go.Proofs.YtjpgcokdlopkaaaGreatDoor
open Go.RowKit

/-- no heights fit -/
def NoHeights (p : List Fun) (f : Fun) : Prop := ¬ ∃ hs, Heights p f hs
def intV (l : List Int) : List Value := l.map fun x => Value.int .i64 x
theorem intHeap_cell {w : World} {g : Nat} {hs : List Int} (h : w.heap[g]? = some (.cells (intV hs).toArray 3 (0, 0))) {j : Nat} {x : Int} (hx : hs[j]? = some x) : w.cell? ⟨g, j, none⟩ = some (.int .i64 x) := by
  simp [World.cell?, h, intV, hx]
/-- v is a slice that is a block of whole numbers -/
def IntsB (w : World) (v : Value) (hs : List Int) : Prop := ∃ g, v = .slice (some ⟨g, 0, none⟩) hs.length hs.length ∧ w.heap[g]? = some (.cells (intV hs).toArray 3 (0, 0)) ∧ hs.length ≤ 64
theorem IntsB.ints {w : World} {v : Value} {hs : List Int} (h : IntsB w v hs) : Ints w v hs := by
  obtain ⟨g, rfl, h1, h2⟩ := h
  refine ⟨hs.length, Nat.le_refl _, by omega, .inr ⟨g, 0, rfl, fun i x hx => ?_⟩⟩
  rw [Nat.zero_add, Nat.mul_one]
  exact intHeap_cell h1 hx
theorem IntsB.move {w w' : World} {v : Value} {hs : List Int} {S : List Nat} (h : IntsB w v hs) (hw : Mods S w w') (hS : ∀ k, v.ownBlock = some k → k ∉ S) : IntsB w' v hs := by
  obtain ⟨g, rfl, h1, h2⟩ := h
  exact ⟨g, rfl, (hw.block _ (Array.getElem?_eq_some_iff.1 h1).1 (hS g rfl)).trans h1, h2⟩
theorem IntsB.ext {w w' : World} {v : Value} {hs : List Int} (h : IntsB w v hs) (hw : Mods [] w w') : IntsB w' v hs := h.move hw (fun _ _ => by simp)
def HRel (p : List Fun) (f : Fun) (w : World) (gr : Nat) (hs : List Int) (row : List Nat) (v : Value) (wr : World) : Prop :=
  HI p f hs row ∧ Own wr 3 1 v row.length (natV row) ∧ wr.heap[gr]? = some (.cells (intV hs).toArray 3 (0, 0)) ∧ (∀ k, v.ownBlock = some k → gr < k) ∧ Mods [] w wr ∧ nNone hs + row.length ≤ f.code.length
def HIn (p : List Fun) (f : Fun) (w : World) (gr B B2 : Nat) (A : Option Addr) (us : List Int) (pc : Nat) (h0 hh : Int) (hs : List Int) (R : List Nat) (k : Nat) (v : Value) (wi : World) : Prop :=
  HRel p f w gr hs (pc :: R) v wi ∧ UAt B B2 A us wi ∧ (∀ k, v.ownBlock = some k → k < B ∨ B2 ≤ k) ∧ B2 ≤ wi.heap.size ∧ hs[pc]? = some h0 ∧ ∀ (i : Nat) (x : Int), i < k → us[i]? = some x → hs[x.toNat]? = some hh
theorem packs_args {p : List Fun} (h : packs p = true) {k : Nat} {f : Fun} (hf : p[k]? = some f) : 0 ≤ f.args ∧ f.args ≤ 4 ∧ f.args ≤ f.locals ∧ f.locals ≤ 8 ∧ codeMay f.code = true := by
  simp only [packs, Bool.and_eq_true, Bool.not_eq_true', List.any_eq_false] at h
  have := h.2 f (List.mem_of_getElem? hf)
  simp [notB] at this
  exact ⟨by omega, by omega, by omega, by omega, this.2⟩
theorem outside_call {p : List Fun} {f : Fun} {i : Ins} (h : outsideB p f i = false) (hm : insMayB i.kind i.a = true) (hk : i.kind = 14) : 0 ≤ i.a ∧ i.a < p.length := by
  have h1 := insMay_a hm (by omega)
  unfold outsideB at h
  rw [if_neg (by omega), if_neg (by omega), if_pos hk] at h
  have := of_decide_eq_false h
  omega
theorem rep_cell0 {w : World} {g n : Nat} (h : w.heap[g]? = some (.cells (List.replicate n (Value.int .i64 (-1))).toArray 3 (0, 0))) (hn : 1 ≤ n) : w.cell? ⟨g, 0, none⟩ = some (.int .i64 (-1)) := by
  obtain ⟨m, rfl⟩ : ∃ m, n = m + 1 := ⟨n - 1, by omega⟩
  simp [World.cell?, h]
theorem ints_set0 (n : Nat) : ((List.replicate n (Value.int .i64 (-1))).toArray).setIfInBounds 0 (.int .i64 0) = (intV ((List.replicate n (-1 : Int)).set 0 0)).toArray := by
  rw [intV, List.map_set, ← List.setIfInBounds_toArray]
  simp

set_option maxHeartbeats 4000000 in
set_option maxRecDepth 100000 in
theorem heights_calls (p1 p2 f1 f2 : Nat) (p : List Fun) (f : Fun) (w : World) (hp : ProgAt w p1 p2 p) (hf : funR w f1 f2 f) (hm : codeMay f.code = true) (hpl : Plain p f) :
    Calls Tryz.prog 60 #[.pointer (some ⟨p1, p2, none⟩), .pointer (some ⟨f1, f2, none⟩)] w fun e w' =>
    ∃ u ev, e = .returned (.tuple #[u, ev]) ∧ ((∃ hs, Heights p f hs ∧ IntsB w' u hs ∧ ev = .nilIface) ∨ (NoHeights p f ∧ u = .slice none 0 0 ∧ FaultAt w' ev)) ∧ ∃ x, w' = w.ext x := by
  obtain ⟨l1, l2⟩ := codeMay_lens hm
  have hf2 := hf
  obtain ⟨e1, e2, cv, e3, hc⟩ := hf2
  obtain ⟨b, o, cap, rfl, k1, k2, hat⟩ := inss_at hc l1
  have HP := Lib.hid hp
  have HF := Lib.hid hf
  have HC := Lib.hid hc
  have HPL := Lib.hid hpl
  clear hp hf hc hpl
  go_enter Tryz.func60, Tryz.ntmps60
  go_wp2_with (go_at_call 73; refine (repeat_calls _ f.code.length _ l1 l2 (by go_simp)).mono ?_; rintro e w1 ⟨gr, rfl, hgr, hgr2, hM⟩; have hw1 : Mods [] w w1 := ((Mods.refl [] w).alloc _).trans hM; have hgrl : w.heap.size < gr := Nat.lt_of_lt_of_le (by simp) hgr2; have hgr1 : gr < w1.heap.size := (Array.getElem?_eq_some_iff.1 hgr).1; have hc00 : w1.cell? ⟨gr, 0, none⟩ = some (.int .i64 (-1)) := rep_cell0 hgr l1; have hf00 := boolHeap_frozen hgr 0; have HGR := Lib.hid hgr; clear hgr hgr2 hM)
  go_loopg [7] (2 * f.code.length + 1) (fun m v wr => ∃ hs row, Hid (2 * nNone hs + row.length ≤ m) ∧ Hid (HRel p f w gr hs row v wr))
  case atStart =>
    have hnf : nNone ((List.replicate f.code.length (-1 : Int)).set 0 0) + 1 = f.code.length := by
      have h0 : (List.replicate f.code.length (-1 : Int))[0]? = some (-1) := by rw [List.getElem?_replicate, if_pos (by omega)]
      have := nNone_set h0 (h := 0) (by omega)
      rw [this]; simp [nNone]
    refine ⟨_, [0], ?_, HI.start l1, ⟨rfl, .inr ⟨w1.heap.size, 0, 1, #[.int .i64 0], rfl, ?_, by simp, by simp [maxLen], by simp, rfl⟩⟩, ?_, ?_, ?_, ?_⟩
    · unfold Hid; simp only [List.length_singleton]; omega
    · exact alloc_new_at (by simp [World.setCell])
    · refine (Below.heap_alloc _ _ _ (by simp [World.setCell]; omega)).trans ?_
      rw [heap_setCell_at HGR.out, ints_set0]
    · intro k hk
      have : w1.heap.size = k := by simpa [Value.ownBlock] using hk
      omega
    · exact (hw1.setCell (fun h => by simp at h; omega) _).alloc _
    · simp only [List.length_singleton]; omega
  case round =>
    obtain ⟨hs, row, hmeas, hR⟩ := hrel
    obtain ⟨r1, r2, r3, r4, r5, r6⟩ := hR.out
    clear hR
    cases row with
    | nil =>
      obtain ⟨A, cp, rfl, _, _⟩ := r2.slice
      have HR := Lib.hid r1; clear r1
      have H3 := Lib.hid r3; clear r3
      have H5 := Lib.hid r5; clear r5
      have H2 := Lib.hid r2; clear r2
      have H4 := Lib.hid r4; clear r4
      have H6 := Lib.hid r6; clear r6
      go_wp2
      go_ret2
      go_light
      exact ⟨_, _, rfl, .inl ⟨hs, HR.out.done, ⟨gr, by rw [HR.out.len]; rfl, H3.out, by rw [HR.out.len]; exact l2⟩, rfl⟩, H5.out.ex⟩
    | cons pc rest =>
      obtain ⟨g, og, cp, rfl, q1, q2, q3, q4⟩ := r2.form (by simp)
      obtain ⟨h0, hpc, h0n⟩ := r1.rows pc (by simp)
      have hpl : pc < f.code.length := by rw [← r1.len]; exact (List.getElem?_eq_some_iff.1 hpc).1
      obtain ⟨hlo, hhi⟩ := r1.lo pc h0 hpc
      have hreach := r1.sound pc h0 hpc h0n
      have hcell0 : wr.cell? ⟨gr, pc, none⟩ = some (.int .i64 h0) := intHeap_cell r3 hpc
      have hc0 : wr.cell? ⟨g, og, none⟩ = some (.int .i64 pc) := q3 0 _ rfl
      have e1' := r5.cell e1
      have e2' := r5.cell e2
      have e3' := r5.cell e3
      obtain ⟨c1, c2⟩ := hat pc hpl
      have c1' := r5.cell c1
      have c2' := r5.cell c2
      have hcall : f.code[pc].kind = 14 → 0 ≤ f.code[pc].a ∧ f.code[pc].a < p.length := fun hk => outside_call (HPL.out.range pc _ hreach (get_some hpl)) (codeMay_may hm (get_some hpl)) hk
      have HCALL := Lib.hid hcall; clear hcall
      have HPr := Lib.hid (HP.out.ext r5)
      have HR := Lib.hid r1; clear r1
      have H3 := Lib.hid r3; clear r3
      have H5 := Lib.hid r5; clear r5
      have H2 := Lib.hid r2; clear r2
      have H4 := Lib.hid r4; clear r4
      have H6 := Lib.hid r6; clear r6
      have HQ := Lib.hid q4; clear q4 q3
      have Hpc := Lib.hid hpc; clear hpc
      have HH0 := Lib.hid h0n; clear h0n
      have HREA := Lib.hid hreach; clear hreach
      go_wp2
      (refine wp_region_ext (by kernel_rfl) (by kernel_rfl) ?_; (repeat (go_big_quiet_step (first | exact Calls_ext (args_calls p1 p2 p f.code[pc] _ (HPr.out.ext (mod_mods _ _ _)) HCALL.out) | exact Calls_ext (insEffect_calls _ _ _ _)))); refine wpQuiet_nil ?_; rintro _ ⟨xq, rfl⟩)
      obtain ⟨t1, t2, t3, t4⟩ := effect_range f.code[pc].kind f.code[pc].a (callArgs p f.code[pc])
      have HT : Hid (takes p f.code[pc] = (effectF f.code[pc].kind f.code[pc].a (callArgs p f.code[pc])).1) := rfl
      have HPu : Hid (puts p f.code[pc] = (effectF f.code[pc].kind f.code[pc].a (callArgs p f.code[pc])).2.1) := rfl
      generalize (effectF f.code[pc].kind f.code[pc].a (callArgs p f.code[pc])).1 = T at *
      generalize (effectF f.code[pc].kind f.code[pc].a (callArgs p f.code[pc])).2.1 = U at *
      have hmt := codeMay_may hm (get_some hpl)
      have HE : ∀ h : Int, h - T + U = h - takes p f.code[pc] + puts p f.code[pc] := fun h => by rw [HT.out, HPu.out]
      have HE' := Lib.hid HE; clear HE
      rcases dec_cases (h0 < T) with ⟨d1, d1d⟩ | ⟨d1, d1d⟩
      · go_wp2
        go_ret2
        go_light
        refine ⟨_, _, rfl, .inr ⟨HR.out.fail1 (get_some hpl) Hpc.out HH0.out (fun hh => by have := hh.1; rw [HT.out] at this; omega), rfl, fault_new (by omega)⟩, Mods.ex (((H5.out.ext _).alloc _))⟩
      rcases dec_cases (8 < h0 - T + U) with ⟨d2, d2d⟩ | ⟨d2, d2d⟩
      · go_wp2
        go_ret2
        go_light
        refine ⟨_, _, rfl, .inr ⟨HR.out.fail1 (get_some hpl) Hpc.out HH0.out (fun hh => by have := hh.2; rw [← HE'.out] at this; omega), rfl, fault_new (by omega)⟩, Mods.ex (((H5.out.ext _).alloc _))⟩
      go_wp2_with (go_at_call 76; refine (flowNext_calls f _ pc _ ?_ hm hpl).mono ?_; (exact HC.out.ext insR_grows (H5.out.ext _)); rintro e w2 ⟨u, rfl, hu, x2, hx2⟩; obtain ⟨Au, cu, rfl, hu1, hu2⟩ := hu.form; have HU := Lib.hid hu; clear hu; have HX := Lib.hid hx2; clear hx2)
      have hwq : Mods [] wr w2 := ((Mods.refl [] wr).ext _).trans (mods_of HX.out)
      clear HX
      have HU2 : Hid (UAt wr.heap.size w2.heap.size Au (nextI f.code[pc] pc f.code.length) w2) := UAt.start (HU.out.low (mod_size _ _ _))
      clear HU
      have hnx : ∀ (i : Nat) (x : Int), (nextI f.code[pc] pc f.code.length)[i]? = some x → 0 ≤ x ∧ x < f.code.length := fun i x hx => codeMay_next hm (get_some hpl) (List.mem_of_getElem? hx)
      have hmem : ∀ (i : Nat) (x : Int), (nextI f.code[pc] pc f.code.length)[i]? = some x → x ∈ nextI f.code[pc] pc f.code.length := fun i x hx => List.mem_of_getElem? hx
      have hmk2 : ∀ (to : Nat) (hs : List Int) (R : List Nat), (to : Int) ∈ nextI f.code[pc] pc f.code.length → hs[pc]? = some h0 → hs[to]? = some (-1) → HI p f hs (pc :: R) → HI p f (hs.set to (h0 - T + U)) (pc :: R ++ [to]) := fun to hs R h1 h2 h3 h4 => h4.mark (get_some hpl) h2 HH0.out (HE'.out h0) (by omega) (by omega) h1 h3
      have hfl2 : ∀ (to : Nat) (hs : List Int) (R : List Nat) (x : Int), (to : Int) ∈ nextI f.code[pc] pc f.code.length → hs[pc]? = some h0 → hs[to]? = some x → x ≠ -1 → x ≠ h0 - T + U → HI p f hs (pc :: R) → NoHeights p f := fun to hs R x h1 h2 h3 h4 h5 h6 => h6.fail2 (get_some hpl) h2 HH0.out h1 h3 h4 (by rw [← HE'.out]; exact h5)
      have hpop : ∀ (hs : List Int) (R : List Nat), HI p f hs (pc :: R) → hs[pc]? = some h0 → (∀ (i : Nat) (x : Int), i < (nextI f.code[pc] pc f.code.length).length → (nextI f.code[pc] pc f.code.length)[i]? = some x → hs[x.toNat]? = some (h0 - T + U)) → HI p f hs R := fun hs R h1 hp0 h2 => h1.pop hp0 fun i hi => by
        have e : i = f.code[pc] := by rw [get_some hpl] at hi; exact (Option.some.inj hi).symm
        subst e
        refine ⟨by rw [HT.out]; omega, by rw [← HE'.out]; omega, fun to ht => ?_⟩
        obtain ⟨n, hn, hx⟩ := List.getElem_of_mem ht
        have := h2 n _ hn (get_some hn)
        rw [hx] at this
        rw [← HE'.out]
        simpa using this
      have hrec := HR.out
      have HN := Lib.hid hnx
      have HM := Lib.hid hmem
      have HK := Lib.hid hmk2
      have HFL := Lib.hid hfl2
      have HPO := Lib.hid hpop
      clear hnx hmem hmk2 hpop hfl2 hrec
      generalize nextI f.code[pc] pc f.code.length = us at *
      have hhb : 0 ≤ h0 - T + U ∧ h0 - T + U ≤ 8 := by omega
      obtain ⟨hh1, hh2⟩ := hhb
      generalize h0 - T + U = hh at *
      obtain ⟨wo, rfl⟩ : ∃ wo : World, wo = wr := ⟨_, rfl⟩
      go_loopg [7, 89] us.length (fun m v i wi => ∃ k hs R, i = .int .i64 (k : Nat) ∧ k ≤ us.length ∧ Hid (us.length - k ≤ m) ∧ Hid (2 * nNone hs + (R.length + 1) ≤ gk) ∧ Hid (HIn p f w gr wo.heap.size w2.heap.size Au us pc h0 hh hs R k v wi))
      case atStart =>
        refine ⟨0, hs, rest, rfl, by omega, by simp [Hid], by simpa [Hid] using hmeas.out, ⟨HR.out, ?_, ?_, H4.out, H5.out.trans hwq, H6.out⟩, HU2.out, ?_, by omega, Hpc.out, fun i x h => by omega⟩
        · exact H2.out.mods hwq (by simp)
        · exact (hwq.block _ (Array.getElem?_eq_some_iff.1 H3.out).1 (by simp)).trans H3.out
        · exact fun k hk => .inl (H2.out.lt hk)
      case round =>
        obtain ⟨k, hs, R, rfl, hk, hm1, hm2, hI⟩ := hrel
        obtain ⟨⟨r1, r2, r3, r4, r5, r6⟩, iu, ib, is, ip, id⟩ := hI.out
        clear hI
        by_cases hlt : k < us.length
        · obtain ⟨j, hj⟩ : ∃ j : Nat, us[k] = (j : Int) := ⟨us[k].toNat, by have := (HN.out k _ (get_some hlt)).1; omega⟩
          have hjl : j < f.code.length := by have := (HN.out k _ (get_some hlt)).2; omega
          obtain ⟨bu, ou, hA, _, _, hcu⟩ := iu k _ (get_some hlt)
          rw [hj] at hcu
          have HJ := Lib.hid hj; clear hj
          have HIU := Lib.hid iu; clear iu
          subst hA
          have hbs : ∃ bv, hs[j]? = some bv := ⟨hs[j]'(by rw [r1.len]; exact hjl), get_some _⟩
          obtain ⟨x, hbv⟩ := hbs
          have hout := intHeap_cell r3 hbv
          have hfz := boolHeap_frozen r3 j
          obtain ⟨Av, cv, rfl, _, _⟩ := r2.slice
          have HR1 := Lib.hid r1; clear r1
          have HR2 := Lib.hid r2; clear r2
          have HR3 := Lib.hid r3; clear r3
          have HR4 := Lib.hid r4; clear r4
          have HR5 := Lib.hid r5; clear r5
          have HR6 := Lib.hid r6
          have hn17 : R.length + 1 + 1 ≤ 17592186044416 := by simp at r6; omega
          clear r6
          have HID := Lib.hid id; clear id
          have HIB := Lib.hid ib; clear ib
          have HIP := Lib.hid ip; clear ip
          have HBV := Lib.hid hbv; clear hbv
          by_cases hx1 : x = -1
          · subst hx1
            go_wp2_with (at_builtin; refine wpList_append_int _ rfl _ _ rfl _ (R.length + 1) (natV (pc :: R)) rfl ?_ _ _ (j : Int) rfl ?_ ?_ ?_; (exact HR2.out.mods (((Mods.refl [gr] wr).setCell (by simp) _).alloc _) (fun k hk => by have := HR4.out k hk; simp; omega)); (go_simp); (exact hn17); (intro v' w3 hown3 hg3 hat3; have HO3 := Lib.hid hown3; have HG3 := Lib.hid hg3; have HA3 := Lib.hid hat3; clear hown3 hg3 hat3))
            go_roundg (us.length - (k + 1))
            case measure => have := hm1.out; omega
            case rel =>
              go_light
              have hgo : gr < wr.heap.size := (Array.getElem?_eq_some_iff.1 HR3.out).1
              have hnf := nNone_set (h := hh) HBV.out (by omega)
              have hx := HM.out k _ (get_some hlt)
              rw [HJ.out] at hx
              have hpj : pc ≠ j := fun e => by
                have h1 := HIP.out
                rw [e, HBV.out] at h1
                exact HH0.out (Option.some.inj h1).symm
              have hMm : Mods [gr] wr ((wr.setCell ⟨gr, j, none⟩ (.int .i64 hh)).alloc (.cells #[.int .i64 j] 3)) := ((Mods.refl [gr] wr).setCell (by simp) _).alloc _
              have hsz : ((wr.setCell ⟨gr, j, none⟩ (.int .i64 hh)).alloc (.cells #[.int .i64 (j : Int)] 3)).heap.size = wr.heap.size + 1 := by simp [World.setCell]
              have hne : ∀ k, (Value.slice Av (R.length + 1) cv).ownBlock = some k → gr < k := HR4.out
              have hnew : ∀ k, v'.ownBlock = some k → (Value.slice Av (R.length + 1) cv).ownBlock = some k ∨ k = wr.heap.size + 1 := fun k hk => by
                rcases HA3.out with h | h
                · exact .inl (h ▸ hk)
                · rw [hk] at h
                  have h' := Option.some.inj h
                  exact .inr (h'.trans hsz)
              have hsz3 := HG3.out.size
              rw [hsz] at hsz3
              refine ⟨k + 1, hs.set j hh, R ++ [j], by go_num, by omega, by simp [Hid], ?_, ⟨HK.out j hs R hx HIP.out HBV.out HR1.out, ?_, ?_, ?_, ?_, ?_⟩, ?_, ?_, by omega, ?_, fun i x hi hx' => ?_⟩
              · have := hm2.out; unfold Hid; simp; omega
              · have := HO3.out; simpa [natV] using this
              · refine (HG3.out.block _ (by rw [hsz]; omega) (fun h => ?_)).trans ?_
                · have := hne _ h.symm; omega
                · refine (Below.heap_alloc _ _ _ (by simp [World.setCell]; omega)).trans ?_
                  rw [heap_setCell_at HR3.out]
                  refine congrArg (fun l : Array Value => some (Obj.cells l 3 (0, 0))) ?_
                  simp [intV, List.map_set]
              · intro k hk
                rcases hnew k hk with h | h
                · exact hne k h
                · omega
              · exact (((HR5.out.setCell (fun h => by simp at h; omega) _).alloc _).grown HG3.out (fun k hk hlt => by have := hne k hk; omega))
              · have := HR6.out; simp at this ⊢; omega
              · refine (HIU.out.step hMm (fun k hk => ?_)).step (w' := w3) (S := ((Value.slice Av (R.length + 1) cv).ownBlock).toList) ((Mods.refl _ _).grown HG3.out (fun k hk _ => by have hk' : (Value.slice Av (R.length + 1) cv).ownBlock = some k := hk; simp [hk'])) (fun k hk => HIB.out k (by simpa using hk))
                obtain rfl := List.mem_singleton.1 hk
                left; exact (Array.getElem?_eq_some_iff.1 H3.out).1
              · intro k hk
                rcases hnew k hk with h | h
                · exact HIB.out k h
                · right; omega
              · rw [List.getElem?_set, if_neg (Ne.symm hpj)]; exact HIP.out
              · rw [List.getElem?_set]
                rcases Nat.lt_or_ge i k with h | h
                · have hb := HID.out i x h hx'
                  split
                  · rename_i e
                    rw [← e, HBV.out] at hb
                    have := Option.some.inj hb
                    omega
                  · exact hb
                · obtain rfl : i = k := by omega
                  rw [get_some hlt] at hx'
                  obtain rfl := Option.some.inj hx'
                  rw [HJ.out]
                  have : j < hs.length := (List.getElem?_eq_some_iff.1 HBV.out).1
                  simp [this]
          · have hx1d : (x == -1) = false := by simp [hx1]
            rcases dec_cases (x = hh) with ⟨hx2, _⟩ | ⟨hx2, _⟩
            · subst hx2
              go_wp2
              go_roundg (us.length - (k + 1))
              case measure => have := hm1.out; omega
              case rel =>
                go_light
                refine ⟨k + 1, hs, R, by go_num, by omega, by simp [Hid], hm2, ⟨HR1.out, HR2.out, HR3.out, HR4.out, HR5.out, HR6.out⟩, HIU.out, HIB.out, is, HIP.out, fun i x hi hx => ?_⟩
                rcases Nat.lt_or_ge i k with h | h
                · exact HID.out i x h hx
                · obtain rfl : i = k := by omega
                  rw [get_some hlt] at hx
                  obtain rfl := Option.some.inj hx
                  rw [HJ.out]; exact HBV.out
            · have hx2d : (x == hh) = false := by simp [hx2]
              go_wp2
              go_ret2
              go_light
              have hx := HM.out k _ (get_some hlt)
              rw [HJ.out] at hx
              exact ⟨_, _, rfl, .inr ⟨HFL.out j hs R x hx HIP.out HBV.out hx1 hx2 HR1.out, rfl, fault_new (by omega)⟩, (HR5.out.alloc _).ex⟩
        · have hke : k = us.length := by omega
          obtain ⟨gv, ov, cv, rfl, v1, v2, v3, v4⟩ := r2.form (by simp)
          have HR1 := Lib.hid r1; clear r1
          have HR2 := Lib.hid r2; clear r2
          have HR3 := Lib.hid r3; clear r3
          have HR4 := Lib.hid r4; clear r4
          have HR5 := Lib.hid r5; clear r5
          have HR6 := Lib.hid r6; clear r6
          have HID := Lib.hid id; clear id
          have HIB := Lib.hid ib; clear ib
          have HIU := Lib.hid iu; clear iu
          have HIP := Lib.hid ip; clear ip
          clear v3 v4
          by_cases hcv : cv = 1
          · subst hcv
            go_wp2
            go_roundg (2 * nNone hs + R.length)
            case measure => have := hm2.out; omega
            case rel =>
              go_light
              exact ⟨hs, R, by unfold Hid; omega, HPO.out hs R HR1.out HIP.out (fun i x hi hx => HID.out i x (by omega) hx), HR2.out.tail1, HR3.out, HR4.out, HR5.out, by have := HR6.out; simp at this; omega⟩
          · go_wp2
            go_roundg (2 * nNone hs + R.length)
            case measure => have := hm2.out; omega
            case rel =>
              go_light
              exact ⟨hs, R, by unfold Hid; omega, HPO.out hs R HR1.out HIP.out (fun i x hi hx => HID.out i x (by omega) hx), HR2.out.tail, HR3.out, HR4.out, HR5.out, by have := HR6.out; simp at this; omega⟩
end Go.Proofs.YtjpgcokdlopkaaaGreatDoor
