/- Lemmas for a claim of the seat YtjpgcokdlopkaaaGreatDoor. Written in part by programs of the claim's repo. By an AI agent. -/
import Derived.Test.YtjpgcokdlopkaaaGreatDoorG04
import Derived.LaidEql
import Derived.Stop.Asserts
import Derived.RowKitTokens
import Derived.Test.YtjpgcokdlopkaaaGreatDoorG05

/-! errors.As at the targets '**verify.fault' and '*api.Errno' (lines of the worked proof ToyasAs turned to this claim). -/
namespace Go.Proofs.YtjpgcokdlopkaaaGreatDoor
open Go.RowKit Go.Extern.Stop Go.Stop Go.Extern

theorem as_nil (t : Value) (w : World) : Calls Tryz.prog 77 #[.nilIface, t] w fun e w' => e = .returned (.bool false) ∧ w = w' := by
  go_enter Tryz.func77, Tryz.ntmps77
  go_wp2
  go_ret
  exact ⟨rfl, rfl⟩
theorem rlm (z : Sem Value) (f : TypeId → Addr → Nat → Nat → Sem Value) (v : Value) :
    ReflectliteValue.method z f #[v] = (do match ← ReflectliteValue.parts v with | none => z | some (t, a, fl) => f t a fl (fl % 32)) := rfl
theorem rls (v x : Value) : ReflectliteValue.set #[v, x] = (do
    let (some (dst, a, fl), some (src, b, _)) := (← ReflectliteValue.parts v, ← ReflectliteValue.parts x)
      | unsupported (.noEntry "extern/(internal/reflectlite.Value).Set.zeroValue")
    if fl / ReflectliteValue.flagAddr % 2 == 0 then unsupported (.noEntry "extern/(internal/reflectlite.Value).Set.unaddressable")
    let val ← loadVar src b
    if ← Rtype.directlyAssignable dst src then storeVar dst a val
    else if ← Rtype.implements dst src then
      if (← Rtype.kind src) == 20 then
        match val with
        | .nilIface => unsupported (.noEntry "extern/reflectlite: a nil value of one interface type handed on as a value of another")
        | _ => storeVar dst a val
      else storeVar dst a (.iface src val)
    else panicString ("reflectlite.Set: value of type " ++ (← Rtype.spelt src) ++ " is not assignable to type " ++ (← Rtype.spelt dst))
    pure (.tuple #[])) := rfl

theorem methodKind (h : Value) (w : World) : (Go.method 298 156 (.agg #[h]) "Kind").run Tryz.prog w = .ok (108, h) w := by kernel_rfl
theorem methodElem (h : Value) (w : World) : (Go.method 298 156 (.agg #[h]) "Elem").run Tryz.prog w = .ok (120, .agg #[h]) w := by kernel_rfl
theorem methodImplements (h : Value) (w : World) : (Go.method 298 156 (.agg #[h]) "Implements").run Tryz.prog w = .ok (121, .agg #[h]) w := by kernel_rfl
theorem methodAssignableTo (h : Value) (w : World) : (Go.method 298 156 (.agg #[h]) "AssignableTo").run Tryz.prog w = .ok (118, .agg #[h]) w := by kernel_rfl
theorem methodUnwrap (e : Addr) (w : World) : (Go.method 298 120 (.pointer (some e)) "Unwrap").run Tryz.prog w = .ok (113, .pointer (some e)) w := by kernel_rfl
theorem assignNo (w : World) : (ReflectliteType.relation "AssignableTo" ReflectliteType.assignableTo #[.agg #[.pointer (some ⟨1, 120, none⟩)], .iface 156 (.agg #[.pointer (some ⟨1, 30, none⟩)])]).run Tryz.prog w = .ok (.bool false) w := by kernel_rfl

theorem valuePF (t : Addr) (w : World) : (ReflectliteValue.unpack (.iface 130 (.pointer (some t)))).run Tryz.prog w
    = .ok (.agg #[.pointer (some ⟨1, 130, none⟩), .pointer (some ⟨w.heap.size, 0, none⟩), .int .u64 150]) (w.alloc (.cells #[.pointer (some t)] 130)) := by kernel_rfl
theorem typePF (a : Addr) (w : World) : (ReflectliteValue.methodAny (ReflectliteValue.valueError "reflectlite.Value.Type" 0) (fun t _ _ _ => ReflectliteType.toType t) #[.agg #[.pointer (some ⟨1, 130, none⟩), .pointer (some a), .int .u64 150]]).run Tryz.prog w
    = .ok (.iface 156 (.agg #[.pointer (some ⟨1, 130, none⟩)])) w := by kernel_rfl
theorem kindPF (w : World) : ((ReflectliteType.abiMethod fun t => (fun a : Nat => Value.int IntKind.u8 (a : Int)) <$> Rtype.kind t) #[.pointer (some ⟨1, 130, none⟩)]).run Tryz.prog w = .ok (.int .u8 22) w := by kernel_rfl
theorem kindEF (w : World) : ((ReflectliteType.abiMethod fun t => (fun a : Nat => Value.int IntKind.u8 (a : Int)) <$> Rtype.kind t) #[.pointer (some ⟨1, 120, none⟩)]).run Tryz.prog w = .ok (.int .u8 22) w := by kernel_rfl
theorem partsPF (a : Addr) (w : World) : (ReflectliteValue.parts (.agg #[.pointer (some ⟨1, 130, none⟩), .pointer (some a), .int .u64 150])).run Tryz.prog w = .ok (some (130, a, 150)) w := by kernel_rfl
theorem isNilPF (a p : Addr) (W : World) (ha : W.cell? a = some (.pointer (some p))) :
    (ReflectliteValue.method (ReflectliteValue.valueError "reflectlite.Value.IsNil" 0) ReflectliteValue.isNil #[.agg #[.pointer (some ⟨1, 130, none⟩), .pointer (some a), .int .u64 150]]).run Tryz.prog W = .ok (.bool false) W := by
  rw [rlm]
  simp only [Sem.run_bind, partsPF, Result.andThen]
  simp [ReflectliteValue.isNil, loadVar, isAgg, underlying, Tryz.underlying130, ha, Result.andThen]
theorem elemTF (w : World) : (ReflectliteType.method ReflectliteType.elem #[.agg #[.pointer (some ⟨1, 130, none⟩)]]).run Tryz.prog w = .ok (.iface 156 (.agg #[.pointer (some ⟨1, 120, none⟩)])) w := by kernel_rfl
theorem implEF (w : World) : (ReflectliteType.relation "Implements" ReflectliteType.implements_ #[.agg #[.pointer (some ⟨1, 120, none⟩)], .iface 156 (.agg #[.pointer (some ⟨1, 103, none⟩)])]).run Tryz.prog w = .ok (.bool true) w := by kernel_rfl
theorem typeOfF (v : Value) (w : World) : (ReflectliteType.typeOf #[.iface 120 v]).run Tryz.prog w = .ok (.iface 156 (.agg #[.pointer (some ⟨1, 120, none⟩)])) w := by kernel_rfl
theorem assignF (w : World) : (ReflectliteType.relation "AssignableTo" ReflectliteType.assignableTo #[.agg #[.pointer (some ⟨1, 120, none⟩)], .iface 156 (.agg #[.pointer (some ⟨1, 120, none⟩)])]).run Tryz.prog w = .ok (.bool true) w := by kernel_rfl
theorem valueEF (e : Addr) (w : World) : (ReflectliteValue.unpack (.iface 120 (.pointer (some e)))).run Tryz.prog w
    = .ok (.agg #[.pointer (some ⟨1, 120, none⟩), .pointer (some ⟨w.heap.size, 0, none⟩), .int .u64 150]) (w.alloc (.cells #[.pointer (some e)] 120)) := by kernel_rfl
theorem elemOfF (w : World) : (Rtype.elem? 130).run Tryz.prog w = .ok (some 120) w := by kernel_rfl
theorem mkEF (p : Addr) (w : World) : (ReflectliteValue.mk 120 p ReflectliteValue.flagAddr).run Tryz.prog w = .ok (.agg #[.pointer (some ⟨1, 120, none⟩), .pointer (some p), .int .u64 406]) w := by kernel_rfl
theorem elemVF (a p : Addr) (W : World) (ha : W.cell? a = some (.pointer (some p))) :
    (ReflectliteValue.method (ReflectliteValue.valueError "reflectlite.Value.Elem" 0) ReflectliteValue.elem #[.agg #[.pointer (some ⟨1, 130, none⟩), .pointer (some a), .int .u64 150]]).run Tryz.prog W
      = .ok (.agg #[.pointer (some ⟨1, 120, none⟩), .pointer (some p), .int .u64 406]) W := by
  rw [rlm]
  simp only [Sem.run_bind, partsPF, Result.andThen]
  simp [ReflectliteValue.elem, loadVar, isAgg, underlying, Tryz.underlying130, ha, Result.andThen, elemOfF, mkEF]
theorem partsAF (a : Addr) (w : World) : (ReflectliteValue.parts (.agg #[.pointer (some ⟨1, 120, none⟩), .pointer (some a), .int .u64 406])).run Tryz.prog w = .ok (some (120, a, 406)) w := by kernel_rfl
theorem partsEF (a : Addr) (w : World) : (ReflectliteValue.parts (.agg #[.pointer (some ⟨1, 120, none⟩), .pointer (some a), .int .u64 150])).run Tryz.prog w = .ok (some (120, a, 150)) w := by kernel_rfl
theorem directF (w : World) : (Rtype.directlyAssignable 120 120).run Tryz.prog w = .ok true w := by kernel_rfl
theorem setF (ta b : Addr) (e : Addr) (old : Value) (W : World) (hb : W.cell? b = some (.pointer (some e))) (ht : W.cell? ta = some old) (hf : W.frozen? ta = false) :
    (ReflectliteValue.set #[.agg #[.pointer (some ⟨1, 120, none⟩), .pointer (some ta), .int .u64 406], .agg #[.pointer (some ⟨1, 120, none⟩), .pointer (some b), .int .u64 150]]).run Tryz.prog W
      = .ok (.tuple #[]) (W.setCell ta (.pointer (some e))) := by
  rw [rls]
  simp only [Sem.run_bind, partsAF, partsEF, Result.andThen]
  simp [ReflectliteValue.flagAddr, loadVar, isAgg, underlying, Tryz.underlying120, hb, Result.andThen, directF, storeVar, Value.cells, storeCells, Addr.add]
  rw [run_store Tryz.prog W ta _ _ (by rfl)]
  simp [ht, hf]

theorem valuePN (t : Addr) (w : World) : (ReflectliteValue.unpack (.iface 131 (.pointer (some t)))).run Tryz.prog w
    = .ok (.agg #[.pointer (some ⟨1, 131, none⟩), .pointer (some ⟨w.heap.size, 0, none⟩), .int .u64 150]) (w.alloc (.cells #[.pointer (some t)] 131)) := by kernel_rfl
theorem typePN (a : Addr) (w : World) : (ReflectliteValue.methodAny (ReflectliteValue.valueError "reflectlite.Value.Type" 0) (fun t _ _ _ => ReflectliteType.toType t) #[.agg #[.pointer (some ⟨1, 131, none⟩), .pointer (some a), .int .u64 150]]).run Tryz.prog w
    = .ok (.iface 156 (.agg #[.pointer (some ⟨1, 131, none⟩)])) w := by kernel_rfl
theorem kindPN (w : World) : ((ReflectliteType.abiMethod fun t => (fun a : Nat => Value.int IntKind.u8 (a : Int)) <$> Rtype.kind t) #[.pointer (some ⟨1, 131, none⟩)]).run Tryz.prog w = .ok (.int .u8 22) w := by kernel_rfl
theorem kindEN (w : World) : ((ReflectliteType.abiMethod fun t => (fun a : Nat => Value.int IntKind.u8 (a : Int)) <$> Rtype.kind t) #[.pointer (some ⟨1, 30, none⟩)]).run Tryz.prog w = .ok (.int .u8 2) w := by kernel_rfl
theorem partsPN (a : Addr) (w : World) : (ReflectliteValue.parts (.agg #[.pointer (some ⟨1, 131, none⟩), .pointer (some a), .int .u64 150])).run Tryz.prog w = .ok (some (131, a, 150)) w := by kernel_rfl
theorem isNilPN (a p : Addr) (W : World) (ha : W.cell? a = some (.pointer (some p))) :
    (ReflectliteValue.method (ReflectliteValue.valueError "reflectlite.Value.IsNil" 0) ReflectliteValue.isNil #[.agg #[.pointer (some ⟨1, 131, none⟩), .pointer (some a), .int .u64 150]]).run Tryz.prog W = .ok (.bool false) W := by
  rw [rlm]
  simp only [Sem.run_bind, partsPN, Result.andThen]
  simp [ReflectliteValue.isNil, loadVar, isAgg, underlying, Tryz.underlying131, ha, Result.andThen]
theorem elemTN (w : World) : (ReflectliteType.method ReflectliteType.elem #[.agg #[.pointer (some ⟨1, 131, none⟩)]]).run Tryz.prog w = .ok (.iface 156 (.agg #[.pointer (some ⟨1, 30, none⟩)])) w := by kernel_rfl
theorem implEN (w : World) : (ReflectliteType.relation "Implements" ReflectliteType.implements_ #[.agg #[.pointer (some ⟨1, 30, none⟩)], .iface 156 (.agg #[.pointer (some ⟨1, 103, none⟩)])]).run Tryz.prog w = .ok (.bool true) w := by kernel_rfl
theorem typeOfN (v : Value) (w : World) : (ReflectliteType.typeOf #[.iface 30 v]).run Tryz.prog w = .ok (.iface 156 (.agg #[.pointer (some ⟨1, 30, none⟩)])) w := by kernel_rfl
theorem assignN (w : World) : (ReflectliteType.relation "AssignableTo" ReflectliteType.assignableTo #[.agg #[.pointer (some ⟨1, 30, none⟩)], .iface 156 (.agg #[.pointer (some ⟨1, 30, none⟩)])]).run Tryz.prog w = .ok (.bool true) w := by kernel_rfl
theorem valueEN (c : Int) (w : World) : (ReflectliteValue.unpack (.iface 30 (.int .i64 c))).run Tryz.prog w
    = .ok (.agg #[.pointer (some ⟨1, 30, none⟩), .pointer (some ⟨w.heap.size, 0, none⟩), .int .u64 130]) (w.alloc (.cells #[.int .i64 c] 30)) := by kernel_rfl
theorem elemOfN (w : World) : (Rtype.elem? 131).run Tryz.prog w = .ok (some 30) w := by kernel_rfl
theorem mkEN (p : Addr) (w : World) : (ReflectliteValue.mk 30 p ReflectliteValue.flagAddr).run Tryz.prog w = .ok (.agg #[.pointer (some ⟨1, 30, none⟩), .pointer (some p), .int .u64 386]) w := by kernel_rfl
theorem elemVN (a p : Addr) (W : World) (ha : W.cell? a = some (.pointer (some p))) :
    (ReflectliteValue.method (ReflectliteValue.valueError "reflectlite.Value.Elem" 0) ReflectliteValue.elem #[.agg #[.pointer (some ⟨1, 131, none⟩), .pointer (some a), .int .u64 150]]).run Tryz.prog W
      = .ok (.agg #[.pointer (some ⟨1, 30, none⟩), .pointer (some p), .int .u64 386]) W := by
  rw [rlm]
  simp only [Sem.run_bind, partsPN, Result.andThen]
  simp [ReflectliteValue.elem, loadVar, isAgg, underlying, Tryz.underlying131, ha, Result.andThen, elemOfN, mkEN]
theorem partsAN (a : Addr) (w : World) : (ReflectliteValue.parts (.agg #[.pointer (some ⟨1, 30, none⟩), .pointer (some a), .int .u64 386])).run Tryz.prog w = .ok (some (30, a, 386)) w := by kernel_rfl
theorem partsEN (a : Addr) (w : World) : (ReflectliteValue.parts (.agg #[.pointer (some ⟨1, 30, none⟩), .pointer (some a), .int .u64 130])).run Tryz.prog w = .ok (some (30, a, 130)) w := by kernel_rfl
theorem directN (w : World) : (Rtype.directlyAssignable 30 30).run Tryz.prog w = .ok true w := by kernel_rfl
theorem setN (ta b : Addr) (c : Int) (old : Value) (W : World) (hb : W.cell? b = some (.int .i64 c)) (ht : W.cell? ta = some old) (hf : W.frozen? ta = false) :
    (ReflectliteValue.set #[.agg #[.pointer (some ⟨1, 30, none⟩), .pointer (some ta), .int .u64 386], .agg #[.pointer (some ⟨1, 30, none⟩), .pointer (some b), .int .u64 130]]).run Tryz.prog W
      = .ok (.tuple #[]) (W.setCell ta (.int .i64 c)) := by
  rw [rls]
  simp only [Sem.run_bind, partsAN, partsEN, Result.andThen]
  simp [ReflectliteValue.flagAddr, loadVar, isAgg, underlying, Tryz.underlying30, hb, Result.andThen, directN, storeVar, Value.cells, storeCells, Addr.add]
  rw [run_store Tryz.prog W ta _ _ (by rfl)]
  simp [ht, hf]

end Go.Proofs.YtjpgcokdlopkaaaGreatDoor


namespace Go.Proofs.YtjpgcokdlopkaaaGreatDoor
open Go.RowKit Go.Extern.Stop Go.Stop Go.Extern

/-- the library's variable errors.errorType holds what its initialiser lays -/
def EType (w : World) : Prop := w.cell? ⟨0, 0, none⟩ = some (.iface 156 (.agg #[.pointer (some ⟨1, 103, none⟩)]))
theorem EType.ext {w w' : World} (h : EType w) (hw : Mods [] w w') : EType w' := hw.cell h

set_option maxHeartbeats 4000000 in
set_option maxRecDepth 100000 in
theorem as_hitF (t : Addr) (e : Addr) (old : Value) (w : World) (hg : EType w) (ht0 : w.cell? t = some old) (hf0 : w.frozen? t = false) :
    Calls Tryz.prog 77 #[.iface 120 (.pointer (some e)), .iface 130 (.pointer (some t))] w fun ev w' => ev = .returned (.bool true) ∧ Mods [t.block] w w' ∧ w'.cell? t = some (.pointer (some e)) := by
  have h6 := @run_callFunc_extern Tryz.prog 85 _ (fun args => ReflectliteValue.unpack (args.getD 0 (.tuple #[]))) Tryz.func85 (by kernel_rfl) (by kernel_rfl) (by kernel_rfl) (by kernel_rfl)
  have h7 := @run_callFunc_extern Tryz.prog 86 _ (ReflectliteValue.methodAny (ReflectliteValue.valueError "reflectlite.Value.Type" 0) (fun t _ _ _ => ReflectliteType.toType t)) Tryz.func86 (by kernel_rfl) (by kernel_rfl) (by kernel_rfl) (by kernel_rfl)
  have h8 := @run_callFunc_extern Tryz.prog 87 _ (ReflectliteValue.method (ReflectliteValue.valueError "reflectlite.Value.IsNil" 0) ReflectliteValue.isNil) Tryz.func87 (by kernel_rfl) (by kernel_rfl) (by kernel_rfl) (by kernel_rfl)
  have h27 := @run_callFunc_extern Tryz.prog 108 _ (ReflectliteType.abiMethod fun t => do pure (.int .u8 (← Rtype.kind t))) Tryz.func108 (by kernel_rfl) (by kernel_rfl) (by kernel_rfl) (by kernel_rfl)
  have h37 := @run_callFunc_extern Tryz.prog 120 _ (ReflectliteType.method ReflectliteType.elem) Tryz.func120 (by kernel_rfl) (by kernel_rfl) (by kernel_rfl) (by kernel_rfl)
  have h38 := @run_callFunc_extern Tryz.prog 121 _ (ReflectliteType.relation "Implements" ReflectliteType.implements_) Tryz.func121 (by kernel_rfl) (by kernel_rfl) (by kernel_rfl) (by kernel_rfl)
  have h10 := @run_callFunc_extern Tryz.prog 91 _ (ReflectliteType.typeOf) Tryz.func91 (by kernel_rfl) (by kernel_rfl) (by kernel_rfl) (by kernel_rfl)
  have h35 := @run_callFunc_extern Tryz.prog 118 _ (ReflectliteType.relation "AssignableTo" ReflectliteType.assignableTo) Tryz.func118 (by kernel_rfl) (by kernel_rfl) (by kernel_rfl) (by kernel_rfl)
  have h11 := @run_callFunc_extern Tryz.prog 92 _ (ReflectliteValue.method (ReflectliteValue.valueError "reflectlite.Value.Elem" 0) ReflectliteValue.elem) Tryz.func92 (by kernel_rfl) (by kernel_rfl) (by kernel_rfl) (by kernel_rfl)
  have h12 := @run_callFunc_extern Tryz.prog 93 _ (ReflectliteValue.set) Tryz.func93 (by kernel_rfl) (by kernel_rfl) (by kernel_rfl) (by kernel_rfl)
  have tO := typeOfF
  have mA := methodAssignableTo
  have a25 := assignF
  have v25 := valueEF
  have f6 := valuePF
  have f7 := typePF
  have mK := methodKind
  have mE := methodElem
  have mI := methodImplements
  have k27 := kindPF
  have k25 := kindEF
  have e27 := elemTF
  have i25 := implEF
  have n8 := isNilPF ⟨w.heap.size, 0, none⟩ t ((w.alloc (.cells #[.pointer (some t)] 130)).alloc (.cells #[.pointer (some ⟨1, 130, none⟩), .pointer (some ⟨w.heap.size, 0, none⟩), .int .u64 150] 140)) (by simp)
  unfold EType at hg
  have hlt : 0 < w.heap.size := cell_lt (a := ⟨0, 0, none⟩) (by rw [hg]; rfl)
  have hg2 : ((w.alloc (.cells #[.pointer (some t)] 130)).alloc (.cells #[.pointer (some ⟨1, 130, none⟩), .pointer (some ⟨w.heap.size, 0, none⟩), .int .u64 150] 140)).cell? ⟨0, 0, none⟩ = some (.iface 156 (.agg #[.pointer (some ⟨1, 103, none⟩)])) := by
    rw [World.cell?_alloc_lt _ _ ⟨0, 0, none⟩ (by simp), World.cell?_alloc_lt _ _ ⟨0, 0, none⟩ hlt]; exact hg
  have htl : t.block < w.heap.size := cell_lt (by rw [ht0]; rfl)
  have el := elemVF ⟨w.heap.size, 0, none⟩ t (((w.alloc (.cells #[.pointer (some t)] 130)).alloc (.cells #[.pointer (some ⟨1, 130, none⟩), .pointer (some ⟨w.heap.size, 0, none⟩), .int .u64 150] 140)).alloc (.cells #[.pointer (some ⟨1, 130, none⟩), .pointer (some ⟨w.heap.size, 0, none⟩), .int .u64 150] 140)) (by rw [World.cell?_alloc_lt _ _ ⟨w.heap.size, 0, none⟩ (by simp; omega)]; simp)
  have htw : ((((w.alloc (.cells #[.pointer (some t)] 130)).alloc (.cells #[.pointer (some ⟨1, 130, none⟩), .pointer (some ⟨w.heap.size, 0, none⟩), .int .u64 150] 140)).alloc (.cells #[.pointer (some ⟨1, 130, none⟩), .pointer (some ⟨w.heap.size, 0, none⟩), .int .u64 150] 140)).alloc (.cells #[.pointer (some e)] 120)).cell? t = some old := by rw [World.cell?_alloc_lt _ _ t (by simp; omega), World.cell?_alloc_lt _ _ t (by simp; omega), World.cell?_alloc_lt _ _ t (by simp; omega), World.cell?_alloc_lt _ _ t htl]; exact ht0
  have st := setF t ⟨w.heap.size + 1 + 1 + 1, 0, none⟩ e old ((((w.alloc (.cells #[.pointer (some t)] 130)).alloc (.cells #[.pointer (some ⟨1, 130, none⟩), .pointer (some ⟨w.heap.size, 0, none⟩), .int .u64 150] 140)).alloc (.cells #[.pointer (some ⟨1, 130, none⟩), .pointer (some ⟨w.heap.size, 0, none⟩), .int .u64 150] 140)).alloc (.cells #[.pointer (some e)] 120))
    (by rw [World.cell?_alloc_at _ _ _ _ (by simp)]; rfl) htw
    (by rw [World.frozen?_alloc_old _ _ t (by simp; omega), World.frozen?_alloc_old _ _ t (by simp; omega), World.frozen?_alloc_old _ _ t (by simp; omega), World.frozen?_alloc_old _ _ t (Nat.ne_of_lt htl)]; exact hf0)
  have HTW := Lib.hid htw
  clear htw
  go_enter Tryz.func77, Tryz.ntmps77
  go_wp2
  refine wp_loop_rounds 1 ?_
  rw [rounds_succ]
  go_wp2
  go_ret
  exact ⟨rfl, ((((((Mods.refl [t.block] w).alloc _).alloc _).alloc _).alloc _).setCell (by simp) _), World.cell?_setCell_same' _ _ _ (by rw [HTW.out]; rfl)⟩

end Go.Proofs.YtjpgcokdlopkaaaGreatDoor


namespace Go.Proofs.YtjpgcokdlopkaaaGreatDoor
open Go.RowKit Go.Extern.Stop Go.Stop Go.Extern
theorem assertAs (e : Addr) (W : World) : (Instr.typeAssert (.iface 120 (.pointer (some e))) 103 161 true).run Tryz.prog W = .ok (.tuple #[.nilIface, .bool false]) W := run_typeAssert_lacksB Tryz.underlying161 (by kernel_rfl) (by kernel_rfl) _ _ W
theorem assertUnwrap (e : Addr) (W : World) : (Instr.typeAssert (.iface 120 (.pointer (some e))) 103 164 true).run Tryz.prog W = .ok (.tuple #[.iface 120 (.pointer (some e)), .bool true]) W := run_typeAssert_hasB Tryz.underlying164 (by kernel_rfl) _ _ W

set_option maxHeartbeats 4000000 in
set_option maxRecDepth 100000 in
theorem as_hitN (t : Addr) (g : Nat) (c : Int) (old : Value) (w : World) (hg : EType w) (ht0 : w.cell? t = some old) (hf0 : w.frozen? t = false) (he : w.cell? ⟨g, 1, none⟩ = some (.iface 30 (.int .i64 c))) :
    Calls Tryz.prog 77 #[.iface 120 (.pointer (some ⟨g, 0, none⟩)), .iface 131 (.pointer (some t))] w fun ev w' => ev = .returned (.bool true) ∧ Mods [t.block] w w' ∧ w'.cell? t = some (.int .i64 c) := by
  have h6 := @run_callFunc_extern Tryz.prog 85 _ (fun args => ReflectliteValue.unpack (args.getD 0 (.tuple #[]))) Tryz.func85 (by kernel_rfl) (by kernel_rfl) (by kernel_rfl) (by kernel_rfl)
  have h7 := @run_callFunc_extern Tryz.prog 86 _ (ReflectliteValue.methodAny (ReflectliteValue.valueError "reflectlite.Value.Type" 0) (fun t _ _ _ => ReflectliteType.toType t)) Tryz.func86 (by kernel_rfl) (by kernel_rfl) (by kernel_rfl) (by kernel_rfl)
  have h8 := @run_callFunc_extern Tryz.prog 87 _ (ReflectliteValue.method (ReflectliteValue.valueError "reflectlite.Value.IsNil" 0) ReflectliteValue.isNil) Tryz.func87 (by kernel_rfl) (by kernel_rfl) (by kernel_rfl) (by kernel_rfl)
  have h27 := @run_callFunc_extern Tryz.prog 108 _ (ReflectliteType.abiMethod fun t => do pure (.int .u8 (← Rtype.kind t))) Tryz.func108 (by kernel_rfl) (by kernel_rfl) (by kernel_rfl) (by kernel_rfl)
  have h37 := @run_callFunc_extern Tryz.prog 120 _ (ReflectliteType.method ReflectliteType.elem) Tryz.func120 (by kernel_rfl) (by kernel_rfl) (by kernel_rfl) (by kernel_rfl)
  have h38 := @run_callFunc_extern Tryz.prog 121 _ (ReflectliteType.relation "Implements" ReflectliteType.implements_) Tryz.func121 (by kernel_rfl) (by kernel_rfl) (by kernel_rfl) (by kernel_rfl)
  have h10 := @run_callFunc_extern Tryz.prog 91 _ (ReflectliteType.typeOf) Tryz.func91 (by kernel_rfl) (by kernel_rfl) (by kernel_rfl) (by kernel_rfl)
  have h35 := @run_callFunc_extern Tryz.prog 118 _ (ReflectliteType.relation "AssignableTo" ReflectliteType.assignableTo) Tryz.func118 (by kernel_rfl) (by kernel_rfl) (by kernel_rfl) (by kernel_rfl)
  have h11 := @run_callFunc_extern Tryz.prog 92 _ (ReflectliteValue.method (ReflectliteValue.valueError "reflectlite.Value.Elem" 0) ReflectliteValue.elem) Tryz.func92 (by kernel_rfl) (by kernel_rfl) (by kernel_rfl) (by kernel_rfl)
  have h12 := @run_callFunc_extern Tryz.prog 93 _ (ReflectliteValue.set) Tryz.func93 (by kernel_rfl) (by kernel_rfl) (by kernel_rfl) (by kernel_rfl)
  have tO := typeOfN
  have mA := methodAssignableTo
  have a25 := assignN
  have v25 := valueEN
  have f6 := valuePN
  have f7 := typePN
  have mK := methodKind
  have mE := methodElem
  have mI := methodImplements
  have k27 := kindPN
  have k25 := kindEN
  have e27 := elemTN
  have i25 := implEN
  have tF := typeOfF
  have aN := assignNo
  have mU := methodUnwrap
  have ta1 := assertAs
  have ta2 := assertUnwrap
  have n8 := isNilPN ⟨w.heap.size, 0, none⟩ t ((w.alloc (.cells #[.pointer (some t)] 131)).alloc (.cells #[.pointer (some ⟨1, 131, none⟩), .pointer (some ⟨w.heap.size, 0, none⟩), .int .u64 150] 140)) (by simp)
  unfold EType at hg
  have hlt : 0 < w.heap.size := cell_lt (a := ⟨0, 0, none⟩) (by rw [hg]; rfl)
  have hg2 : ((w.alloc (.cells #[.pointer (some t)] 131)).alloc (.cells #[.pointer (some ⟨1, 131, none⟩), .pointer (some ⟨w.heap.size, 0, none⟩), .int .u64 150] 140)).cell? ⟨0, 0, none⟩ = some (.iface 156 (.agg #[.pointer (some ⟨1, 103, none⟩)])) := by
    rw [World.cell?_alloc_lt _ _ ⟨0, 0, none⟩ (by simp), World.cell?_alloc_lt _ _ ⟨0, 0, none⟩ hlt]; exact hg
  have htl : t.block < w.heap.size := cell_lt (by rw [ht0]; rfl)
  have el := elemVN ⟨w.heap.size, 0, none⟩ t (((w.alloc (.cells #[.pointer (some t)] 131)).alloc (.cells #[.pointer (some ⟨1, 131, none⟩), .pointer (some ⟨w.heap.size, 0, none⟩), .int .u64 150] 140)).alloc (.cells #[.pointer (some ⟨1, 131, none⟩), .pointer (some ⟨w.heap.size, 0, none⟩), .int .u64 150] 140)) (by rw [World.cell?_alloc_lt _ _ ⟨w.heap.size, 0, none⟩ (by simp; omega)]; simp)
  have htw : ((((w.alloc (.cells #[.pointer (some t)] 131)).alloc (.cells #[.pointer (some ⟨1, 131, none⟩), .pointer (some ⟨w.heap.size, 0, none⟩), .int .u64 150] 140)).alloc (.cells #[.pointer (some ⟨1, 131, none⟩), .pointer (some ⟨w.heap.size, 0, none⟩), .int .u64 150] 140)).alloc (.cells #[.int .i64 c] 30)).cell? t = some old := by rw [World.cell?_alloc_lt _ _ t (by simp; omega), World.cell?_alloc_lt _ _ t (by simp; omega), World.cell?_alloc_lt _ _ t (by simp; omega), World.cell?_alloc_lt _ _ t htl]; exact ht0
  have st := setN t ⟨w.heap.size + 1 + 1 + 1, 0, none⟩ c old ((((w.alloc (.cells #[.pointer (some t)] 131)).alloc (.cells #[.pointer (some ⟨1, 131, none⟩), .pointer (some ⟨w.heap.size, 0, none⟩), .int .u64 150] 140)).alloc (.cells #[.pointer (some ⟨1, 131, none⟩), .pointer (some ⟨w.heap.size, 0, none⟩), .int .u64 150] 140)).alloc (.cells #[.int .i64 c] 30))
    (by rw [World.cell?_alloc_at _ _ _ _ (by simp)]; rfl) htw
    (by rw [World.frozen?_alloc_old _ _ t (by simp; omega), World.frozen?_alloc_old _ _ t (by simp; omega), World.frozen?_alloc_old _ _ t (by simp; omega), World.frozen?_alloc_old _ _ t (Nat.ne_of_lt htl)]; exact hf0)
  have HTW := Lib.hid htw
  clear htw
  go_enter Tryz.func77, Tryz.ntmps77
  go_wp2
  refine wp_loop_rounds 2 ?_
  rw [rounds_succ]
  go_wp2
  rw [rounds_succ]
  go_wp2
  go_ret
  exact ⟨rfl, ((((((Mods.refl [t.block] w).alloc _).alloc _).alloc _).alloc _).setCell (by simp) _), World.cell?_setCell_same' _ _ _ (by rw [HTW.out]; rfl)⟩

end Go.Proofs.YtjpgcokdlopkaaaGreatDoor


namespace Go.Proofs.YtjpgcokdlopkaaaGreatDoor
open Go.RowKit

theorem Mods.cellS {S : List Nat} {w w' : World} (h : Mods S w w') {a : Addr} {v : Value} (hc : w.cell? a = some v) (hs : a.block ∉ S) : w'.cell? a = some v :=
  (World.cell?_of_block (h.block _ (cell_lt (by rw [hc]; rfl)) hs)).trans hc
theorem Mods.frozenS {S : List Nat} {w w' : World} (h : Mods S w w') {a : Addr} {v : Value} (hc : w.cell? a = some v) (hf : w.frozen? a = false) (hs : a.block ∉ S) : w'.frozen? a = false :=
  (frozen?_of_block (h.block _ (cell_lt (by rw [hc]; rfl)) hs)).trans hf

theorem Mods.over {S : List Nat} {a w w' : World} (h : Mods [] a w) (k : Mods S w w') (hs : ∀ i, i ∈ S → a.heap.size ≤ i) : Mods [] a w' :=
  ⟨k.os.trans h.os, k.tape.trans h.tape, k.output.trans h.output, Nat.le_trans h.size k.size, fun i hi hn => (k.block i (Nat.lt_of_lt_of_le hi h.size) (fun e => by have := hs i e; omega)).trans (h.block i hi hn)⟩
set_option maxHeartbeats 1000000 in
theorem told_nil (w : World) : Calls Tryz.prog 61 #[.nilIface] w fun e w' => e = .returned (.tuple #[.int .i64 0, .int .i64 0]) ∧ ∃ x, w' = w.ext x := by
  go_enter Tryz.func61, Tryz.ntmps61
  go_wp2_with (go_at_call 77; refine (as_nil _ _).mono ?_; rintro e w' ⟨rfl, rfl⟩)
  go_ret2
  exact ⟨rfl, Mods.ex (by repeat (first | exact Mods.refl _ _ | refine Mods.alloc ?_ _ | refine Mods.ext ?_ _ | refine Mods.drew ?_ | refine Mods.drewN ?_ _))⟩

set_option maxHeartbeats 2000000 in
set_option maxRecDepth 100000 in
theorem told_fault (ev : Value) (w : World) (hG : EType w) (hF : FaultAt w ev) : Calls Tryz.prog 61 #[ev] w fun e w' => (∃ pc c : Int, e = .returned (.tuple #[.int .i64 pc, .int .i64 c]) ∧ c ≠ 0) ∧ ∃ x, w' = w.ext x := by
  obtain ⟨g, pc, c, rfl, hc0, hc1, hcn⟩ := hF
  have hgl : g < w.heap.size := cell_lt (a := ⟨g, 0, none⟩) (by rw [hc0]; rfl)
  have hGL := Lib.hid hgl
  have h0l : 0 < w.heap.size := cell_lt (a := ⟨0, 0, none⟩) (by rw [show w.cell? _ = _ from hG]; rfl)
  have HG := Lib.hid hG
  have HN := Lib.hid hcn
  clear hG hcn hgl
  go_enter Tryz.func61, Tryz.ntmps61
  go_wp2_with (first
    | (go_at_call 77; (with_reducible refine (as_hitF ⟨w.heap.size, 0, none⟩ ⟨g, 0, none⟩ (.pointer none) _ (HG.out.ext (by repeat (first | exact Mods.refl _ _ | refine Mods.alloc ?_ _ | refine Mods.ext ?_ _ | refine Mods.drew ?_ | refine Mods.drewN ?_ _))) (by go_simp) (by go_simp)).mono ?_); rintro e w1 ⟨rfl, hM1, hf1⟩; have hE1 : Hid (EType w1) := (hM1.cellS (show World.cell? _ _ = _ from HG.out.ext (by repeat (first | exact Mods.refl _ _ | refine Mods.alloc ?_ _ | refine Mods.ext ?_ _ | refine Mods.drew ?_ | refine Mods.drewN ?_ _))) (by simp; omega)); have hg0 : w1.cell? ⟨g, 0, none⟩ = some (.int .i64 pc) := hM1.cellS (by go_simp) (by have := hGL.out; simp; omega); have hg1 : w1.cell? ⟨g, 1, none⟩ = some (.iface 30 (.int .i64 c)) := hM1.cellS (by go_simp) (by have := hGL.out; simp; omega); have hv1 : w1.cell? ⟨w.heap.size + 1, 0, none⟩ = some (.int .i64 0) := hM1.cellS (by go_simp) (by simp); have hz1 : w1.frozen? ⟨w.heap.size + 1, 0, none⟩ = false := hM1.frozenS (a := ⟨w.heap.size + 1, 0, none⟩) (v := .int .i64 0) (by go_simp) (by go_simp) (by simp); have HM1 := Lib.hid hM1; clear hM1)
    | (go_at_call 77; (with_reducible refine (as_hitN ⟨w.heap.size + 1, 0, none⟩ g c (.int .i64 0) _ hE1.out hv1 hz1 hg1).mono ?_); rintro e w2 ⟨rfl, hM2, hv2⟩; have hf2 : w2.cell? ⟨w.heap.size, 0, none⟩ = some (.pointer (some ⟨g, 0, none⟩)) := hM2.cellS hf1 (by simp); have hg2 : w2.cell? ⟨g, 0, none⟩ = some (.int .i64 pc) := hM2.cellS hg0 (by have := hGL.out; simp; omega); have HM2 := Lib.hid hM2; clear hM2))
  (refine wp_region_ext (by kernel_rfl) (by kernel_rfl) ?_; (repeat (go_big_quiet_step (fail))); refine wpQuiet_nil ?_; rintro _ ⟨xq, rfl⟩)
  go_wp2
  go_ret2
  go_light
  refine ⟨⟨pc, c, rfl, HN.out⟩, Mods.ex ?_⟩
  exact (((((Mods.refl [] w).alloc _).alloc _).over HM1.out (by simp)).over HM2.out (by simp)).ext _
end Go.Proofs.YtjpgcokdlopkaaaGreatDoor


namespace Go.Proofs.YtjpgcokdlopkaaaGreatDoor
open Go.RowKit

theorem plain_yes (p1 p2 f1 f2 : Nat) (p : List Fun) (f : Fun) (u : Value) (bs : List Bool) (w : World) (hp : ProgAt w p1 p2 p) (hf : funR w f1 f2 f) (hu : SlR 1 boolR w u bs) (hbl : bs.length = f.code.length) (hl1 : 1 ≤ f.code.length)
    (hbs : ∀ (pc : Nat) (b : Bool), bs[pc]? = some b → (b = true ↔ Reach f.code pc)) (h : Plain p f) : Calls Tryz.prog 59 #[.pointer (some ⟨p1, p2, none⟩), .pointer (some ⟨f1, f2, none⟩), u] w fun e w' =>
    e = .returned .nilIface ∧ ∃ x, w' = w.ext x :=
  (plain_calls p1 p2 f1 f2 p f u bs w hp hf hu hbl hl1 hbs).mono fun e w' ⟨ev, he, hc, hx⟩ => by
    rcases hc with ⟨_, rfl⟩ | ⟨hn, _⟩
    · exact ⟨he, hx⟩
    · exact absurd h hn
theorem plain_no (p1 p2 f1 f2 : Nat) (p : List Fun) (f : Fun) (u : Value) (bs : List Bool) (w : World) (hp : ProgAt w p1 p2 p) (hf : funR w f1 f2 f) (hu : SlR 1 boolR w u bs) (hbl : bs.length = f.code.length) (hl1 : 1 ≤ f.code.length)
    (hbs : ∀ (pc : Nat) (b : Bool), bs[pc]? = some b → (b = true ↔ Reach f.code pc)) (h : ¬ Plain p f) : Calls Tryz.prog 59 #[.pointer (some ⟨p1, p2, none⟩), .pointer (some ⟨f1, f2, none⟩), u] w fun e w' =>
    ∃ g, e = .returned (.iface 120 (.pointer (some ⟨g, 0, none⟩))) ∧ FaultAt w' (.iface 120 (.pointer (some ⟨g, 0, none⟩))) ∧ ∃ x, w' = w.ext x :=
  (plain_calls p1 p2 f1 f2 p f u bs w hp hf hu hbl hl1 hbs).mono fun e w' ⟨ev, he, hc, hx⟩ => by
    rcases hc with ⟨hn, _⟩ | ⟨_, hf⟩
    · exact absurd hn h
    · have hf2 := hf
      obtain ⟨g, pc, c, rfl, _⟩ := hf2
      exact ⟨g, he, hf, hx⟩
theorem heights_yes (p1 p2 f1 f2 : Nat) (p : List Fun) (f : Fun) (w : World) (hp : ProgAt w p1 p2 p) (hf : funR w f1 f2 f) (hm : codeMay f.code = true) (hpl : Plain p f) (hs : List Int) (h : Heights p f hs) :
    Calls Tryz.prog 60 #[.pointer (some ⟨p1, p2, none⟩), .pointer (some ⟨f1, f2, none⟩)] w fun e w' => ∃ u, e = .returned (.tuple #[u, .nilIface]) ∧ IntsB w' u hs ∧ ∃ x, w' = w.ext x :=
  (heights_calls p1 p2 f1 f2 p f w hp hf hm hpl).mono fun e w' ⟨u, ev, he, hc, hx⟩ => by
    rcases hc with ⟨hs', h', hu, rfl⟩ | ⟨hn, _⟩
    · rw [h'.unique h] at hu
      exact ⟨u, he, hu, hx⟩
    · exact absurd ⟨hs, h⟩ hn
theorem heights_no (p1 p2 f1 f2 : Nat) (p : List Fun) (f : Fun) (w : World) (hp : ProgAt w p1 p2 p) (hf : funR w f1 f2 f) (hm : codeMay f.code = true) (hpl : Plain p f) (h : NoHeights p f) :
    Calls Tryz.prog 60 #[.pointer (some ⟨p1, p2, none⟩), .pointer (some ⟨f1, f2, none⟩)] w fun e w' => ∃ g, e = .returned (.tuple #[.slice none 0 0, .iface 120 (.pointer (some ⟨g, 0, none⟩))]) ∧ FaultAt w' (.iface 120 (.pointer (some ⟨g, 0, none⟩))) ∧ ∃ x, w' = w.ext x :=
  (heights_calls p1 p2 f1 f2 p f w hp hf hm hpl).mono fun e w' ⟨u, ev, he, hc, hx⟩ => by
    rcases hc with ⟨hs', h', _⟩ | ⟨_, rfl, hf⟩
    · exact absurd ⟨hs', h'⟩ h
    · have hf2 := hf
      obtain ⟨g, pc, c, rfl, _⟩ := hf2
      exact ⟨g, he, hf, hx⟩

/-- what verify.Heights comes to at a function of a program that may be packed -/
def HtsPost (p : List Fun) (f : Fun) (w : World) (e : Ending) (w' : World) : Prop :=
  ∃ u pc c, e = .returned (.tuple #[u, .int .i64 pc, .int .i64 c]) ∧ ((c = 0 ∧ Plain p f ∧ ∃ hs, Heights p f hs ∧ IntsB w' u hs) ∨ (c ≠ 0 ∧ ¬ (Plain p f ∧ ∃ hs, Heights p f hs))) ∧ ∃ x, w' = w.ext x

set_option maxHeartbeats 2000000 in
set_option maxRecDepth 100000 in
theorem verifyHeights_calls (v : Value) (p : List Fun) (k : Nat) (f : Fun) (w : World) (hG : EType w) (hv : Funs w v p) (hpk : packs p = true) (hk : p[k]? = some f) :
    Calls Tryz.prog 48 #[.agg #[v], .int .i64 k] w (HtsPost p f w) := by
  have hlt : k < p.length := (List.getElem?_eq_some_iff.1 hk).1
  obtain ⟨_, _, _, _, hm⟩ := packs_args hpk hk
  obtain ⟨l1, l2⟩ := codeMay_lens hm
  obtain ⟨A, c, rfl, k1, k2⟩ := hv.form
  obtain ⟨b, o, rfl, hf⟩ := hv.at_ hk
  have hf2 := hf
  obtain ⟨e1, e2, cv, e3, hc⟩ := hf2
  have HV := Lib.hid hv
  have HF := Lib.hid hf
  have HC := Lib.hid hc
  have HG := Lib.hid hG
  clear hv hf hc hG hk
  by_cases hpl : Plain p f
  · by_cases hh : ∃ hs, Heights p f hs
    · obtain ⟨hs, hh⟩ := hh
      have HPL := Lib.hid hpl
      have HH := Lib.hid hh
      clear hpl hh
      go_enter Tryz.func48, Tryz.ntmps48
      go_wp2_with (first
        | (go_at_call 47; (with_reducible refine (packMay_calls _ _ (.slice (some ⟨b, o, none⟩) p.length c) p _ ?_ ?_).mono ?_); (go_simp); (exact HV.out.ext funR_grows (by repeat (first | exact Mods.refl _ _ | refine Mods.alloc ?_ _ | refine Mods.ext ?_ _ | refine Mods.drew ?_ | refine Mods.drewN ?_ _))); rintro e w' ⟨rfl, x, rfl⟩)
        | (go_at_call 58; (with_reducible refine (flowReached_calls f cv _ ?_ hm).mono ?_); (exact HC.out.ext insR_grows (by repeat (first | exact Mods.refl _ _ | refine Mods.alloc ?_ _ | refine Mods.ext ?_ _ | refine Mods.drew ?_ | refine Mods.drewN ?_ _))); rintro e w' ⟨u, bs, rfl, hbl, hu, hbs, x, rfl⟩; have HU := Lib.hid hu; have HB := Lib.hid hbs; have HBL := Lib.hid hbl; clear hu hbs hbl)
        | (go_at_call 59; (with_reducible refine (plain_yes _ _ _ _ p f _ bs _ ?_ ?_ ?_ HBL.out l1 HB.out HPL.out).mono ?_); (exact ⟨_, by go_simp, HV.out.ext funR_grows (by repeat (first | exact Mods.refl _ _ | refine Mods.alloc ?_ _ | refine Mods.ext ?_ _ | refine Mods.drew ?_ | refine Mods.drewN ?_ _))⟩); (exact funR_grows.ext (by repeat (first | exact Mods.refl _ _ | refine Mods.alloc ?_ _ | refine Mods.ext ?_ _ | refine Mods.drew ?_ | refine Mods.drewN ?_ _)) HF.out); (exact HU.out.ext boolR_grows (by repeat (first | exact Mods.refl _ _ | refine Mods.alloc ?_ _ | refine Mods.ext ?_ _ | refine Mods.drew ?_ | refine Mods.drewN ?_ _))); rintro e w' ⟨rfl, x, rfl⟩)
        | (go_at_call 60; (with_reducible refine (heights_yes _ _ _ _ p f _ ?_ ?_ hm HPL.out hs HH.out).mono ?_); (exact ⟨_, by go_simp, HV.out.ext funR_grows (by repeat (first | exact Mods.refl _ _ | refine Mods.alloc ?_ _ | refine Mods.ext ?_ _ | refine Mods.drew ?_ | refine Mods.drewN ?_ _))⟩); (exact funR_grows.ext (by repeat (first | exact Mods.refl _ _ | refine Mods.alloc ?_ _ | refine Mods.ext ?_ _ | refine Mods.drew ?_ | refine Mods.drewN ?_ _)) HF.out); rintro e w' ⟨u2, rfl, hu2, x, rfl⟩; have HU2 := Lib.hid hu2; clear hu2)
        | (go_at_call 61; (with_reducible refine (told_nil _).mono ?_); rintro e w' ⟨rfl, x, rfl⟩))
      go_ret3
      exact ⟨_, _, _, rfl, .inl ⟨rfl, HPL.out, hs, HH.out, HU2.out.ext (by repeat (first | exact Mods.refl _ _ | refine Mods.alloc ?_ _ | refine Mods.ext ?_ _ | refine Mods.drew ?_ | refine Mods.drewN ?_ _))⟩, Mods.ex (by repeat (first | exact Mods.refl _ _ | refine Mods.alloc ?_ _ | refine Mods.ext ?_ _ | refine Mods.drew ?_ | refine Mods.drewN ?_ _))⟩
    · have HPL := Lib.hid hpl
      have HH := Lib.hid (show NoHeights p f from hh)
      clear hpl
      go_enter Tryz.func48, Tryz.ntmps48
      go_wp2_with (first
        | (go_at_call 47; (with_reducible refine (packMay_calls _ _ (.slice (some ⟨b, o, none⟩) p.length c) p _ ?_ ?_).mono ?_); (go_simp); (exact HV.out.ext funR_grows (by repeat (first | exact Mods.refl _ _ | refine Mods.alloc ?_ _ | refine Mods.ext ?_ _ | refine Mods.drew ?_ | refine Mods.drewN ?_ _))); rintro e w' ⟨rfl, x, rfl⟩)
        | (go_at_call 58; (with_reducible refine (flowReached_calls f cv _ ?_ hm).mono ?_); (exact HC.out.ext insR_grows (by repeat (first | exact Mods.refl _ _ | refine Mods.alloc ?_ _ | refine Mods.ext ?_ _ | refine Mods.drew ?_ | refine Mods.drewN ?_ _))); rintro e w' ⟨u, bs, rfl, hbl, hu, hbs, x, rfl⟩; have HU := Lib.hid hu; have HB := Lib.hid hbs; have HBL := Lib.hid hbl; clear hu hbs hbl)
        | (go_at_call 59; (with_reducible refine (plain_yes _ _ _ _ p f _ bs _ ?_ ?_ ?_ HBL.out l1 HB.out HPL.out).mono ?_); (exact ⟨_, by go_simp, HV.out.ext funR_grows (by repeat (first | exact Mods.refl _ _ | refine Mods.alloc ?_ _ | refine Mods.ext ?_ _ | refine Mods.drew ?_ | refine Mods.drewN ?_ _))⟩); (exact funR_grows.ext (by repeat (first | exact Mods.refl _ _ | refine Mods.alloc ?_ _ | refine Mods.ext ?_ _ | refine Mods.drew ?_ | refine Mods.drewN ?_ _)) HF.out); (exact HU.out.ext boolR_grows (by repeat (first | exact Mods.refl _ _ | refine Mods.alloc ?_ _ | refine Mods.ext ?_ _ | refine Mods.drew ?_ | refine Mods.drewN ?_ _))); rintro e w' ⟨rfl, x, rfl⟩)
        | (go_at_call 60; (with_reducible refine (heights_no _ _ _ _ p f _ ?_ ?_ hm HPL.out HH.out).mono ?_); (exact ⟨_, by go_simp, HV.out.ext funR_grows (by repeat (first | exact Mods.refl _ _ | refine Mods.alloc ?_ _ | refine Mods.ext ?_ _ | refine Mods.drew ?_ | refine Mods.drewN ?_ _))⟩); (exact funR_grows.ext (by repeat (first | exact Mods.refl _ _ | refine Mods.alloc ?_ _ | refine Mods.ext ?_ _ | refine Mods.drew ?_ | refine Mods.drewN ?_ _)) HF.out); rintro e w' ⟨ge, rfl, hfa, x, rfl⟩; have HFA := Lib.hid hfa; clear hfa)
        | (go_at_call 61; (with_reducible refine (told_fault _ _ (HG.out.ext (by repeat (first | exact Mods.refl _ _ | refine Mods.alloc ?_ _ | refine Mods.ext ?_ _ | refine Mods.drew ?_ | refine Mods.drewN ?_ _))) HFA.out).mono ?_); rintro e w' ⟨⟨pc, c3, rfl, hc3⟩, x, rfl⟩; have HC3 := Lib.hid hc3; clear hc3))
      go_ret3
      exact ⟨_, _, _, rfl, .inr ⟨HC3.out, fun h => HH.out h.2⟩, Mods.ex (by repeat (first | exact Mods.refl _ _ | refine Mods.alloc ?_ _ | refine Mods.ext ?_ _ | refine Mods.drew ?_ | refine Mods.drewN ?_ _))⟩
  · have HNP := Lib.hid hpl
    clear hpl
    go_enter Tryz.func48, Tryz.ntmps48
    go_wp2_with (first
      | (go_at_call 47; (with_reducible refine (packMay_calls _ _ (.slice (some ⟨b, o, none⟩) p.length c) p _ ?_ ?_).mono ?_); (go_simp); (exact HV.out.ext funR_grows (by repeat (first | exact Mods.refl _ _ | refine Mods.alloc ?_ _ | refine Mods.ext ?_ _ | refine Mods.drew ?_ | refine Mods.drewN ?_ _))); rintro e w' ⟨rfl, x, rfl⟩)
      | (go_at_call 58; (with_reducible refine (flowReached_calls f cv _ ?_ hm).mono ?_); (exact HC.out.ext insR_grows (by repeat (first | exact Mods.refl _ _ | refine Mods.alloc ?_ _ | refine Mods.ext ?_ _ | refine Mods.drew ?_ | refine Mods.drewN ?_ _))); rintro e w' ⟨u, bs, rfl, hbl, hu, hbs, x, rfl⟩; have HU := Lib.hid hu; have HB := Lib.hid hbs; have HBL := Lib.hid hbl; clear hu hbs hbl)
      | (go_at_call 59; (with_reducible refine (plain_no _ _ _ _ p f _ bs _ ?_ ?_ ?_ HBL.out l1 HB.out HNP.out).mono ?_); (exact ⟨_, by go_simp, HV.out.ext funR_grows (by repeat (first | exact Mods.refl _ _ | refine Mods.alloc ?_ _ | refine Mods.ext ?_ _ | refine Mods.drew ?_ | refine Mods.drewN ?_ _))⟩); (exact funR_grows.ext (by repeat (first | exact Mods.refl _ _ | refine Mods.alloc ?_ _ | refine Mods.ext ?_ _ | refine Mods.drew ?_ | refine Mods.drewN ?_ _)) HF.out); (exact HU.out.ext boolR_grows (by repeat (first | exact Mods.refl _ _ | refine Mods.alloc ?_ _ | refine Mods.ext ?_ _ | refine Mods.drew ?_ | refine Mods.drewN ?_ _))); rintro e w' ⟨ge, rfl, hfa, x, rfl⟩; have HFA := Lib.hid hfa; clear hfa)
      | (go_at_call 61; (with_reducible refine (told_fault _ _ (HG.out.ext (by repeat (first | exact Mods.refl _ _ | refine Mods.alloc ?_ _ | refine Mods.ext ?_ _ | refine Mods.drew ?_ | refine Mods.drewN ?_ _))) HFA.out).mono ?_); rintro e w' ⟨⟨pc, c3, rfl, hc3⟩, x, rfl⟩; have HC3 := Lib.hid hc3; clear hc3))
    go_ret3
    exact ⟨_, _, _, rfl, .inr ⟨HC3.out, fun h => HNP.out h.1⟩, Mods.ex (by repeat (first | exact Mods.refl _ _ | refine Mods.alloc ?_ _ | refine Mods.ext ?_ _ | refine Mods.drew ?_ | refine Mods.drewN ?_ _))⟩
end Go.Proofs.YtjpgcokdlopkaaaGreatDoor
