/- errors.As at a store's Trouble and a target of api.Errno: the closed facts on the model's entries for internal/reflectlite at this program's types; store.Code (after the guide's worked example 'toyas'). -/
import Derived.Test.YtojfmddlalklbaaGreatDoorProg
import Derived.Test.YtojfmddlalklbaaGreatDoorBase
import Derived.WalkKit
import Derived.LaidEql
import Derived.Stop.Asserts
import Derived.RowKitTokens
namespace Go.Proofs.YtojfmddlalklbaaGreatDoor
open Go.RowKit Go.Extern.Stop Go.Stop Go.Extern Go.Proofs

abbrev tPE := 88
abbrev tE := 33
abbrev tTr := 93
abbrev tRt := 158
abbrev tV := 107
theorem c_valueOfPE (t : Addr) (w : World) : (ReflectliteValue.unpack (.iface tPE (.pointer (some t)))).run Tryz.prog w
    = .ok (.agg #[.pointer (some ⟨2, tPE, none⟩), .pointer (some ⟨w.heap.size, 0, none⟩), .int .u64 150]) (w.alloc (.cells #[.pointer (some t)] tPE)) := by kernel_rfl
theorem c_typePE (a : Addr) (w : World) : (ReflectliteValue.methodAny (ReflectliteValue.valueError "reflectlite.Value.Type" 0) (fun t _ _ _ => ReflectliteType.toType t) #[.agg #[.pointer (some ⟨2, tPE, none⟩), .pointer (some a), .int .u64 150]]).run Tryz.prog w
    = .ok (.iface tRt (.agg #[.pointer (some ⟨2, tPE, none⟩)])) w := by kernel_rfl
theorem c_kindPE (w : World) : ((ReflectliteType.abiMethod fun t => (fun a : Nat => Value.int IntKind.u8 (a : Int)) <$> Rtype.kind t) #[.pointer (some ⟨2, tPE, none⟩)]).run Tryz.prog w = .ok (.int .u8 22) w := by kernel_rfl
theorem c_kindE (w : World) : ((ReflectliteType.abiMethod fun t => (fun a : Nat => Value.int IntKind.u8 (a : Int)) <$> Rtype.kind t) #[.pointer (some ⟨2, tE, none⟩)]).run Tryz.prog w = .ok (.int .u8 2) w := by kernel_rfl
theorem rlm (z : Sem Value) (f : TypeId → Addr → Nat → Nat → Sem Value) (v : Value) :
    ReflectliteValue.method z f #[v] = (do match ← ReflectliteValue.parts v with | none => z | some (t, a, fl) => f t a fl (fl % 32)) := rfl
theorem c_partsPE (a : Addr) (w : World) : (ReflectliteValue.parts (.agg #[.pointer (some ⟨2, tPE, none⟩), .pointer (some a), .int .u64 150])).run Tryz.prog w = .ok (some (tPE, a, 150)) w := by kernel_rfl
theorem c_isNilPE (a p : Addr) (W : World) (ha : W.cell? a = some (.pointer (some p))) :
    (ReflectliteValue.method (ReflectliteValue.valueError "reflectlite.Value.IsNil" 0) ReflectliteValue.isNil #[.agg #[.pointer (some ⟨2, tPE, none⟩), .pointer (some a), .int .u64 150]]).run Tryz.prog W = .ok (.bool false) W := by
  rw [rlm]
  simp only [Sem.run_bind, c_partsPE, Result.andThen]
  simp [ReflectliteValue.isNil, loadVar, isAgg, underlying, Tryz.underlying88, ha, Result.andThen]
theorem c_elemPE (w : World) : (ReflectliteType.method ReflectliteType.elem #[.agg #[.pointer (some ⟨2, tPE, none⟩)]]).run Tryz.prog w = .ok (.iface tRt (.agg #[.pointer (some ⟨2, tE, none⟩)])) w := by kernel_rfl
theorem c_implE (w : World) : (ReflectliteType.relation "Implements" ReflectliteType.implements_ #[.agg #[.pointer (some ⟨2, tE, none⟩)], .iface tRt (.agg #[.pointer (some ⟨2, 56, none⟩)])]).run Tryz.prog w = .ok (.bool true) w := by kernel_rfl
theorem c_typeOfTr (v : Value) (w : World) : (ReflectliteType.typeOf #[.iface tTr v]).run Tryz.prog w = .ok (.iface tRt (.agg #[.pointer (some ⟨2, tTr, none⟩)])) w := by kernel_rfl
theorem c_typeOfE (v : Value) (w : World) : (ReflectliteType.typeOf #[.iface tE v]).run Tryz.prog w = .ok (.iface tRt (.agg #[.pointer (some ⟨2, tE, none⟩)])) w := by kernel_rfl
theorem c_assignTr (w : World) : (ReflectliteType.relation "AssignableTo" ReflectliteType.assignableTo #[.agg #[.pointer (some ⟨2, tTr, none⟩)], .iface tRt (.agg #[.pointer (some ⟨2, tE, none⟩)])]).run Tryz.prog w = .ok (.bool false) w := by kernel_rfl
theorem c_assignE (w : World) : (ReflectliteType.relation "AssignableTo" ReflectliteType.assignableTo #[.agg #[.pointer (some ⟨2, tE, none⟩)], .iface tRt (.agg #[.pointer (some ⟨2, tE, none⟩)])]).run Tryz.prog w = .ok (.bool true) w := by kernel_rfl
theorem c_valueOfE (e : Int) (w : World) : (ReflectliteValue.unpack (.iface tE (.int .i64 e))).run Tryz.prog w
    = .ok (.agg #[.pointer (some ⟨2, tE, none⟩), .pointer (some ⟨w.heap.size, 0, none⟩), .int .u64 130]) (w.alloc (.cells #[.int .i64 e] tE)) := by kernel_rfl
theorem c_elemOfPE (w : World) : (Rtype.elem? tPE).run Tryz.prog w = .ok (some tE) w := by kernel_rfl
theorem c_mkE (p : Addr) (w : World) : (ReflectliteValue.mk tE p ReflectliteValue.flagAddr).run Tryz.prog w = .ok (.agg #[.pointer (some ⟨2, tE, none⟩), .pointer (some p), .int .u64 386]) w := by kernel_rfl
theorem c_elemV (a p : Addr) (W : World) (ha : W.cell? a = some (.pointer (some p))) :
    (ReflectliteValue.method (ReflectliteValue.valueError "reflectlite.Value.Elem" 0) ReflectliteValue.elem #[.agg #[.pointer (some ⟨2, tPE, none⟩), .pointer (some a), .int .u64 150]]).run Tryz.prog W
      = .ok (.agg #[.pointer (some ⟨2, tE, none⟩), .pointer (some p), .int .u64 386]) W := by
  rw [rlm]
  simp only [Sem.run_bind, c_partsPE, Result.andThen]
  simp [ReflectliteValue.elem, loadVar, isAgg, underlying, Tryz.underlying88, ha, Result.andThen, c_elemOfPE, c_mkE]
theorem rls (v x : Value) : ReflectliteValue.set #[v, x] = (do
    let (some (dst, a, fl), some (src, b, _)) := (← ReflectliteValue.parts v, ← ReflectliteValue.parts x)
      | unsupported (.noEntry "extern/(internal/reflectlite.Value).Set.zeroValue")
    if fl / ReflectliteValue.flagAddr % 2 == 0 then unsupported (.noEntry "extern/(internal/reflectlite.Value).Set.unaddressable")
    let val ← loadVar src b
    if ← Rtype.directlyAssignable dst src then storeVar dst a val
    else if ← Rtype.implements dst src then
      if (← Rtype.kind src) == 20 then
        match val with
        | .nilIface => unsupported (.noEntry "extern/reflectlite: a nil value of one interface type handed on as a value of another")
        | _ => storeVar dst a val
      else storeVar dst a (.iface src val)
    else panicString ("reflectlite.Set: value of type " ++ (← Rtype.spelt src) ++ " is not assignable to type " ++ (← Rtype.spelt dst))
    pure (.tuple #[])) := rfl
theorem c_partsEa (a : Addr) (w : World) : (ReflectliteValue.parts (.agg #[.pointer (some ⟨2, tE, none⟩), .pointer (some a), .int .u64 386])).run Tryz.prog w = .ok (some (tE, a, 386)) w := by kernel_rfl
theorem c_partsE (a : Addr) (w : World) : (ReflectliteValue.parts (.agg #[.pointer (some ⟨2, tE, none⟩), .pointer (some a), .int .u64 130])).run Tryz.prog w = .ok (some (tE, a, 130)) w := by kernel_rfl
theorem c_directE (w : World) : (Rtype.directlyAssignable tE tE).run Tryz.prog w = .ok true w := by kernel_rfl
theorem c_set (ta b : Addr) (e : Int) (old : Value) (W : World) (hb : W.cell? b = some (.int .i64 e)) (ht : W.cell? ta = some old) (hf : W.frozen? ta = false) :
    (ReflectliteValue.set #[.agg #[.pointer (some ⟨2, tE, none⟩), .pointer (some ta), .int .u64 386], .agg #[.pointer (some ⟨2, tE, none⟩), .pointer (some b), .int .u64 130]]).run Tryz.prog W
      = .ok (.tuple #[]) (W.setCell ta (.int .i64 e)) := by
  rw [rls]
  simp only [Sem.run_bind, c_partsEa, c_partsE, Result.andThen]
  simp [ReflectliteValue.flagAddr, loadVar, isAgg, underlying, Tryz.underlying33, hb, Result.andThen, c_directE, storeVar, Value.cells, storeCells, Addr.add]
  rw [run_store Tryz.prog W ta _ _ (by rfl)]
  simp [ht, hf]
end Go.Proofs.YtojfmddlalklbaaGreatDoor
