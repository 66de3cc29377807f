/-
  What the model's entries for internal/reflectlite give at package fault's types.
  Conditions: none.
-/
import Derived.Test.YtkbfhnhdlcbidaaDoorFault2
import Derived.Stop.Asserts
import Derived.LaidEql
import Derived.RowKitTokens
namespace Go.Proofs.YtkbfhnhdlcbidaaDoor
open Go.RowKit Go.Sort Go.Extern.Stop Go.Stop Go.Extern

/-- The handle of the type error lies in its variable. -/
abbrev HandleE (W : World) : Prop := W.cell? ⟨0, 0, none⟩ = some (.iface 101 (.agg #[.pointer (some ⟨6, 28, none⟩)]))
theorem handle_later {w w' : World} (h : HandleE w) (hb : Below w.heap.size w w') : HandleE w' := (hb.cell (p := ⟨0, 0, none⟩) (World.block_lt_of_cell? w _ h)).trans h
theorem as_nil (t : Value) (w : World) : Calls Tryd.prog 46 #[.nilIface, t] w fun e w' => e = .returned (.bool false) ∧ w = w' := by
  go_enter Tryd.func46, Tryd.ntmps46
  go_wp2
  go_ret
  exact ⟨rfl, rfl⟩
theorem uAt (p : Nat) (l c : Int) (v : Value) (w : World) (h : Blk w p 45 #[.int .i64 l, .int .i64 c, v]) : Calls Tryd.prog 24 #[.pointer (some ⟨p, 0, none⟩)] w fun e w' => e = .returned v ∧ w = w' := by
  have d := h.at3
  have hr := Below.refl w.heap.size w
  go_enter Tryd.func24, Tryd.ntmps24
  go_wp2_with fail
  go_ret
  exact ⟨rfl, rfl⟩
theorem uIn (p : Nat) (n : ByteArray) (v : Value) (w : World) (h : Blk w p 48 #[.string n, v]) : Calls Tryd.prog 25 #[.pointer (some ⟨p, 0, none⟩)] w fun e w' => e = .returned v ∧ w = w' := by
  have d := h.at2
  have hr := Below.refl w.heap.size w
  go_enter Tryd.func25, Tryd.ntmps25
  go_wp2_with fail
  go_ret
  exact ⟨rfl, rfl⟩
theorem blk_cell {w : World} {g : Nat} {t : TypeId} {v : Value} (h : Blk w g t #[v]) : w.cell? ⟨g, 0, none⟩ = some v := h.cell 0

/-! What the model's entries for internal/reflectlite give, at this program's types. -/
theorem rlm (z : Sem Value) (f : TypeId → Addr → Nat → Nat → Sem Value) (v : Value) :
    ReflectliteValue.method z f #[v] = (do match ← ReflectliteValue.parts v with | none => z | some (t, a, fl) => f t a fl (fl % 32)) := rfl
theorem rls (v x : Value) : ReflectliteValue.set #[v, x] = (do
    let (some (dst, a, fl), some (src, b, _)) := (← ReflectliteValue.parts v, ← ReflectliteValue.parts x)
      | unsupported (.noEntry "extern/(internal/reflectlite.Value).Set.zeroValue")
    if fl / ReflectliteValue.flagAddr % 2 == 0 then unsupported (.noEntry "extern/(internal/reflectlite.Value).Set.unaddressable")
    let val ← loadVar src b
    if ← Rtype.directlyAssignable dst src then storeVar dst a val
    else if ← Rtype.implements dst src then
      if (← Rtype.kind src) == 20 then
        match val with
        | .nilIface => unsupported (.noEntry "extern/reflectlite: a nil value of one interface type handed on as a value of another")
        | _ => storeVar dst a val
      else storeVar dst a (.iface src val)
    else panicString ("reflectlite.Set: value of type " ++ (← Rtype.spelt src) ++ " is not assignable to type " ++ (← Rtype.spelt dst))
    pure (.tuple #[])) := rfl
theorem rMethodKind (h : Value) (w : World) : (Go.method 273 101 (.agg #[h]) "Kind").run Tryd.prog w = .ok (103, h) w := by kernel_rfl
theorem rMethodElem (h : Value) (w : World) : (Go.method 273 101 (.agg #[h]) "Elem").run Tryd.prog w = .ok (112, .agg #[h]) w := by kernel_rfl
theorem rMethodImplements (h : Value) (w : World) : (Go.method 273 101 (.agg #[h]) "Implements").run Tryd.prog w = .ok (113, .agg #[h]) w := by kernel_rfl
theorem rMethodAssignableTo (h : Value) (w : World) : (Go.method 273 101 (.agg #[h]) "AssignableTo").run Tryd.prog w = .ok (110, .agg #[h]) w := by kernel_rfl
theorem rMethodUnwrapAt (h : Value) (w : World) : (Go.method 273 43 h "Unwrap").run Tryd.prog w = .ok (24, h) w := by kernel_rfl
theorem rMethodUnwrapIn (h : Value) (w : World) : (Go.method 273 46 h "Unwrap").run Tryd.prog w = .ok (25, h) w := by kernel_rfl

theorem rTypeOfErrno (v : Value) (w : World) : (ReflectliteType.typeOf #[.iface 23 v]).run Tryd.prog w = .ok (.iface 101 (.agg #[.pointer (some ⟨6, 23, none⟩)])) w := by kernel_rfl
theorem rNoAsErrno (v : Value) (xT : TypeId) (w : World) : (Instr.typeAssert (.iface 23 v) xT 105 true).run Tryd.prog w = .ok (.tuple #[.nilIface, .bool false]) w := run_typeAssert_lacksB Tryd.underlying105 (by kernel_rfl) (by kernel_rfl) v xT w
theorem rNoIsErrno (v : Value) (xT : TypeId) (w : World) : (Instr.typeAssert (.iface 23 v) xT 112 true).run Tryd.prog w = .ok (.tuple #[.nilIface, .bool false]) w := run_typeAssert_lacksB Tryd.underlying112 (by kernel_rfl) (by kernel_rfl) v xT w
theorem rNoUnErrno (v : Value) (xT : TypeId) (w : World) : (Instr.typeAssert (.iface 23 v) xT 108 true).run Tryd.prog w = .ok (.tuple #[.nilIface, .bool false]) w := run_typeAssert_lacksB Tryd.underlying108 (by kernel_rfl) (by kernel_rfl) v xT w
theorem rNoUsErrno (v : Value) (xT : TypeId) (w : World) : (Instr.typeAssert (.iface 23 v) xT 109 true).run Tryd.prog w = .ok (.tuple #[.nilIface, .bool false]) w := run_typeAssert_lacksB Tryd.underlying109 (by kernel_rfl) (by kernel_rfl) v xT w
theorem rAssignErrnoErrno (w : World) : (ReflectliteType.relation "AssignableTo" ReflectliteType.assignableTo #[.agg #[.pointer (some ⟨6, 23, none⟩)], .iface 101 (.agg #[.pointer (some ⟨6, 23, none⟩)])]).run Tryd.prog w = .ok (.bool true) w := by kernel_rfl
theorem rAssignErrnoAt (w : World) : (ReflectliteType.relation "AssignableTo" ReflectliteType.assignableTo #[.agg #[.pointer (some ⟨6, 23, none⟩)], .iface 101 (.agg #[.pointer (some ⟨6, 43, none⟩)])]).run Tryd.prog w = .ok (.bool false) w := by kernel_rfl
theorem rAssignErrnoIn (w : World) : (ReflectliteType.relation "AssignableTo" ReflectliteType.assignableTo #[.agg #[.pointer (some ⟨6, 23, none⟩)], .iface 101 (.agg #[.pointer (some ⟨6, 46, none⟩)])]).run Tryd.prog w = .ok (.bool false) w := by kernel_rfl
theorem rTypeOfAt (v : Value) (w : World) : (ReflectliteType.typeOf #[.iface 43 v]).run Tryd.prog w = .ok (.iface 101 (.agg #[.pointer (some ⟨6, 43, none⟩)])) w := by kernel_rfl
theorem rNoAsAt (v : Value) (xT : TypeId) (w : World) : (Instr.typeAssert (.iface 43 v) xT 105 true).run Tryd.prog w = .ok (.tuple #[.nilIface, .bool false]) w := run_typeAssert_lacksB Tryd.underlying105 (by kernel_rfl) (by kernel_rfl) v xT w
theorem rNoIsAt (v : Value) (xT : TypeId) (w : World) : (Instr.typeAssert (.iface 43 v) xT 112 true).run Tryd.prog w = .ok (.tuple #[.nilIface, .bool false]) w := run_typeAssert_lacksB Tryd.underlying112 (by kernel_rfl) (by kernel_rfl) v xT w
theorem rUnAt (v : Value) (xT : TypeId) (w : World) : (Instr.typeAssert (.iface 43 v) xT 108 true).run Tryd.prog w = .ok (.tuple #[.iface 43 v, .bool true]) w := run_typeAssert_hasB Tryd.underlying108 (by kernel_rfl) v xT w
theorem rAssignAtErrno (w : World) : (ReflectliteType.relation "AssignableTo" ReflectliteType.assignableTo #[.agg #[.pointer (some ⟨6, 43, none⟩)], .iface 101 (.agg #[.pointer (some ⟨6, 23, none⟩)])]).run Tryd.prog w = .ok (.bool false) w := by kernel_rfl
theorem rAssignAtAt (w : World) : (ReflectliteType.relation "AssignableTo" ReflectliteType.assignableTo #[.agg #[.pointer (some ⟨6, 43, none⟩)], .iface 101 (.agg #[.pointer (some ⟨6, 43, none⟩)])]).run Tryd.prog w = .ok (.bool true) w := by kernel_rfl
theorem rAssignAtIn (w : World) : (ReflectliteType.relation "AssignableTo" ReflectliteType.assignableTo #[.agg #[.pointer (some ⟨6, 43, none⟩)], .iface 101 (.agg #[.pointer (some ⟨6, 46, none⟩)])]).run Tryd.prog w = .ok (.bool false) w := by kernel_rfl
theorem rTypeOfIn (v : Value) (w : World) : (ReflectliteType.typeOf #[.iface 46 v]).run Tryd.prog w = .ok (.iface 101 (.agg #[.pointer (some ⟨6, 46, none⟩)])) w := by kernel_rfl
theorem rNoAsIn (v : Value) (xT : TypeId) (w : World) : (Instr.typeAssert (.iface 46 v) xT 105 true).run Tryd.prog w = .ok (.tuple #[.nilIface, .bool false]) w := run_typeAssert_lacksB Tryd.underlying105 (by kernel_rfl) (by kernel_rfl) v xT w
theorem rNoIsIn (v : Value) (xT : TypeId) (w : World) : (Instr.typeAssert (.iface 46 v) xT 112 true).run Tryd.prog w = .ok (.tuple #[.nilIface, .bool false]) w := run_typeAssert_lacksB Tryd.underlying112 (by kernel_rfl) (by kernel_rfl) v xT w
theorem rUnIn (v : Value) (xT : TypeId) (w : World) : (Instr.typeAssert (.iface 46 v) xT 108 true).run Tryd.prog w = .ok (.tuple #[.iface 46 v, .bool true]) w := run_typeAssert_hasB Tryd.underlying108 (by kernel_rfl) v xT w
theorem rAssignInErrno (w : World) : (ReflectliteType.relation "AssignableTo" ReflectliteType.assignableTo #[.agg #[.pointer (some ⟨6, 46, none⟩)], .iface 101 (.agg #[.pointer (some ⟨6, 23, none⟩)])]).run Tryd.prog w = .ok (.bool false) w := by kernel_rfl
theorem rAssignInAt (w : World) : (ReflectliteType.relation "AssignableTo" ReflectliteType.assignableTo #[.agg #[.pointer (some ⟨6, 46, none⟩)], .iface 101 (.agg #[.pointer (some ⟨6, 43, none⟩)])]).run Tryd.prog w = .ok (.bool false) w := by kernel_rfl
theorem rAssignInIn (w : World) : (ReflectliteType.relation "AssignableTo" ReflectliteType.assignableTo #[.agg #[.pointer (some ⟨6, 46, none⟩)], .iface 101 (.agg #[.pointer (some ⟨6, 46, none⟩)])]).run Tryd.prog w = .ok (.bool true) w := by kernel_rfl

/-! The target type api.Errno. -/
theorem rValueOfPErrno (t : Addr) (w : World) : (ReflectliteValue.unpack (.iface 75 (.pointer (some t)))).run Tryd.prog w
    = .ok (.agg #[.pointer (some ⟨6, 75, none⟩), .pointer (some ⟨w.heap.size, 0, none⟩), .int .u64 150]) (w.alloc (.cells #[.pointer (some t)] 75)) := by kernel_rfl
theorem rTypePErrno (a : Addr) (w : World) : (ReflectliteValue.methodAny (ReflectliteValue.valueError "reflectlite.Value.Type" 0) (fun t _ _ _ => ReflectliteType.toType t) #[.agg #[.pointer (some ⟨6, 75, none⟩), .pointer (some a), .int .u64 150]]).run Tryd.prog w
    = .ok (.iface 101 (.agg #[.pointer (some ⟨6, 75, none⟩)])) w := by kernel_rfl
theorem rKindPErrno (w : World) : ((ReflectliteType.abiMethod fun t => (fun a : Nat => Value.int IntKind.u8 (a : Int)) <$> Rtype.kind t) #[.pointer (some ⟨6, 75, none⟩)]).run Tryd.prog w = .ok (.int .u8 22) w := by kernel_rfl
theorem rKindErrno (w : World) : ((ReflectliteType.abiMethod fun t => (fun a : Nat => Value.int IntKind.u8 (a : Int)) <$> Rtype.kind t) #[.pointer (some ⟨6, 23, none⟩)]).run Tryd.prog w = .ok (.int .u8 2) w := by kernel_rfl
theorem rPartsPErrno (a : Addr) (w : World) : (ReflectliteValue.parts (.agg #[.pointer (some ⟨6, 75, none⟩), .pointer (some a), .int .u64 150])).run Tryd.prog w = .ok (some (75, a, 150)) w := by kernel_rfl
theorem rIsNilErrno (a p : Addr) (W : World) (ha : W.cell? a = some (.pointer (some p))) :
    (ReflectliteValue.method (ReflectliteValue.valueError "reflectlite.Value.IsNil" 0) ReflectliteValue.isNil #[.agg #[.pointer (some ⟨6, 75, none⟩), .pointer (some a), .int .u64 150]]).run Tryd.prog W = .ok (.bool false) W := by
  rw [rlm]
  simp only [Sem.run_bind, rPartsPErrno, Result.andThen]
  simp [ReflectliteValue.isNil, loadVar, isAgg, underlying, Tryd.underlying75, ha, Result.andThen]
theorem rElemPErrno (w : World) : (ReflectliteType.method ReflectliteType.elem #[.agg #[.pointer (some ⟨6, 75, none⟩)]]).run Tryd.prog w = .ok (.iface 101 (.agg #[.pointer (some ⟨6, 23, none⟩)])) w := by kernel_rfl
theorem rImplErrno (w : World) : (ReflectliteType.relation "Implements" ReflectliteType.implements_ #[.agg #[.pointer (some ⟨6, 23, none⟩)], .iface 101 (.agg #[.pointer (some ⟨6, 28, none⟩)])]).run Tryd.prog w = .ok (.bool true) w := by kernel_rfl
theorem rElemOfErrno (w : World) : (Rtype.elem? 75).run Tryd.prog w = .ok (some 23) w := by kernel_rfl
theorem rMkErrno (p : Addr) (w : World) : (ReflectliteValue.mk 23 p ReflectliteValue.flagAddr).run Tryd.prog w = .ok (.agg #[.pointer (some ⟨6, 23, none⟩), .pointer (some p), .int .u64 386]) w := by kernel_rfl
theorem rElemVErrno (a p : Addr) (W : World) (ha : W.cell? a = some (.pointer (some p))) :
    (ReflectliteValue.method (ReflectliteValue.valueError "reflectlite.Value.Elem" 0) ReflectliteValue.elem #[.agg #[.pointer (some ⟨6, 75, none⟩), .pointer (some a), .int .u64 150]]).run Tryd.prog W
      = .ok (.agg #[.pointer (some ⟨6, 23, none⟩), .pointer (some p), .int .u64 386]) W := by
  rw [rlm]
  simp only [Sem.run_bind, rPartsPErrno, Result.andThen]
  simp [ReflectliteValue.elem, loadVar, isAgg, underlying, Tryd.underlying75, ha, Result.andThen, rElemOfErrno, rMkErrno]
theorem rValueOfErrno (u : Int) (w : World) : (ReflectliteValue.unpack (.iface 23 (.int .i64 u))).run Tryd.prog w
    = .ok (.agg #[.pointer (some ⟨6, 23, none⟩), .pointer (some ⟨w.heap.size, 0, none⟩), .int .u64 130]) (w.alloc (.cells #[.int .i64 u] 23)) := by kernel_rfl
theorem rPartsAErrno (a : Addr) (w : World) : (ReflectliteValue.parts (.agg #[.pointer (some ⟨6, 23, none⟩), .pointer (some a), .int .u64 386])).run Tryd.prog w = .ok (some (23, a, 386)) w := by kernel_rfl
theorem rPartsErrno (a : Addr) (w : World) : (ReflectliteValue.parts (.agg #[.pointer (some ⟨6, 23, none⟩), .pointer (some a), .int .u64 130])).run Tryd.prog w = .ok (some (23, a, 130)) w := by kernel_rfl
theorem rDirectErrno (w : World) : (Rtype.directlyAssignable 23 23).run Tryd.prog w = .ok true w := by kernel_rfl
theorem rSetErrno (ta b : Addr) (u : Int) (old : Value) (W : World) (hb : W.cell? b = some (.int .i64 u)) (ht : W.cell? ta = some old) (hf : W.frozen? ta = false) :
    (ReflectliteValue.set #[.agg #[.pointer (some ⟨6, 23, none⟩), .pointer (some ta), .int .u64 386], .agg #[.pointer (some ⟨6, 23, none⟩), .pointer (some b), .int .u64 130]]).run Tryd.prog W
      = .ok (.tuple #[]) (W.setCell ta (.int .i64 u)) := by
  rw [rls]
  simp only [Sem.run_bind, rPartsAErrno, rPartsErrno, Result.andThen]
  simp [ReflectliteValue.flagAddr, loadVar, isAgg, underlying, Tryd.underlying23, hb, Result.andThen, rDirectErrno, storeVar, Value.cells, storeCells, Addr.add]
  rw [run_store Tryd.prog W ta _ _ (by rfl)]
  simp [ht, hf]


/-! The target type *fault.At. -/
theorem rValueOfPAt (t : Addr) (w : World) : (ReflectliteValue.unpack (.iface 73 (.pointer (some t)))).run Tryd.prog w
    = .ok (.agg #[.pointer (some ⟨6, 73, none⟩), .pointer (some ⟨w.heap.size, 0, none⟩), .int .u64 150]) (w.alloc (.cells #[.pointer (some t)] 73)) := by kernel_rfl
theorem rTypePAt (a : Addr) (w : World) : (ReflectliteValue.methodAny (ReflectliteValue.valueError "reflectlite.Value.Type" 0) (fun t _ _ _ => ReflectliteType.toType t) #[.agg #[.pointer (some ⟨6, 73, none⟩), .pointer (some a), .int .u64 150]]).run Tryd.prog w
    = .ok (.iface 101 (.agg #[.pointer (some ⟨6, 73, none⟩)])) w := by kernel_rfl
theorem rKindPAt (w : World) : ((ReflectliteType.abiMethod fun t => (fun a : Nat => Value.int IntKind.u8 (a : Int)) <$> Rtype.kind t) #[.pointer (some ⟨6, 73, none⟩)]).run Tryd.prog w = .ok (.int .u8 22) w := by kernel_rfl
theorem rKindAt (w : World) : ((ReflectliteType.abiMethod fun t => (fun a : Nat => Value.int IntKind.u8 (a : Int)) <$> Rtype.kind t) #[.pointer (some ⟨6, 43, none⟩)]).run Tryd.prog w = .ok (.int .u8 22) w := by kernel_rfl
theorem rPartsPAt (a : Addr) (w : World) : (ReflectliteValue.parts (.agg #[.pointer (some ⟨6, 73, none⟩), .pointer (some a), .int .u64 150])).run Tryd.prog w = .ok (some (73, a, 150)) w := by kernel_rfl
theorem rIsNilAt (a p : Addr) (W : World) (ha : W.cell? a = some (.pointer (some p))) :
    (ReflectliteValue.method (ReflectliteValue.valueError "reflectlite.Value.IsNil" 0) ReflectliteValue.isNil #[.agg #[.pointer (some ⟨6, 73, none⟩), .pointer (some a), .int .u64 150]]).run Tryd.prog W = .ok (.bool false) W := by
  rw [rlm]
  simp only [Sem.run_bind, rPartsPAt, Result.andThen]
  simp [ReflectliteValue.isNil, loadVar, isAgg, underlying, Tryd.underlying73, ha, Result.andThen]
theorem rElemPAt (w : World) : (ReflectliteType.method ReflectliteType.elem #[.agg #[.pointer (some ⟨6, 73, none⟩)]]).run Tryd.prog w = .ok (.iface 101 (.agg #[.pointer (some ⟨6, 43, none⟩)])) w := by kernel_rfl
theorem rImplAt (w : World) : (ReflectliteType.relation "Implements" ReflectliteType.implements_ #[.agg #[.pointer (some ⟨6, 43, none⟩)], .iface 101 (.agg #[.pointer (some ⟨6, 28, none⟩)])]).run Tryd.prog w = .ok (.bool true) w := by kernel_rfl
theorem rElemOfAt (w : World) : (Rtype.elem? 73).run Tryd.prog w = .ok (some 43) w := by kernel_rfl
theorem rMkAt (p : Addr) (w : World) : (ReflectliteValue.mk 43 p ReflectliteValue.flagAddr).run Tryd.prog w = .ok (.agg #[.pointer (some ⟨6, 43, none⟩), .pointer (some p), .int .u64 406]) w := by kernel_rfl
theorem rElemVAt (a p : Addr) (W : World) (ha : W.cell? a = some (.pointer (some p))) :
    (ReflectliteValue.method (ReflectliteValue.valueError "reflectlite.Value.Elem" 0) ReflectliteValue.elem #[.agg #[.pointer (some ⟨6, 73, none⟩), .pointer (some a), .int .u64 150]]).run Tryd.prog W
      = .ok (.agg #[.pointer (some ⟨6, 43, none⟩), .pointer (some p), .int .u64 406]) W := by
  rw [rlm]
  simp only [Sem.run_bind, rPartsPAt, Result.andThen]
  simp [ReflectliteValue.elem, loadVar, isAgg, underlying, Tryd.underlying73, ha, Result.andThen, rElemOfAt, rMkAt]
theorem rValueOfAt (u : Addr) (w : World) : (ReflectliteValue.unpack (.iface 43 (.pointer (some u)))).run Tryd.prog w
    = .ok (.agg #[.pointer (some ⟨6, 43, none⟩), .pointer (some ⟨w.heap.size, 0, none⟩), .int .u64 150]) (w.alloc (.cells #[.pointer (some u)] 43)) := by kernel_rfl
theorem rPartsAAt (a : Addr) (w : World) : (ReflectliteValue.parts (.agg #[.pointer (some ⟨6, 43, none⟩), .pointer (some a), .int .u64 406])).run Tryd.prog w = .ok (some (43, a, 406)) w := by kernel_rfl
theorem rPartsAt (a : Addr) (w : World) : (ReflectliteValue.parts (.agg #[.pointer (some ⟨6, 43, none⟩), .pointer (some a), .int .u64 150])).run Tryd.prog w = .ok (some (43, a, 150)) w := by kernel_rfl
theorem rDirectAt (w : World) : (Rtype.directlyAssignable 43 43).run Tryd.prog w = .ok true w := by kernel_rfl
theorem rSetAt (ta b : Addr) (u : Addr) (old : Value) (W : World) (hb : W.cell? b = some (.pointer (some u))) (ht : W.cell? ta = some old) (hf : W.frozen? ta = false) :
    (ReflectliteValue.set #[.agg #[.pointer (some ⟨6, 43, none⟩), .pointer (some ta), .int .u64 406], .agg #[.pointer (some ⟨6, 43, none⟩), .pointer (some b), .int .u64 150]]).run Tryd.prog W
      = .ok (.tuple #[]) (W.setCell ta (.pointer (some u))) := by
  rw [rls]
  simp only [Sem.run_bind, rPartsAAt, rPartsAt, Result.andThen]
  simp [ReflectliteValue.flagAddr, loadVar, isAgg, underlying, Tryd.underlying43, hb, Result.andThen, rDirectAt, storeVar, Value.cells, storeCells, Addr.add]
  rw [run_store Tryd.prog W ta _ _ (by rfl)]
  simp [ht, hf]


/-! The target type *fault.In. -/
theorem rValueOfPIn (t : Addr) (w : World) : (ReflectliteValue.unpack (.iface 74 (.pointer (some t)))).run Tryd.prog w
    = .ok (.agg #[.pointer (some ⟨6, 74, none⟩), .pointer (some ⟨w.heap.size, 0, none⟩), .int .u64 150]) (w.alloc (.cells #[.pointer (some t)] 74)) := by kernel_rfl
theorem rTypePIn (a : Addr) (w : World) : (ReflectliteValue.methodAny (ReflectliteValue.valueError "reflectlite.Value.Type" 0) (fun t _ _ _ => ReflectliteType.toType t) #[.agg #[.pointer (some ⟨6, 74, none⟩), .pointer (some a), .int .u64 150]]).run Tryd.prog w
    = .ok (.iface 101 (.agg #[.pointer (some ⟨6, 74, none⟩)])) w := by kernel_rfl
theorem rKindPIn (w : World) : ((ReflectliteType.abiMethod fun t => (fun a : Nat => Value.int IntKind.u8 (a : Int)) <$> Rtype.kind t) #[.pointer (some ⟨6, 74, none⟩)]).run Tryd.prog w = .ok (.int .u8 22) w := by kernel_rfl
theorem rKindIn (w : World) : ((ReflectliteType.abiMethod fun t => (fun a : Nat => Value.int IntKind.u8 (a : Int)) <$> Rtype.kind t) #[.pointer (some ⟨6, 46, none⟩)]).run Tryd.prog w = .ok (.int .u8 22) w := by kernel_rfl
theorem rPartsPIn (a : Addr) (w : World) : (ReflectliteValue.parts (.agg #[.pointer (some ⟨6, 74, none⟩), .pointer (some a), .int .u64 150])).run Tryd.prog w = .ok (some (74, a, 150)) w := by kernel_rfl
theorem rIsNilIn (a p : Addr) (W : World) (ha : W.cell? a = some (.pointer (some p))) :
    (ReflectliteValue.method (ReflectliteValue.valueError "reflectlite.Value.IsNil" 0) ReflectliteValue.isNil #[.agg #[.pointer (some ⟨6, 74, none⟩), .pointer (some a), .int .u64 150]]).run Tryd.prog W = .ok (.bool false) W := by
  rw [rlm]
  simp only [Sem.run_bind, rPartsPIn, Result.andThen]
  simp [ReflectliteValue.isNil, loadVar, isAgg, underlying, Tryd.underlying74, ha, Result.andThen]
theorem rElemPIn (w : World) : (ReflectliteType.method ReflectliteType.elem #[.agg #[.pointer (some ⟨6, 74, none⟩)]]).run Tryd.prog w = .ok (.iface 101 (.agg #[.pointer (some ⟨6, 46, none⟩)])) w := by kernel_rfl
theorem rImplIn (w : World) : (ReflectliteType.relation "Implements" ReflectliteType.implements_ #[.agg #[.pointer (some ⟨6, 46, none⟩)], .iface 101 (.agg #[.pointer (some ⟨6, 28, none⟩)])]).run Tryd.prog w = .ok (.bool true) w := by kernel_rfl
theorem rElemOfIn (w : World) : (Rtype.elem? 74).run Tryd.prog w = .ok (some 46) w := by kernel_rfl
theorem rMkIn (p : Addr) (w : World) : (ReflectliteValue.mk 46 p ReflectliteValue.flagAddr).run Tryd.prog w = .ok (.agg #[.pointer (some ⟨6, 46, none⟩), .pointer (some p), .int .u64 406]) w := by kernel_rfl
theorem rElemVIn (a p : Addr) (W : World) (ha : W.cell? a = some (.pointer (some p))) :
    (ReflectliteValue.method (ReflectliteValue.valueError "reflectlite.Value.Elem" 0) ReflectliteValue.elem #[.agg #[.pointer (some ⟨6, 74, none⟩), .pointer (some a), .int .u64 150]]).run Tryd.prog W
      = .ok (.agg #[.pointer (some ⟨6, 46, none⟩), .pointer (some p), .int .u64 406]) W := by
  rw [rlm]
  simp only [Sem.run_bind, rPartsPIn, Result.andThen]
  simp [ReflectliteValue.elem, loadVar, isAgg, underlying, Tryd.underlying74, ha, Result.andThen, rElemOfIn, rMkIn]
theorem rValueOfIn (u : Addr) (w : World) : (ReflectliteValue.unpack (.iface 46 (.pointer (some u)))).run Tryd.prog w
    = .ok (.agg #[.pointer (some ⟨6, 46, none⟩), .pointer (some ⟨w.heap.size, 0, none⟩), .int .u64 150]) (w.alloc (.cells #[.pointer (some u)] 46)) := by kernel_rfl
theorem rPartsAIn (a : Addr) (w : World) : (ReflectliteValue.parts (.agg #[.pointer (some ⟨6, 46, none⟩), .pointer (some a), .int .u64 406])).run Tryd.prog w = .ok (some (46, a, 406)) w := by kernel_rfl
theorem rPartsIn (a : Addr) (w : World) : (ReflectliteValue.parts (.agg #[.pointer (some ⟨6, 46, none⟩), .pointer (some a), .int .u64 150])).run Tryd.prog w = .ok (some (46, a, 150)) w := by kernel_rfl
theorem rDirectIn (w : World) : (Rtype.directlyAssignable 46 46).run Tryd.prog w = .ok true w := by kernel_rfl
theorem rSetIn (ta b : Addr) (u : Addr) (old : Value) (W : World) (hb : W.cell? b = some (.pointer (some u))) (ht : W.cell? ta = some old) (hf : W.frozen? ta = false) :
    (ReflectliteValue.set #[.agg #[.pointer (some ⟨6, 46, none⟩), .pointer (some ta), .int .u64 406], .agg #[.pointer (some ⟨6, 46, none⟩), .pointer (some b), .int .u64 150]]).run Tryd.prog W
      = .ok (.tuple #[]) (W.setCell ta (.pointer (some u))) := by
  rw [rls]
  simp only [Sem.run_bind, rPartsAIn, rPartsIn, Result.andThen]
  simp [ReflectliteValue.flagAddr, loadVar, isAgg, underlying, Tryd.underlying46, hb, Result.andThen, rDirectIn, storeVar, Value.cells, storeCells, Addr.add]
  rw [run_store Tryd.prog W ta _ _ (by rfl)]
  simp [ht, hf]

end Go.Proofs.YtkbfhnhdlcbidaaDoor
