/- errors.As at run.bad: a hit, and a miss. After the text of errors.As at an Errno. -/
import Derived.Test.YtldlandcjegikaaGreatDoorHErrs
namespace Go.Proofs.YtldlandcjegikaaGreatDoor
open Go.RowKit Go.Extern.Stop Go.Stop Go.Extern
set_option linter.unusedVariables false
set_option linter.unusedSimpArgs false
theorem eb_valueOfP (t : Addr) (w : World) : (ReflectliteValue.unpack (.iface 106 (.pointer (some t)))).run Tryz.prog w
  = .ok (.agg #[.pointer (some ⟨11, 106, none⟩), .pointer (some ⟨w.heap.size, 0, none⟩), .int .u64 150]) (w.alloc (.cells #[.pointer (some t)] 106)) := by kernel_rfl
theorem eb_typeP (a : Addr) (w : World) : (ReflectliteValue.methodAny (ReflectliteValue.valueError "reflectlite.Value.Type" 0) (fun t _ _ _ => ReflectliteType.toType t) #[.agg #[.pointer (some ⟨11, 106, none⟩), .pointer (some a), .int .u64 150]]).run Tryz.prog w
  = .ok (.iface 191 (.agg #[.pointer (some ⟨11, 106, none⟩)])) w := by kernel_rfl
theorem eb_kindP (w : World) : ((ReflectliteType.abiMethod fun t => (fun a : Nat => Value.int IntKind.u8 (a : Int)) <$> Rtype.kind t) #[.pointer (some ⟨11, 106, none⟩)]).run Tryz.prog w = .ok (.int .u8 22) w := by kernel_rfl
theorem eb_kindE (w : World) : ((ReflectliteType.abiMethod fun t => (fun a : Nat => Value.int IntKind.u8 (a : Int)) <$> Rtype.kind t) #[.pointer (some ⟨11, 104, none⟩)]).run Tryz.prog w = .ok (.int .u8 25) w := by kernel_rfl
theorem eb_rlm (z : Sem Value) (f : TypeId → Addr → Nat → Nat → Sem Value) (v : Value) :
  ReflectliteValue.method z f #[v] = (do match ← ReflectliteValue.parts v with | none => z | some (t, a, fl) => f t a fl (fl % 32)) := rfl
theorem eb_partsP (a : Addr) (w : World) : (ReflectliteValue.parts (.agg #[.pointer (some ⟨11, 106, none⟩), .pointer (some a), .int .u64 150])).run Tryz.prog w = .ok (some (106, a, 150)) w := by kernel_rfl
theorem eb_isNilP (a p : Addr) (W : World) (ha : W.cell? a = some (.pointer (some p))) :
  (ReflectliteValue.method (ReflectliteValue.valueError "reflectlite.Value.IsNil" 0) ReflectliteValue.isNil #[.agg #[.pointer (some ⟨11, 106, none⟩), .pointer (some a), .int .u64 150]]).run Tryz.prog W = .ok (.bool false) W := by
 rw [eb_rlm]
 simp only [Sem.run_bind, eb_partsP, Result.andThen]
 simp [ReflectliteValue.isNil, loadVar, isAgg, underlying, Tryz.underlying106, ha, Result.andThen]
theorem eb_elemT (w : World) : (ReflectliteType.method ReflectliteType.elem #[.agg #[.pointer (some ⟨11, 106, none⟩)]]).run Tryz.prog w = .ok (.iface 191 (.agg #[.pointer (some ⟨11, 104, none⟩)])) w := by kernel_rfl
theorem eb_implements (w : World) : (ReflectliteType.relation "Implements" ReflectliteType.implements_ #[.agg #[.pointer (some ⟨11, 104, none⟩)], .iface 191 (.agg #[.pointer (some ⟨11, 36, none⟩)])]).run Tryz.prog w = .ok (.bool true) w := by kernel_rfl
theorem eb_typeOfE (v : Value) (w : World) : (ReflectliteType.typeOf #[.iface 104 v]).run Tryz.prog w = .ok (.iface 191 (.agg #[.pointer (some ⟨11, 104, none⟩)])) w := by kernel_rfl
theorem eb_assignable (w : World) : (ReflectliteType.relation "AssignableTo" ReflectliteType.assignableTo #[.agg #[.pointer (some ⟨11, 104, none⟩)], .iface 191 (.agg #[.pointer (some ⟨11, 104, none⟩)])]).run Tryz.prog w = .ok (.bool true) w := by kernel_rfl
theorem eb_valueOfE (w : World) : (ReflectliteValue.unpack (.iface 104 (.agg #[.iface 88 (.int .i64 2)]))).run Tryz.prog w
  = .ok (.agg #[.pointer (some ⟨11, 104, none⟩), .pointer (some ⟨w.heap.size, 0, none⟩), .int .u64 153]) (w.alloc (.cells #[.iface 88 (.int .i64 2)] 104)) := by kernel_rfl
theorem eb_elemOf (w : World) : (Rtype.elem? 106).run Tryz.prog w = .ok (some 104) w := by kernel_rfl
theorem eb_mkE (p : Addr) (w : World) : (ReflectliteValue.mk 104 p ReflectliteValue.flagAddr).run Tryz.prog w = .ok (.agg #[.pointer (some ⟨11, 104, none⟩), .pointer (some p), .int .u64 409]) w := by kernel_rfl
theorem eb_elemV (a p : Addr) (W : World) (ha : W.cell? a = some (.pointer (some p))) :
  (ReflectliteValue.method (ReflectliteValue.valueError "reflectlite.Value.Elem" 0) ReflectliteValue.elem #[.agg #[.pointer (some ⟨11, 106, none⟩), .pointer (some a), .int .u64 150]]).run Tryz.prog W
   = .ok (.agg #[.pointer (some ⟨11, 104, none⟩), .pointer (some p), .int .u64 409]) W := by
 rw [eb_rlm]
 simp only [Sem.run_bind, eb_partsP, Result.andThen]
 simp [ReflectliteValue.elem, loadVar, isAgg, underlying, Tryz.underlying106, ha, Result.andThen, eb_elemOf, eb_mkE]
theorem eb_rls (v x : Value) : ReflectliteValue.set #[v, x] = (do
  let (some (dst, a, fl), some (src, b, _)) := (← ReflectliteValue.parts v, ← ReflectliteValue.parts x)
   | unsupported (.noEntry "extern/(internal/reflectlite.Value).Set.zeroValue")
  if fl / ReflectliteValue.flagAddr % 2 == 0 then unsupported (.noEntry "extern/(internal/reflectlite.Value).Set.unaddressable")
  let val ← loadVar src b
  if ← Rtype.directlyAssignable dst src then storeVar dst a val
  else if ← Rtype.implements dst src then
   if (← Rtype.kind src) == 20 then
    match val with
    | .nilIface => unsupported (.noEntry "extern/reflectlite: a nil value of one interface type handed on as a value of another")
    | _ => storeVar dst a val
   else storeVar dst a (.iface src val)
  else panicString ("reflectlite.Set: value of type " ++ (← Rtype.spelt src) ++ " is not assignable to type " ++ (← Rtype.spelt dst))
  pure (.tuple #[])) := rfl
theorem eb_partsEa (a : Addr) (w : World) : (ReflectliteValue.parts (.agg #[.pointer (some ⟨11, 104, none⟩), .pointer (some a), .int .u64 409])).run Tryz.prog w = .ok (some (104, a, 409)) w := by kernel_rfl
theorem eb_partsE (a : Addr) (w : World) : (ReflectliteValue.parts (.agg #[.pointer (some ⟨11, 104, none⟩), .pointer (some a), .int .u64 153])).run Tryz.prog w = .ok (some (104, a, 153)) w := by kernel_rfl
theorem eb_direct (w : World) : (Rtype.directlyAssignable 104 104).run Tryz.prog w = .ok true w := by kernel_rfl
theorem eb_load (b : Addr) (v : Value) (W : World) (hb : W.cell? b = some v) : (loadVar 104 b).run Tryz.prog W = .ok (.agg #[v]) W := by
 have hs : ∀ W, (sizeOf 104).run Tryz.prog W = .ok 1 W := fun W => by kernel_rfl
 have ha : ∀ W, (isAgg 104).run Tryz.prog W = .ok true W := fun W => by kernel_rfl
 unfold loadVar
 simp [Sem.run_bind, ha, hs, Result.andThen, loadCells, loadCellsFrom, hb, Addr.add]
theorem eb_store (ta : Addr) (v old : Value) (W : World) (ht : W.cell? ta = some old) (hf : W.frozen? ta = false) (h1 : v.oneCell' = true) (hv : (Value.agg #[v]).cells = #[v]) : (storeVar 104 ta (.agg #[v])).run Tryz.prog W = .ok () (W.setCell ta v) := by
 have hs : ∀ W, (sizeOf 104).run Tryz.prog W = .ok 1 W := fun W => by kernel_rfl
 unfold storeVar
 rw [hv]
 simp [Sem.run_bind, hs, Result.andThen, storeCells, Addr.add]
 rw [run_store Tryz.prog W ta _ _ h1]
 simp [ht, hf]
theorem eb_set (ta b : Addr) (old : Value) (W : World) (hb : W.cell? b = some (.iface 88 (.int .i64 2))) (ht : W.cell? ta = some old) (hf : W.frozen? ta = false) :
  (ReflectliteValue.set #[.agg #[.pointer (some ⟨11, 104, none⟩), .pointer (some ta), .int .u64 409], .agg #[.pointer (some ⟨11, 104, none⟩), .pointer (some b), .int .u64 153]]).run Tryz.prog W
   = .ok (.tuple #[]) (W.setCell ta (.iface 88 (.int .i64 2))) := by
 have hl := eb_load b _ W hb
 have hs := eb_store ta (.iface 88 (.int .i64 2)) old W ht hf rfl (by rfl)
 rw [eb_rls]
 simp only [Sem.run_bind, eb_partsEa, eb_partsE, Result.andThen]
 simp [ReflectliteValue.flagAddr, hl, Result.andThen, eb_direct, hs]
set_option maxRecDepth 100000 in
set_option maxHeartbeats 4000000 in
theorem as_bad (t : Addr) (old : Value) (w : World) (hg : HandleAt w) (ht0 : w.cell? t = some old) (hf0 : w.frozen? t = false) :
  Calls Tryz.prog 38 #[.iface 104 (.agg #[.iface 88 (.int .i64 2)]), .iface 106 (.pointer (some t))] w fun ev w' => ev = .returned (.bool true) ∧ w' = ((((w.alloc (.cells #[.pointer (some t)] 106)).alloc (.cells #[.pointer (some ⟨11, 106, none⟩), .pointer (some ⟨w.heap.size, 0, none⟩), .int .u64 150] 153)).alloc (.cells #[.pointer (some ⟨11, 106, none⟩), .pointer (some ⟨w.heap.size, 0, none⟩), .int .u64 150] 153)).alloc (.cells #[.iface 88 (.int .i64 2)] 104)).setCell t (.iface 88 (.int .i64 2)) := by
 have h6 := @run_callFunc_extern Tryz.prog 71 _ (fun args => ReflectliteValue.unpack (args.getD 0 (.tuple #[]))) Tryz.func71 kRf kRf kRf kRf
 have h7 := @run_callFunc_extern Tryz.prog 72 _ (ReflectliteValue.methodAny (ReflectliteValue.valueError "reflectlite.Value.Type" 0) (fun t _ _ _ => ReflectliteType.toType t)) Tryz.func72 kRf kRf kRf kRf
 have h8 := @run_callFunc_extern Tryz.prog 73 _ (ReflectliteValue.method (ReflectliteValue.valueError "reflectlite.Value.IsNil" 0) ReflectliteValue.isNil) Tryz.func73 kRf kRf kRf kRf
 have h27 := @run_callFunc_extern Tryz.prog 197 _ (ReflectliteType.abiMethod fun t => do pure (.int .u8 (← Rtype.kind t))) Tryz.func197 kRf kRf kRf kRf
 have h37 := @run_callFunc_extern Tryz.prog 208 _ (ReflectliteType.method ReflectliteType.elem) Tryz.func208 kRf kRf kRf kRf
 have h38 := @run_callFunc_extern Tryz.prog 209 _ (ReflectliteType.relation "Implements" ReflectliteType.implements_) Tryz.func209 kRf kRf kRf kRf
 have h10 := @run_callFunc_extern Tryz.prog 107 _ ReflectliteType.typeOf Tryz.func107 kRf kRf kRf kRf
 have h35 := @run_callFunc_extern Tryz.prog 206 _ (ReflectliteType.relation "AssignableTo" ReflectliteType.assignableTo) Tryz.func206 kRf kRf kRf kRf
 have h11 := @run_callFunc_extern Tryz.prog 108 _ (ReflectliteValue.method (ReflectliteValue.valueError "reflectlite.Value.Elem" 0) ReflectliteValue.elem) Tryz.func108 kRf kRf kRf kRf
 have h12 := @run_callFunc_extern Tryz.prog 109 _ ReflectliteValue.set Tryz.func109 kRf kRf kRf kRf
 have mK : ∀ (h : Value) (w : World), (Go.method 401 191 (.agg #[h]) "Kind").run Tryz.prog w = .ok (197, h) w := fun _ _ => by kernel_rfl
 have tO := eb_typeOfE
 have aE := eb_assignable
 have vE := eb_valueOfE
 have f6 := eb_valueOfP
 have f7 := eb_typeP
 have kP := eb_kindP
 have kE := eb_kindE
 have eT := eb_elemT
 have iE := eb_implements
 have mE : ∀ (h : Value) (w : World), (Go.method 401 191 (.agg #[h]) "Elem").run Tryz.prog w = .ok (208, .agg #[h]) w := fun _ _ => by kernel_rfl
 have mI : ∀ (h : Value) (w : World), (Go.method 401 191 (.agg #[h]) "Implements").run Tryz.prog w = .ok (209, .agg #[h]) w := fun _ _ => by kernel_rfl
 have mA : ∀ (h : Value) (w : World), (Go.method 401 191 (.agg #[h]) "AssignableTo").run Tryz.prog w = .ok (206, .agg #[h]) w := fun _ _ => by kernel_rfl
 have n8 := eb_isNilP ⟨w.heap.size, 0, none⟩ t ((w.alloc (.cells #[.pointer (some t)] 106)).alloc (.cells #[.pointer (some ⟨11, 106, none⟩), .pointer (some ⟨w.heap.size, 0, none⟩), .int .u64 150] 153)) (by simp)
 have hlt := hg.lt
 have hg2 : ((w.alloc (.cells #[.pointer (some t)] 106)).alloc (.cells #[.pointer (some ⟨11, 106, none⟩), .pointer (some ⟨w.heap.size, 0, none⟩), .int .u64 150] 153)).cell? ⟨1, 0, none⟩ = some (.iface 191 (.agg #[.pointer (some ⟨11, 36, none⟩)])) := by
  rw [World.cell?_alloc_lt _ _ ⟨1, 0, none⟩ (by simp <;> omega), World.cell?_alloc_lt _ _ ⟨1, 0, none⟩ hlt]; exact hg
 have htl : t.block < w.heap.size := by
  rcases Nat.lt_or_ge t.block w.heap.size with h | h
  ·exact h
  ·simp [World.cell?, Array.getElem?_eq_none h] at ht0
 have el := eb_elemV ⟨w.heap.size, 0, none⟩ t (((w.alloc (.cells #[.pointer (some t)] 106)).alloc (.cells #[.pointer (some ⟨11, 106, none⟩), .pointer (some ⟨w.heap.size, 0, none⟩), .int .u64 150] 153)).alloc (.cells #[.pointer (some ⟨11, 106, none⟩), .pointer (some ⟨w.heap.size, 0, none⟩), .int .u64 150] 153)) (by rw [World.cell?_alloc_lt _ _ ⟨w.heap.size, 0, none⟩ (by simp; omega)]; simp)
 have st := eb_set t ⟨w.heap.size + 1 + 1 + 1, 0, none⟩ old ((((w.alloc (.cells #[.pointer (some t)] 106)).alloc (.cells #[.pointer (some ⟨11, 106, none⟩), .pointer (some ⟨w.heap.size, 0, none⟩), .int .u64 150] 153)).alloc (.cells #[.pointer (some ⟨11, 106, none⟩), .pointer (some ⟨w.heap.size, 0, none⟩), .int .u64 150] 153)).alloc (.cells #[.iface 88 (.int .i64 2)] 104))
  (by rw [World.cell?_alloc_at _ _ _ _ (by simp)]; rfl)
  (by rw [World.cell?_alloc_lt _ _ t (by simp; omega), World.cell?_alloc_lt _ _ t (by simp; omega), World.cell?_alloc_lt _ _ t (by simp; omega), World.cell?_alloc_lt _ _ t htl]; exact ht0)
  (by rw [World.frozen?_alloc_old _ _ t (by simp; omega), World.frozen?_alloc_old _ _ t (by simp; omega), World.frozen?_alloc_old _ _ t (by simp; omega), World.frozen?_alloc_old _ _ t (Nat.ne_of_lt htl)]; exact hf0)
 clear hg
 go_enter Tryz.func38, Tryz.ntmps38
 go_wp2
 refine wp_loop_rounds 1 ?_
 rw [rounds_succ]
 go_wp2
 go_ret
 exact ⟨rfl, rfl⟩
theorem eb_unassignable (w : World) : (ReflectliteType.relation "AssignableTo" ReflectliteType.assignableTo #[.agg #[.pointer (some ⟨11, 88, none⟩)], .iface 191 (.agg #[.pointer (some ⟨11, 104, none⟩)])]).run Tryz.prog w = .ok (.bool false) w := by kernel_rfl
set_option maxRecDepth 100000 in
set_option maxHeartbeats 4000000 in
theorem as_miss (n : Int) (t : Addr) (old : Value) (w : World) (hg : HandleAt w) (ht0 : w.cell? t = some old) :
  Calls Tryz.prog 38 #[.iface 88 (.int .i64 n), .iface 106 (.pointer (some t))] w fun ev w' => ev = .returned (.bool false) ∧ w' = ((w.alloc (.cells #[.pointer (some t)] 106)).alloc (.cells #[.pointer (some ⟨11, 106, none⟩), .pointer (some ⟨w.heap.size, 0, none⟩), .int .u64 150] 153)).alloc (.cells #[.pointer (some ⟨11, 106, none⟩), .pointer (some ⟨w.heap.size, 0, none⟩), .int .u64 150] 153) := by
 have h6 := @run_callFunc_extern Tryz.prog 71 _ (fun args => ReflectliteValue.unpack (args.getD 0 (.tuple #[]))) Tryz.func71 kRf kRf kRf kRf
 have h7 := @run_callFunc_extern Tryz.prog 72 _ (ReflectliteValue.methodAny (ReflectliteValue.valueError "reflectlite.Value.Type" 0) (fun t _ _ _ => ReflectliteType.toType t)) Tryz.func72 kRf kRf kRf kRf
 have h8 := @run_callFunc_extern Tryz.prog 73 _ (ReflectliteValue.method (ReflectliteValue.valueError "reflectlite.Value.IsNil" 0) ReflectliteValue.isNil) Tryz.func73 kRf kRf kRf kRf
 have h27 := @run_callFunc_extern Tryz.prog 197 _ (ReflectliteType.abiMethod fun t => do pure (.int .u8 (← Rtype.kind t))) Tryz.func197 kRf kRf kRf kRf
 have h37 := @run_callFunc_extern Tryz.prog 208 _ (ReflectliteType.method ReflectliteType.elem) Tryz.func208 kRf kRf kRf kRf
 have h38 := @run_callFunc_extern Tryz.prog 209 _ (ReflectliteType.relation "Implements" ReflectliteType.implements_) Tryz.func209 kRf kRf kRf kRf
 have h10 := @run_callFunc_extern Tryz.prog 107 _ ReflectliteType.typeOf Tryz.func107 kRf kRf kRf kRf
 have h35 := @run_callFunc_extern Tryz.prog 206 _ (ReflectliteType.relation "AssignableTo" ReflectliteType.assignableTo) Tryz.func206 kRf kRf kRf kRf
 have mK : ∀ (h : Value) (w : World), (Go.method 401 191 (.agg #[h]) "Kind").run Tryz.prog w = .ok (197, h) w := fun _ _ => by kernel_rfl
 have tO := ea_typeOfE
 have aE := eb_unassignable
 have f6 := eb_valueOfP
 have f7 := eb_typeP
 have kP := eb_kindP
 have kE := eb_kindE
 have eT := eb_elemT
 have iE := eb_implements
 have mE : ∀ (h : Value) (w : World), (Go.method 401 191 (.agg #[h]) "Elem").run Tryz.prog w = .ok (208, .agg #[h]) w := fun _ _ => by kernel_rfl
 have mI : ∀ (h : Value) (w : World), (Go.method 401 191 (.agg #[h]) "Implements").run Tryz.prog w = .ok (209, .agg #[h]) w := fun _ _ => by kernel_rfl
 have mA : ∀ (h : Value) (w : World), (Go.method 401 191 (.agg #[h]) "AssignableTo").run Tryz.prog w = .ok (206, .agg #[h]) w := fun _ _ => by kernel_rfl
 have n8 := eb_isNilP ⟨w.heap.size, 0, none⟩ t ((w.alloc (.cells #[.pointer (some t)] 106)).alloc (.cells #[.pointer (some ⟨11, 106, none⟩), .pointer (some ⟨w.heap.size, 0, none⟩), .int .u64 150] 153)) (by simp)
 have hlt := hg.lt
 have hg2 : ((w.alloc (.cells #[.pointer (some t)] 106)).alloc (.cells #[.pointer (some ⟨11, 106, none⟩), .pointer (some ⟨w.heap.size, 0, none⟩), .int .u64 150] 153)).cell? ⟨1, 0, none⟩ = some (.iface 191 (.agg #[.pointer (some ⟨11, 36, none⟩)])) := by
  rw [World.cell?_alloc_lt _ _ ⟨1, 0, none⟩ (by simp <;> omega), World.cell?_alloc_lt _ _ ⟨1, 0, none⟩ hlt]; exact hg
 have htl : t.block < w.heap.size := by
  rcases Nat.lt_or_ge t.block w.heap.size with h | h
  ·exact h
  ·simp [World.cell?, Array.getElem?_eq_none h] at ht0
 clear hg
 have nAs : ∀ (x : TypeId) (w : World), (Instr.typeAssert (.iface 88 (.int .i64 n)) x 196 true).run Tryz.prog w = .ok (.tuple #[.nilIface, .bool false]) w := fun x w => run_typeAssert_lacksB Tryz.underlying196 kRf kRf _ x w
 have nU1 : ∀ (x : TypeId) (w : World), (Instr.typeAssert (.iface 88 (.int .i64 n)) x 199 true).run Tryz.prog w = .ok (.tuple #[.nilIface, .bool false]) w := fun x w => run_typeAssert_lacksB Tryz.underlying199 kRf kRf _ x w
 have nU2 : ∀ (x : TypeId) (w : World), (Instr.typeAssert (.iface 88 (.int .i64 n)) x 201 true).run Tryz.prog w = .ok (.tuple #[.nilIface, .bool false]) w := fun x w => run_typeAssert_lacksB Tryz.underlying201 kRf kRf _ x w
 go_enter Tryz.func38, Tryz.ntmps38
 go_wp2
 refine wp_loop_rounds 1 ?_
 rw [rounds_succ]
 go_wp2
 go_ret
 exact ⟨rfl, rfl⟩
theorem as_nil (v : Value) (w : World) : Calls Tryz.prog 38 #[.nilIface, v] w fun e w' => e = .returned (.bool false) ∧ w = w' := by
 go_enter Tryz.func38, Tryz.ntmps38
 go_wp2
 go_ret
 exact ⟨rfl, rfl⟩
def nameL (c : Int) : List UInt8 := if c = 0 then [79, 75] else if c = 1 then [69, 114, 114, 82, 97, 110, 103, 101] else if c = 2 then [69, 114, 114, 83, 121, 110, 116, 97, 120] else if c = 3 then [69, 114, 114, 83, 104, 97, 112, 101] else if c = 4 then [69, 114, 114, 70, 117, 108, 108] else if c = 5 then [69, 114, 114, 78, 111, 110, 101] else if c = 6 then [69, 114, 114, 83, 116, 97, 116, 101] else if c = 7 then [69, 114, 114, 67, 108, 97, 115, 104] else if c = 8 then [69, 114, 114, 66, 97, 99, 107] else [69, 114, 114, 110, 111]
theorem errno_Error (c : Int) (w : World) : Calls Tryz.prog 39 #[.int .i64 c] w fun e w' => e = .returned (.string ⟨(nameL c).toArray⟩) ∧ w = w' := by
 by_cases h0 : c = 0
 ·subst h0
  go_enter Tryz.func39, Tryz.ntmps39
  go_wp2
  go_ret
  exact ⟨rfl, rfl⟩
 by_cases h1 : c = 1
 ·subst h1
  go_enter Tryz.func39, Tryz.ntmps39
  go_wp2
  go_ret
  exact ⟨rfl, rfl⟩
 by_cases h2 : c = 2
 ·subst h2
  go_enter Tryz.func39, Tryz.ntmps39
  go_wp2
  go_ret
  exact ⟨rfl, rfl⟩
 by_cases h3 : c = 3
 ·subst h3
  go_enter Tryz.func39, Tryz.ntmps39
  go_wp2
  go_ret
  exact ⟨rfl, rfl⟩
 by_cases h4 : c = 4
 ·subst h4
  go_enter Tryz.func39, Tryz.ntmps39
  go_wp2
  go_ret
  exact ⟨rfl, rfl⟩
 by_cases h5 : c = 5
 ·subst h5
  go_enter Tryz.func39, Tryz.ntmps39
  go_wp2
  go_ret
  exact ⟨rfl, rfl⟩
 by_cases h6 : c = 6
 ·subst h6
  go_enter Tryz.func39, Tryz.ntmps39
  go_wp2
  go_ret
  exact ⟨rfl, rfl⟩
 by_cases h7 : c = 7
 ·subst h7
  go_enter Tryz.func39, Tryz.ntmps39
  go_wp2
  go_ret
  exact ⟨rfl, rfl⟩
 by_cases h8 : c = 8
 ·subst h8
  go_enter Tryz.func39, Tryz.ntmps39
  go_wp2
  go_ret
  exact ⟨rfl, rfl⟩
 have e : nameL c = [69, 114, 114, 110, 111] := by unfold nameL; rw [if_neg h0, if_neg h1, if_neg h2, if_neg h3, if_neg h4, if_neg h5, if_neg h6, if_neg h7, if_neg h8]
 rw [e]
 go_enter Tryz.func39, Tryz.ntmps39
 go_wp2
 go_ret
 exact ⟨rfl, rfl⟩
end Go.Proofs.YtldlandcjegikaaGreatDoor
