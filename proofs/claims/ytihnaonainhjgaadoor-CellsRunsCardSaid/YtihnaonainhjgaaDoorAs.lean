/- errors.As: at a chain of errors that wrap one another, of which the last one is of the target's type. -/
import Derived.Test.YtihnaonainhjgaaDoorTyD
import Derived.Test.YtihnaonainhjgaaDoorAbC
import Derived.Laws.Externs
import Derived.Stop.Asserts
set_option linter.unusedVariables false
set_option linter.unusedSimpArgs false
namespace Go.Proofs.Tryd
open Go.Ab Go.Extern Go.Extern.Stop Go.Stop
def H (t : TypeId) : Value := .pointer (some ⟨2, t, none⟩)
abbrev G0 : Given := [(0, 0, .iface 231 (.agg #[H 101]))]
noncomputable abbrev cfM (n : Nat) (wide gl : List Nat) : Cfg := ⟨prog, ty, mdOf wide gl, n, G0⟩
/-- Of a type, as reflectlite's own. -/
def rtV (t : TypeId) : V := .iface 231 (.agg [.lit (H t)])
theorem x_valueOf (x : Value) (w : World) : (callFunc 103 #[x]).run prog w = ((ReflectliteValue.unpack x).run prog w).andThen fun v w' => .ok (.value v) w' :=
  run_callFunc_extern (e := (fun args => ReflectliteValue.unpack (args.getD 0 (.tuple #[])))) func103 (by kernel_rfl) (by kernel_rfl) (by kernel_rfl) (by kernel_rfl) #[x] w
theorem x_type (args : Array Value) (w : World) : (callFunc 104 args).run prog w = (((ReflectliteValue.methodAny (ReflectliteValue.valueError "reflectlite.Value.Type" 0) (fun t _ _ _ => ReflectliteType.toType t)) args).run prog w).andThen fun v w' => .ok (.value v) w' :=
  run_callFunc_extern (e := (ReflectliteValue.methodAny (ReflectliteValue.valueError "reflectlite.Value.Type" 0) (fun t _ _ _ => ReflectliteType.toType t))) func104 (by kernel_rfl) (by kernel_rfl) (by kernel_rfl) (by kernel_rfl) args w
theorem x_isNil (args : Array Value) (w : World) : (callFunc 105 args).run prog w = (((ReflectliteValue.method (ReflectliteValue.valueError "reflectlite.Value.IsNil" 0) ReflectliteValue.isNil) args).run prog w).andThen fun v w' => .ok (.value v) w' :=
  run_callFunc_extern (e := (ReflectliteValue.method (ReflectliteValue.valueError "reflectlite.Value.IsNil" 0) ReflectliteValue.isNil)) func105 (by kernel_rfl) (by kernel_rfl) (by kernel_rfl) (by kernel_rfl) args w
theorem x_kind (args : Array Value) (w : World) : (callFunc 170 args).run prog w = (((ReflectliteType.abiMethod fun t => do pure (.int .u8 (← Rtype.kind t))) args).run prog w).andThen fun v w' => .ok (.value v) w' :=
  run_callFunc_extern (e := (ReflectliteType.abiMethod fun t => do pure (.int .u8 (← Rtype.kind t)))) func170 (by kernel_rfl) (by kernel_rfl) (by kernel_rfl) (by kernel_rfl) args w
theorem x_elem (args : Array Value) (w : World) : (callFunc 192 args).run prog w = (((ReflectliteType.method ReflectliteType.elem) args).run prog w).andThen fun v w' => .ok (.value v) w' :=
  run_callFunc_extern (e := (ReflectliteType.method ReflectliteType.elem)) func192 (by kernel_rfl) (by kernel_rfl) (by kernel_rfl) (by kernel_rfl) args w
theorem x_implements (args : Array Value) (w : World) : (callFunc 193 args).run prog w = (((ReflectliteType.relation "Implements" ReflectliteType.implements_) args).run prog w).andThen fun v w' => .ok (.value v) w' :=
  run_callFunc_extern (e := (ReflectliteType.relation "Implements" ReflectliteType.implements_)) func193 (by kernel_rfl) (by kernel_rfl) (by kernel_rfl) (by kernel_rfl) args w
theorem x_typeOf (args : Array Value) (w : World) : (callFunc 114 args).run prog w = ((ReflectliteType.typeOf args).run prog w).andThen fun v w' => .ok (.value v) w' :=
  run_callFunc_extern (e := ReflectliteType.typeOf) func114 (by kernel_rfl) (by kernel_rfl) (by kernel_rfl) (by kernel_rfl) args w
theorem x_assignable (args : Array Value) (w : World) : (callFunc 190 args).run prog w = (((ReflectliteType.relation "AssignableTo" ReflectliteType.assignableTo) args).run prog w).andThen fun v w' => .ok (.value v) w' :=
  run_callFunc_extern (e := (ReflectliteType.relation "AssignableTo" ReflectliteType.assignableTo)) func190 (by kernel_rfl) (by kernel_rfl) (by kernel_rfl) (by kernel_rfl) args w
theorem x_elemV (args : Array Value) (w : World) : (callFunc 131 args).run prog w = (((ReflectliteValue.method (ReflectliteValue.valueError "reflectlite.Value.Elem" 0) ReflectliteValue.elem) args).run prog w).andThen fun v w' => .ok (.value v) w' :=
  run_callFunc_extern (e := (ReflectliteValue.method (ReflectliteValue.valueError "reflectlite.Value.Elem" 0) ReflectliteValue.elem)) func131 (by kernel_rfl) (by kernel_rfl) (by kernel_rfl) (by kernel_rfl) args w
theorem x_set (args : Array Value) (w : World) : (callFunc 132 args).run prog w = ((ReflectliteValue.set args).run prog w).andThen fun v w' => .ok (.value v) w' :=
  run_callFunc_extern (e := ReflectliteValue.set) func132 (by kernel_rfl) (by kernel_rfl) (by kernel_rfl) (by kernel_rfl) args w

/-- What is asked of the target's type e, of the pointer type p to it: closed facts. -/
structure AsT (e p : TypeId) (ke : Int) : Prop where
  valueOf : ∀ (a : Addr) (w : World), (ReflectliteValue.unpack (.iface p (.pointer (some a)))).run prog w = .ok (.agg #[H p, .pointer (some ⟨w.heap.size, 0, none⟩), .int .u64 150]) (w.alloc (.cells #[.pointer (some a)] p))
  type : ∀ (a : Addr) (w : World), (ReflectliteValue.methodAny (ReflectliteValue.valueError "reflectlite.Value.Type" 0) (fun t _ _ _ => ReflectliteType.toType t) #[.agg #[H p, .pointer (some a), .int .u64 150]]).run prog w = .ok (.iface 231 (.agg #[H p])) w
  kindp : ∀ w : World, ((ReflectliteType.abiMethod fun t => do pure (.int .u8 (← Rtype.kind t))) #[H p]).run prog w = .ok (.int .u8 22) w
  kinde : ∀ w : World, ((ReflectliteType.abiMethod fun t => do pure (.int .u8 (← Rtype.kind t))) #[H e]).run prog w = .ok (.int .u8 ke) w
  kind20 : ke ≠ 20
  partsp : ∀ (a : Addr) (w : World), (ReflectliteValue.parts (.agg #[H p, .pointer (some a), .int .u64 150])).run prog w = .ok (some (p, a, 150)) w
  undp : prog.underlying p = some (.pointer e)
  elem : ∀ w : World, (ReflectliteType.method ReflectliteType.elem #[.agg #[H p]]).run prog w = .ok (.iface 231 (.agg #[H e])) w
  elemOf : ∀ w : World, (Rtype.elem? p).run prog w = .ok (some e) w
  mkV : ∀ (a : Addr) (w : World), (ReflectliteValue.mk e a ReflectliteValue.flagAddr).run prog w = .ok (.agg #[H e, .pointer (some a), .int .u64 (ke + 384)]) w
  partsa : ∀ (a : Addr) (w : World), (ReflectliteValue.parts (.agg #[H e, .pointer (some a), .int .u64 (ke + 384)])).run prog w = .ok (some (e, a, (ke + 384).toNat)) w
  partse : ∀ (a : Addr) (w : World), (ReflectliteValue.parts (.agg #[H e, .pointer (some a), .int .u64 (ke + 128)])).run prog w = .ok (some (e, a, (ke + 128).toNat)) w
  addr : ((ke + 384).toNat / ReflectliteValue.flagAddr % 2 == 0) = false
  direct : ∀ w : World, (Rtype.directlyAssignable e e).run prog w = .ok true w
  assign : ∀ w : World, (ReflectliteType.relation "AssignableTo" ReflectliteType.assignableTo #[.agg #[H e], .iface 231 (.agg #[H e])]).run prog w = .ok (.bool true) w
  typeOf : ∀ (v : Value) (w : World), (ReflectliteType.typeOf #[.iface e v]).run prog w = .ok (.iface 231 (.agg #[H e])) w
  impl : ∀ w : World, (ReflectliteType.relation "Implements" ReflectliteType.implements_ #[.agg #[H e], .iface 231 (.agg #[H 101])]).run prog w = .ok (.bool true) w
  size : ∀ w : World, (Go.sizeOf e).run prog w = .ok 1 w

/-- What is asked of a type that wraps: it isn't the target's, has no method As, and Unwrap. -/
structure AsW (e t : TypeId) (f : FuncId) : Prop where
  assign : ∀ w : World, (ReflectliteType.relation "AssignableTo" ReflectliteType.assignableTo #[.agg #[H t], .iface 231 (.agg #[H e])]).run prog w = .ok (.bool false) w
  typeOf : ∀ (v : Value) (w : World), (ReflectliteType.typeOf #[.iface t v]).run prog w = .ok (.iface 231 (.agg #[H t])) w
  noAs : AsrOK prog t 235 false
  hasU : AsrOK prog t 238 true
  inv : ∀ (v : Value) (w : World), (method (prog.types.size + Made.depth) t v "Unwrap").run prog w = .ok (f, v) w

/-- A chain of errors, and what the last one is. -/
inductive Chain (e : TypeId) : Nat → V → V → Prop
  | leaf (x : V) : Chain e 0 (.iface e x) x
  | wrap (n : Nat) (t : TypeId) (f : FuncId) (x i y : V) (ht : AsW e t f) (hf : PureOK prog G0 f [x] i) (hx : x.pure = true) (h : Chain e n i y) : Chain e (n + 1) (.iface t x) y
theorem Chain.pure {e : TypeId} {n : Nat} {x y : V} (h : Chain e n x y) (hy : y.pure = true) : x.pure = true := by
  cases h with
  | leaf x => exact hy
  | wrap n t f x i y ht hf hx h => exact hx

section
variable {e p : TypeId} {ke : Int} (hT : AsT e p ke)
include hT
theorem valueOf_p (n g0 g : Nat) (m : Mem) (d sz : Nat) (es : List V) (hd : d < 1000) (hdn : d ≠ n) (hm : m n = some (.row g sz es)) :
    CallOK prog G0 103 [.iface p (.ptr n g 0 0)] m fun r m' => r = .agg [.lit (H p), .ptr d (ngen m d) 0 0, .int .u64 150] ∧ m' = mupd m d (.row (ngen m d) 1 [.ptr n g 0 0]) := by
  refine CallOK.makes hd (x := .ptr n g 0 0) rfl fun c w vs hs hcm hr => ?_
  subst hcm
  obtain ⟨u, rfl, hu⟩ := hr.one
  obtain ⟨v, rfl, hv⟩ := hu.iface_inv
  obtain ⟨k, hk, rfl⟩ := hv.ptr_inv hm
  refine ⟨.agg #[H p, .pointer (some ⟨w.heap.size, 0, none⟩), .int .u64 150], #[.pointer (some ⟨k, 0 * sz + 0, none⟩)], p, ?_, ?_, fun j y hj => ?_, fun c' hmono hd' hm' => .mk3 (.lit _) ?_ (.int _ _)⟩
  · rw [show [Value.iface p (.pointer (some ⟨k, 0 * sz + 0, none⟩))].toArray = #[Value.iface p (.pointer (some ⟨k, 0 * sz + 0, none⟩))] from rfl, x_valueOf, hT.valueOf]
    rfl
  · simp
  · cases j with
    | zero => simp [leaves] at hj; subst hj; exact ⟨_, rfl, hv⟩
    | succ j => simp [leaves] at hj
  · have := R.ptr (c := c') d (ngen c.mem d) 0 0 1 [.ptr n g 0 0] w.heap.size (by rw [hm', mupd_same]) hd'
    simpa using this

theorem type_p (d g : Nat) (m : Mem) (sz : Nat) (es : List V) (hm : m d = some (.row g sz es)) :
    CallOK prog G0 104 [.agg [.lit (H p), .ptr d g 0 0, .int .u64 150]] m fun r m' => r = rtV p ∧ m' = m := by
  refine CallOK.tells fun c w vs hs hcm hr => ?_
  subst hcm
  obtain ⟨u, rfl, hu⟩ := hr.one
  obtain ⟨a, b, x, rfl, ha, hb, hx⟩ := hu.agg3
  obtain rfl := ha.lit_inv
  obtain rfl := hx.int_inv
  obtain ⟨k, hk, rfl⟩ := hb.ptr_inv hm
  refine ⟨_, ?_, .iface _ _ _ (R.mk1 (.lit _))⟩
  rw [x_type, show [Value.agg #[H p, .pointer (some ⟨k, 0 * sz + 0, none⟩), .int .u64 150]].toArray = #[Value.agg #[H p, .pointer (some ⟨k, 0 * sz + 0, none⟩), .int .u64 150]] from rfl, hT.type]
  rfl
omit hT in
theorem kind_at (t : TypeId) (k : Int) (hk : ∀ w : World, ((ReflectliteType.abiMethod fun t => do pure (.int .u8 (← Rtype.kind t))) #[H t]).run prog w = .ok (.int .u8 k) w) (m : Mem) :
    CallOK prog G0 170 [.lit (H t)] m fun r m' => r = .int .u8 k ∧ m' = m := by
  refine CallOK.tells fun c w vs hs hcm hr => ?_
  obtain ⟨u, rfl, hu⟩ := hr.one
  obtain rfl := hu.lit_inv
  refine ⟨_, ?_, .int _ _⟩
  rw [x_kind, show [H t].toArray = #[H t] from rfl, hk]
  rfl
theorem isNil_p (d g : Nat) (m : Mem) (n g2 sz : Nat) (es : List V) (hm : m d = some (.row g 1 [.ptr n g2 0 0])) (hn : m n = some (.row g2 sz es)) :
    CallOK prog G0 105 [.agg [.lit (H p), .ptr d g 0 0, .int .u64 150]] m fun r m' => r = .bool false ∧ m' = m := by
  refine CallOK.tells fun c w vs hs hcm hr => ?_
  subst hcm
  obtain ⟨u, rfl, hu⟩ := hr.one
  obtain ⟨a, b, x, rfl, ha, hb, hx⟩ := hu.agg3
  obtain rfl := ha.lit_inv
  obtain rfl := hx.int_inv
  obtain ⟨k, hk, rfl⟩ := hb.ptr_inv hm
  obtain ⟨v, hv, hr⟩ := hs.cell1 hm hk rfl
  obtain ⟨k2, hk2, rfl⟩ := hr.ptr_inv hn
  refine ⟨_, ?_, .bool _⟩
  rw [x_isNil]
  have rlm : ∀ v : Value, ReflectliteValue.method (ReflectliteValue.valueError "reflectlite.Value.IsNil" 0) ReflectliteValue.isNil #[v] = (do match ← ReflectliteValue.parts v with | none => (ReflectliteValue.valueError "reflectlite.Value.IsNil" 0) | some (t, a, fl) => ReflectliteValue.isNil t a fl (fl % 32)) := fun v => rfl
  rw [show [Value.agg #[H p, .pointer (some ⟨k, 0 * 1 + 0, none⟩), .int .u64 150]].toArray = #[Value.agg #[H p, .pointer (some ⟨k, 0, none⟩), .int .u64 150]] from rfl, rlm]
  simp only [Sem.run_bind, hT.partsp, Result.andThen]
  simp [ReflectliteValue.isNil, loadVar, isAgg, underlying, hT.undp, hv, Result.andThen]
end
end Go.Proofs.Tryd

/- errors.As, the rest. -/
namespace Go.Proofs.Tryd
open Go.Ab Go.Extern Go.Extern.Stop Go.Stop

/-- The last error's value: one cell. -/
structure AsLeaf (e : TypeId) (ke : Int) (x y : V) : Prop where
  one : leaves x = [y]
  cell : cellV y = true
  box : ∀ (c : Cx) (u : Value) (w : World), R c x u → ∃ v, R c y v ∧ (ReflectliteValue.unpack (.iface e u)).run prog w = .ok (.agg #[H e, .pointer (some ⟨w.heap.size, 0, none⟩), .int .u64 (ke + 128)]) (w.alloc (.cells #[v] e))
  set : ∀ (c : Cx) (v old : Value) (a b : Addr) (W : World), R c y v → W.cell? b = some v → W.cell? a = some old → W.frozen? a = false →
    (ReflectliteValue.set #[.agg #[H e, .pointer (some a), .int .u64 (ke + 384)], .agg #[H e, .pointer (some b), .int .u64 (ke + 128)]]).run prog W = .ok (.tuple #[]) (W.setCell a v)

theorem typeOf_at (t : TypeId) (x : V) (h : ∀ (v : Value) (w : World), (ReflectliteType.typeOf #[.iface t v]).run prog w = .ok (.iface 231 (.agg #[H t])) w) (m : Mem) :
    CallOK prog G0 114 [.iface t x] m fun r m' => r = rtV t ∧ m' = m := by
  refine CallOK.tells fun c w vs hs hcm hr => ?_
  obtain ⟨u, rfl, hu⟩ := hr.one
  obtain ⟨v, rfl, _⟩ := hu.iface_inv
  refine ⟨_, ?_, .iface _ _ _ (R.mk1 (.lit _))⟩
  rw [x_typeOf, show [Value.iface t v].toArray = #[Value.iface t v] from rfl, h]
  rfl
theorem assign_at (t e : TypeId) (b : Bool) (h : ∀ w : World, (ReflectliteType.relation "AssignableTo" ReflectliteType.assignableTo #[.agg #[H t], .iface 231 (.agg #[H e])]).run prog w = .ok (.bool b) w) (m : Mem) :
    CallOK prog G0 190 [.agg [.lit (H t)], rtV e] m fun r m' => r = .bool b ∧ m' = m := by
  refine CallOK.tells fun c w vs hs hcm hr => ?_
  obtain ⟨u, u', rfl, hu, hu'⟩ := hr.two
  obtain ⟨v, rfl, hv⟩ := hu.agg1
  obtain rfl := hv.lit_inv
  obtain ⟨v', rfl, hv'⟩ := R.iface_inv hu'
  obtain ⟨v, rfl, hv⟩ := hv'.agg1
  obtain rfl := hv.lit_inv
  refine ⟨_, ?_, .bool _⟩
  rw [x_assignable, show [Value.agg #[H t], Value.iface 231 (.agg #[H e])].toArray = #[Value.agg #[H t], Value.iface 231 (.agg #[H e])] from rfl, h]
  rfl
theorem implements_at (t e : TypeId) (b : Bool) (h : ∀ w : World, (ReflectliteType.relation "Implements" ReflectliteType.implements_ #[.agg #[H t], .iface 231 (.agg #[H e])]).run prog w = .ok (.bool b) w) (m : Mem) :
    CallOK prog G0 193 [.agg [.lit (H t)], rtV e] m fun r m' => r = .bool b ∧ m' = m := by
  refine CallOK.tells fun c w vs hs hcm hr => ?_
  obtain ⟨u, u', rfl, hu, hu'⟩ := hr.two
  obtain ⟨v, rfl, hv⟩ := hu.agg1
  obtain rfl := hv.lit_inv
  obtain ⟨v', rfl, hv'⟩ := R.iface_inv hu'
  obtain ⟨v, rfl, hv⟩ := hv'.agg1
  obtain rfl := hv.lit_inv
  refine ⟨_, ?_, .bool _⟩
  rw [x_implements, show [Value.agg #[H t], Value.iface 231 (.agg #[H e])].toArray = #[Value.agg #[H t], Value.iface 231 (.agg #[H e])] from rfl, h]
  rfl
theorem rtElem_at (p e : TypeId) (h : ∀ w : World, (ReflectliteType.method ReflectliteType.elem #[.agg #[H p]]).run prog w = .ok (.iface 231 (.agg #[H e])) w) (m : Mem) :
    CallOK prog G0 192 [.agg [.lit (H p)]] m fun r m' => r = rtV e ∧ m' = m := by
  refine CallOK.tells fun c w vs hs hcm hr => ?_
  obtain ⟨u, rfl, hu⟩ := hr.one
  obtain ⟨v, rfl, hv⟩ := hu.agg1
  obtain rfl := hv.lit_inv
  refine ⟨_, ?_, .iface _ _ _ (R.mk1 (.lit _))⟩
  rw [x_elem, show [Value.agg #[H p]].toArray = #[Value.agg #[H p]] from rfl, h]
  rfl
theorem elemV_p {e p : TypeId} {ke : Int} (hT : AsT e p ke) (d g : Nat) (m : Mem) (n g2 sz : Nat) (es : List V) (hm : m d = some (.row g 1 [.ptr n g2 0 0])) (hn : m n = some (.row g2 sz es)) :
    CallOK prog G0 131 [.agg [.lit (H p), .ptr d g 0 0, .int .u64 150]] m fun r m' => r = .agg [.lit (H e), .ptr n g2 0 0, .int .u64 (ke + 384)] ∧ m' = m := by
  refine CallOK.tells fun c w vs hs hcm hr => ?_
  subst hcm
  obtain ⟨u, rfl, hu⟩ := hr.one
  obtain ⟨a, b, x, rfl, ha, hb, hx⟩ := hu.agg3
  obtain rfl := ha.lit_inv
  obtain rfl := hx.int_inv
  obtain ⟨k, hk, rfl⟩ := hb.ptr_inv hm
  obtain ⟨v, hv, hr⟩ := hs.cell1 hm hk rfl
  have hr0 := hr
  obtain ⟨k2, hk2, rfl⟩ := hr.ptr_inv hn
  refine ⟨.agg #[H e, .pointer (some ⟨k2, 0 * sz + 0, none⟩), .int .u64 (ke + 384)], ?_, .mk3 (.lit _) hr0 (.int _ _)⟩
  rw [x_elemV]
  have rlm : ∀ v : Value, ReflectliteValue.method (ReflectliteValue.valueError "reflectlite.Value.Elem" 0) ReflectliteValue.elem #[v] = (do match ← ReflectliteValue.parts v with | none => (ReflectliteValue.valueError "reflectlite.Value.Elem" 0) | some (t, a, fl) => ReflectliteValue.elem t a fl (fl % 32)) := fun v => rfl
  rw [show [Value.agg #[H p, .pointer (some ⟨k, 0 * 1 + 0, none⟩), .int .u64 150]].toArray = #[Value.agg #[H p, .pointer (some ⟨k, 0, none⟩), .int .u64 150]] from rfl, rlm]
  simp only [Sem.run_bind, hT.partsp, Result.andThen]
  simp [ReflectliteValue.elem, loadVar, isAgg, underlying, hT.undp, hv, Result.andThen, hT.elemOf, hT.mkV]
theorem valueOf_e {e : TypeId} {ke : Int} {x y : V} (hL : AsLeaf e ke x y) (m : Mem) (d : Nat) (hd : d < 1000) :
    CallOK prog G0 103 [.iface e x] m fun r m' => r = .agg [.lit (H e), .ptr d (ngen m d) 0 0, .int .u64 (ke + 128)] ∧ m' = mupd m d (.row (ngen m d) 1 [x]) := by
  refine CallOK.makes hd (x := x) (by rw [hL.one]; rfl) fun c w vs hs hcm hr => ?_
  subst hcm
  obtain ⟨u, rfl, hu⟩ := hr.one
  obtain ⟨v, rfl, hv⟩ := hu.iface_inv
  obtain ⟨q, hq, hrun⟩ := hL.box c v w hv
  refine ⟨.agg #[H e, .pointer (some ⟨w.heap.size, 0, none⟩), .int .u64 (ke + 128)], #[q], e, ?_, ?_, fun j z hj => ?_, fun c' hmono hd' hm' => .mk3 (.lit (H e)) ?_ (.int .u64 (ke + 128))⟩
  · rw [show [Value.iface e v].toArray = #[Value.iface e v] from rfl, x_valueOf, hrun]
    rfl
  · simp
  · rw [hL.one] at hj
    cases j with
    | zero => simp at hj; subst hj; exact ⟨_, rfl, hq⟩
    | succ j => simp at hj
  · have := R.ptr (c := c') d (ngen c.mem d) 0 0 1 [x] w.heap.size (by rw [hm', mupd_same]) hd'
    simpa using this
theorem set_at {e : TypeId} {ke : Int} {x y : V} (hL : AsLeaf e ke x y) (m : Mem) (n g2 d g : Nat) (x0 : V) (hx0 : (leaves x0).length = 1) (hn : m n = some (.row g2 1 [x0])) (hm : m d = some (.row g 1 [x])) :
    CallOK prog G0 132 [.agg [.lit (H e), .ptr n g2 0 0, .int .u64 (ke + 384)], .agg [.lit (H e), .ptr d g 0 0, .int .u64 (ke + 128)]] m fun r m' => r = .tup [] ∧ m' = mupd m n (.row g2 1 [x]) := by
  refine ⟨fun c w vs hs hcm _ hr => ?_⟩
  subst hcm
  obtain ⟨u, u', rfl, hu, hu'⟩ := hr.two
  obtain ⟨a, b, z, rfl, ha, hb, hz⟩ := hu.agg3
  obtain rfl := ha.lit_inv
  obtain rfl := hz.int_inv
  obtain ⟨k, hk, rfl⟩ := hb.ptr_inv hn
  obtain ⟨a, b, z, rfl, ha, hb, hz⟩ := hu'.agg3
  obtain rfl := ha.lit_inv
  obtain rfl := hz.int_inv
  obtain ⟨k2, hk2, rfl⟩ := hb.ptr_inv hm
  obtain ⟨k0, cs, T, fr, a1, a2, a3, a4, a5, a6, a7⟩ := hs.ok _ _ hn
  rw [hk] at a1; injection a1 with a1; subst a1
  obtain ⟨k0, cs2, T2, fr2, b1, b2, b3, b4, b5, b6, b7⟩ := hs.ok _ _ hm
  rw [hk2] at b1; injection b1 with b1; subst b1
  obtain ⟨v, hv, hvr⟩ := b6 0 x 0 y rfl (by rw [hL.one]; rfl)
  have hone : v.oneCell' = true := cellV_one hvr hL.cell
  have hcs : 0 < cs.size := by simp at a3; omega
  have hcell : w.cell? ⟨k2, 0, none⟩ = some v := by simp [World.cell?, b2]; simpa using hv
  have hold : w.cell? ⟨k, 0, none⟩ = some cs[0] := by simp [World.cell?, a2, hcs]
  have hfro : w.frozen? ⟨k, 0, none⟩ = false := by
    cases hb : w.frozen? ⟨k, 0, none⟩ with
    | false => rfl
    | true =>
      simp only [World.frozen?, a2, Bool.and_eq_true, decide_eq_true_eq] at hb
      exact absurd hb (a4 0 hcs)
  have hrun := hL.set c v cs[0] ⟨k, 0, none⟩ ⟨k2, 0, none⟩ w hvr hcell hold hfro
  obtain ⟨w', e1, e2⟩ := run_put (P := prog) [v] 0 0 cs w a2 a4 (by simp; omega) (by simpa using hone)
  have hw' : w' = w.setCell ⟨k, 0, none⟩ v := by
    have h0 : (store ((⟨k, 0, none⟩ : Addr).add 0) v).run prog w = .ok () (w.setCell ⟨k, 0, none⟩ v) := by
      rw [add_none, run_store prog w _ v _ hone, hold]; simp [hfro]
    simp only [storeCells, Sem.run_bind, h0, Result.andThen_ok, Sem.run_pure] at e1
    injection e1 with e1 e1'
    exact e1'.symm
  obtain ⟨c', f1, f2, f3⟩ := put_row hs hn hk a2 e2 (es' := [x]) rfl (fun z hz => by simp at hz; subst hz; rw [hL.one]; rfl) (fun i z j q hz hq => by
    cases i with
    | succ i => simp at hz
    | zero =>
      simp at hz; subst hz
      rw [hL.one] at hq
      cases j with
      | succ j => simp at hq
      | zero =>
        simp at hq; subst hq
        exact ⟨v, by simp, hvr⟩)
  refine .inr ⟨.tuple #[], w', ?_, c', .tup [], ⟨rfl, f1.mem⟩, f1.ext, f1.mono, f1.sim, .tup [] [] rfl (by simp), fun n _ h => f1.was n (by assumption) h⟩
  rw [x_set, show [Value.agg #[H e, .pointer (some ⟨k, 0 * 1 + 0, none⟩), .int .u64 (ke + 384)], Value.agg #[H e, .pointer (some ⟨k2, 0 * 1 + 0, none⟩), .int .u64 (ke + 128)]].toArray = #[Value.agg #[H e, .pointer (some ⟨k, 0, none⟩), .int .u64 (ke + 384)], Value.agg #[H e, .pointer (some ⟨k2, 0, none⟩), .int .u64 (ke + 128)]] from rfl, hrun, hw']
  rfl
end Go.Proofs.Tryd

/- errors.As by its contract. -/
namespace Go.Proofs.Tryd
open Go.Ab Go.Extern Go.Extern.Stop Go.Stop

def asM (x : V) : List (Nat × Blk) := [(1000, .row 0 1 [x]), (1001, .row 0 1 [.ptr 1000 0 0 0])]
theorem as_ok {e p : TypeId} {ke : Int} (hT : AsT e p ke) {x y : V} (hL : AsLeaf e ke x y) (hxp : x.pure = true) (x0 : V) (hx0 : (leaves x0).length = 1) (hp0 : x0.pure = true) (n : Nat) (er : V) (hc : Chain e n er x) :
    CallOK prog G0 106 [er, .iface p (.ptr 1000 0 0 0), .agg [.lit (H p), .ptr 1001 0 0 0, .int .u64 150], rtV e] (memOf (asM x0)) fun r m => r = .bool true ∧ m = memOf (asM x) := by
  refine CallOK.bodyM (cf := cfM 62 [] []) ty_ok (fn := f106) ⟨func106, rfl, rfl, by kernel_rfl⟩ rfl (Nat.le_of_ble_eq_true rfl) rfl ?_ ?_
  · rintro r' m' ⟨_, rfl⟩; exact ⟨_, rfl, rfl⟩
  conv => whnf
  have hcp : ∀ n er, Chain e n er x → er.pure = true := fun n er h => h.pure hxp
  refine LoopOK.intro (fun q : Nat × V => Chain e q.1 q.2 x) (fun q => [(0, q.2), (1, .iface p (.ptr 1000 0 0 0)), (3, rtV e), (6, .ptr 6 0 0 0)]) (fun _ => (6, .row 0 3 [.agg [.lit (H p), .ptr 1001 0 0 0, .int .u64 150]]) :: asM x0) (fun q => q.1) (n, er) hc ?_ ?_
  · refine Le.of (List.forall_mem_cons.2 ⟨VTh.pure (hcp _ _ hc), convE.vth (by repeat' (first | rfl | trivial | apply And.intro))⟩) (convM.bth (by (repeat' (first | trivial | apply And.intro)) <;> (first | exact BTh.same _ _ _ _ _ rfl (Nat.le_of_ble_eq_true rfl) | (refine BTh.rowL rfl (by first | rfl | trivial) ?_; (repeat' (first | rfl | trivial | apply And.intro)); done) | exact BTh.rowP rfl (by first | rfl | trivial) (by simp [*]) | exact BTh.tok _ _ _ _ _ rfl rfl | exact BTh.new _ _ rfl rfl)))
  · rintro ⟨k, er'⟩ hk
    cases hk with
    | leaf =>
      conv => whnf
      refine CallOK.mono (typeOf_at e x hT.typeOf _) ?_
      rintro _ _ ⟨rfl, rfl⟩
      conv => whnf
      refine ⟨190, .agg [.lit (H e)], InvOK.self (by intro v w; kernel_rfl) _, ?_⟩
      refine CallOK.mono (assign_at e e true hT.assign _) ?_
      rintro _ _ ⟨rfl, rfl⟩
      conv => whnf
      refine CallOK.mono (elemV_p hT 1001 0 _ 1000 0 1 [x0] rfl rfl) ?_
      rintro _ _ ⟨rfl, rfl⟩
      conv => whnf
      refine CallOK.mono (valueOf_e hL _ 23 (by omega)) ?_
      rintro _ _ ⟨rfl, rfl⟩
      conv => whnf
      refine CallOK.mono (set_at hL _ 1000 0 23 0 x0 hx0 rfl rfl) ?_
      rintro _ _ ⟨rfl, rfl⟩
      conv => whnf
      refine RetOK.now ?_
      conv => whnf
      refine ⟨asM x, .bool true, .conv (by repeat' (first | rfl | trivial | apply And.intro)), convM.bth (by (repeat' (first | trivial | apply And.intro)) <;> (first | exact BTh.same _ _ _ _ _ rfl (Nat.le_of_ble_eq_true rfl) | (refine BTh.rowL rfl (by first | rfl | trivial) ?_; (repeat' (first | rfl | trivial | apply And.intro)); done) | exact BTh.rowP rfl (by first | rfl | trivial) (by simp [*]) | exact BTh.tok _ _ _ _ _ rfl rfl | exact BTh.new _ _ rfl rfl)), ?_⟩
      exact ⟨rfl, rfl⟩
    | wrap k t f z i _ ht hf hz h =>
      obtain ⟨t', z', rfl⟩ : ∃ t' z', i = .iface t' z' := by cases h <;> exact ⟨_, _, rfl⟩
      conv => whnf
      refine CallOK.mono (typeOf_at t z ht.typeOf _) ?_
      rintro _ _ ⟨rfl, rfl⟩
      conv => whnf
      refine ⟨190, .agg [.lit (H t)], InvOK.self (by intro v w; kernel_rfl) _, ?_⟩
      refine CallOK.mono (assign_at t e false ht.assign _) ?_
      rintro _ _ ⟨rfl, rfl⟩
      conv => whnf
      refine ⟨false, ht.noAs, ?_⟩
      conv => whnf
      refine ⟨true, ht.hasU, ?_⟩
      conv => whnf
      refine ⟨f, z, InvOK.self ht.inv _, ?_⟩
      refine PureOK.use hf (args := [z]) ⟨VTh.pure hz, trivial⟩ ?_
      conv => whnf
      refine Head.next (k, .iface t' z') h (Nat.lt_succ_self k) (Le.of (List.forall_mem_cons.2 ⟨VTh.pure (hcp _ _ h), convE.vth (by repeat' (first | rfl | trivial | apply And.intro))⟩) (convM.bth (by (repeat' (first | trivial | apply And.intro)) <;> (first | exact BTh.same _ _ _ _ _ rfl (Nat.le_of_ble_eq_true rfl) | (refine BTh.rowL rfl (by first | rfl | trivial) ?_; (repeat' (first | rfl | trivial | apply And.intro)); done) | exact BTh.rowP rfl (by first | rfl | trivial) (by simp [*]) | exact BTh.tok _ _ _ _ _ rfl rfl | exact BTh.new _ _ rfl rfl))))

theorem inv_kind (t : TypeId) : InvOK prog 231 "Kind" (.agg [.lit (H t)]) 170 (.lit (H t)) := fun c u w hr => by
  obtain ⟨v, rfl, hv⟩ := hr.agg1
  obtain rfl := hv.lit_inv
  exact ⟨H t, by kernel_rfl, .lit _⟩
/-- The target: a variable of its type. -/
theorem As_ok {e p : TypeId} {ke : Int} (hT : AsT e p ke) {x y : V} (hL : AsLeaf e ke x y) (hxp : x.pure = true) (x0 : V) (hx0 : (leaves x0).length = 1) (hp0 : x0.pure = true) (n : Nat) (er : V) (hc : Chain e n er x) :
    CallOK prog G0 67 [er, .iface p (.ptr 1000 0 0 0)] (memOf [(1000, .row 0 1 [x0])]) fun r m => r = .bool true ∧ m = memOf [(1000, .row 0 1 [x])] := by
  have hcp : er.pure = true := hc.pure hxp
  obtain ⟨t', z', rfl⟩ : ∃ t' z', er = .iface t' z' := by cases hc <;> exact ⟨_, _, rfl⟩
  refine CallOK.bodyM (cf := cfM 42 [] []) ty_ok (fn := f67) ⟨func67, rfl, rfl, by kernel_rfl⟩ rfl (Nat.le_of_ble_eq_true rfl) rfl ?_ ?_
  · rintro r' m' ⟨_, rfl⟩; exact ⟨_, rfl, rfl⟩
  conv => whnf
  refine CallOK.mono (valueOf_p hT 1000 0 0 _ 14 1 [x0] (by omega) (by omega) (by rfl)) ?_
  rintro _ _ ⟨rfl, rfl⟩
  conv => whnf
  refine CallOK.mono (type_p hT 14 0 _ 1 [.ptr 1000 0 0 0] ?_) ?_
  · rfl
  rintro _ _ ⟨rfl, rfl⟩
  conv => whnf
  refine ⟨170, .lit (H p), inv_kind p, ?_⟩
  refine CallOK.mono (kind_at p 22 hT.kindp _) ?_
  rintro _ _ ⟨rfl, rfl⟩
  conv => whnf
  refine CallOK.mono (isNil_p hT 14 0 _ 1000 0 1 [x0] (by rfl) (by rfl)) ?_
  rintro _ _ ⟨rfl, rfl⟩
  conv => whnf
  refine ⟨192, .agg [.lit (H p)], InvOK.self (by intro v w; kernel_rfl) _, ?_⟩
  refine CallOK.mono (rtElem_at p e hT.elem _) ?_
  rintro _ _ ⟨rfl, rfl⟩
  conv => whnf
  refine ⟨170, .lit (H e), inv_kind e, ?_⟩
  refine CallOK.mono (kind_at e ke hT.kinde _) ?_
  rintro _ _ ⟨rfl, rfl⟩
  conv => whnf
  refine brn (fun h => ?_) (fun h => absurd h hT.kind20)
  conv => whnf
  refine ⟨193, .agg [.lit (H e)], InvOK.self (by intro v w; kernel_rfl) _, ?_⟩
  refine CallOK.mono (implements_at e 101 true hT.impl _) ?_
  rintro _ _ ⟨rfl, rfl⟩
  conv => whnf
  have i0 : ∀ m σ, inV m σ x0 = x0 := fun m σ => inV_pure _ x0 (Nat.le_refl _) hp0
  have i1 : ∀ m σ, inV m σ (.iface t' z') = .iface t' z' := fun m σ => inV_pure _ _ (Nat.le_refl _) hcp
  have i2 : ∀ θ, outV θ x = x := fun θ => outV_pure _ x (Nat.le_refl _) hxp
  refine CallOK.renL (as_ok hT hL hxp x0 hx0 hp0 n _ hc) [(1000, 1000), (1001, 14)] [] (M := [(1000, .row 0 1 [x0]), (14, .row 0 1 [.ptr 1000 0 0 0]), (5, .row 0 3 [.agg [.lit (H p), .ptr 14 0 0 0, .int .u64 150]])]) ?_ ?_ ?_ rfl rfl rfl ?_
  · simp only [mupd_memOf]; rfl
  · show [(1000, some (Blk.row 0 1 [x0])), (1001, _)] = [(1000, some (.row 0 1 [inV _ _ x0])), (1001, some (.row 0 1 [inV _ _ (.ptr 1000 0 0 0)]))]
    rw [i0]
    rfl
  · show [inV _ _ (.iface t' z'), inV _ _ (.iface p (.ptr 1000 0 0 0)), inV _ _ (.agg [.lit (H p), .ptr 14 0 0 0, .int .u64 150]), inV _ _ (rtV e)] = _
    rw [i1]
    rfl
  rintro _ _ ⟨rfl, rfl⟩
  refine ⟨_, .bool true, [(1000, .row 0 1 [x]), (14, .row 0 1 [.ptr 1000 0 0 0]), (5, .row 0 3 [.agg [.lit (H p), .ptr 14 0 0 0, .int .u64 150]])], rfl, rfl, ?_, ?_⟩
  · show [(1000, Blk.row 0 1 [outV _ x]), (14, .row 0 1 [outV _ (.ptr 1000 0 0 0)]), _] = _
    rw [i2]
    rfl
  conv => whnf
  refine RetOK.now ?_
  conv => whnf
  refine ⟨[(1000, .row 0 1 [x])], .bool true, .conv (by repeat' (first | rfl | trivial | apply And.intro)), convM.bth (by (repeat' (first | trivial | apply And.intro)) <;> (first | exact BTh.same _ _ _ _ _ rfl (Nat.le_of_ble_eq_true rfl) | (refine BTh.rowL rfl (by first | rfl | trivial) ?_; (repeat' (first | rfl | trivial | apply And.intro)); done) | exact BTh.rowP rfl (by first | rfl | trivial) (by simp [*]) | exact BTh.tok _ _ _ _ _ rfl rfl | exact BTh.new _ _ rfl rfl)), ?_⟩
  exact ⟨rfl, rfl⟩
/-- No error. -/
theorem As_nil (a : V) (M : List (Nat × Blk)) (hM : M.all (fun p => Nat.ble 1000 p.1) = true) (hk : keyed M = true) : CallOK prog G0 67 [.nili, a] (memOf M) fun r m => r = .bool false ∧ m = memOf M := by
  refine CallOK.bodyM (cf := cfM 42 [] []) ty_ok (fn := f67) ⟨func67, rfl, rfl, by kernel_rfl⟩ rfl (Nat.le_of_ble_eq_true rfl) hM ?_ ?_
  · rintro r' m' ⟨_, rfl⟩
    exact ⟨M, rfl, memOf_all M⟩
  conv => whnf
  refine RetOK.now ?_
  conv => whnf
  exact RetM.same hk ⟨rfl, rfl⟩
end Go.Proofs.Tryd

/- errors.As at this program's types. -/
namespace Go.Proofs.Tryd
open Go.Ab Go.Extern Go.Extern.Stop Go.Stop

theorem rls (v x : Value) : ReflectliteValue.set #[v, x] = (do
    let (some (dst, a, fl), some (src, b, _)) := (← ReflectliteValue.parts v, ← ReflectliteValue.parts x)
      | unsupported (.noEntry "extern/(internal/reflectlite.Value).Set.zeroValue")
    if fl / ReflectliteValue.flagAddr % 2 == 0 then unsupported (.noEntry "extern/(internal/reflectlite.Value).Set.unaddressable")
    let val ← loadVar src b
    if ← Rtype.directlyAssignable dst src then storeVar dst a val
    else if ← Rtype.implements dst src then
      if (← Rtype.kind src) == 20 then
        match val with
        | .nilIface => unsupported (.noEntry "extern/reflectlite: a nil value of one interface type handed on as a value of another")
        | _ => storeVar dst a val
      else storeVar dst a (.iface src val)
    else panicString ("reflectlite.Set: value of type " ++ (← Rtype.spelt src) ++ " is not assignable to type " ++ (← Rtype.spelt dst))
    pure (.tuple #[])) := rfl

theorem leaf_set {e p : TypeId} {ke : Int} (hT : AsT e p ke) (mk : Value → Value) (hmk : ∀ v, v.oneCell' = true → (mk v).cells = #[v]) (hload : ∀ (b : Addr) (v : Value) (W : World), W.cell? b = some v → (loadVar e b).run prog W = .ok (mk v) W)
    (v old : Value) (a b : Addr) (W : World) (hv : v.oneCell' = true) (hb : W.cell? b = some v) (ha : W.cell? a = some old) (hf : W.frozen? a = false) :
    (ReflectliteValue.set #[.agg #[H e, .pointer (some a), .int .u64 (ke + 384)], .agg #[H e, .pointer (some b), .int .u64 (ke + 128)]]).run prog W = .ok (.tuple #[]) (W.setCell a v) := by
  rw [rls]
  simp only [Sem.run_bind, hT.partsa, hT.partse, Result.andThen]
  simp only [hT.addr, hload b v W hb, hT.direct, Sem.run_bind, Result.andThen, if_true, Bool.false_eq_true, if_false, Sem.run_pure]
  have hs := hT.size W
  simp [storeVar, hmk v hv, hs, Sem.run_bind, Result.andThen, storeCells, Addr.add, run_store prog W a v _ hv, ha, hf]

theorem leaf_str {e p : TypeId} {ke : Int} (hT : AsT e p ke) (hu : prog.underlying e = some .string) (hbox : ∀ (s : ByteArray) (w : World), (ReflectliteValue.unpack (.iface e (.string s))).run prog w = .ok (.agg #[H e, .pointer (some ⟨w.heap.size, 0, none⟩), .int .u64 (ke + 128)]) (w.alloc (.cells #[.string s] e))) (s : List UInt8) : AsLeaf e ke (.str s) (.str s) where
  one := rfl
  cell := rfl
  box c u w h := by obtain rfl := h.str_inv; exact ⟨_, h, hbox _ w⟩
  set c v old a b W h hb ha hf := by
    obtain rfl := h.str_inv
    refine leaf_set hT id (fun v hv => ?_) (fun b v W h => ?_) _ old a b W rfl hb ha hf
    · cases v <;> first
        | rfl
        | cases hv
    · simp [loadVar, isAgg, underlying, hu, h, Result.andThen]
theorem leaf_agg {e p : TypeId} {ke : Int} (hT : AsT e p ke) {fs : Array Field} (hu : prog.underlying e = some (.struct fs)) (hbox : ∀ (v : Value) (w : World), (ReflectliteValue.unpack (.iface e (.agg #[v]))).run prog w = .ok (.agg #[H e, .pointer (some ⟨w.heap.size, 0, none⟩), .int .u64 (ke + 128)]) (w.alloc (.cells #[v] e))) (k : IntKind) (n : Int) : AsLeaf e ke (.agg [.int k n]) (.int k n) where
  one := rfl
  cell := rfl
  box c u w h := by obtain ⟨v, rfl, hv⟩ := h.agg1; exact ⟨v, hv, hbox _ w⟩
  set c v old a b W h hb ha hf := by
    obtain rfl := h.int_inv
    refine leaf_set hT (fun v => .agg #[v]) (fun v hv => rfl) (fun b v W h => ?_) _ old a b W rfl hb ha hf
    have hs := hT.size W
    simp [loadVar, isAgg, underlying, hu, h, Result.andThen, hs, loadCells, loadCellsFrom, Addr.add]
theorem asT_cells : AsT 156 159 25 :=
  ⟨fun a w => by kernel_rfl, fun a w => by kernel_rfl, fun w => by kernel_rfl, fun w => by kernel_rfl, by decide, fun a w => by kernel_rfl, by kernel_rfl, fun w => by kernel_rfl, fun w => by kernel_rfl, fun a w => by kernel_rfl, fun a w => by kernel_rfl, fun a w => by kernel_rfl, by kernel_rfl, fun w => by kernel_rfl, fun w => by kernel_rfl, fun v w => by kernel_rfl, fun w => by kernel_rfl, fun w => by kernel_rfl⟩
theorem asL_cells (n : Int) : AsLeaf 156 25 (.agg [.int .i64 n]) (.int .i64 n) := leaf_agg asT_cells underlying156 (fun v w => by kernel_rfl) .i64 n
theorem asW_cells : AsW 156 158 177 := ⟨fun w => by kernel_rfl, fun v w => by kernel_rfl, run_typeAssert_lacksB underlying235 (by kernel_rfl) (by kernel_rfl), run_typeAssert_hasB underlying238 (by kernel_rfl), fun v w => by kernel_rfl⟩
end Go.Proofs.Tryd
