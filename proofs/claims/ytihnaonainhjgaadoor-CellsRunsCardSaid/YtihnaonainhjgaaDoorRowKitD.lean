/- From a contract to a row: what is common to this seat's rows. -/
import Derived.Test.YtihnaonainhjgaaDoorAbC
import Derived.Test.YtihnaonainhjgaaDoorAs
import Derived.Test.YtihnaonainhjgaaDoorCards
import Derived.Test.YtihnaonainhjgaaDoorTie
import Derived.WalkKit
import Derived.ProofKit
import Derived.OpenShut
import Derived.ShutString
import Derived.ChangeOld
import Derived.Below
import Derived.SizedLaws
import Derived.ChangeSame
import Derived.ChangeVars
import Derived.JoinedOf
import Derived.RowKit
import Derived.RowKitTokens
import Derived.LaidLaws
import Derived.LaidHandle
import Derived.LaidMore
import Derived.Stop.Joined
import Derived.SevenTiedAt
import Derived.Carry
set_option linter.unusedVariables false
set_option linter.unusedSimpArgs false
namespace Go.Proofs.YtihnaonainhjgaaDoor
open Go.ChangeShapes Go.WideShapes Go.ChangeAt Go.RowKit Go.Ab
open Go.Proofs.Tryd (H)

theorem own : ownKnob Tryd.prog.godebug = none := by kernel_rfl
theorem etG : Tryd.prog.globalNamed "errors.errorType" = some 0 := by kernel_rfl
theorem rtG : (Tryd.prog.cutTypes.find? (·.1 == "internal/reflectlite.rtype")).map (·.2) = some 231 := by kernel_rfl
theorem oneRow : ((List.range 296).filter fun t => Tryd.prog.rowNamed t [101, 114, 114, 111, 114]) = [101] := by kernel_rfl
theorem sizeT : Tryd.prog.types.size = 296 := by kernel_rfl
theorem laidOut : laidOutB Tryd.prog = true := by kernel_rfl
abbrev theLaid : List (String × DataW Unit) := [("errors.errorType", Rows.laid_errors_errorType)]

theorem handle_of_laid {W : World} (h : laidMetH Tryd.prog theLaid W) : W.cell? ⟨0, 0, none⟩ = some (.iface 231 (.agg #[H 101])) := by
  have h' : laidMet Tryd.prog [] W ∧ handlesMet Tryd.prog theLaid W := h
  obtain ⟨name, u, ty, e1, e2, e3, e4, e5⟩ := h'.2 _ (List.mem_singleton.2 rfl)
  have en : name = [101, 114, 114, 111, 114] := (Option.some.inj e1).symm
  subst en
  obtain rfl := Option.some.inj (rtG.symm.trans e2)
  have hm : ty ∈ (List.range 296).filter fun t => Tryd.prog.rowNamed t [101, 114, 114, 111, 114] := List.mem_filter.2 ⟨List.mem_range.2 (by rw [← sizeT]; exact e3), e4⟩
  rw [oneRow] at hm
  obtain rfl := List.mem_singleton.1 hm
  have hh : typeHandle Tryd.prog 101 = H 101 := by kernel_rfl
  rw [hh] at e5
  simpa using World.var?_cell etG e5 0

/-- A world that meets the condition. -/
noncomputable def laidWorld (os : Os) : World :=
  let w0 := World.holding Tryd.prog os ⟨#[], #[], []⟩
  { w0 with heap := w0.heap.modify 0 fun
      | .cells _ t frozen => .cells #[.iface 231 (.agg #[H 101])] t frozen
      | o => o }
theorem laidWorld_met (os : Os) (args : Array Value) : laidMetH Tryd.prog theLaid ((laidWorld os).forCall (fun _ _ => 0) ⟨#[], args, []⟩).memory :=
  laidMetH_of_parts (laidMet_nil _ _) (by kernel_rfl)

/-- The contract of a law, at the world of a call. -/
theorem law_calls {f : FuncId} {fn : Func} {code : Code} (f1 : Tryd.prog.funcs[f]? = some fn) (f2 : (fn.name == "runtime.NumGoroutine") = false) (f3 : fn.body = some code) {args : List V} (h : PureOK Tryd.prog Tryd.G0 f args (.bool true)) {W : World} {vs : List Value}
    (hl : W.cell? ⟨0, 0, none⟩ = some (.iface 231 (.agg #[H 101]))) (hr : Rs (full W) args vs) : Calls Tryd.prog f vs.toArray W fun e w' => e = .returned (.bool true) ∧ Below W.heap.size W w' := by
  have hg : ∀ p ∈ Tryd.G0, (full W).S p.1 p.2.1 = some p.2.2 := by
    intro p hp
    obtain rfl := List.mem_singleton.1 hp
    exact hl
  refine ((h.run (full W) W vs (full_sim W) rfl hg hr).calls f1 f2 f3).mono fun e w' he => ?_
  cases e with
  | panicked => exact he.elim
  | outgrown => exact he.elim
  | returned v =>
    obtain ⟨c', r, ⟨rfl, _⟩, h1, h2, h3, h4, _⟩ := he
    obtain rfl := h4.bool_inv
    exact ⟨rfl, h1.os, h1.tape, h1.output, h1.size, fun k hk => h1.frame k hk fun ⟨n, hn, _⟩ => hn rfl⟩

theorem Rs.nil {c : Cx} : Rs c [] [] := ⟨rfl, by simp⟩
theorem Rs.cons {c : Cx} {x : V} {v : Value} {xs : List V} {vs : List Value} (h : R c x v) (k : Rs c xs vs) : Rs c (x :: xs) (v :: vs) :=
  ⟨by simp [k.1], fun i y u a b => by
    cases i with
    | zero => simp at a b; subst a b; exact h
    | succ i => exact k.2 i y u (by simpa using a) (by simpa using b)⟩
/-- A scalar, or a slice. -/
theorem open_leaf {t : TypeId} {α : Type} {p : α → Prop} {f : α → V} (ho : Opens Tryd.prog t α p (fun a => [f a]) 1) {HH : Type} {enc : TypeId × Value → HH} {W : World} {v : Value} (hv : v.cells = #[v]) {d : DataW HH} {ps : List MemPlace} {base : Nat} {sp : Nat → Bool} {held : Bool}
    (h : DataW.Trod enc Tryd.prog W base sp held t v d ps) : ∃ a, p a ∧ R (full W) (f a) v := by
  obtain ⟨fuel, hf⟩ := h
  rw [hv] at hf
  obtain ⟨a, h1, _, h3⟩ := ho.rd enc W base sp held fuel _ _ hf
  obtain ⟨u, hu, hr⟩ := h3 0 (f a) rfl
  simp at hu
  subst hu
  exact ⟨a, h1, hr⟩
end Go.Proofs.YtihnaonainhjgaaDoor
