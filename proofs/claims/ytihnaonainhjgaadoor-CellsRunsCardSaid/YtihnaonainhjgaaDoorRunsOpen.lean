/- The structs of this law. -/
import Derived.Test.YtihnaonainhjgaaDoorCellsRuns
import Derived.Test.YtihnaonainhjgaaDoorAbStruct
import Derived.Test.YtihnaonainhjgaaDoorAs
set_option linter.unusedVariables false
set_option linter.unusedSimpArgs false
namespace Go.Proofs.YtihnaonainhjgaaDoor
open Go.Ab
theorem opens_int : Opens Tryd.prog 3 Int Is64 (fun n => [.int .i64 n]) 1 := Opens.i64 (P := Tryd.prog) Tryd.underlying3 (by kernel_rfl)
theorem opens_text : Opens Tryd.prog 9 (List UInt8) (fun s => s.length ≤ maxLen) (fun s => [.str s]) 1 := Opens.str (P := Tryd.prog) Tryd.underlying9 (by kernel_rfl)
theorem opens_bools : Opens Tryd.prog 27 (List Bool) (fun l => ∀ b ∈ l, True) (fun l => [.list 1 (l.map V.bool)]) 1 := Opens.slice (f := V.bool) (Opens.bool (P := Tryd.prog) Tryd.underlying4 (by kernel_rfl)) (by omega) Tryd.underlying27 (by kernel_rfl)
theorem opens_plan : Opens Tryd.prog 29 (Int × List Bool) (fun p => Is64 p.1) (fun p => [.int .i64 p.1, .list 1 (p.2.map .bool)]) 2 := by
  refine Opens.map (α := Int × List Bool × Unit) (p := fun x => Is64 x.1 ∧ (∀ b ∈ x.2.1, True) ∧ True) (ls := fun x => [.int .i64 x.1] ++ ([.list 1 (x.2.1.map V.bool)] ++ [])) ?_ (fun x => (x.1, x.2.1)) (fun _ => rfl) (fun x hx => ⟨hx.1, rfl⟩)
  refine Opens.struct ?_ Tryd.underlying29 (by kernel_rfl)
  refine OpensF.cons (α := Int) (β := List Bool × Unit) (p := Is64) (q := fun x => (∀ b ∈ x.1, True) ∧ True) (ls := fun n => [.int .i64 n]) (ls' := fun x => [.list 1 (x.1.map V.bool)] ++ []) (sz := 1) (sz' := 1) ?_ ?_ ?_
  · exact opens_int
  · rfl
  refine OpensF.cons (α := List Bool) (β := Unit) (p := fun l => ∀ b ∈ l, True) (q := fun _ => True) (ls := fun l => [.list 1 (l.map V.bool)]) (ls' := fun _ => []) (sz := 1) (sz' := 0) ?_ ?_ ?_
  · exact opens_bools
  · rfl
  exact OpensF.nil
theorem opens_act : Opens Tryd.prog 40 Tryd.ActV (fun a => Is64 a.i ∧ Is64 a.plan.1) (fun a => leaves (Tryd.encAct a)) 5 := by
  refine Opens.map (α := Int × Int × List UInt8 × (Int × List Bool) × Unit) (p := fun x => Is64 x.1 ∧ Is64 x.2.1 ∧ x.2.2.1.length ≤ maxLen ∧ Is64 x.2.2.2.1.1 ∧ True)
    (ls := fun x => [.int .i64 x.1] ++ ([.int .i64 x.2.1] ++ ([.str x.2.2.1] ++ ([.int .i64 x.2.2.2.1.1, .list 1 (x.2.2.2.1.2.map .bool)] ++ [])))) ?_ (fun x => ⟨x.1, x.2.1, x.2.2.1, x.2.2.2.1⟩) (fun _ => rfl) (fun x hx => ⟨⟨hx.2.1, hx.2.2.2.1⟩, rfl⟩)
  refine Opens.struct ?_ Tryd.underlying40 (by kernel_rfl)
  refine OpensF.cons (α := Int) (β := Int × List UInt8 × (Int × List Bool) × Unit) (p := Is64) (q := fun x => Is64 x.1 ∧ x.2.1.length ≤ maxLen ∧ Is64 x.2.2.1.1 ∧ True) (ls := fun n => [.int .i64 n]) (ls' := fun x => [.int .i64 x.1] ++ ([.str x.2.1] ++ ([.int .i64 x.2.2.1.1, .list 1 (x.2.2.1.2.map .bool)] ++ []))) (sz := 1) (sz' := 4) ?_ ?_ ?_
  · exact opens_int
  · rfl
  refine OpensF.cons (α := Int) (β := List UInt8 × (Int × List Bool) × Unit) (p := Is64) (q := fun x => x.1.length ≤ maxLen ∧ Is64 x.2.1.1 ∧ True) (ls := fun n => [.int .i64 n]) (ls' := fun x => [.str x.1] ++ ([.int .i64 x.2.1.1, .list 1 (x.2.1.2.map .bool)] ++ [])) (sz := 1) (sz' := 3) ?_ ?_ ?_
  · exact opens_int
  · rfl
  refine OpensF.cons (α := List UInt8) (β := (Int × List Bool) × Unit) (p := fun s => s.length ≤ maxLen) (q := fun x => Is64 x.1.1 ∧ True) (ls := fun s => [.str s]) (ls' := fun x => [.int .i64 x.1.1, .list 1 (x.1.2.map .bool)] ++ []) (sz := 1) (sz' := 2) ?_ ?_ ?_
  · exact opens_text
  · rfl
  refine OpensF.cons (α := Int × List Bool) (β := Unit) (p := fun x => Is64 x.1) (q := fun _ => True) (ls := fun x => [.int .i64 x.1, .list 1 (x.2.map .bool)]) (ls' := fun _ => []) (sz := 2) (sz' := 0) ?_ ?_ ?_
  · exact opens_plan
  · rfl
  exact OpensF.nil
end Go.Proofs.YtihnaonainhjgaaDoor
