/-
  NARROWER THAN 'FOR EVERY INPUT', by the rows' own cells (each row's printed sentence says how): CellsTwo: laid · CellsRuns: laid · SnapBack: laid · SnapSize: laid · SnapMay: laid · SaveFalls: laid · MemberMany: laid · MemberBack: laid · MemberHead: laid.
  DERIVED. THE GIVEN ROWS OF THIS SEAT. 9 by the template 'for every input the law returns true; each argument reads behind the call as it read before'; 0 by the template 'total and deterministic' (their statements: YtihnaonainhjgaaDoorTotals.lean).
  GIVEN WITH THE SEED: the statements are not yours to turn. If you find one false, say at which input.
  Laid BY PROGRAM, IN A SANDBOX (cutbox-rows.mjs): the forced cells as the released guide's own fill.sh prints them over the translation 350d35c0c01fb2d9… (all of the seat's roots in one cut). By AI agents, Wed Nov 11 2026. No macro, syntax, notation, axiom, sorry.
-/
import Derived.Test.YtihnaonainhjgaaDoorChecked
import GoSem.Claim
import GoSem.ClaimJoined
import GoSem.ClaimMapViews
import Derived.JoinedTies
import Derived.KernelRfl
namespace Go.Proofs.YtihnaonainhjgaaDoor
/- THE CELL 'sum', in the pinned program and in every row, IS THE sha256 OF THE DUMP (.gsa) THAT YtihnaonainhjgaaDoorProg.lean LOADS. Nothing in Lean hashes anything: it is a label: what it is worth is what the hold of that sum in a sandbox is worth. -/
noncomputable def Tryd.pinned : Pinned := { name := "ytihnaonainhjgaadoor", sum := "350d35c0c01fb2d9371fdf1022e35c345294c7d77e56b9e6cc3241540b36faeb", checked := Tryd.checked }
namespace Rows
def none {H : Type} : Left H := { results := [], args := [] }

/- WHAT THE LISTED PACKAGE-LEVEL VARIABLES READ AS WHEN THE CALL BEGINS. Each datum BY PROGRAM (the guide's laid-datum.mjs) off the statement by which the dump's own 'gosem.cut.vars' lays the variable. In a bare row this is a premise. The card (YtihnaonainhjgaaDoorCards.lean) ties it to the program's text. -/
def laid_errors_errorType {H : Type} : DataW H := .iface "internal/reflectlite.rtype" (.agg [.ptr (.lit (.string [101, 114, 114, 111, 114]))])

/-- 'deaddroplaw23.CellsTwo': WHATEVER THE INPUT: true; the input reads as it did. -/
def cellsTwoSpec : ChangeSpec := { name := "cellsTwo", fn := fun _ => fun
  | [d1, d2] => { results := [.lit (.bool true)], args := [d1, d2] }
  | _ => none }
def cellsTwoRow : OpenClaim := { program := "ytihnaonainhjgaadoor", sum := "350d35c0c01fb2d9371fdf1022e35c345294c7d77e56b9e6cc3241540b36faeb", func := "deaddrop/deaddroplaw23.CellsTwo", spec := "cellsTwo", inPlace := ["internal/reflectlite.ValueOf", "(internal/reflectlite.Value).Type", "(internal/reflectlite.Value).IsNil", "internal/reflectlite.TypeOf", "(internal/reflectlite.Value).Elem", "(internal/reflectlite.Value).Set"], unfollowed := true, recurses := true, named := ["errors.errorType"], apart := false, laid := [("errors.errorType", laid_errors_errorType)] }
def CellsTwoSaid : Prop := cellsTwoRow.holds Tryd.pinned (OpenSpec.ofChange cellsTwoSpec)

/-- ITS FALSE NEIGHBOUR: 'it returns false'. Refute it at one input. -/
def cellsTwoWrong : ChangeSpec := { name := "cellsTwo", fn := fun _ => fun
  | [d1, d2] => { results := [.lit (.bool false)], args := [d1, d2] }
  | _ => none }
def CellsTwoWrongFalsely : Prop := cellsTwoRow.holds Tryd.pinned (OpenSpec.ofChange cellsTwoWrong)

/-- 'deaddroplaw23.CellsRuns': WHATEVER THE INPUT: true; the input reads as it did. -/
def cellsRunsSpec : ChangeSpec := { name := "cellsRuns", fn := fun _ => fun
  | [d1, d2] => { results := [.lit (.bool true)], args := [d1, d2] }
  | _ => none }
def cellsRunsRow : OpenClaim := { program := "ytihnaonainhjgaadoor", sum := "350d35c0c01fb2d9371fdf1022e35c345294c7d77e56b9e6cc3241540b36faeb", func := "deaddrop/deaddroplaw23.CellsRuns", spec := "cellsRuns", inPlace := ["internal/reflectlite.ValueOf", "(internal/reflectlite.Value).Type", "(internal/reflectlite.Value).IsNil", "internal/reflectlite.TypeOf", "(internal/reflectlite.Value).Elem", "(internal/reflectlite.Value).Set"], unfollowed := true, recurses := true, named := ["errors.errorType"], apart := false, laid := [("errors.errorType", laid_errors_errorType)] }
def CellsRunsSaid : Prop := cellsRunsRow.holds Tryd.pinned (OpenSpec.ofChange cellsRunsSpec)

/-- ITS FALSE NEIGHBOUR: 'it returns false'. Refute it at one input. -/
def cellsRunsWrong : ChangeSpec := { name := "cellsRuns", fn := fun _ => fun
  | [d1, d2] => { results := [.lit (.bool false)], args := [d1, d2] }
  | _ => none }
def CellsRunsWrongFalsely : Prop := cellsRunsRow.holds Tryd.pinned (OpenSpec.ofChange cellsRunsWrong)

/-- 'deaddroplaw13.SnapBack': WHATEVER THE INPUT: true; the input reads as it did. -/
def snapBackSpec : ChangeSpec := { name := "snapBack", fn := fun _ => fun
  | [d1, d2, d3, d4, d5] => { results := [.lit (.bool true)], args := [d1, d2, d3, d4, d5] }
  | _ => none }
def snapBackRow : OpenClaim := { program := "ytihnaonainhjgaadoor", sum := "350d35c0c01fb2d9371fdf1022e35c345294c7d77e56b9e6cc3241540b36faeb", func := "deaddrop/deaddroplaw13.SnapBack", spec := "snapBack", inPlace := ["internal/reflectlite.ValueOf", "(internal/reflectlite.Value).Type", "(internal/reflectlite.Value).IsNil", "internal/reflectlite.TypeOf", "(internal/reflectlite.Value).Elem", "(internal/reflectlite.Value).Set"], unfollowed := true, recurses := true, named := ["errors.errorType"], apart := false, laid := [("errors.errorType", laid_errors_errorType)] }
def SnapBackSaid : Prop := snapBackRow.holds Tryd.pinned (OpenSpec.ofChange snapBackSpec)

/-- ITS FALSE NEIGHBOUR: 'it returns false'. Refute it at one input. -/
def snapBackWrong : ChangeSpec := { name := "snapBack", fn := fun _ => fun
  | [d1, d2, d3, d4, d5] => { results := [.lit (.bool false)], args := [d1, d2, d3, d4, d5] }
  | _ => none }
def SnapBackWrongFalsely : Prop := snapBackRow.holds Tryd.pinned (OpenSpec.ofChange snapBackWrong)

/-- 'deaddroplaw13.SnapSize': WHATEVER THE INPUT: true; the input reads as it did. -/
def snapSizeSpec : ChangeSpec := { name := "snapSize", fn := fun _ => fun
  | [d] => { results := [.lit (.bool true)], args := [d] }
  | _ => none }
def snapSizeRow : OpenClaim := { program := "ytihnaonainhjgaadoor", sum := "350d35c0c01fb2d9371fdf1022e35c345294c7d77e56b9e6cc3241540b36faeb", func := "deaddrop/deaddroplaw13.SnapSize", spec := "snapSize", inPlace := ["internal/reflectlite.ValueOf", "(internal/reflectlite.Value).Type", "(internal/reflectlite.Value).IsNil", "internal/reflectlite.TypeOf", "(internal/reflectlite.Value).Elem", "(internal/reflectlite.Value).Set"], unfollowed := true, recurses := true, named := ["errors.errorType"], apart := false, laid := [("errors.errorType", laid_errors_errorType)] }
def SnapSizeSaid : Prop := snapSizeRow.holds Tryd.pinned (OpenSpec.ofChange snapSizeSpec)

/-- ITS FALSE NEIGHBOUR: 'it returns false'. Refute it at one input. -/
def snapSizeWrong : ChangeSpec := { name := "snapSize", fn := fun _ => fun
  | [d] => { results := [.lit (.bool false)], args := [d] }
  | _ => none }
def SnapSizeWrongFalsely : Prop := snapSizeRow.holds Tryd.pinned (OpenSpec.ofChange snapSizeWrong)

/-- 'deaddroplaw13.SnapMay': WHATEVER THE INPUT: true; the input reads as it did. -/
def snapMaySpec : ChangeSpec := { name := "snapMay", fn := fun _ => fun
  | [d1, d2, d3] => { results := [.lit (.bool true)], args := [d1, d2, d3] }
  | _ => none }
def snapMayRow : OpenClaim := { program := "ytihnaonainhjgaadoor", sum := "350d35c0c01fb2d9371fdf1022e35c345294c7d77e56b9e6cc3241540b36faeb", func := "deaddrop/deaddroplaw13.SnapMay", spec := "snapMay", inPlace := ["internal/reflectlite.ValueOf", "(internal/reflectlite.Value).Type", "(internal/reflectlite.Value).IsNil", "internal/reflectlite.TypeOf", "(internal/reflectlite.Value).Elem", "(internal/reflectlite.Value).Set"], unfollowed := true, recurses := true, named := ["errors.errorType"], apart := false, laid := [("errors.errorType", laid_errors_errorType)] }
def SnapMaySaid : Prop := snapMayRow.holds Tryd.pinned (OpenSpec.ofChange snapMaySpec)

/-- ITS FALSE NEIGHBOUR: 'it returns false'. Refute it at one input. -/
def snapMayWrong : ChangeSpec := { name := "snapMay", fn := fun _ => fun
  | [d1, d2, d3] => { results := [.lit (.bool false)], args := [d1, d2, d3] }
  | _ => none }
def SnapMayWrongFalsely : Prop := snapMayRow.holds Tryd.pinned (OpenSpec.ofChange snapMayWrong)

/-- 'deaddroplaw24.SaveFalls': WHATEVER THE INPUT: true; the input reads as it did. -/
def saveFallsSpec : ChangeSpec := { name := "saveFalls", fn := fun _ => fun
  | [d1, d2, d3, d4] => { results := [.lit (.bool true)], args := [d1, d2, d3, d4] }
  | _ => none }
def saveFallsRow : OpenClaim := { program := "ytihnaonainhjgaadoor", sum := "350d35c0c01fb2d9371fdf1022e35c345294c7d77e56b9e6cc3241540b36faeb", func := "deaddrop/deaddroplaw24.SaveFalls", spec := "saveFalls", inPlace := ["internal/reflectlite.ValueOf", "(internal/reflectlite.Value).Type", "(internal/reflectlite.Value).IsNil", "internal/reflectlite.TypeOf", "(internal/reflectlite.Value).Elem", "(internal/reflectlite.Value).Set"], unfollowed := true, recurses := true, named := ["errors.errorType"], apart := false, laid := [("errors.errorType", laid_errors_errorType)] }
def SaveFallsSaid : Prop := saveFallsRow.holds Tryd.pinned (OpenSpec.ofChange saveFallsSpec)

/-- ITS FALSE NEIGHBOUR: 'it returns false'. Refute it at one input. -/
def saveFallsWrong : ChangeSpec := { name := "saveFalls", fn := fun _ => fun
  | [d1, d2, d3, d4] => { results := [.lit (.bool false)], args := [d1, d2, d3, d4] }
  | _ => none }
def SaveFallsWrongFalsely : Prop := saveFallsRow.holds Tryd.pinned (OpenSpec.ofChange saveFallsWrong)

/-- 'deaddroplaw15.MemberMany': WHATEVER THE INPUT: true; the input reads as it did. -/
def memberManySpec : ChangeSpec := { name := "memberMany", fn := fun _ => fun
  | [d1, d2] => { results := [.lit (.bool true)], args := [d1, d2] }
  | _ => none }
def memberManyRow : OpenClaim := { program := "ytihnaonainhjgaadoor", sum := "350d35c0c01fb2d9371fdf1022e35c345294c7d77e56b9e6cc3241540b36faeb", func := "deaddrop/deaddroplaw15.MemberMany", spec := "memberMany", inPlace := ["internal/abi.NoEscape", "internal/bytealg.MakeNoZero", "internal/reflectlite.TypeOf", "internal/reflectlite.ValueOf", "(internal/reflectlite.Value).Type", "(internal/reflectlite.Value).IsNil", "(internal/reflectlite.Value).Elem", "(internal/reflectlite.Value).Set"], unfollowed := true, recurses := true, named := ["errors.errorType"], apart := false, laid := [("errors.errorType", laid_errors_errorType)] }
def MemberManySaid : Prop := memberManyRow.holds Tryd.pinned (OpenSpec.ofChange memberManySpec)

/-- ITS FALSE NEIGHBOUR: 'it returns false'. Refute it at one input. -/
def memberManyWrong : ChangeSpec := { name := "memberMany", fn := fun _ => fun
  | [d1, d2] => { results := [.lit (.bool false)], args := [d1, d2] }
  | _ => none }
def MemberManyWrongFalsely : Prop := memberManyRow.holds Tryd.pinned (OpenSpec.ofChange memberManyWrong)

/-- 'deaddroplaw15.MemberBack': WHATEVER THE INPUT: true; the input reads as it did. -/
def memberBackSpec : ChangeSpec := { name := "memberBack", fn := fun _ => fun
  | [d1, d2, d3, d4] => { results := [.lit (.bool true)], args := [d1, d2, d3, d4] }
  | _ => none }
def memberBackRow : OpenClaim := { program := "ytihnaonainhjgaadoor", sum := "350d35c0c01fb2d9371fdf1022e35c345294c7d77e56b9e6cc3241540b36faeb", func := "deaddrop/deaddroplaw15.MemberBack", spec := "memberBack", inPlace := ["internal/reflectlite.ValueOf", "(internal/reflectlite.Value).Type", "(internal/reflectlite.Value).IsNil", "internal/reflectlite.TypeOf", "(internal/reflectlite.Value).Elem", "(internal/reflectlite.Value).Set", "internal/abi.NoEscape", "internal/bytealg.MakeNoZero"], unfollowed := true, recurses := true, named := ["errors.errorType"], apart := false, laid := [("errors.errorType", laid_errors_errorType)] }
def MemberBackSaid : Prop := memberBackRow.holds Tryd.pinned (OpenSpec.ofChange memberBackSpec)

/-- ITS FALSE NEIGHBOUR: 'it returns false'. Refute it at one input. -/
def memberBackWrong : ChangeSpec := { name := "memberBack", fn := fun _ => fun
  | [d1, d2, d3, d4] => { results := [.lit (.bool false)], args := [d1, d2, d3, d4] }
  | _ => none }
def MemberBackWrongFalsely : Prop := memberBackRow.holds Tryd.pinned (OpenSpec.ofChange memberBackWrong)

/-- 'deaddroplaw15.MemberHead': WHATEVER THE INPUT: true; the input reads as it did. -/
def memberHeadSpec : ChangeSpec := { name := "memberHead", fn := fun _ => fun
  | [d1, d2, d3] => { results := [.lit (.bool true)], args := [d1, d2, d3] }
  | _ => none }
def memberHeadRow : OpenClaim := { program := "ytihnaonainhjgaadoor", sum := "350d35c0c01fb2d9371fdf1022e35c345294c7d77e56b9e6cc3241540b36faeb", func := "deaddrop/deaddroplaw15.MemberHead", spec := "memberHead", inPlace := ["internal/reflectlite.ValueOf", "(internal/reflectlite.Value).Type", "(internal/reflectlite.Value).IsNil", "internal/reflectlite.TypeOf", "(internal/reflectlite.Value).Elem", "(internal/reflectlite.Value).Set", "internal/abi.NoEscape", "internal/bytealg.MakeNoZero"], unfollowed := true, recurses := true, named := ["errors.errorType"], apart := false, laid := [("errors.errorType", laid_errors_errorType)] }
def MemberHeadSaid : Prop := memberHeadRow.holds Tryd.pinned (OpenSpec.ofChange memberHeadSpec)

/-- ITS FALSE NEIGHBOUR: 'it returns false'. Refute it at one input. -/
def memberHeadWrong : ChangeSpec := { name := "memberHead", fn := fun _ => fun
  | [d1, d2, d3] => { results := [.lit (.bool false)], args := [d1, d2, d3] }
  | _ => none }
def MemberHeadWrongFalsely : Prop := memberHeadRow.holds Tryd.pinned (OpenSpec.ofChange memberHeadWrong)

/- THE SECOND FORM. 'bulk': how many values and letters a reading holds, each counted each time it is reached (what is shared counts as often as it is met; a slice's spare places count too). A statement '..UptoSaid' is the law's where the arguments, and the package variables that the reading takes, are together of bulk at most 1048576: NARROWER than '..Said'. Prove '..Said' where nothing that the law and all that it calls make is longer than what came in: it says more and counts as full. Else prove '..UptoSaid'. A law counts once. -/
mutual
def uptoBulk {H : Type} : DataW H → Nat
  | .lit (.string bytes) => bytes.length + 1
  | .lit _ => 1
  | .nil => 1
  | .ptr d => uptoBulk d + 1
  | .slice elems spare => uptoBulkAll elems + uptoBulkAll spare + 1
  | .agg parts => uptoBulkAll parts + 1
  | .iface _ d => uptoBulk d + 1
  | .map entries => uptoBulkEntries entries + 1
  | .held _ => 1
def uptoBulkAll {H : Type} : List (DataW H) → Nat
  | [] => 0
  | d :: r => uptoBulk d + uptoBulkAll r
def uptoBulkEntries {H : Type} : List (Lit × DataW H) → Nat
  | [] => 0
  | x :: r => uptoBulkEntry x + uptoBulkEntries r
def uptoBulkEntry {H : Type} : Lit × DataW H → Nat
  | (.string bytes, d) => bytes.length + uptoBulk d + 1
  | (_, d) => uptoBulk d + 1
 end
def uptoSmall : (H : Type) → List (DataW H) → Bool := fun _ ds => decide (uptoBulkAll ds ≤ 1048576)
def OpenSpec.upto (s : _root_.Go.ChangeSpec) : _root_.Go.OpenSpec := { _root_.Go.OpenSpec.ofChange s with cond := some uptoSmall }

/-- 'deaddroplaw23.CellsTwo', WHERE WHAT IT READS IS OF BULK AT MOST 1048576: true; the input reads as it did. -/
def cellsTwoUptoRow : OpenClaim := { program := "ytihnaonainhjgaadoor", sum := "350d35c0c01fb2d9371fdf1022e35c345294c7d77e56b9e6cc3241540b36faeb", func := "deaddrop/deaddroplaw23.CellsTwo", spec := "cellsTwo", inPlace := ["internal/reflectlite.ValueOf", "(internal/reflectlite.Value).Type", "(internal/reflectlite.Value).IsNil", "internal/reflectlite.TypeOf", "(internal/reflectlite.Value).Elem", "(internal/reflectlite.Value).Set"], unfollowed := true, recurses := true, named := ["errors.errorType"], apart := false, laid := [("errors.errorType", laid_errors_errorType)], narrowed := true }
def CellsTwoUptoSaid : Prop := cellsTwoUptoRow.holds Tryd.pinned (OpenSpec.upto cellsTwoSpec)

/-- 'deaddroplaw23.CellsRuns', WHERE WHAT IT READS IS OF BULK AT MOST 1048576: true; the input reads as it did. -/
def cellsRunsUptoRow : OpenClaim := { program := "ytihnaonainhjgaadoor", sum := "350d35c0c01fb2d9371fdf1022e35c345294c7d77e56b9e6cc3241540b36faeb", func := "deaddrop/deaddroplaw23.CellsRuns", spec := "cellsRuns", inPlace := ["internal/reflectlite.ValueOf", "(internal/reflectlite.Value).Type", "(internal/reflectlite.Value).IsNil", "internal/reflectlite.TypeOf", "(internal/reflectlite.Value).Elem", "(internal/reflectlite.Value).Set"], unfollowed := true, recurses := true, named := ["errors.errorType"], apart := false, laid := [("errors.errorType", laid_errors_errorType)], narrowed := true }
def CellsRunsUptoSaid : Prop := cellsRunsUptoRow.holds Tryd.pinned (OpenSpec.upto cellsRunsSpec)

/-- 'deaddroplaw13.SnapBack', WHERE WHAT IT READS IS OF BULK AT MOST 1048576: true; the input reads as it did. -/
def snapBackUptoRow : OpenClaim := { program := "ytihnaonainhjgaadoor", sum := "350d35c0c01fb2d9371fdf1022e35c345294c7d77e56b9e6cc3241540b36faeb", func := "deaddrop/deaddroplaw13.SnapBack", spec := "snapBack", inPlace := ["internal/reflectlite.ValueOf", "(internal/reflectlite.Value).Type", "(internal/reflectlite.Value).IsNil", "internal/reflectlite.TypeOf", "(internal/reflectlite.Value).Elem", "(internal/reflectlite.Value).Set"], unfollowed := true, recurses := true, named := ["errors.errorType"], apart := false, laid := [("errors.errorType", laid_errors_errorType)], narrowed := true }
def SnapBackUptoSaid : Prop := snapBackUptoRow.holds Tryd.pinned (OpenSpec.upto snapBackSpec)

/-- 'deaddroplaw13.SnapSize', WHERE WHAT IT READS IS OF BULK AT MOST 1048576: true; the input reads as it did. -/
def snapSizeUptoRow : OpenClaim := { program := "ytihnaonainhjgaadoor", sum := "350d35c0c01fb2d9371fdf1022e35c345294c7d77e56b9e6cc3241540b36faeb", func := "deaddrop/deaddroplaw13.SnapSize", spec := "snapSize", inPlace := ["internal/reflectlite.ValueOf", "(internal/reflectlite.Value).Type", "(internal/reflectlite.Value).IsNil", "internal/reflectlite.TypeOf", "(internal/reflectlite.Value).Elem", "(internal/reflectlite.Value).Set"], unfollowed := true, recurses := true, named := ["errors.errorType"], apart := false, laid := [("errors.errorType", laid_errors_errorType)], narrowed := true }
def SnapSizeUptoSaid : Prop := snapSizeUptoRow.holds Tryd.pinned (OpenSpec.upto snapSizeSpec)

/-- 'deaddroplaw13.SnapMay', WHERE WHAT IT READS IS OF BULK AT MOST 1048576: true; the input reads as it did. -/
def snapMayUptoRow : OpenClaim := { program := "ytihnaonainhjgaadoor", sum := "350d35c0c01fb2d9371fdf1022e35c345294c7d77e56b9e6cc3241540b36faeb", func := "deaddrop/deaddroplaw13.SnapMay", spec := "snapMay", inPlace := ["internal/reflectlite.ValueOf", "(internal/reflectlite.Value).Type", "(internal/reflectlite.Value).IsNil", "internal/reflectlite.TypeOf", "(internal/reflectlite.Value).Elem", "(internal/reflectlite.Value).Set"], unfollowed := true, recurses := true, named := ["errors.errorType"], apart := false, laid := [("errors.errorType", laid_errors_errorType)], narrowed := true }
def SnapMayUptoSaid : Prop := snapMayUptoRow.holds Tryd.pinned (OpenSpec.upto snapMaySpec)

/-- 'deaddroplaw24.SaveFalls', WHERE WHAT IT READS IS OF BULK AT MOST 1048576: true; the input reads as it did. -/
def saveFallsUptoRow : OpenClaim := { program := "ytihnaonainhjgaadoor", sum := "350d35c0c01fb2d9371fdf1022e35c345294c7d77e56b9e6cc3241540b36faeb", func := "deaddrop/deaddroplaw24.SaveFalls", spec := "saveFalls", inPlace := ["internal/reflectlite.ValueOf", "(internal/reflectlite.Value).Type", "(internal/reflectlite.Value).IsNil", "internal/reflectlite.TypeOf", "(internal/reflectlite.Value).Elem", "(internal/reflectlite.Value).Set"], unfollowed := true, recurses := true, named := ["errors.errorType"], apart := false, laid := [("errors.errorType", laid_errors_errorType)], narrowed := true }
def SaveFallsUptoSaid : Prop := saveFallsUptoRow.holds Tryd.pinned (OpenSpec.upto saveFallsSpec)

/-- 'deaddroplaw15.MemberMany', WHERE WHAT IT READS IS OF BULK AT MOST 1048576: true; the input reads as it did. -/
def memberManyUptoRow : OpenClaim := { program := "ytihnaonainhjgaadoor", sum := "350d35c0c01fb2d9371fdf1022e35c345294c7d77e56b9e6cc3241540b36faeb", func := "deaddrop/deaddroplaw15.MemberMany", spec := "memberMany", inPlace := ["internal/abi.NoEscape", "internal/bytealg.MakeNoZero", "internal/reflectlite.TypeOf", "internal/reflectlite.ValueOf", "(internal/reflectlite.Value).Type", "(internal/reflectlite.Value).IsNil", "(internal/reflectlite.Value).Elem", "(internal/reflectlite.Value).Set"], unfollowed := true, recurses := true, named := ["errors.errorType"], apart := false, laid := [("errors.errorType", laid_errors_errorType)], narrowed := true }
def MemberManyUptoSaid : Prop := memberManyUptoRow.holds Tryd.pinned (OpenSpec.upto memberManySpec)

/-- 'deaddroplaw15.MemberBack', WHERE WHAT IT READS IS OF BULK AT MOST 1048576: true; the input reads as it did. -/
def memberBackUptoRow : OpenClaim := { program := "ytihnaonainhjgaadoor", sum := "350d35c0c01fb2d9371fdf1022e35c345294c7d77e56b9e6cc3241540b36faeb", func := "deaddrop/deaddroplaw15.MemberBack", spec := "memberBack", inPlace := ["internal/reflectlite.ValueOf", "(internal/reflectlite.Value).Type", "(internal/reflectlite.Value).IsNil", "internal/reflectlite.TypeOf", "(internal/reflectlite.Value).Elem", "(internal/reflectlite.Value).Set", "internal/abi.NoEscape", "internal/bytealg.MakeNoZero"], unfollowed := true, recurses := true, named := ["errors.errorType"], apart := false, laid := [("errors.errorType", laid_errors_errorType)], narrowed := true }
def MemberBackUptoSaid : Prop := memberBackUptoRow.holds Tryd.pinned (OpenSpec.upto memberBackSpec)

/-- 'deaddroplaw15.MemberHead', WHERE WHAT IT READS IS OF BULK AT MOST 1048576: true; the input reads as it did. -/
def memberHeadUptoRow : OpenClaim := { program := "ytihnaonainhjgaadoor", sum := "350d35c0c01fb2d9371fdf1022e35c345294c7d77e56b9e6cc3241540b36faeb", func := "deaddrop/deaddroplaw15.MemberHead", spec := "memberHead", inPlace := ["internal/reflectlite.ValueOf", "(internal/reflectlite.Value).Type", "(internal/reflectlite.Value).IsNil", "internal/reflectlite.TypeOf", "(internal/reflectlite.Value).Elem", "(internal/reflectlite.Value).Set", "internal/abi.NoEscape", "internal/bytealg.MakeNoZero"], unfollowed := true, recurses := true, named := ["errors.errorType"], apart := false, laid := [("errors.errorType", laid_errors_errorType)], narrowed := true }
def MemberHeadUptoSaid : Prop := memberHeadUptoRow.holds Tryd.pinned (OpenSpec.upto memberHeadSpec)

end Rows
end Go.Proofs.YtihnaonainhjgaaDoor
