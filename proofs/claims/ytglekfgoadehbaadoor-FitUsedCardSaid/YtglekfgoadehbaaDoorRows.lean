/-
  NARROWER THAN 'FOR EVERY INPUT', by the rows' own cells (each row's printed sentence says how): FitUsed: laid · FitTakes: laid · FitLess: laid.
  DERIVED. THE GIVEN ROWS OF THIS SEAT. 3 by the template 'for every input the law returns true; each argument reads behind the call as it read before'; 0 by the template 'total and deterministic' (their statements: YtglekfgoadehbaaDoorTotals.lean).
  GIVEN WITH THE SEED: the statements are not yours to turn. If you find one false, say at which input.
  Laid BY PROGRAM, IN A SANDBOX (cutbox-rows.mjs): the forced cells as the released guide's own fill.sh prints them over the translation 1567ccbb641bc187… (all of the seat's roots in one cut). By AI agents, Wed Nov 11 2026. No macro, syntax, notation, axiom, sorry.
-/
import Derived.Test.YtglekfgoadehbaaDoorChecked
import GoSem.Claim
import GoSem.ClaimJoined
import GoSem.ClaimMapViews
import Derived.JoinedTies
import Derived.KernelRfl
namespace Go.Proofs.YtglekfgoadehbaaDoor
/- THE CELL 'sum', in the pinned program and in every row, IS THE sha256 OF THE DUMP (.gsa) THAT YtglekfgoadehbaaDoorProg.lean LOADS. Nothing in Lean hashes anything: it is a label: what it is worth is what the hold of that sum in a sandbox is worth. -/
noncomputable def Tryd.pinned : Pinned := { name := "ytglekfgoadehbaadoor", sum := "1567ccbb641bc1874143bf811f79afebc95b80d6635533380cef1ac2f9c0c7f1", checked := Tryd.checked }
namespace Rows
def none {H : Type} : Left H := { results := [], args := [] }

/- WHAT THE LISTED PACKAGE-LEVEL VARIABLES READ AS WHEN THE CALL BEGINS. Each datum BY PROGRAM (the guide's laid-datum.mjs) off the statement by which the dump's own 'gosem.cut.vars' lays the variable. In a bare row this is a premise. The card (YtglekfgoadehbaaDoorCards.lean) ties it to the program's text. -/
def laid_livery_fit_full {H : Type} : DataW H := .agg [.lit (.int .i64 1125899906842624), .lit (.int .i64 1125899906842624)]

/-- 'liverylaw15.FitUsed': WHATEVER THE INPUT: true; the input reads as it did. -/
def fitUsedSpec : ChangeSpec := { name := "fitUsed", fn := fun _ => fun
  | [d1, d2] => { results := [.lit (.bool true)], args := [d1, d2] }
  | _ => none }
def fitUsedRow : OpenClaim := { program := "ytglekfgoadehbaadoor", sum := "1567ccbb641bc1874143bf811f79afebc95b80d6635533380cef1ac2f9c0c7f1", func := "livery/liverylaw15.FitUsed", spec := "fitUsed", unfollowed := true, recurses := true, named := ["livery/fit.full"], apart := false, laid := [("livery/fit.full", laid_livery_fit_full)] }
def FitUsedSaid : Prop := fitUsedRow.holds Tryd.pinned (OpenSpec.ofChange fitUsedSpec)

/-- ITS FALSE NEIGHBOUR: 'it returns false'. Refute it at one input. -/
def fitUsedWrong : ChangeSpec := { name := "fitUsed", fn := fun _ => fun
  | [d1, d2] => { results := [.lit (.bool false)], args := [d1, d2] }
  | _ => none }
def FitUsedWrongFalsely : Prop := fitUsedRow.holds Tryd.pinned (OpenSpec.ofChange fitUsedWrong)

/-- 'liverylaw15.FitTakes': WHATEVER THE INPUT: true; the input reads as it did. -/
def fitTakesSpec : ChangeSpec := { name := "fitTakes", fn := fun _ => fun
  | [d1, d2, d3] => { results := [.lit (.bool true)], args := [d1, d2, d3] }
  | _ => none }
def fitTakesRow : OpenClaim := { program := "ytglekfgoadehbaadoor", sum := "1567ccbb641bc1874143bf811f79afebc95b80d6635533380cef1ac2f9c0c7f1", func := "livery/liverylaw15.FitTakes", spec := "fitTakes", unfollowed := true, recurses := true, named := ["livery/fit.full"], apart := false, laid := [("livery/fit.full", laid_livery_fit_full)] }
def FitTakesSaid : Prop := fitTakesRow.holds Tryd.pinned (OpenSpec.ofChange fitTakesSpec)

/-- ITS FALSE NEIGHBOUR: 'it returns false'. Refute it at one input. -/
def fitTakesWrong : ChangeSpec := { name := "fitTakes", fn := fun _ => fun
  | [d1, d2, d3] => { results := [.lit (.bool false)], args := [d1, d2, d3] }
  | _ => none }
def FitTakesWrongFalsely : Prop := fitTakesRow.holds Tryd.pinned (OpenSpec.ofChange fitTakesWrong)

/-- 'liverylaw15.FitLess': WHATEVER THE INPUT: true; the input reads as it did. -/
def fitLessSpec : ChangeSpec := { name := "fitLess", fn := fun _ => fun
  | [d1, d2, d3] => { results := [.lit (.bool true)], args := [d1, d2, d3] }
  | _ => none }
def fitLessRow : OpenClaim := { program := "ytglekfgoadehbaadoor", sum := "1567ccbb641bc1874143bf811f79afebc95b80d6635533380cef1ac2f9c0c7f1", func := "livery/liverylaw15.FitLess", spec := "fitLess", unfollowed := true, recurses := true, named := ["livery/fit.full"], apart := false, laid := [("livery/fit.full", laid_livery_fit_full)] }
def FitLessSaid : Prop := fitLessRow.holds Tryd.pinned (OpenSpec.ofChange fitLessSpec)

/-- ITS FALSE NEIGHBOUR: 'it returns false'. Refute it at one input. -/
def fitLessWrong : ChangeSpec := { name := "fitLess", fn := fun _ => fun
  | [d1, d2, d3] => { results := [.lit (.bool false)], args := [d1, d2, d3] }
  | _ => none }
def FitLessWrongFalsely : Prop := fitLessRow.holds Tryd.pinned (OpenSpec.ofChange fitLessWrong)

/- THE SECOND FORM. 'bulk': how many values and letters a reading holds, each counted each time it is reached (what is shared counts as often as it is met; a slice's spare places count too). A statement '..UptoSaid' is the law's where the arguments, and the package variables that the reading takes, are together of bulk at most 1048576: NARROWER than '..Said'. Prove '..Said' where nothing that the law and all that it calls make is longer than what came in: it says more and counts as full. Else prove '..UptoSaid'. A law counts once. -/
mutual
def uptoBulk {H : Type} : DataW H → Nat
  | .lit (.string bytes) => bytes.length + 1
  | .lit _ => 1
  | .nil => 1
  | .ptr d => uptoBulk d + 1
  | .slice elems spare => uptoBulkAll elems + uptoBulkAll spare + 1
  | .agg parts => uptoBulkAll parts + 1
  | .iface _ d => uptoBulk d + 1
  | .map entries => uptoBulkEntries entries + 1
  | .held _ => 1
def uptoBulkAll {H : Type} : List (DataW H) → Nat
  | [] => 0
  | d :: r => uptoBulk d + uptoBulkAll r
def uptoBulkEntries {H : Type} : List (Lit × DataW H) → Nat
  | [] => 0
  | x :: r => uptoBulkEntry x + uptoBulkEntries r
def uptoBulkEntry {H : Type} : Lit × DataW H → Nat
  | (.string bytes, d) => bytes.length + uptoBulk d + 1
  | (_, d) => uptoBulk d + 1
 end
def uptoSmall : (H : Type) → List (DataW H) → Bool := fun _ ds => decide (uptoBulkAll ds ≤ 1048576)
def OpenSpec.upto (s : _root_.Go.ChangeSpec) : _root_.Go.OpenSpec := { _root_.Go.OpenSpec.ofChange s with cond := some uptoSmall }

/-- 'liverylaw15.FitUsed', WHERE WHAT IT READS IS OF BULK AT MOST 1048576: true; the input reads as it did. -/
def fitUsedUptoRow : OpenClaim := { program := "ytglekfgoadehbaadoor", sum := "1567ccbb641bc1874143bf811f79afebc95b80d6635533380cef1ac2f9c0c7f1", func := "livery/liverylaw15.FitUsed", spec := "fitUsed", unfollowed := true, recurses := true, named := ["livery/fit.full"], apart := false, laid := [("livery/fit.full", laid_livery_fit_full)], narrowed := true }
def FitUsedUptoSaid : Prop := fitUsedUptoRow.holds Tryd.pinned (OpenSpec.upto fitUsedSpec)

/-- 'liverylaw15.FitTakes', WHERE WHAT IT READS IS OF BULK AT MOST 1048576: true; the input reads as it did. -/
def fitTakesUptoRow : OpenClaim := { program := "ytglekfgoadehbaadoor", sum := "1567ccbb641bc1874143bf811f79afebc95b80d6635533380cef1ac2f9c0c7f1", func := "livery/liverylaw15.FitTakes", spec := "fitTakes", unfollowed := true, recurses := true, named := ["livery/fit.full"], apart := false, laid := [("livery/fit.full", laid_livery_fit_full)], narrowed := true }
def FitTakesUptoSaid : Prop := fitTakesUptoRow.holds Tryd.pinned (OpenSpec.upto fitTakesSpec)

/-- 'liverylaw15.FitLess', WHERE WHAT IT READS IS OF BULK AT MOST 1048576: true; the input reads as it did. -/
def fitLessUptoRow : OpenClaim := { program := "ytglekfgoadehbaadoor", sum := "1567ccbb641bc1874143bf811f79afebc95b80d6635533380cef1ac2f9c0c7f1", func := "livery/liverylaw15.FitLess", spec := "fitLess", unfollowed := true, recurses := true, named := ["livery/fit.full"], apart := false, laid := [("livery/fit.full", laid_livery_fit_full)], narrowed := true }
def FitLessUptoSaid : Prop := fitLessUptoRow.holds Tryd.pinned (OpenSpec.upto fitLessSpec)

end Rows
end Go.Proofs.YtglekfgoadehbaaDoor
