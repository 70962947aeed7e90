/-
  No cell of these rows narrows 'for every input' (looked for: loops, veiled, ifaces, maps, wideKeys, modest, calm, conditions, laid).
  DERIVED. THE GIVEN ROWS OF THIS SEAT. 12 by the template 'for every input the law returns true; each argument reads behind the call as it read before'; 0 by the template 'total and deterministic' (their statements: YtddbnncimggogaaTotals.lean).
  GIVEN WITH THE SEED: the statements are not yours to turn. If you find one false, say at which input.
  Laid BY PROGRAM, IN A SANDBOX (cutbox-rows.mjs): the forced cells as the released guide's own fill.sh prints them over the translation 321c01a098b4817d… (all of the seat's roots in one cut). By AI agents, Wed Nov 11 2026. No macro, syntax, notation, axiom, sorry.
-/
import Derived.Test.YtddbnncimggogaaChecked
import GoSem.Claim
import GoSem.ClaimJoined
import GoSem.ClaimMapViews
import Derived.JoinedTies
import Derived.KernelRfl
namespace Go.Proofs.Ytddbnncimggogaa
/- THE CELL 'sum', in the pinned program and in every row, IS THE sha256 OF THE DUMP (.gsa) THAT YtddbnncimggogaaProg.lean LOADS. Nothing in Lean hashes anything: it is a label: what it is worth is what the hold of that sum in a sandbox is worth. -/
noncomputable def Try.pinned : Pinned := { name := "ytddbnncimggogaa", sum := "321c01a098b4817d7e9a01b16101e079d8f6e2ee8b0f3309b96ce5d7d89a2626", checked := Try.checked }
namespace Rows
def none {H : Type} : Left H := { results := [], args := [] }

/-- 'liverylaw02.RleValues': WHATEVER THE INPUT: true; the input reads as it did. -/
def rleValuesSpec : ChangeSpec := { name := "rleValues", fn := fun _ => fun
  | [d] => { results := [.lit (.bool true)], args := [d] }
  | _ => none }
def rleValuesRow : OpenClaim := { program := "ytddbnncimggogaa", sum := "321c01a098b4817d7e9a01b16101e079d8f6e2ee8b0f3309b96ce5d7d89a2626", func := "livery/liverylaw02.RleValues", spec := "rleValues", unfollowed := true, recurses := true, apart := false }
def RleValuesSaid : Prop := rleValuesRow.holds Try.pinned (OpenSpec.ofChange rleValuesSpec)

/-- ITS FALSE NEIGHBOUR: 'it returns false'. Refute it at one input. -/
def rleValuesWrong : ChangeSpec := { name := "rleValues", fn := fun _ => fun
  | [d] => { results := [.lit (.bool false)], args := [d] }
  | _ => none }
def RleValuesWrongFalsely : Prop := rleValuesRow.holds Try.pinned (OpenSpec.ofChange rleValuesWrong)

/-- 'liverylaw02.RleOne': WHATEVER THE INPUT: true; the input reads as it did. -/
def rleOneSpec : ChangeSpec := { name := "rleOne", fn := fun _ => fun
  | [d1, d2] => { results := [.lit (.bool true)], args := [d1, d2] }
  | _ => none }
def rleOneRow : OpenClaim := { program := "ytddbnncimggogaa", sum := "321c01a098b4817d7e9a01b16101e079d8f6e2ee8b0f3309b96ce5d7d89a2626", func := "livery/liverylaw02.RleOne", spec := "rleOne", unfollowed := true, recurses := true, apart := false }
def RleOneSaid : Prop := rleOneRow.holds Try.pinned (OpenSpec.ofChange rleOneSpec)

/-- ITS FALSE NEIGHBOUR: 'it returns false'. Refute it at one input. -/
def rleOneWrong : ChangeSpec := { name := "rleOne", fn := fun _ => fun
  | [d1, d2] => { results := [.lit (.bool false)], args := [d1, d2] }
  | _ => none }
def RleOneWrongFalsely : Prop := rleOneRow.holds Try.pinned (OpenSpec.ofChange rleOneWrong)

/-- 'liverylaw02.RleBox': WHATEVER THE INPUT: true; the input reads as it did. -/
def rleBoxSpec : ChangeSpec := { name := "rleBox", fn := fun _ => fun
  | [d1, d2, d3] => { results := [.lit (.bool true)], args := [d1, d2, d3] }
  | _ => none }
def rleBoxRow : OpenClaim := { program := "ytddbnncimggogaa", sum := "321c01a098b4817d7e9a01b16101e079d8f6e2ee8b0f3309b96ce5d7d89a2626", func := "livery/liverylaw02.RleBox", spec := "rleBox", unfollowed := true, recurses := true, apart := false }
def RleBoxSaid : Prop := rleBoxRow.holds Try.pinned (OpenSpec.ofChange rleBoxSpec)

/-- ITS FALSE NEIGHBOUR: 'it returns false'. Refute it at one input. -/
def rleBoxWrong : ChangeSpec := { name := "rleBox", fn := fun _ => fun
  | [d1, d2, d3] => { results := [.lit (.bool false)], args := [d1, d2, d3] }
  | _ => none }
def RleBoxWrongFalsely : Prop := rleBoxRow.holds Try.pinned (OpenSpec.ofChange rleBoxWrong)

/-- 'liverylaw03.CalcRange': WHATEVER THE INPUT: true; the input reads as it did. -/
def calcRangeSpec : ChangeSpec := { name := "calcRange", fn := fun _ => fun
  | [d1, d2, d3] => { results := [.lit (.bool true)], args := [d1, d2, d3] }
  | _ => none }
def calcRangeRow : OpenClaim := { program := "ytddbnncimggogaa", sum := "321c01a098b4817d7e9a01b16101e079d8f6e2ee8b0f3309b96ce5d7d89a2626", func := "livery/liverylaw03.CalcRange", spec := "calcRange", unfollowed := true, recurses := true, apart := false }
def CalcRangeSaid : Prop := calcRangeRow.holds Try.pinned (OpenSpec.ofChange calcRangeSpec)

/-- ITS FALSE NEIGHBOUR: 'it returns false'. Refute it at one input. -/
def calcRangeWrong : ChangeSpec := { name := "calcRange", fn := fun _ => fun
  | [d1, d2, d3] => { results := [.lit (.bool false)], args := [d1, d2, d3] }
  | _ => none }
def CalcRangeWrongFalsely : Prop := calcRangeRow.holds Try.pinned (OpenSpec.ofChange calcRangeWrong)

/-- 'liverylaw03.CalcSums': WHATEVER THE INPUT: true; the input reads as it did. -/
def calcSumsSpec : ChangeSpec := { name := "calcSums", fn := fun _ => fun
  | [d1, d2] => { results := [.lit (.bool true)], args := [d1, d2] }
  | _ => none }
def calcSumsRow : OpenClaim := { program := "ytddbnncimggogaa", sum := "321c01a098b4817d7e9a01b16101e079d8f6e2ee8b0f3309b96ce5d7d89a2626", func := "livery/liverylaw03.CalcSums", spec := "calcSums", unfollowed := true, recurses := true, apart := false }
def CalcSumsSaid : Prop := calcSumsRow.holds Try.pinned (OpenSpec.ofChange calcSumsSpec)

/-- ITS FALSE NEIGHBOUR: 'it returns false'. Refute it at one input. -/
def calcSumsWrong : ChangeSpec := { name := "calcSums", fn := fun _ => fun
  | [d1, d2] => { results := [.lit (.bool false)], args := [d1, d2] }
  | _ => none }
def CalcSumsWrongFalsely : Prop := calcSumsRow.holds Try.pinned (OpenSpec.ofChange calcSumsWrong)

/-- 'liverylaw03.CalcTells': WHATEVER THE INPUT: true; the input reads as it did. -/
def calcTellsSpec : ChangeSpec := { name := "calcTells", fn := fun _ => fun
  | [d1, d2, d3] => { results := [.lit (.bool true)], args := [d1, d2, d3] }
  | _ => none }
def calcTellsRow : OpenClaim := { program := "ytddbnncimggogaa", sum := "321c01a098b4817d7e9a01b16101e079d8f6e2ee8b0f3309b96ce5d7d89a2626", func := "livery/liverylaw03.CalcTells", spec := "calcTells", unfollowed := true, recurses := true, apart := false }
def CalcTellsSaid : Prop := calcTellsRow.holds Try.pinned (OpenSpec.ofChange calcTellsSpec)

/-- ITS FALSE NEIGHBOUR: 'it returns false'. Refute it at one input. -/
def calcTellsWrong : ChangeSpec := { name := "calcTells", fn := fun _ => fun
  | [d1, d2, d3] => { results := [.lit (.bool false)], args := [d1, d2, d3] }
  | _ => none }
def CalcTellsWrongFalsely : Prop := calcTellsRow.holds Try.pinned (OpenSpec.ofChange calcTellsWrong)

/-- 'liverylaw03.CalcBack': WHATEVER THE INPUT: true; the input reads as it did. -/
def calcBackSpec : ChangeSpec := { name := "calcBack", fn := fun _ => fun
  | [d1, d2] => { results := [.lit (.bool true)], args := [d1, d2] }
  | _ => none }
def calcBackRow : OpenClaim := { program := "ytddbnncimggogaa", sum := "321c01a098b4817d7e9a01b16101e079d8f6e2ee8b0f3309b96ce5d7d89a2626", func := "livery/liverylaw03.CalcBack", spec := "calcBack", unfollowed := true, recurses := true, apart := false }
def CalcBackSaid : Prop := calcBackRow.holds Try.pinned (OpenSpec.ofChange calcBackSpec)

/-- ITS FALSE NEIGHBOUR: 'it returns false'. Refute it at one input. -/
def calcBackWrong : ChangeSpec := { name := "calcBack", fn := fun _ => fun
  | [d1, d2] => { results := [.lit (.bool false)], args := [d1, d2] }
  | _ => none }
def CalcBackWrongFalsely : Prop := calcBackRow.holds Try.pinned (OpenSpec.ofChange calcBackWrong)

/-- 'liverylaw03.CalcOrder': WHATEVER THE INPUT: true; the input reads as it did. -/
def calcOrderSpec : ChangeSpec := { name := "calcOrder", fn := fun _ => fun
  | [d1, d2, d3] => { results := [.lit (.bool true)], args := [d1, d2, d3] }
  | _ => none }
def calcOrderRow : OpenClaim := { program := "ytddbnncimggogaa", sum := "321c01a098b4817d7e9a01b16101e079d8f6e2ee8b0f3309b96ce5d7d89a2626", func := "livery/liverylaw03.CalcOrder", spec := "calcOrder", unfollowed := true, recurses := true, apart := false }
def CalcOrderSaid : Prop := calcOrderRow.holds Try.pinned (OpenSpec.ofChange calcOrderSpec)

/-- ITS FALSE NEIGHBOUR: 'it returns false'. Refute it at one input. -/
def calcOrderWrong : ChangeSpec := { name := "calcOrder", fn := fun _ => fun
  | [d1, d2, d3] => { results := [.lit (.bool false)], args := [d1, d2, d3] }
  | _ => none }
def CalcOrderWrongFalsely : Prop := calcOrderRow.holds Try.pinned (OpenSpec.ofChange calcOrderWrong)

/-- 'liverylaw16.SlotCut': WHATEVER THE INPUT: true; the input reads as it did. -/
def slotCutSpec : ChangeSpec := { name := "slotCut", fn := fun _ => fun
  | [d1, d2] => { results := [.lit (.bool true)], args := [d1, d2] }
  | _ => none }
def slotCutRow : OpenClaim := { program := "ytddbnncimggogaa", sum := "321c01a098b4817d7e9a01b16101e079d8f6e2ee8b0f3309b96ce5d7d89a2626", func := "livery/liverylaw16.SlotCut", spec := "slotCut", unfollowed := true, recurses := true, apart := false }
def SlotCutSaid : Prop := slotCutRow.holds Try.pinned (OpenSpec.ofChange slotCutSpec)

/-- ITS FALSE NEIGHBOUR: 'it returns false'. Refute it at one input. -/
def slotCutWrong : ChangeSpec := { name := "slotCut", fn := fun _ => fun
  | [d1, d2] => { results := [.lit (.bool false)], args := [d1, d2] }
  | _ => none }
def SlotCutWrongFalsely : Prop := slotCutRow.holds Try.pinned (OpenSpec.ofChange slotCutWrong)

/-- 'liverylaw16.SlotFits': WHATEVER THE INPUT: true; the input reads as it did. -/
def slotFitsSpec : ChangeSpec := { name := "slotFits", fn := fun _ => fun
  | [d1, d2, d3] => { results := [.lit (.bool true)], args := [d1, d2, d3] }
  | _ => none }
def slotFitsRow : OpenClaim := { program := "ytddbnncimggogaa", sum := "321c01a098b4817d7e9a01b16101e079d8f6e2ee8b0f3309b96ce5d7d89a2626", func := "livery/liverylaw16.SlotFits", spec := "slotFits", unfollowed := true, recurses := true, apart := false }
def SlotFitsSaid : Prop := slotFitsRow.holds Try.pinned (OpenSpec.ofChange slotFitsSpec)

/-- ITS FALSE NEIGHBOUR: 'it returns false'. Refute it at one input. -/
def slotFitsWrong : ChangeSpec := { name := "slotFits", fn := fun _ => fun
  | [d1, d2, d3] => { results := [.lit (.bool false)], args := [d1, d2, d3] }
  | _ => none }
def SlotFitsWrongFalsely : Prop := slotFitsRow.holds Try.pinned (OpenSpec.ofChange slotFitsWrong)

/-- 'liverylaw16.SlotMore': WHATEVER THE INPUT: true; the input reads as it did. -/
def slotMoreSpec : ChangeSpec := { name := "slotMore", fn := fun _ => fun
  | [d1, d2, d3] => { results := [.lit (.bool true)], args := [d1, d2, d3] }
  | _ => none }
def slotMoreRow : OpenClaim := { program := "ytddbnncimggogaa", sum := "321c01a098b4817d7e9a01b16101e079d8f6e2ee8b0f3309b96ce5d7d89a2626", func := "livery/liverylaw16.SlotMore", spec := "slotMore", unfollowed := true, recurses := true, apart := false }
def SlotMoreSaid : Prop := slotMoreRow.holds Try.pinned (OpenSpec.ofChange slotMoreSpec)

/-- ITS FALSE NEIGHBOUR: 'it returns false'. Refute it at one input. -/
def slotMoreWrong : ChangeSpec := { name := "slotMore", fn := fun _ => fun
  | [d1, d2, d3] => { results := [.lit (.bool false)], args := [d1, d2, d3] }
  | _ => none }
def SlotMoreWrongFalsely : Prop := slotMoreRow.holds Try.pinned (OpenSpec.ofChange slotMoreWrong)

/-- 'liverylaw17.CostBest': WHATEVER THE INPUT: true; the input reads as it did. -/
def costBestSpec : ChangeSpec := { name := "costBest", fn := fun _ => fun
  | [d] => { results := [.lit (.bool true)], args := [d] }
  | _ => none }
def costBestRow : OpenClaim := { program := "ytddbnncimggogaa", sum := "321c01a098b4817d7e9a01b16101e079d8f6e2ee8b0f3309b96ce5d7d89a2626", func := "livery/liverylaw17.CostBest", spec := "costBest", unfollowed := true, recurses := true, apart := false }
def CostBestSaid : Prop := costBestRow.holds Try.pinned (OpenSpec.ofChange costBestSpec)

/-- ITS FALSE NEIGHBOUR: 'it returns false'. Refute it at one input. -/
def costBestWrong : ChangeSpec := { name := "costBest", fn := fun _ => fun
  | [d] => { results := [.lit (.bool false)], args := [d] }
  | _ => none }
def CostBestWrongFalsely : Prop := costBestRow.holds Try.pinned (OpenSpec.ofChange costBestWrong)

/- THE SECOND FORM. 'bulk': how many values and letters a reading holds, each counted each time it is reached (what is shared counts as often as it is met; a slice's spare places count too). A statement '..UptoSaid' is the law's where the arguments, and the package variables that the reading takes, are together of bulk at most 1048576: NARROWER than '..Said'. Prove '..Said' where nothing that the law and all that it calls make is longer than what came in: it says more and counts as full. Else prove '..UptoSaid'. A law counts once. -/
mutual
def uptoBulk {H : Type} : DataW H → Nat
  | .lit (.string bytes) => bytes.length + 1
  | .lit _ => 1
  | .nil => 1
  | .ptr d => uptoBulk d + 1
  | .slice elems spare => uptoBulkAll elems + uptoBulkAll spare + 1
  | .agg parts => uptoBulkAll parts + 1
  | .iface _ d => uptoBulk d + 1
  | .map entries => uptoBulkEntries entries + 1
  | .held _ => 1
def uptoBulkAll {H : Type} : List (DataW H) → Nat
  | [] => 0
  | d :: r => uptoBulk d + uptoBulkAll r
def uptoBulkEntries {H : Type} : List (Lit × DataW H) → Nat
  | [] => 0
  | x :: r => uptoBulkEntry x + uptoBulkEntries r
def uptoBulkEntry {H : Type} : Lit × DataW H → Nat
  | (.string bytes, d) => bytes.length + uptoBulk d + 1
  | (_, d) => uptoBulk d + 1
 end
def uptoSmall : (H : Type) → List (DataW H) → Bool := fun _ ds => decide (uptoBulkAll ds ≤ 1048576)
def OpenSpec.upto (s : _root_.Go.ChangeSpec) : _root_.Go.OpenSpec := { _root_.Go.OpenSpec.ofChange s with cond := some uptoSmall }

/-- 'liverylaw02.RleValues', WHERE WHAT IT READS IS OF BULK AT MOST 1048576: true; the input reads as it did. -/
def rleValuesUptoRow : OpenClaim := { program := "ytddbnncimggogaa", sum := "321c01a098b4817d7e9a01b16101e079d8f6e2ee8b0f3309b96ce5d7d89a2626", func := "livery/liverylaw02.RleValues", spec := "rleValues", unfollowed := true, recurses := true, apart := false, narrowed := true }
def RleValuesUptoSaid : Prop := rleValuesUptoRow.holds Try.pinned (OpenSpec.upto rleValuesSpec)

/-- 'liverylaw02.RleOne', WHERE WHAT IT READS IS OF BULK AT MOST 1048576: true; the input reads as it did. -/
def rleOneUptoRow : OpenClaim := { program := "ytddbnncimggogaa", sum := "321c01a098b4817d7e9a01b16101e079d8f6e2ee8b0f3309b96ce5d7d89a2626", func := "livery/liverylaw02.RleOne", spec := "rleOne", unfollowed := true, recurses := true, apart := false, narrowed := true }
def RleOneUptoSaid : Prop := rleOneUptoRow.holds Try.pinned (OpenSpec.upto rleOneSpec)

/-- 'liverylaw02.RleBox', WHERE WHAT IT READS IS OF BULK AT MOST 1048576: true; the input reads as it did. -/
def rleBoxUptoRow : OpenClaim := { program := "ytddbnncimggogaa", sum := "321c01a098b4817d7e9a01b16101e079d8f6e2ee8b0f3309b96ce5d7d89a2626", func := "livery/liverylaw02.RleBox", spec := "rleBox", unfollowed := true, recurses := true, apart := false, narrowed := true }
def RleBoxUptoSaid : Prop := rleBoxUptoRow.holds Try.pinned (OpenSpec.upto rleBoxSpec)

/-- 'liverylaw03.CalcRange', WHERE WHAT IT READS IS OF BULK AT MOST 1048576: true; the input reads as it did. -/
def calcRangeUptoRow : OpenClaim := { program := "ytddbnncimggogaa", sum := "321c01a098b4817d7e9a01b16101e079d8f6e2ee8b0f3309b96ce5d7d89a2626", func := "livery/liverylaw03.CalcRange", spec := "calcRange", unfollowed := true, recurses := true, apart := false, narrowed := true }
def CalcRangeUptoSaid : Prop := calcRangeUptoRow.holds Try.pinned (OpenSpec.upto calcRangeSpec)

/-- 'liverylaw03.CalcSums', WHERE WHAT IT READS IS OF BULK AT MOST 1048576: true; the input reads as it did. -/
def calcSumsUptoRow : OpenClaim := { program := "ytddbnncimggogaa", sum := "321c01a098b4817d7e9a01b16101e079d8f6e2ee8b0f3309b96ce5d7d89a2626", func := "livery/liverylaw03.CalcSums", spec := "calcSums", unfollowed := true, recurses := true, apart := false, narrowed := true }
def CalcSumsUptoSaid : Prop := calcSumsUptoRow.holds Try.pinned (OpenSpec.upto calcSumsSpec)

/-- 'liverylaw03.CalcTells', WHERE WHAT IT READS IS OF BULK AT MOST 1048576: true; the input reads as it did. -/
def calcTellsUptoRow : OpenClaim := { program := "ytddbnncimggogaa", sum := "321c01a098b4817d7e9a01b16101e079d8f6e2ee8b0f3309b96ce5d7d89a2626", func := "livery/liverylaw03.CalcTells", spec := "calcTells", unfollowed := true, recurses := true, apart := false, narrowed := true }
def CalcTellsUptoSaid : Prop := calcTellsUptoRow.holds Try.pinned (OpenSpec.upto calcTellsSpec)

/-- 'liverylaw03.CalcBack', WHERE WHAT IT READS IS OF BULK AT MOST 1048576: true; the input reads as it did. -/
def calcBackUptoRow : OpenClaim := { program := "ytddbnncimggogaa", sum := "321c01a098b4817d7e9a01b16101e079d8f6e2ee8b0f3309b96ce5d7d89a2626", func := "livery/liverylaw03.CalcBack", spec := "calcBack", unfollowed := true, recurses := true, apart := false, narrowed := true }
def CalcBackUptoSaid : Prop := calcBackUptoRow.holds Try.pinned (OpenSpec.upto calcBackSpec)

/-- 'liverylaw03.CalcOrder', WHERE WHAT IT READS IS OF BULK AT MOST 1048576: true; the input reads as it did. -/
def calcOrderUptoRow : OpenClaim := { program := "ytddbnncimggogaa", sum := "321c01a098b4817d7e9a01b16101e079d8f6e2ee8b0f3309b96ce5d7d89a2626", func := "livery/liverylaw03.CalcOrder", spec := "calcOrder", unfollowed := true, recurses := true, apart := false, narrowed := true }
def CalcOrderUptoSaid : Prop := calcOrderUptoRow.holds Try.pinned (OpenSpec.upto calcOrderSpec)

/-- 'liverylaw16.SlotCut', WHERE WHAT IT READS IS OF BULK AT MOST 1048576: true; the input reads as it did. -/
def slotCutUptoRow : OpenClaim := { program := "ytddbnncimggogaa", sum := "321c01a098b4817d7e9a01b16101e079d8f6e2ee8b0f3309b96ce5d7d89a2626", func := "livery/liverylaw16.SlotCut", spec := "slotCut", unfollowed := true, recurses := true, apart := false, narrowed := true }
def SlotCutUptoSaid : Prop := slotCutUptoRow.holds Try.pinned (OpenSpec.upto slotCutSpec)

/-- 'liverylaw16.SlotFits', WHERE WHAT IT READS IS OF BULK AT MOST 1048576: true; the input reads as it did. -/
def slotFitsUptoRow : OpenClaim := { program := "ytddbnncimggogaa", sum := "321c01a098b4817d7e9a01b16101e079d8f6e2ee8b0f3309b96ce5d7d89a2626", func := "livery/liverylaw16.SlotFits", spec := "slotFits", unfollowed := true, recurses := true, apart := false, narrowed := true }
def SlotFitsUptoSaid : Prop := slotFitsUptoRow.holds Try.pinned (OpenSpec.upto slotFitsSpec)

/-- 'liverylaw16.SlotMore', WHERE WHAT IT READS IS OF BULK AT MOST 1048576: true; the input reads as it did. -/
def slotMoreUptoRow : OpenClaim := { program := "ytddbnncimggogaa", sum := "321c01a098b4817d7e9a01b16101e079d8f6e2ee8b0f3309b96ce5d7d89a2626", func := "livery/liverylaw16.SlotMore", spec := "slotMore", unfollowed := true, recurses := true, apart := false, narrowed := true }
def SlotMoreUptoSaid : Prop := slotMoreUptoRow.holds Try.pinned (OpenSpec.upto slotMoreSpec)

/-- 'liverylaw17.CostBest', WHERE WHAT IT READS IS OF BULK AT MOST 1048576: true; the input reads as it did. -/
def costBestUptoRow : OpenClaim := { program := "ytddbnncimggogaa", sum := "321c01a098b4817d7e9a01b16101e079d8f6e2ee8b0f3309b96ce5d7d89a2626", func := "livery/liverylaw17.CostBest", spec := "costBest", unfollowed := true, recurses := true, apart := false, narrowed := true }
def CostBestUptoSaid : Prop := costBestUptoRow.holds Try.pinned (OpenSpec.upto costBestSpec)

end Rows
end Go.Proofs.Ytddbnncimggogaa
