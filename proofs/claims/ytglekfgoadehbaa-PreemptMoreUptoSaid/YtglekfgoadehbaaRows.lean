/-
  No cell of these rows narrows 'for every input' (looked for: loops, veiled, ifaces, maps, wideKeys, modest, calm, conditions, laid).
  DERIVED. THE GIVEN ROWS OF THIS SEAT. 6 by the template 'for every input the law returns true; each argument reads behind the call as it read before'; 0 by the template 'total and deterministic' (their statements: YtglekfgoadehbaaTotals.lean).
  GIVEN WITH THE SEED: the statements are not yours to turn. If you find one false, say at which input.
  Laid BY PROGRAM, IN A SANDBOX (cutbox-rows.mjs): the forced cells as the released guide's own fill.sh prints them over the translation 6cd898f7afdd2474… (all of the seat's roots in one cut). By AI agents, Wed Nov 11 2026. No macro, syntax, notation, axiom, sorry.
-/
import Derived.Test.YtglekfgoadehbaaChecked
import GoSem.Claim
import GoSem.ClaimJoined
import GoSem.ClaimMapViews
import Derived.JoinedTies
import Derived.KernelRfl
namespace Go.Proofs.Ytglekfgoadehbaa
/- THE CELL 'sum', in the pinned program and in every row, IS THE sha256 OF THE DUMP (.gsa) THAT YtglekfgoadehbaaProg.lean LOADS. Nothing in Lean hashes anything: it is a label: what it is worth is what the hold of that sum in a sandbox is worth. -/
noncomputable def Try.pinned : Pinned := { name := "ytglekfgoadehbaa", sum := "6cd898f7afdd2474fd4350824218cfd4587fe4af6cc1b8075d0b688fb4d1c50c", checked := Try.checked }
namespace Rows
def none {H : Type} : Left H := { results := [], args := [] }

/-- 'liverylaw25.PreemptTells': WHATEVER THE INPUT: true; the input reads as it did. -/
def preemptTellsSpec : ChangeSpec := { name := "preemptTells", fn := fun _ => fun
  | [d1, d2] => { results := [.lit (.bool true)], args := [d1, d2] }
  | _ => none }
def preemptTellsRow : OpenClaim := { program := "ytglekfgoadehbaa", sum := "6cd898f7afdd2474fd4350824218cfd4587fe4af6cc1b8075d0b688fb4d1c50c", func := "livery/liverylaw25.PreemptTells", spec := "preemptTells", unfollowed := true, recurses := true, apart := false }
def PreemptTellsSaid : Prop := preemptTellsRow.holds Try.pinned (OpenSpec.ofChange preemptTellsSpec)

/-- ITS FALSE NEIGHBOUR: 'it returns false'. Refute it at one input. -/
def preemptTellsWrong : ChangeSpec := { name := "preemptTells", fn := fun _ => fun
  | [d1, d2] => { results := [.lit (.bool false)], args := [d1, d2] }
  | _ => none }
def PreemptTellsWrongFalsely : Prop := preemptTellsRow.holds Try.pinned (OpenSpec.ofChange preemptTellsWrong)

/-- 'liverylaw25.PreemptLeast': WHATEVER THE INPUT: true; the input reads as it did. -/
def preemptLeastSpec : ChangeSpec := { name := "preemptLeast", fn := fun _ => fun
  | [d1, d2] => { results := [.lit (.bool true)], args := [d1, d2] }
  | _ => none }
def preemptLeastRow : OpenClaim := { program := "ytglekfgoadehbaa", sum := "6cd898f7afdd2474fd4350824218cfd4587fe4af6cc1b8075d0b688fb4d1c50c", func := "livery/liverylaw25.PreemptLeast", spec := "preemptLeast", unfollowed := true, recurses := true, apart := false }
def PreemptLeastSaid : Prop := preemptLeastRow.holds Try.pinned (OpenSpec.ofChange preemptLeastSpec)

/-- ITS FALSE NEIGHBOUR: 'it returns false'. Refute it at one input. -/
def preemptLeastWrong : ChangeSpec := { name := "preemptLeast", fn := fun _ => fun
  | [d1, d2] => { results := [.lit (.bool false)], args := [d1, d2] }
  | _ => none }
def PreemptLeastWrongFalsely : Prop := preemptLeastRow.holds Try.pinned (OpenSpec.ofChange preemptLeastWrong)

/-- 'liverylaw25.PreemptMore': WHATEVER THE INPUT: true; the input reads as it did. -/
def preemptMoreSpec : ChangeSpec := { name := "preemptMore", fn := fun _ => fun
  | [d1, d2, d3] => { results := [.lit (.bool true)], args := [d1, d2, d3] }
  | _ => none }
def preemptMoreRow : OpenClaim := { program := "ytglekfgoadehbaa", sum := "6cd898f7afdd2474fd4350824218cfd4587fe4af6cc1b8075d0b688fb4d1c50c", func := "livery/liverylaw25.PreemptMore", spec := "preemptMore", unfollowed := true, recurses := true, apart := false }
def PreemptMoreSaid : Prop := preemptMoreRow.holds Try.pinned (OpenSpec.ofChange preemptMoreSpec)

/-- ITS FALSE NEIGHBOUR: 'it returns false'. Refute it at one input. -/
def preemptMoreWrong : ChangeSpec := { name := "preemptMore", fn := fun _ => fun
  | [d1, d2, d3] => { results := [.lit (.bool false)], args := [d1, d2, d3] }
  | _ => none }
def PreemptMoreWrongFalsely : Prop := preemptMoreRow.holds Try.pinned (OpenSpec.ofChange preemptMoreWrong)

/-- 'liverylaw17.CostBest': WHATEVER THE INPUT: true; the input reads as it did. -/
def costBestSpec : ChangeSpec := { name := "costBest", fn := fun _ => fun
  | [d] => { results := [.lit (.bool true)], args := [d] }
  | _ => none }
def costBestRow : OpenClaim := { program := "ytglekfgoadehbaa", sum := "6cd898f7afdd2474fd4350824218cfd4587fe4af6cc1b8075d0b688fb4d1c50c", func := "livery/liverylaw17.CostBest", spec := "costBest", unfollowed := true, recurses := true, apart := false }
def CostBestSaid : Prop := costBestRow.holds Try.pinned (OpenSpec.ofChange costBestSpec)

/-- ITS FALSE NEIGHBOUR: 'it returns false'. Refute it at one input. -/
def costBestWrong : ChangeSpec := { name := "costBest", fn := fun _ => fun
  | [d] => { results := [.lit (.bool false)], args := [d] }
  | _ => none }
def CostBestWrongFalsely : Prop := costBestRow.holds Try.pinned (OpenSpec.ofChange costBestWrong)

/-- 'liverylaw17.CostSums': WHATEVER THE INPUT: true; the input reads as it did. -/
def costSumsSpec : ChangeSpec := { name := "costSums", fn := fun _ => fun
  | [d1, d2, d3] => { results := [.lit (.bool true)], args := [d1, d2, d3] }
  | _ => none }
def costSumsRow : OpenClaim := { program := "ytglekfgoadehbaa", sum := "6cd898f7afdd2474fd4350824218cfd4587fe4af6cc1b8075d0b688fb4d1c50c", func := "livery/liverylaw17.CostSums", spec := "costSums", unfollowed := true, recurses := true, apart := false }
def CostSumsSaid : Prop := costSumsRow.holds Try.pinned (OpenSpec.ofChange costSumsSpec)

/-- ITS FALSE NEIGHBOUR: 'it returns false'. Refute it at one input. -/
def costSumsWrong : ChangeSpec := { name := "costSums", fn := fun _ => fun
  | [d1, d2, d3] => { results := [.lit (.bool false)], args := [d1, d2, d3] }
  | _ => none }
def CostSumsWrongFalsely : Prop := costSumsRow.holds Try.pinned (OpenSpec.ofChange costSumsWrong)

/-- 'liverylaw17.CostOrder': WHATEVER THE INPUT: true; the input reads as it did. -/
def costOrderSpec : ChangeSpec := { name := "costOrder", fn := fun _ => fun
  | [d1, d2] => { results := [.lit (.bool true)], args := [d1, d2] }
  | _ => none }
def costOrderRow : OpenClaim := { program := "ytglekfgoadehbaa", sum := "6cd898f7afdd2474fd4350824218cfd4587fe4af6cc1b8075d0b688fb4d1c50c", func := "livery/liverylaw17.CostOrder", spec := "costOrder", unfollowed := true, recurses := true, apart := false }
def CostOrderSaid : Prop := costOrderRow.holds Try.pinned (OpenSpec.ofChange costOrderSpec)

/-- ITS FALSE NEIGHBOUR: 'it returns false'. Refute it at one input. -/
def costOrderWrong : ChangeSpec := { name := "costOrder", fn := fun _ => fun
  | [d1, d2] => { results := [.lit (.bool false)], args := [d1, d2] }
  | _ => none }
def CostOrderWrongFalsely : Prop := costOrderRow.holds Try.pinned (OpenSpec.ofChange costOrderWrong)

/- THE SECOND FORM. 'bulk': how many values and letters a reading holds, each counted each time it is reached (what is shared counts as often as it is met; a slice's spare places count too). A statement '..UptoSaid' is the law's where the arguments, and the package variables that the reading takes, are together of bulk at most 1048576: NARROWER than '..Said'. Prove '..Said' where nothing that the law and all that it calls make is longer than what came in: it says more and counts as full. Else prove '..UptoSaid'. A law counts once. -/
mutual
def uptoBulk {H : Type} : DataW H → Nat
  | .lit (.string bytes) => bytes.length + 1
  | .lit _ => 1
  | .nil => 1
  | .ptr d => uptoBulk d + 1
  | .slice elems spare => uptoBulkAll elems + uptoBulkAll spare + 1
  | .agg parts => uptoBulkAll parts + 1
  | .iface _ d => uptoBulk d + 1
  | .map entries => uptoBulkEntries entries + 1
  | .held _ => 1
def uptoBulkAll {H : Type} : List (DataW H) → Nat
  | [] => 0
  | d :: r => uptoBulk d + uptoBulkAll r
def uptoBulkEntries {H : Type} : List (Lit × DataW H) → Nat
  | [] => 0
  | x :: r => uptoBulkEntry x + uptoBulkEntries r
def uptoBulkEntry {H : Type} : Lit × DataW H → Nat
  | (.string bytes, d) => bytes.length + uptoBulk d + 1
  | (_, d) => uptoBulk d + 1
 end
def uptoSmall : (H : Type) → List (DataW H) → Bool := fun _ ds => decide (uptoBulkAll ds ≤ 1048576)
def OpenSpec.upto (s : _root_.Go.ChangeSpec) : _root_.Go.OpenSpec := { _root_.Go.OpenSpec.ofChange s with cond := some uptoSmall }

/-- 'liverylaw25.PreemptTells', WHERE WHAT IT READS IS OF BULK AT MOST 1048576: true; the input reads as it did. -/
def preemptTellsUptoRow : OpenClaim := { program := "ytglekfgoadehbaa", sum := "6cd898f7afdd2474fd4350824218cfd4587fe4af6cc1b8075d0b688fb4d1c50c", func := "livery/liverylaw25.PreemptTells", spec := "preemptTells", unfollowed := true, recurses := true, apart := false, narrowed := true }
def PreemptTellsUptoSaid : Prop := preemptTellsUptoRow.holds Try.pinned (OpenSpec.upto preemptTellsSpec)

/-- 'liverylaw25.PreemptLeast', WHERE WHAT IT READS IS OF BULK AT MOST 1048576: true; the input reads as it did. -/
def preemptLeastUptoRow : OpenClaim := { program := "ytglekfgoadehbaa", sum := "6cd898f7afdd2474fd4350824218cfd4587fe4af6cc1b8075d0b688fb4d1c50c", func := "livery/liverylaw25.PreemptLeast", spec := "preemptLeast", unfollowed := true, recurses := true, apart := false, narrowed := true }
def PreemptLeastUptoSaid : Prop := preemptLeastUptoRow.holds Try.pinned (OpenSpec.upto preemptLeastSpec)

/-- 'liverylaw25.PreemptMore', WHERE WHAT IT READS IS OF BULK AT MOST 1048576: true; the input reads as it did. -/
def preemptMoreUptoRow : OpenClaim := { program := "ytglekfgoadehbaa", sum := "6cd898f7afdd2474fd4350824218cfd4587fe4af6cc1b8075d0b688fb4d1c50c", func := "livery/liverylaw25.PreemptMore", spec := "preemptMore", unfollowed := true, recurses := true, apart := false, narrowed := true }
def PreemptMoreUptoSaid : Prop := preemptMoreUptoRow.holds Try.pinned (OpenSpec.upto preemptMoreSpec)

/-- 'liverylaw17.CostBest', WHERE WHAT IT READS IS OF BULK AT MOST 1048576: true; the input reads as it did. -/
def costBestUptoRow : OpenClaim := { program := "ytglekfgoadehbaa", sum := "6cd898f7afdd2474fd4350824218cfd4587fe4af6cc1b8075d0b688fb4d1c50c", func := "livery/liverylaw17.CostBest", spec := "costBest", unfollowed := true, recurses := true, apart := false, narrowed := true }
def CostBestUptoSaid : Prop := costBestUptoRow.holds Try.pinned (OpenSpec.upto costBestSpec)

/-- 'liverylaw17.CostSums', WHERE WHAT IT READS IS OF BULK AT MOST 1048576: true; the input reads as it did. -/
def costSumsUptoRow : OpenClaim := { program := "ytglekfgoadehbaa", sum := "6cd898f7afdd2474fd4350824218cfd4587fe4af6cc1b8075d0b688fb4d1c50c", func := "livery/liverylaw17.CostSums", spec := "costSums", unfollowed := true, recurses := true, apart := false, narrowed := true }
def CostSumsUptoSaid : Prop := costSumsUptoRow.holds Try.pinned (OpenSpec.upto costSumsSpec)

/-- 'liverylaw17.CostOrder', WHERE WHAT IT READS IS OF BULK AT MOST 1048576: true; the input reads as it did. -/
def costOrderUptoRow : OpenClaim := { program := "ytglekfgoadehbaa", sum := "6cd898f7afdd2474fd4350824218cfd4587fe4af6cc1b8075d0b688fb4d1c50c", func := "livery/liverylaw17.CostOrder", spec := "costOrder", unfollowed := true, recurses := true, apart := false, narrowed := true }
def CostOrderUptoSaid : Prop := costOrderUptoRow.holds Try.pinned (OpenSpec.upto costOrderSpec)

end Rows
end Go.Proofs.Ytglekfgoadehbaa
