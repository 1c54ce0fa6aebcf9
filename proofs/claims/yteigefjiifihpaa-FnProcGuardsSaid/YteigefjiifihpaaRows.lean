/-
  No cell of these rows narrows 'for every input' (looked for: loops, veiled, ifaces, maps, wideKeys, modest, calm, conditions, laid).
  DERIVED. THE GIVEN ROWS OF THIS SEAT. 8 by the template 'for every input the law returns true; each argument reads behind the call as it read before'; 0 by the template 'total and deterministic' (their statements: YteigefjiifihpaaTotals.lean).
  GIVEN WITH THE SEED: the statements are not yours to turn. If you find one false, say at which input.
  Laid BY PROGRAM, IN A SANDBOX (cutbox-rows.mjs): the forced cells as the released guide's own fill.sh prints them over the translation c4c5e2601b3bb712… (all of the seat's roots in one cut). By AI agents, Wed Nov 11 2026. No macro, syntax, notation, axiom, sorry.
-/
import Derived.Test.YteigefjiifihpaaChecked
import GoSem.Claim
import GoSem.ClaimJoined
import GoSem.ClaimMapViews
import Derived.JoinedTies
import Derived.KernelRfl
namespace Go.Proofs.Yteigefjiifihpaa
/- THE CELL 'sum', in the pinned program and in every row, IS THE sha256 OF THE DUMP (.gsa) THAT YteigefjiifihpaaProg.lean LOADS. Nothing in Lean hashes anything: it is a label: what it is worth is what the hold of that sum in a sandbox is worth. -/
noncomputable def Try.pinned : Pinned := { name := "yteigefjiifihpaa", sum := "c4c5e2601b3bb712480fca70339a9e158d86959f6055797c4d99e0edfba47013", checked := Try.checked }
namespace Rows
def none {H : Type} : Left H := { results := [], args := [] }

/-- 'laws.FnExactSchedRun': WHATEVER THE INPUT: true; the input reads as it did. -/
def fnExactSchedRunSpec : ChangeSpec := { name := "fnExactSchedRun", fn := fun _ => fun
  | [d] => { results := [.lit (.bool true)], args := [d] }
  | _ => none }
def fnExactSchedRunRow : OpenClaim := { program := "yteigefjiifihpaa", sum := "c4c5e2601b3bb712480fca70339a9e158d86959f6055797c4d99e0edfba47013", func := "loop.example/g00008/laws.FnExactSchedRun", spec := "fnExactSchedRun", unfollowed := true, recurses := true, apart := false }
def FnExactSchedRunSaid : Prop := fnExactSchedRunRow.holds Try.pinned (OpenSpec.ofChange fnExactSchedRunSpec)

/-- ITS FALSE NEIGHBOUR: 'it returns false'. Refute it at one input. -/
def fnExactSchedRunWrong : ChangeSpec := { name := "fnExactSchedRun", fn := fun _ => fun
  | [d] => { results := [.lit (.bool false)], args := [d] }
  | _ => none }
def FnExactSchedRunWrongFalsely : Prop := fnExactSchedRunRow.holds Try.pinned (OpenSpec.ofChange fnExactSchedRunWrong)

/-- 'laws.FnExactSchedStep': WHATEVER THE INPUT: true; the input reads as it did. -/
def fnExactSchedStepSpec : ChangeSpec := { name := "fnExactSchedStep", fn := fun _ => fun
  | [d1, d2] => { results := [.lit (.bool true)], args := [d1, d2] }
  | _ => none }
def fnExactSchedStepRow : OpenClaim := { program := "yteigefjiifihpaa", sum := "c4c5e2601b3bb712480fca70339a9e158d86959f6055797c4d99e0edfba47013", func := "loop.example/g00008/laws.FnExactSchedStep", spec := "fnExactSchedStep", unfollowed := true, recurses := true, apart := false }
def FnExactSchedStepSaid : Prop := fnExactSchedStepRow.holds Try.pinned (OpenSpec.ofChange fnExactSchedStepSpec)

/-- ITS FALSE NEIGHBOUR: 'it returns false'. Refute it at one input. -/
def fnExactSchedStepWrong : ChangeSpec := { name := "fnExactSchedStep", fn := fun _ => fun
  | [d1, d2] => { results := [.lit (.bool false)], args := [d1, d2] }
  | _ => none }
def FnExactSchedStepWrongFalsely : Prop := fnExactSchedStepRow.holds Try.pinned (OpenSpec.ofChange fnExactSchedStepWrong)

/-- 'laws.FnSchedFree': WHATEVER THE INPUT: true; the input reads as it did. -/
def fnSchedFreeSpec : ChangeSpec := { name := "fnSchedFree", fn := fun _ => fun
  | [d] => { results := [.lit (.bool true)], args := [d] }
  | _ => none }
def fnSchedFreeRow : OpenClaim := { program := "yteigefjiifihpaa", sum := "c4c5e2601b3bb712480fca70339a9e158d86959f6055797c4d99e0edfba47013", func := "loop.example/g00008/laws.FnSchedFree", spec := "fnSchedFree", unfollowed := true, recurses := true, apart := false }
def FnSchedFreeSaid : Prop := fnSchedFreeRow.holds Try.pinned (OpenSpec.ofChange fnSchedFreeSpec)

/-- ITS FALSE NEIGHBOUR: 'it returns false'. Refute it at one input. -/
def fnSchedFreeWrong : ChangeSpec := { name := "fnSchedFree", fn := fun _ => fun
  | [d] => { results := [.lit (.bool false)], args := [d] }
  | _ => none }
def FnSchedFreeWrongFalsely : Prop := fnSchedFreeRow.holds Try.pinned (OpenSpec.ofChange fnSchedFreeWrong)

/-- 'laws.FnSchedHeeds': WHATEVER THE INPUT: true; the input reads as it did. -/
def fnSchedHeedsSpec : ChangeSpec := { name := "fnSchedHeeds", fn := fun _ => fun
  | [d] => { results := [.lit (.bool true)], args := [d] }
  | _ => none }
def fnSchedHeedsRow : OpenClaim := { program := "yteigefjiifihpaa", sum := "c4c5e2601b3bb712480fca70339a9e158d86959f6055797c4d99e0edfba47013", func := "loop.example/g00008/laws.FnSchedHeeds", spec := "fnSchedHeeds", unfollowed := true, recurses := true, apart := false }
def FnSchedHeedsSaid : Prop := fnSchedHeedsRow.holds Try.pinned (OpenSpec.ofChange fnSchedHeedsSpec)

/-- ITS FALSE NEIGHBOUR: 'it returns false'. Refute it at one input. -/
def fnSchedHeedsWrong : ChangeSpec := { name := "fnSchedHeeds", fn := fun _ => fun
  | [d] => { results := [.lit (.bool false)], args := [d] }
  | _ => none }
def FnSchedHeedsWrongFalsely : Prop := fnSchedHeedsRow.holds Try.pinned (OpenSpec.ofChange fnSchedHeedsWrong)

/-- 'laws.FnExactProcRun': WHATEVER THE INPUT: true; the input reads as it did. -/
def fnExactProcRunSpec : ChangeSpec := { name := "fnExactProcRun", fn := fun _ => fun
  | [d] => { results := [.lit (.bool true)], args := [d] }
  | _ => none }
def fnExactProcRunRow : OpenClaim := { program := "yteigefjiifihpaa", sum := "c4c5e2601b3bb712480fca70339a9e158d86959f6055797c4d99e0edfba47013", func := "loop.example/g00008/laws.FnExactProcRun", spec := "fnExactProcRun", unfollowed := true, recurses := true, apart := false }
def FnExactProcRunSaid : Prop := fnExactProcRunRow.holds Try.pinned (OpenSpec.ofChange fnExactProcRunSpec)

/-- ITS FALSE NEIGHBOUR: 'it returns false'. Refute it at one input. -/
def fnExactProcRunWrong : ChangeSpec := { name := "fnExactProcRun", fn := fun _ => fun
  | [d] => { results := [.lit (.bool false)], args := [d] }
  | _ => none }
def FnExactProcRunWrongFalsely : Prop := fnExactProcRunRow.holds Try.pinned (OpenSpec.ofChange fnExactProcRunWrong)

/-- 'laws.FnExactProcStep': WHATEVER THE INPUT: true; the input reads as it did. -/
def fnExactProcStepSpec : ChangeSpec := { name := "fnExactProcStep", fn := fun _ => fun
  | [d1, d2] => { results := [.lit (.bool true)], args := [d1, d2] }
  | _ => none }
def fnExactProcStepRow : OpenClaim := { program := "yteigefjiifihpaa", sum := "c4c5e2601b3bb712480fca70339a9e158d86959f6055797c4d99e0edfba47013", func := "loop.example/g00008/laws.FnExactProcStep", spec := "fnExactProcStep", unfollowed := true, recurses := true, apart := false }
def FnExactProcStepSaid : Prop := fnExactProcStepRow.holds Try.pinned (OpenSpec.ofChange fnExactProcStepSpec)

/-- ITS FALSE NEIGHBOUR: 'it returns false'. Refute it at one input. -/
def fnExactProcStepWrong : ChangeSpec := { name := "fnExactProcStep", fn := fun _ => fun
  | [d1, d2] => { results := [.lit (.bool false)], args := [d1, d2] }
  | _ => none }
def FnExactProcStepWrongFalsely : Prop := fnExactProcStepRow.holds Try.pinned (OpenSpec.ofChange fnExactProcStepWrong)

/-- 'laws.FnProcTold': WHATEVER THE INPUT: true; the input reads as it did. -/
def fnProcToldSpec : ChangeSpec := { name := "fnProcTold", fn := fun _ => fun
  | [d] => { results := [.lit (.bool true)], args := [d] }
  | _ => none }
def fnProcToldRow : OpenClaim := { program := "yteigefjiifihpaa", sum := "c4c5e2601b3bb712480fca70339a9e158d86959f6055797c4d99e0edfba47013", func := "loop.example/g00008/laws.FnProcTold", spec := "fnProcTold", unfollowed := true, recurses := true, apart := false }
def FnProcToldSaid : Prop := fnProcToldRow.holds Try.pinned (OpenSpec.ofChange fnProcToldSpec)

/-- ITS FALSE NEIGHBOUR: 'it returns false'. Refute it at one input. -/
def fnProcToldWrong : ChangeSpec := { name := "fnProcTold", fn := fun _ => fun
  | [d] => { results := [.lit (.bool false)], args := [d] }
  | _ => none }
def FnProcToldWrongFalsely : Prop := fnProcToldRow.holds Try.pinned (OpenSpec.ofChange fnProcToldWrong)

/-- 'laws.FnProcGuards': WHATEVER THE INPUT: true; the input reads as it did. -/
def fnProcGuardsSpec : ChangeSpec := { name := "fnProcGuards", fn := fun _ => fun
  | [d] => { results := [.lit (.bool true)], args := [d] }
  | _ => none }
def fnProcGuardsRow : OpenClaim := { program := "yteigefjiifihpaa", sum := "c4c5e2601b3bb712480fca70339a9e158d86959f6055797c4d99e0edfba47013", func := "loop.example/g00008/laws.FnProcGuards", spec := "fnProcGuards", unfollowed := true, recurses := true, apart := false }
def FnProcGuardsSaid : Prop := fnProcGuardsRow.holds Try.pinned (OpenSpec.ofChange fnProcGuardsSpec)

/-- ITS FALSE NEIGHBOUR: 'it returns false'. Refute it at one input. -/
def fnProcGuardsWrong : ChangeSpec := { name := "fnProcGuards", fn := fun _ => fun
  | [d] => { results := [.lit (.bool false)], args := [d] }
  | _ => none }
def FnProcGuardsWrongFalsely : Prop := fnProcGuardsRow.holds Try.pinned (OpenSpec.ofChange fnProcGuardsWrong)

/- THE SECOND FORM. 'bulk': how many values and letters a reading holds, each counted each time it is reached (what is shared counts as often as it is met; a slice's spare places count too). A statement '..UptoSaid' is the law's where the arguments, and the package variables that the reading takes, are together of bulk at most 1048576: NARROWER than '..Said'. Prove '..Said' where nothing that the law and all that it calls make is longer than what came in: it says more and counts as full. Else prove '..UptoSaid'. A law counts once. -/
mutual
def uptoBulk {H : Type} : DataW H → Nat
  | .lit (.string bytes) => bytes.length + 1
  | .lit _ => 1
  | .nil => 1
  | .ptr d => uptoBulk d + 1
  | .slice elems spare => uptoBulkAll elems + uptoBulkAll spare + 1
  | .agg parts => uptoBulkAll parts + 1
  | .iface _ d => uptoBulk d + 1
  | .map entries => uptoBulkEntries entries + 1
  | .held _ => 1
def uptoBulkAll {H : Type} : List (DataW H) → Nat
  | [] => 0
  | d :: r => uptoBulk d + uptoBulkAll r
def uptoBulkEntries {H : Type} : List (Lit × DataW H) → Nat
  | [] => 0
  | x :: r => uptoBulkEntry x + uptoBulkEntries r
def uptoBulkEntry {H : Type} : Lit × DataW H → Nat
  | (.string bytes, d) => bytes.length + uptoBulk d + 1
  | (_, d) => uptoBulk d + 1
 end
def uptoSmall : (H : Type) → List (DataW H) → Bool := fun _ ds => decide (uptoBulkAll ds ≤ 1048576)
def OpenSpec.upto (s : _root_.Go.ChangeSpec) : _root_.Go.OpenSpec := { _root_.Go.OpenSpec.ofChange s with cond := some uptoSmall }

/-- 'laws.FnExactSchedRun', WHERE WHAT IT READS IS OF BULK AT MOST 1048576: true; the input reads as it did. -/
def fnExactSchedRunUptoRow : OpenClaim := { program := "yteigefjiifihpaa", sum := "c4c5e2601b3bb712480fca70339a9e158d86959f6055797c4d99e0edfba47013", func := "loop.example/g00008/laws.FnExactSchedRun", spec := "fnExactSchedRun", unfollowed := true, recurses := true, apart := false, narrowed := true }
def FnExactSchedRunUptoSaid : Prop := fnExactSchedRunUptoRow.holds Try.pinned (OpenSpec.upto fnExactSchedRunSpec)

/-- 'laws.FnExactSchedStep', WHERE WHAT IT READS IS OF BULK AT MOST 1048576: true; the input reads as it did. -/
def fnExactSchedStepUptoRow : OpenClaim := { program := "yteigefjiifihpaa", sum := "c4c5e2601b3bb712480fca70339a9e158d86959f6055797c4d99e0edfba47013", func := "loop.example/g00008/laws.FnExactSchedStep", spec := "fnExactSchedStep", unfollowed := true, recurses := true, apart := false, narrowed := true }
def FnExactSchedStepUptoSaid : Prop := fnExactSchedStepUptoRow.holds Try.pinned (OpenSpec.upto fnExactSchedStepSpec)

/-- 'laws.FnSchedFree', WHERE WHAT IT READS IS OF BULK AT MOST 1048576: true; the input reads as it did. -/
def fnSchedFreeUptoRow : OpenClaim := { program := "yteigefjiifihpaa", sum := "c4c5e2601b3bb712480fca70339a9e158d86959f6055797c4d99e0edfba47013", func := "loop.example/g00008/laws.FnSchedFree", spec := "fnSchedFree", unfollowed := true, recurses := true, apart := false, narrowed := true }
def FnSchedFreeUptoSaid : Prop := fnSchedFreeUptoRow.holds Try.pinned (OpenSpec.upto fnSchedFreeSpec)

/-- 'laws.FnSchedHeeds', WHERE WHAT IT READS IS OF BULK AT MOST 1048576: true; the input reads as it did. -/
def fnSchedHeedsUptoRow : OpenClaim := { program := "yteigefjiifihpaa", sum := "c4c5e2601b3bb712480fca70339a9e158d86959f6055797c4d99e0edfba47013", func := "loop.example/g00008/laws.FnSchedHeeds", spec := "fnSchedHeeds", unfollowed := true, recurses := true, apart := false, narrowed := true }
def FnSchedHeedsUptoSaid : Prop := fnSchedHeedsUptoRow.holds Try.pinned (OpenSpec.upto fnSchedHeedsSpec)

/-- 'laws.FnExactProcRun', WHERE WHAT IT READS IS OF BULK AT MOST 1048576: true; the input reads as it did. -/
def fnExactProcRunUptoRow : OpenClaim := { program := "yteigefjiifihpaa", sum := "c4c5e2601b3bb712480fca70339a9e158d86959f6055797c4d99e0edfba47013", func := "loop.example/g00008/laws.FnExactProcRun", spec := "fnExactProcRun", unfollowed := true, recurses := true, apart := false, narrowed := true }
def FnExactProcRunUptoSaid : Prop := fnExactProcRunUptoRow.holds Try.pinned (OpenSpec.upto fnExactProcRunSpec)

/-- 'laws.FnExactProcStep', WHERE WHAT IT READS IS OF BULK AT MOST 1048576: true; the input reads as it did. -/
def fnExactProcStepUptoRow : OpenClaim := { program := "yteigefjiifihpaa", sum := "c4c5e2601b3bb712480fca70339a9e158d86959f6055797c4d99e0edfba47013", func := "loop.example/g00008/laws.FnExactProcStep", spec := "fnExactProcStep", unfollowed := true, recurses := true, apart := false, narrowed := true }
def FnExactProcStepUptoSaid : Prop := fnExactProcStepUptoRow.holds Try.pinned (OpenSpec.upto fnExactProcStepSpec)

/-- 'laws.FnProcTold', WHERE WHAT IT READS IS OF BULK AT MOST 1048576: true; the input reads as it did. -/
def fnProcToldUptoRow : OpenClaim := { program := "yteigefjiifihpaa", sum := "c4c5e2601b3bb712480fca70339a9e158d86959f6055797c4d99e0edfba47013", func := "loop.example/g00008/laws.FnProcTold", spec := "fnProcTold", unfollowed := true, recurses := true, apart := false, narrowed := true }
def FnProcToldUptoSaid : Prop := fnProcToldUptoRow.holds Try.pinned (OpenSpec.upto fnProcToldSpec)

/-- 'laws.FnProcGuards', WHERE WHAT IT READS IS OF BULK AT MOST 1048576: true; the input reads as it did. -/
def fnProcGuardsUptoRow : OpenClaim := { program := "yteigefjiifihpaa", sum := "c4c5e2601b3bb712480fca70339a9e158d86959f6055797c4d99e0edfba47013", func := "loop.example/g00008/laws.FnProcGuards", spec := "fnProcGuards", unfollowed := true, recurses := true, apart := false, narrowed := true }
def FnProcGuardsUptoSaid : Prop := fnProcGuardsUptoRow.holds Try.pinned (OpenSpec.upto fnProcGuardsSpec)

end Rows
end Go.Proofs.Yteigefjiifihpaa
