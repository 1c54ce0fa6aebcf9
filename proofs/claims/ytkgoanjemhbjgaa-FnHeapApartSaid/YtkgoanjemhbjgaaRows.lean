/-
  No cell of these rows narrows 'for every input' (looked for: loops, veiled, ifaces, maps, wideKeys, modest, calm, conditions, laid).
  DERIVED. THE GIVEN ROWS OF THIS SEAT. 10 by the template 'for every input the law returns true; each argument reads behind the call as it read before'; 0 by the template 'total and deterministic' (their statements: YtkgoanjemhbjgaaTotals.lean).
  GIVEN WITH THE SEED: the statements are not yours to turn. If you find one false, say at which input.
  Laid BY PROGRAM, IN A SANDBOX (cutbox-rows.mjs): the forced cells as the released guide's own fill.sh prints them over the translation fa5a67e0aaf7acc2… (all of the seat's roots in one cut). By AI agents, Wed Nov 11 2026. No macro, syntax, notation, axiom, sorry.
-/
import Derived.Test.YtkgoanjemhbjgaaChecked
import GoSem.Claim
import GoSem.ClaimJoined
import GoSem.ClaimMapViews
import Derived.JoinedTies
import Derived.KernelRfl
namespace Go.Proofs.Ytkgoanjemhbjgaa
/- THE CELL 'sum', in the pinned program and in every row, IS THE sha256 OF THE DUMP (.gsa) THAT YtkgoanjemhbjgaaProg.lean LOADS. Nothing in Lean hashes anything: it is a label: what it is worth is what the hold of that sum in a sandbox is worth. -/
noncomputable def Try.pinned : Pinned := { name := "ytkgoanjemhbjgaa", sum := "fa5a67e0aaf7acc2e7750953aaff53808bc6270d1f542931016ff63df3a5e6c0", checked := Try.checked }
namespace Rows
def none {H : Type} : Left H := { results := [], args := [] }

/-- 'laws.FnHeapApart': WHATEVER THE INPUT: true; the input reads as it did. -/
def fnHeapApartSpec : ChangeSpec := { name := "fnHeapApart", fn := fun _ => fun
  | [d] => { results := [.lit (.bool true)], args := [d] }
  | _ => none }
def fnHeapApartRow : OpenClaim := { program := "ytkgoanjemhbjgaa", sum := "fa5a67e0aaf7acc2e7750953aaff53808bc6270d1f542931016ff63df3a5e6c0", func := "loop.example/g00008/laws.FnHeapApart", spec := "fnHeapApart", inPlace := ["slices.overlaps[loop.example/g00008/impl.Span]"], unfollowed := true, recurses := true, apart := false }
def FnHeapApartSaid : Prop := fnHeapApartRow.holds Try.pinned (OpenSpec.ofChange fnHeapApartSpec)

/-- ITS FALSE NEIGHBOUR: 'it returns false'. Refute it at one input. -/
def fnHeapApartWrong : ChangeSpec := { name := "fnHeapApart", fn := fun _ => fun
  | [d] => { results := [.lit (.bool false)], args := [d] }
  | _ => none }
def FnHeapApartWrongFalsely : Prop := fnHeapApartRow.holds Try.pinned (OpenSpec.ofChange fnHeapApartWrong)

/-- 'laws.FnExactFramesRun': WHATEVER THE INPUT: true; the input reads as it did. -/
def fnExactFramesRunSpec : ChangeSpec := { name := "fnExactFramesRun", fn := fun _ => fun
  | [d1, d2] => { results := [.lit (.bool true)], args := [d1, d2] }
  | _ => none }
def fnExactFramesRunRow : OpenClaim := { program := "ytkgoanjemhbjgaa", sum := "fa5a67e0aaf7acc2e7750953aaff53808bc6270d1f542931016ff63df3a5e6c0", func := "loop.example/g00008/laws.FnExactFramesRun", spec := "fnExactFramesRun", unfollowed := true, recurses := true, apart := false }
def FnExactFramesRunSaid : Prop := fnExactFramesRunRow.holds Try.pinned (OpenSpec.ofChange fnExactFramesRunSpec)

/-- ITS FALSE NEIGHBOUR: 'it returns false'. Refute it at one input. -/
def fnExactFramesRunWrong : ChangeSpec := { name := "fnExactFramesRun", fn := fun _ => fun
  | [d1, d2] => { results := [.lit (.bool false)], args := [d1, d2] }
  | _ => none }
def FnExactFramesRunWrongFalsely : Prop := fnExactFramesRunRow.holds Try.pinned (OpenSpec.ofChange fnExactFramesRunWrong)

/-- 'laws.FnExactSpaceOk': WHATEVER THE INPUT: true; the input reads as it did. -/
def fnExactSpaceOkSpec : ChangeSpec := { name := "fnExactSpaceOk", fn := fun _ => fun
  | [d1, d2] => { results := [.lit (.bool true)], args := [d1, d2] }
  | _ => none }
def fnExactSpaceOkRow : OpenClaim := { program := "ytkgoanjemhbjgaa", sum := "fa5a67e0aaf7acc2e7750953aaff53808bc6270d1f542931016ff63df3a5e6c0", func := "loop.example/g00008/laws.FnExactSpaceOk", spec := "fnExactSpaceOk", unfollowed := true, recurses := true, apart := false }
def FnExactSpaceOkSaid : Prop := fnExactSpaceOkRow.holds Try.pinned (OpenSpec.ofChange fnExactSpaceOkSpec)

/-- ITS FALSE NEIGHBOUR: 'it returns false'. Refute it at one input. -/
def fnExactSpaceOkWrong : ChangeSpec := { name := "fnExactSpaceOk", fn := fun _ => fun
  | [d1, d2] => { results := [.lit (.bool false)], args := [d1, d2] }
  | _ => none }
def FnExactSpaceOkWrongFalsely : Prop := fnExactSpaceOkRow.holds Try.pinned (OpenSpec.ofChange fnExactSpaceOkWrong)

/-- 'laws.FnExactSpaceNew': WHATEVER THE INPUT: true; the input reads as it did. -/
def fnExactSpaceNewSpec : ChangeSpec := { name := "fnExactSpaceNew", fn := fun _ => fun
  | [d] => { results := [.lit (.bool true)], args := [d] }
  | _ => none }
def fnExactSpaceNewRow : OpenClaim := { program := "ytkgoanjemhbjgaa", sum := "fa5a67e0aaf7acc2e7750953aaff53808bc6270d1f542931016ff63df3a5e6c0", func := "loop.example/g00008/laws.FnExactSpaceNew", spec := "fnExactSpaceNew", unfollowed := true, recurses := true, apart := false }
def FnExactSpaceNewSaid : Prop := fnExactSpaceNewRow.holds Try.pinned (OpenSpec.ofChange fnExactSpaceNewSpec)

/-- ITS FALSE NEIGHBOUR: 'it returns false'. Refute it at one input. -/
def fnExactSpaceNewWrong : ChangeSpec := { name := "fnExactSpaceNew", fn := fun _ => fun
  | [d] => { results := [.lit (.bool false)], args := [d] }
  | _ => none }
def FnExactSpaceNewWrongFalsely : Prop := fnExactSpaceNewRow.holds Try.pinned (OpenSpec.ofChange fnExactSpaceNewWrong)

/-- 'laws.FnExactSpacePages': WHATEVER THE INPUT: true; the input reads as it did. -/
def fnExactSpacePagesSpec : ChangeSpec := { name := "fnExactSpacePages", fn := fun _ => fun
  | [d1, d2] => { results := [.lit (.bool true)], args := [d1, d2] }
  | _ => none }
def fnExactSpacePagesRow : OpenClaim := { program := "ytkgoanjemhbjgaa", sum := "fa5a67e0aaf7acc2e7750953aaff53808bc6270d1f542931016ff63df3a5e6c0", func := "loop.example/g00008/laws.FnExactSpacePages", spec := "fnExactSpacePages", unfollowed := true, recurses := true, apart := false }
def FnExactSpacePagesSaid : Prop := fnExactSpacePagesRow.holds Try.pinned (OpenSpec.ofChange fnExactSpacePagesSpec)

/-- ITS FALSE NEIGHBOUR: 'it returns false'. Refute it at one input. -/
def fnExactSpacePagesWrong : ChangeSpec := { name := "fnExactSpacePages", fn := fun _ => fun
  | [d1, d2] => { results := [.lit (.bool false)], args := [d1, d2] }
  | _ => none }
def FnExactSpacePagesWrongFalsely : Prop := fnExactSpacePagesRow.holds Try.pinned (OpenSpec.ofChange fnExactSpacePagesWrong)

/-- 'laws.FnExactSpaceDrop': WHATEVER THE INPUT: true; the input reads as it did. -/
def fnExactSpaceDropSpec : ChangeSpec := { name := "fnExactSpaceDrop", fn := fun _ => fun
  | [d1, d2] => { results := [.lit (.bool true)], args := [d1, d2] }
  | _ => none }
def fnExactSpaceDropRow : OpenClaim := { program := "ytkgoanjemhbjgaa", sum := "fa5a67e0aaf7acc2e7750953aaff53808bc6270d1f542931016ff63df3a5e6c0", func := "loop.example/g00008/laws.FnExactSpaceDrop", spec := "fnExactSpaceDrop", unfollowed := true, recurses := true, apart := false }
def FnExactSpaceDropSaid : Prop := fnExactSpaceDropRow.holds Try.pinned (OpenSpec.ofChange fnExactSpaceDropSpec)

/-- ITS FALSE NEIGHBOUR: 'it returns false'. Refute it at one input. -/
def fnExactSpaceDropWrong : ChangeSpec := { name := "fnExactSpaceDrop", fn := fun _ => fun
  | [d1, d2] => { results := [.lit (.bool false)], args := [d1, d2] }
  | _ => none }
def FnExactSpaceDropWrongFalsely : Prop := fnExactSpaceDropRow.holds Try.pinned (OpenSpec.ofChange fnExactSpaceDropWrong)

/-- 'laws.FnExactSetPage': WHATEVER THE INPUT: true; the input reads as it did. -/
def fnExactSetPageSpec : ChangeSpec := { name := "fnExactSetPage", fn := fun _ => fun
  | [d1, d2, d3, d4] => { results := [.lit (.bool true)], args := [d1, d2, d3, d4] }
  | _ => none }
def fnExactSetPageRow : OpenClaim := { program := "ytkgoanjemhbjgaa", sum := "fa5a67e0aaf7acc2e7750953aaff53808bc6270d1f542931016ff63df3a5e6c0", func := "loop.example/g00008/laws.FnExactSetPage", spec := "fnExactSetPage", unfollowed := true, recurses := true, apart := false }
def FnExactSetPageSaid : Prop := fnExactSetPageRow.holds Try.pinned (OpenSpec.ofChange fnExactSetPageSpec)

/-- ITS FALSE NEIGHBOUR: 'it returns false'. Refute it at one input. -/
def fnExactSetPageWrong : ChangeSpec := { name := "fnExactSetPage", fn := fun _ => fun
  | [d1, d2, d3, d4] => { results := [.lit (.bool false)], args := [d1, d2, d3, d4] }
  | _ => none }
def FnExactSetPageWrongFalsely : Prop := fnExactSetPageRow.holds Try.pinned (OpenSpec.ofChange fnExactSetPageWrong)

/-- 'laws.FnExactUnmapPage': WHATEVER THE INPUT: true; the input reads as it did. -/
def fnExactUnmapPageSpec : ChangeSpec := { name := "fnExactUnmapPage", fn := fun _ => fun
  | [d1, d2, d3] => { results := [.lit (.bool true)], args := [d1, d2, d3] }
  | _ => none }
def fnExactUnmapPageRow : OpenClaim := { program := "ytkgoanjemhbjgaa", sum := "fa5a67e0aaf7acc2e7750953aaff53808bc6270d1f542931016ff63df3a5e6c0", func := "loop.example/g00008/laws.FnExactUnmapPage", spec := "fnExactUnmapPage", unfollowed := true, recurses := true, apart := false }
def FnExactUnmapPageSaid : Prop := fnExactUnmapPageRow.holds Try.pinned (OpenSpec.ofChange fnExactUnmapPageSpec)

/-- ITS FALSE NEIGHBOUR: 'it returns false'. Refute it at one input. -/
def fnExactUnmapPageWrong : ChangeSpec := { name := "fnExactUnmapPage", fn := fun _ => fun
  | [d1, d2, d3] => { results := [.lit (.bool false)], args := [d1, d2, d3] }
  | _ => none }
def FnExactUnmapPageWrongFalsely : Prop := fnExactUnmapPageRow.holds Try.pinned (OpenSpec.ofChange fnExactUnmapPageWrong)

/-- 'laws.FnExactMapPage': WHATEVER THE INPUT: true; the input reads as it did. -/
def fnExactMapPageSpec : ChangeSpec := { name := "fnExactMapPage", fn := fun _ => fun
  | [d1, d2, d3, d4] => { results := [.lit (.bool true)], args := [d1, d2, d3, d4] }
  | _ => none }
def fnExactMapPageRow : OpenClaim := { program := "ytkgoanjemhbjgaa", sum := "fa5a67e0aaf7acc2e7750953aaff53808bc6270d1f542931016ff63df3a5e6c0", func := "loop.example/g00008/laws.FnExactMapPage", spec := "fnExactMapPage", unfollowed := true, recurses := true, apart := false }
def FnExactMapPageSaid : Prop := fnExactMapPageRow.holds Try.pinned (OpenSpec.ofChange fnExactMapPageSpec)

/-- ITS FALSE NEIGHBOUR: 'it returns false'. Refute it at one input. -/
def fnExactMapPageWrong : ChangeSpec := { name := "fnExactMapPage", fn := fun _ => fun
  | [d1, d2, d3, d4] => { results := [.lit (.bool false)], args := [d1, d2, d3, d4] }
  | _ => none }
def FnExactMapPageWrongFalsely : Prop := fnExactMapPageRow.holds Try.pinned (OpenSpec.ofChange fnExactMapPageWrong)

/-- 'laws.FnForkLooks': WHATEVER THE INPUT: true; the input reads as it did. -/
def fnForkLooksSpec : ChangeSpec := { name := "fnForkLooks", fn := fun _ => fun
  | [d] => { results := [.lit (.bool true)], args := [d] }
  | _ => none }
def fnForkLooksRow : OpenClaim := { program := "ytkgoanjemhbjgaa", sum := "fa5a67e0aaf7acc2e7750953aaff53808bc6270d1f542931016ff63df3a5e6c0", func := "loop.example/g00008/laws.FnForkLooks", spec := "fnForkLooks", unfollowed := true, recurses := true, apart := false }
def FnForkLooksSaid : Prop := fnForkLooksRow.holds Try.pinned (OpenSpec.ofChange fnForkLooksSpec)

/-- ITS FALSE NEIGHBOUR: 'it returns false'. Refute it at one input. -/
def fnForkLooksWrong : ChangeSpec := { name := "fnForkLooks", fn := fun _ => fun
  | [d] => { results := [.lit (.bool false)], args := [d] }
  | _ => none }
def FnForkLooksWrongFalsely : Prop := fnForkLooksRow.holds Try.pinned (OpenSpec.ofChange fnForkLooksWrong)

/- THE SECOND FORM. 'bulk': how many values and letters a reading holds, each counted each time it is reached (what is shared counts as often as it is met; a slice's spare places count too). A statement '..UptoSaid' is the law's where the arguments, and the package variables that the reading takes, are together of bulk at most 1048576: NARROWER than '..Said'. Prove '..Said' where nothing that the law and all that it calls make is longer than what came in: it says more and counts as full. Else prove '..UptoSaid'. A law counts once. -/
mutual
def uptoBulk {H : Type} : DataW H → Nat
  | .lit (.string bytes) => bytes.length + 1
  | .lit _ => 1
  | .nil => 1
  | .ptr d => uptoBulk d + 1
  | .slice elems spare => uptoBulkAll elems + uptoBulkAll spare + 1
  | .agg parts => uptoBulkAll parts + 1
  | .iface _ d => uptoBulk d + 1
  | .map entries => uptoBulkEntries entries + 1
  | .held _ => 1
def uptoBulkAll {H : Type} : List (DataW H) → Nat
  | [] => 0
  | d :: r => uptoBulk d + uptoBulkAll r
def uptoBulkEntries {H : Type} : List (Lit × DataW H) → Nat
  | [] => 0
  | x :: r => uptoBulkEntry x + uptoBulkEntries r
def uptoBulkEntry {H : Type} : Lit × DataW H → Nat
  | (.string bytes, d) => bytes.length + uptoBulk d + 1
  | (_, d) => uptoBulk d + 1
 end
def uptoSmall : (H : Type) → List (DataW H) → Bool := fun _ ds => decide (uptoBulkAll ds ≤ 1048576)
def OpenSpec.upto (s : _root_.Go.ChangeSpec) : _root_.Go.OpenSpec := { _root_.Go.OpenSpec.ofChange s with cond := some uptoSmall }

/-- 'laws.FnHeapApart', WHERE WHAT IT READS IS OF BULK AT MOST 1048576: true; the input reads as it did. -/
def fnHeapApartUptoRow : OpenClaim := { program := "ytkgoanjemhbjgaa", sum := "fa5a67e0aaf7acc2e7750953aaff53808bc6270d1f542931016ff63df3a5e6c0", func := "loop.example/g00008/laws.FnHeapApart", spec := "fnHeapApart", inPlace := ["slices.overlaps[loop.example/g00008/impl.Span]"], unfollowed := true, recurses := true, apart := false, narrowed := true }
def FnHeapApartUptoSaid : Prop := fnHeapApartUptoRow.holds Try.pinned (OpenSpec.upto fnHeapApartSpec)

/-- 'laws.FnExactFramesRun', WHERE WHAT IT READS IS OF BULK AT MOST 1048576: true; the input reads as it did. -/
def fnExactFramesRunUptoRow : OpenClaim := { program := "ytkgoanjemhbjgaa", sum := "fa5a67e0aaf7acc2e7750953aaff53808bc6270d1f542931016ff63df3a5e6c0", func := "loop.example/g00008/laws.FnExactFramesRun", spec := "fnExactFramesRun", unfollowed := true, recurses := true, apart := false, narrowed := true }
def FnExactFramesRunUptoSaid : Prop := fnExactFramesRunUptoRow.holds Try.pinned (OpenSpec.upto fnExactFramesRunSpec)

/-- 'laws.FnExactSpaceOk', WHERE WHAT IT READS IS OF BULK AT MOST 1048576: true; the input reads as it did. -/
def fnExactSpaceOkUptoRow : OpenClaim := { program := "ytkgoanjemhbjgaa", sum := "fa5a67e0aaf7acc2e7750953aaff53808bc6270d1f542931016ff63df3a5e6c0", func := "loop.example/g00008/laws.FnExactSpaceOk", spec := "fnExactSpaceOk", unfollowed := true, recurses := true, apart := false, narrowed := true }
def FnExactSpaceOkUptoSaid : Prop := fnExactSpaceOkUptoRow.holds Try.pinned (OpenSpec.upto fnExactSpaceOkSpec)

/-- 'laws.FnExactSpaceNew', WHERE WHAT IT READS IS OF BULK AT MOST 1048576: true; the input reads as it did. -/
def fnExactSpaceNewUptoRow : OpenClaim := { program := "ytkgoanjemhbjgaa", sum := "fa5a67e0aaf7acc2e7750953aaff53808bc6270d1f542931016ff63df3a5e6c0", func := "loop.example/g00008/laws.FnExactSpaceNew", spec := "fnExactSpaceNew", unfollowed := true, recurses := true, apart := false, narrowed := true }
def FnExactSpaceNewUptoSaid : Prop := fnExactSpaceNewUptoRow.holds Try.pinned (OpenSpec.upto fnExactSpaceNewSpec)

/-- 'laws.FnExactSpacePages', WHERE WHAT IT READS IS OF BULK AT MOST 1048576: true; the input reads as it did. -/
def fnExactSpacePagesUptoRow : OpenClaim := { program := "ytkgoanjemhbjgaa", sum := "fa5a67e0aaf7acc2e7750953aaff53808bc6270d1f542931016ff63df3a5e6c0", func := "loop.example/g00008/laws.FnExactSpacePages", spec := "fnExactSpacePages", unfollowed := true, recurses := true, apart := false, narrowed := true }
def FnExactSpacePagesUptoSaid : Prop := fnExactSpacePagesUptoRow.holds Try.pinned (OpenSpec.upto fnExactSpacePagesSpec)

/-- 'laws.FnExactSpaceDrop', WHERE WHAT IT READS IS OF BULK AT MOST 1048576: true; the input reads as it did. -/
def fnExactSpaceDropUptoRow : OpenClaim := { program := "ytkgoanjemhbjgaa", sum := "fa5a67e0aaf7acc2e7750953aaff53808bc6270d1f542931016ff63df3a5e6c0", func := "loop.example/g00008/laws.FnExactSpaceDrop", spec := "fnExactSpaceDrop", unfollowed := true, recurses := true, apart := false, narrowed := true }
def FnExactSpaceDropUptoSaid : Prop := fnExactSpaceDropUptoRow.holds Try.pinned (OpenSpec.upto fnExactSpaceDropSpec)

/-- 'laws.FnExactSetPage', WHERE WHAT IT READS IS OF BULK AT MOST 1048576: true; the input reads as it did. -/
def fnExactSetPageUptoRow : OpenClaim := { program := "ytkgoanjemhbjgaa", sum := "fa5a67e0aaf7acc2e7750953aaff53808bc6270d1f542931016ff63df3a5e6c0", func := "loop.example/g00008/laws.FnExactSetPage", spec := "fnExactSetPage", unfollowed := true, recurses := true, apart := false, narrowed := true }
def FnExactSetPageUptoSaid : Prop := fnExactSetPageUptoRow.holds Try.pinned (OpenSpec.upto fnExactSetPageSpec)

/-- 'laws.FnExactUnmapPage', WHERE WHAT IT READS IS OF BULK AT MOST 1048576: true; the input reads as it did. -/
def fnExactUnmapPageUptoRow : OpenClaim := { program := "ytkgoanjemhbjgaa", sum := "fa5a67e0aaf7acc2e7750953aaff53808bc6270d1f542931016ff63df3a5e6c0", func := "loop.example/g00008/laws.FnExactUnmapPage", spec := "fnExactUnmapPage", unfollowed := true, recurses := true, apart := false, narrowed := true }
def FnExactUnmapPageUptoSaid : Prop := fnExactUnmapPageUptoRow.holds Try.pinned (OpenSpec.upto fnExactUnmapPageSpec)

/-- 'laws.FnExactMapPage', WHERE WHAT IT READS IS OF BULK AT MOST 1048576: true; the input reads as it did. -/
def fnExactMapPageUptoRow : OpenClaim := { program := "ytkgoanjemhbjgaa", sum := "fa5a67e0aaf7acc2e7750953aaff53808bc6270d1f542931016ff63df3a5e6c0", func := "loop.example/g00008/laws.FnExactMapPage", spec := "fnExactMapPage", unfollowed := true, recurses := true, apart := false, narrowed := true }
def FnExactMapPageUptoSaid : Prop := fnExactMapPageUptoRow.holds Try.pinned (OpenSpec.upto fnExactMapPageSpec)

/-- 'laws.FnForkLooks', WHERE WHAT IT READS IS OF BULK AT MOST 1048576: true; the input reads as it did. -/
def fnForkLooksUptoRow : OpenClaim := { program := "ytkgoanjemhbjgaa", sum := "fa5a67e0aaf7acc2e7750953aaff53808bc6270d1f542931016ff63df3a5e6c0", func := "loop.example/g00008/laws.FnForkLooks", spec := "fnForkLooks", unfollowed := true, recurses := true, apart := false, narrowed := true }
def FnForkLooksUptoSaid : Prop := fnForkLooksUptoRow.holds Try.pinned (OpenSpec.upto fnForkLooksSpec)

end Rows
end Go.Proofs.Ytkgoanjemhbjgaa
