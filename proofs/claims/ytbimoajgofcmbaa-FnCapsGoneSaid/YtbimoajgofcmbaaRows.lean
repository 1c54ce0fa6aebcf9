/-
  No cell of these rows narrows 'for every input' (looked for: loops, veiled, ifaces, maps, wideKeys, modest, calm, conditions, laid).
  DERIVED. THE GIVEN ROWS OF THIS SEAT. 6 by the template 'for every input the law returns true; each argument reads behind the call as it read before'; 0 by the template 'total and deterministic' (their statements: YtbimoajgofcmbaaTotals.lean).
  GIVEN WITH THE SEED: the statements are not yours to turn. If you find one false, say at which input.
  Laid BY PROGRAM, IN A SANDBOX (cutbox-rows.mjs): the forced cells as the released guide's own fill.sh prints them over the translation fb91af2e5acd2ad2… (all of the seat's roots in one cut). By AI agents, Wed Nov 11 2026. No macro, syntax, notation, axiom, sorry.
-/
import Derived.Test.YtbimoajgofcmbaaChecked
import GoSem.Claim
import GoSem.ClaimJoined
import GoSem.ClaimMapViews
import Derived.JoinedTies
import Derived.KernelRfl
namespace Go.Proofs.Ytbimoajgofcmbaa
/- THE CELL 'sum', in the pinned program and in every row, IS THE sha256 OF THE DUMP (.gsa) THAT YtbimoajgofcmbaaProg.lean LOADS. Nothing in Lean hashes anything: it is a label: what it is worth is what the hold of that sum in a sandbox is worth. -/
noncomputable def Try.pinned : Pinned := { name := "ytbimoajgofcmbaa", sum := "fb91af2e5acd2ad2d80f27f7bf270228c7c8d37580288e1a3452a8c54d70c921", checked := Try.checked }
namespace Rows
def none {H : Type} : Left H := { results := [], args := [] }

/-- 'laws.FnExactIpcOk': WHATEVER THE INPUT: true; the input reads as it did. -/
def fnExactIpcOkSpec : ChangeSpec := { name := "fnExactIpcOk", fn := fun _ => fun
  | [d] => { results := [.lit (.bool true)], args := [d] }
  | _ => none }
def fnExactIpcOkRow : OpenClaim := { program := "ytbimoajgofcmbaa", sum := "fb91af2e5acd2ad2d80f27f7bf270228c7c8d37580288e1a3452a8c54d70c921", func := "loop.example/g00008/laws.FnExactIpcOk", spec := "fnExactIpcOk", unfollowed := true, recurses := true, apart := false }
def FnExactIpcOkSaid : Prop := fnExactIpcOkRow.holds Try.pinned (OpenSpec.ofChange fnExactIpcOkSpec)

/-- ITS FALSE NEIGHBOUR: 'it returns false'. Refute it at one input. -/
def fnExactIpcOkWrong : ChangeSpec := { name := "fnExactIpcOk", fn := fun _ => fun
  | [d] => { results := [.lit (.bool false)], args := [d] }
  | _ => none }
def FnExactIpcOkWrongFalsely : Prop := fnExactIpcOkRow.holds Try.pinned (OpenSpec.ofChange fnExactIpcOkWrong)

/-- 'laws.FnExactCapsOf': WHATEVER THE INPUT: true; the input reads as it did. -/
def fnExactCapsOfSpec : ChangeSpec := { name := "fnExactCapsOf", fn := fun _ => fun
  | [d1, d2] => { results := [.lit (.bool true)], args := [d1, d2] }
  | _ => none }
def fnExactCapsOfRow : OpenClaim := { program := "ytbimoajgofcmbaa", sum := "fb91af2e5acd2ad2d80f27f7bf270228c7c8d37580288e1a3452a8c54d70c921", func := "loop.example/g00008/laws.FnExactCapsOf", spec := "fnExactCapsOf", unfollowed := true, recurses := true, apart := false }
def FnExactCapsOfSaid : Prop := fnExactCapsOfRow.holds Try.pinned (OpenSpec.ofChange fnExactCapsOfSpec)

/-- ITS FALSE NEIGHBOUR: 'it returns false'. Refute it at one input. -/
def fnExactCapsOfWrong : ChangeSpec := { name := "fnExactCapsOf", fn := fun _ => fun
  | [d1, d2] => { results := [.lit (.bool false)], args := [d1, d2] }
  | _ => none }
def FnExactCapsOfWrongFalsely : Prop := fnExactCapsOfRow.holds Try.pinned (OpenSpec.ofChange fnExactCapsOfWrong)

/-- 'laws.FnExactCapsBelow': WHATEVER THE INPUT: true; the input reads as it did. -/
def fnExactCapsBelowSpec : ChangeSpec := { name := "fnExactCapsBelow", fn := fun _ => fun
  | [d1, d2] => { results := [.lit (.bool true)], args := [d1, d2] }
  | _ => none }
def fnExactCapsBelowRow : OpenClaim := { program := "ytbimoajgofcmbaa", sum := "fb91af2e5acd2ad2d80f27f7bf270228c7c8d37580288e1a3452a8c54d70c921", func := "loop.example/g00008/laws.FnExactCapsBelow", spec := "fnExactCapsBelow", unfollowed := true, recurses := true, apart := false }
def FnExactCapsBelowSaid : Prop := fnExactCapsBelowRow.holds Try.pinned (OpenSpec.ofChange fnExactCapsBelowSpec)

/-- ITS FALSE NEIGHBOUR: 'it returns false'. Refute it at one input. -/
def fnExactCapsBelowWrong : ChangeSpec := { name := "fnExactCapsBelow", fn := fun _ => fun
  | [d1, d2] => { results := [.lit (.bool false)], args := [d1, d2] }
  | _ => none }
def FnExactCapsBelowWrongFalsely : Prop := fnExactCapsBelowRow.holds Try.pinned (OpenSpec.ofChange fnExactCapsBelowWrong)

/-- 'laws.FnExactIpcRun': WHATEVER THE INPUT: true; the input reads as it did. -/
def fnExactIpcRunSpec : ChangeSpec := { name := "fnExactIpcRun", fn := fun _ => fun
  | [d] => { results := [.lit (.bool true)], args := [d] }
  | _ => none }
def fnExactIpcRunRow : OpenClaim := { program := "ytbimoajgofcmbaa", sum := "fb91af2e5acd2ad2d80f27f7bf270228c7c8d37580288e1a3452a8c54d70c921", func := "loop.example/g00008/laws.FnExactIpcRun", spec := "fnExactIpcRun", unfollowed := true, recurses := true, apart := false }
def FnExactIpcRunSaid : Prop := fnExactIpcRunRow.holds Try.pinned (OpenSpec.ofChange fnExactIpcRunSpec)

/-- ITS FALSE NEIGHBOUR: 'it returns false'. Refute it at one input. -/
def fnExactIpcRunWrong : ChangeSpec := { name := "fnExactIpcRun", fn := fun _ => fun
  | [d] => { results := [.lit (.bool false)], args := [d] }
  | _ => none }
def FnExactIpcRunWrongFalsely : Prop := fnExactIpcRunRow.holds Try.pinned (OpenSpec.ofChange fnExactIpcRunWrong)

/-- 'laws.FnCapsGone': WHATEVER THE INPUT: true; the input reads as it did. -/
def fnCapsGoneSpec : ChangeSpec := { name := "fnCapsGone", fn := fun _ => fun
  | [d] => { results := [.lit (.bool true)], args := [d] }
  | _ => none }
def fnCapsGoneRow : OpenClaim := { program := "ytbimoajgofcmbaa", sum := "fb91af2e5acd2ad2d80f27f7bf270228c7c8d37580288e1a3452a8c54d70c921", func := "loop.example/g00008/laws.FnCapsGone", spec := "fnCapsGone", unfollowed := true, recurses := true, apart := false }
def FnCapsGoneSaid : Prop := fnCapsGoneRow.holds Try.pinned (OpenSpec.ofChange fnCapsGoneSpec)

/-- ITS FALSE NEIGHBOUR: 'it returns false'. Refute it at one input. -/
def fnCapsGoneWrong : ChangeSpec := { name := "fnCapsGone", fn := fun _ => fun
  | [d] => { results := [.lit (.bool false)], args := [d] }
  | _ => none }
def FnCapsGoneWrongFalsely : Prop := fnCapsGoneRow.holds Try.pinned (OpenSpec.ofChange fnCapsGoneWrong)

/-- 'laws.FnExactIpcStep': WHATEVER THE INPUT: true; the input reads as it did. -/
def fnExactIpcStepSpec : ChangeSpec := { name := "fnExactIpcStep", fn := fun _ => fun
  | [d1, d2] => { results := [.lit (.bool true)], args := [d1, d2] }
  | _ => none }
def fnExactIpcStepRow : OpenClaim := { program := "ytbimoajgofcmbaa", sum := "fb91af2e5acd2ad2d80f27f7bf270228c7c8d37580288e1a3452a8c54d70c921", func := "loop.example/g00008/laws.FnExactIpcStep", spec := "fnExactIpcStep", unfollowed := true, recurses := true, apart := false }
def FnExactIpcStepSaid : Prop := fnExactIpcStepRow.holds Try.pinned (OpenSpec.ofChange fnExactIpcStepSpec)

/-- ITS FALSE NEIGHBOUR: 'it returns false'. Refute it at one input. -/
def fnExactIpcStepWrong : ChangeSpec := { name := "fnExactIpcStep", fn := fun _ => fun
  | [d1, d2] => { results := [.lit (.bool false)], args := [d1, d2] }
  | _ => none }
def FnExactIpcStepWrongFalsely : Prop := fnExactIpcStepRow.holds Try.pinned (OpenSpec.ofChange fnExactIpcStepWrong)

/- THE SECOND FORM. 'bulk': how many values and letters a reading holds, each counted each time it is reached (what is shared counts as often as it is met; a slice's spare places count too). A statement '..UptoSaid' is the law's where the arguments, and the package variables that the reading takes, are together of bulk at most 1048576: NARROWER than '..Said'. Prove '..Said' where nothing that the law and all that it calls make is longer than what came in: it says more and counts as full. Else prove '..UptoSaid'. A law counts once. -/
mutual
def uptoBulk {H : Type} : DataW H → Nat
  | .lit (.string bytes) => bytes.length + 1
  | .lit _ => 1
  | .nil => 1
  | .ptr d => uptoBulk d + 1
  | .slice elems spare => uptoBulkAll elems + uptoBulkAll spare + 1
  | .agg parts => uptoBulkAll parts + 1
  | .iface _ d => uptoBulk d + 1
  | .map entries => uptoBulkEntries entries + 1
  | .held _ => 1
def uptoBulkAll {H : Type} : List (DataW H) → Nat
  | [] => 0
  | d :: r => uptoBulk d + uptoBulkAll r
def uptoBulkEntries {H : Type} : List (Lit × DataW H) → Nat
  | [] => 0
  | x :: r => uptoBulkEntry x + uptoBulkEntries r
def uptoBulkEntry {H : Type} : Lit × DataW H → Nat
  | (.string bytes, d) => bytes.length + uptoBulk d + 1
  | (_, d) => uptoBulk d + 1
 end
def uptoSmall : (H : Type) → List (DataW H) → Bool := fun _ ds => decide (uptoBulkAll ds ≤ 1048576)
def OpenSpec.upto (s : _root_.Go.ChangeSpec) : _root_.Go.OpenSpec := { _root_.Go.OpenSpec.ofChange s with cond := some uptoSmall }

/-- 'laws.FnExactIpcOk', WHERE WHAT IT READS IS OF BULK AT MOST 1048576: true; the input reads as it did. -/
def fnExactIpcOkUptoRow : OpenClaim := { program := "ytbimoajgofcmbaa", sum := "fb91af2e5acd2ad2d80f27f7bf270228c7c8d37580288e1a3452a8c54d70c921", func := "loop.example/g00008/laws.FnExactIpcOk", spec := "fnExactIpcOk", unfollowed := true, recurses := true, apart := false, narrowed := true }
def FnExactIpcOkUptoSaid : Prop := fnExactIpcOkUptoRow.holds Try.pinned (OpenSpec.upto fnExactIpcOkSpec)

/-- 'laws.FnExactCapsOf', WHERE WHAT IT READS IS OF BULK AT MOST 1048576: true; the input reads as it did. -/
def fnExactCapsOfUptoRow : OpenClaim := { program := "ytbimoajgofcmbaa", sum := "fb91af2e5acd2ad2d80f27f7bf270228c7c8d37580288e1a3452a8c54d70c921", func := "loop.example/g00008/laws.FnExactCapsOf", spec := "fnExactCapsOf", unfollowed := true, recurses := true, apart := false, narrowed := true }
def FnExactCapsOfUptoSaid : Prop := fnExactCapsOfUptoRow.holds Try.pinned (OpenSpec.upto fnExactCapsOfSpec)

/-- 'laws.FnExactCapsBelow', WHERE WHAT IT READS IS OF BULK AT MOST 1048576: true; the input reads as it did. -/
def fnExactCapsBelowUptoRow : OpenClaim := { program := "ytbimoajgofcmbaa", sum := "fb91af2e5acd2ad2d80f27f7bf270228c7c8d37580288e1a3452a8c54d70c921", func := "loop.example/g00008/laws.FnExactCapsBelow", spec := "fnExactCapsBelow", unfollowed := true, recurses := true, apart := false, narrowed := true }
def FnExactCapsBelowUptoSaid : Prop := fnExactCapsBelowUptoRow.holds Try.pinned (OpenSpec.upto fnExactCapsBelowSpec)

/-- 'laws.FnExactIpcRun', WHERE WHAT IT READS IS OF BULK AT MOST 1048576: true; the input reads as it did. -/
def fnExactIpcRunUptoRow : OpenClaim := { program := "ytbimoajgofcmbaa", sum := "fb91af2e5acd2ad2d80f27f7bf270228c7c8d37580288e1a3452a8c54d70c921", func := "loop.example/g00008/laws.FnExactIpcRun", spec := "fnExactIpcRun", unfollowed := true, recurses := true, apart := false, narrowed := true }
def FnExactIpcRunUptoSaid : Prop := fnExactIpcRunUptoRow.holds Try.pinned (OpenSpec.upto fnExactIpcRunSpec)

/-- 'laws.FnCapsGone', WHERE WHAT IT READS IS OF BULK AT MOST 1048576: true; the input reads as it did. -/
def fnCapsGoneUptoRow : OpenClaim := { program := "ytbimoajgofcmbaa", sum := "fb91af2e5acd2ad2d80f27f7bf270228c7c8d37580288e1a3452a8c54d70c921", func := "loop.example/g00008/laws.FnCapsGone", spec := "fnCapsGone", unfollowed := true, recurses := true, apart := false, narrowed := true }
def FnCapsGoneUptoSaid : Prop := fnCapsGoneUptoRow.holds Try.pinned (OpenSpec.upto fnCapsGoneSpec)

/-- 'laws.FnExactIpcStep', WHERE WHAT IT READS IS OF BULK AT MOST 1048576: true; the input reads as it did. -/
def fnExactIpcStepUptoRow : OpenClaim := { program := "ytbimoajgofcmbaa", sum := "fb91af2e5acd2ad2d80f27f7bf270228c7c8d37580288e1a3452a8c54d70c921", func := "loop.example/g00008/laws.FnExactIpcStep", spec := "fnExactIpcStep", unfollowed := true, recurses := true, apart := false, narrowed := true }
def FnExactIpcStepUptoSaid : Prop := fnExactIpcStepUptoRow.holds Try.pinned (OpenSpec.upto fnExactIpcStepSpec)

end Rows
end Go.Proofs.Ytbimoajgofcmbaa
