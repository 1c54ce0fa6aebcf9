/-
  No cell of these rows narrows 'for every input' (looked for: loops, veiled, ifaces, maps, wideKeys, modest, calm, conditions, laid).
  DERIVED. THE GIVEN ROWS OF THIS SEAT. 6 by the template 'for every input the law returns true; each argument reads behind the call as it read before'; 0 by the template 'total and deterministic' (their statements: YtenhcpjlkmbedaaTotals.lean).
  GIVEN WITH THE SEED: the statements are not yours to turn. If you find one false, say at which input.
  Laid BY PROGRAM, IN A SANDBOX (cutbox-rows.mjs): the forced cells as the released guide's own fill.sh prints them over the translation 14d621f69118e9b0… (all of the seat's roots in one cut). By AI agents, Wed Nov 11 2026. No macro, syntax, notation, axiom, sorry.
-/
import Derived.Test.YtenhcpjlkmbedaaChecked
import GoSem.Claim
import GoSem.ClaimJoined
import GoSem.ClaimMapViews
import Derived.JoinedTies
import Derived.KernelRfl
namespace Go.Proofs.Ytenhcpjlkmbedaa
/- THE CELL 'sum', in the pinned program and in every row, IS THE sha256 OF THE DUMP (.gsa) THAT YtenhcpjlkmbedaaProg.lean LOADS. Nothing in Lean hashes anything: it is a label: what it is worth is what the hold of that sum in a sandbox is worth. -/
noncomputable def Try.pinned : Pinned := { name := "ytenhcpjlkmbedaa", sum := "14d621f69118e9b0edb8f3a28b277c68465fb80c505da97cd864d0be8ce78cc2", checked := Try.checked }
namespace Rows
def none {H : Type} : Left H := { results := [], args := [] }

/-- 'laws.FnExactPick': WHATEVER THE INPUT: true; the input reads as it did. -/
def fnExactPickSpec : ChangeSpec := { name := "fnExactPick", fn := fun _ => fun
  | [d] => { results := [.lit (.bool true)], args := [d] }
  | _ => none }
def fnExactPickRow : OpenClaim := { program := "ytenhcpjlkmbedaa", sum := "14d621f69118e9b0edb8f3a28b277c68465fb80c505da97cd864d0be8ce78cc2", func := "loop.example/g00008/laws.FnExactPick", spec := "fnExactPick", unfollowed := true, recurses := true, apart := false }
def FnExactPickSaid : Prop := fnExactPickRow.holds Try.pinned (OpenSpec.ofChange fnExactPickSpec)

/-- ITS FALSE NEIGHBOUR: 'it returns false'. Refute it at one input. -/
def fnExactPickWrong : ChangeSpec := { name := "fnExactPick", fn := fun _ => fun
  | [d] => { results := [.lit (.bool false)], args := [d] }
  | _ => none }
def FnExactPickWrongFalsely : Prop := fnExactPickRow.holds Try.pinned (OpenSpec.ofChange fnExactPickWrong)

/-- 'laws.FnExactScan': WHATEVER THE INPUT: true; the input reads as it did. -/
def fnExactScanSpec : ChangeSpec := { name := "fnExactScan", fn := fun _ => fun
  | [d] => { results := [.lit (.bool true)], args := [d] }
  | _ => none }
def fnExactScanRow : OpenClaim := { program := "ytenhcpjlkmbedaa", sum := "14d621f69118e9b0edb8f3a28b277c68465fb80c505da97cd864d0be8ce78cc2", func := "loop.example/g00008/laws.FnExactScan", spec := "fnExactScan", inPlace := ["math/bits.Add64", "internal/bytealg.IndexByteString"], apart := false }
def FnExactScanSaid : Prop := fnExactScanRow.holds Try.pinned (OpenSpec.ofChange fnExactScanSpec)

/-- ITS FALSE NEIGHBOUR: 'it returns false'. Refute it at one input. -/
def fnExactScanWrong : ChangeSpec := { name := "fnExactScan", fn := fun _ => fun
  | [d] => { results := [.lit (.bool false)], args := [d] }
  | _ => none }
def FnExactScanWrongFalsely : Prop := fnExactScanRow.holds Try.pinned (OpenSpec.ofChange fnExactScanWrong)

/-- 'laws.FnImageBack': WHATEVER THE INPUT: true; the input reads as it did. -/
def fnImageBackSpec : ChangeSpec := { name := "fnImageBack", fn := fun _ => fun
  | [d1, d2] => { results := [.lit (.bool true)], args := [d1, d2] }
  | _ => none }
def fnImageBackRow : OpenClaim := { program := "ytenhcpjlkmbedaa", sum := "14d621f69118e9b0edb8f3a28b277c68465fb80c505da97cd864d0be8ce78cc2", func := "loop.example/g00008/laws.FnImageBack", spec := "fnImageBack", unfollowed := true, recurses := true, apart := false }
def FnImageBackSaid : Prop := fnImageBackRow.holds Try.pinned (OpenSpec.ofChange fnImageBackSpec)

/-- ITS FALSE NEIGHBOUR: 'it returns false'. Refute it at one input. -/
def fnImageBackWrong : ChangeSpec := { name := "fnImageBack", fn := fun _ => fun
  | [d1, d2] => { results := [.lit (.bool false)], args := [d1, d2] }
  | _ => none }
def FnImageBackWrongFalsely : Prop := fnImageBackRow.holds Try.pinned (OpenSpec.ofChange fnImageBackWrong)

/-- 'laws.FnExactJnlPlan': WHATEVER THE INPUT: true; the input reads as it did. -/
def fnExactJnlPlanSpec : ChangeSpec := { name := "fnExactJnlPlan", fn := fun _ => fun
  | [d1, d2] => { results := [.lit (.bool true)], args := [d1, d2] }
  | _ => none }
def fnExactJnlPlanRow : OpenClaim := { program := "ytenhcpjlkmbedaa", sum := "14d621f69118e9b0edb8f3a28b277c68465fb80c505da97cd864d0be8ce78cc2", func := "loop.example/g00008/laws.FnExactJnlPlan", spec := "fnExactJnlPlan", apart := false }
def FnExactJnlPlanSaid : Prop := fnExactJnlPlanRow.holds Try.pinned (OpenSpec.ofChange fnExactJnlPlanSpec)

/-- ITS FALSE NEIGHBOUR: 'it returns false'. Refute it at one input. -/
def fnExactJnlPlanWrong : ChangeSpec := { name := "fnExactJnlPlan", fn := fun _ => fun
  | [d1, d2] => { results := [.lit (.bool false)], args := [d1, d2] }
  | _ => none }
def FnExactJnlPlanWrongFalsely : Prop := fnExactJnlPlanRow.holds Try.pinned (OpenSpec.ofChange fnExactJnlPlanWrong)

/-- 'laws.FnExactJnlWrite': WHATEVER THE INPUT: true; the input reads as it did. -/
def fnExactJnlWriteSpec : ChangeSpec := { name := "fnExactJnlWrite", fn := fun _ => fun
  | [d1, d2] => { results := [.lit (.bool true)], args := [d1, d2] }
  | _ => none }
def fnExactJnlWriteRow : OpenClaim := { program := "ytenhcpjlkmbedaa", sum := "14d621f69118e9b0edb8f3a28b277c68465fb80c505da97cd864d0be8ce78cc2", func := "loop.example/g00008/laws.FnExactJnlWrite", spec := "fnExactJnlWrite", apart := false }
def FnExactJnlWriteSaid : Prop := fnExactJnlWriteRow.holds Try.pinned (OpenSpec.ofChange fnExactJnlWriteSpec)

/-- ITS FALSE NEIGHBOUR: 'it returns false'. Refute it at one input. -/
def fnExactJnlWriteWrong : ChangeSpec := { name := "fnExactJnlWrite", fn := fun _ => fun
  | [d1, d2] => { results := [.lit (.bool false)], args := [d1, d2] }
  | _ => none }
def FnExactJnlWriteWrongFalsely : Prop := fnExactJnlWriteRow.holds Try.pinned (OpenSpec.ofChange fnExactJnlWriteWrong)

/-- 'laws.FnCacheClear': WHATEVER THE INPUT: true; the input reads as it did. -/
def fnCacheClearSpec : ChangeSpec := { name := "fnCacheClear", fn := fun _ => fun
  | [d] => { results := [.lit (.bool true)], args := [d] }
  | _ => none }
def fnCacheClearRow : OpenClaim := { program := "ytenhcpjlkmbedaa", sum := "14d621f69118e9b0edb8f3a28b277c68465fb80c505da97cd864d0be8ce78cc2", func := "loop.example/g00008/laws.FnCacheClear", spec := "fnCacheClear", apart := false }
def FnCacheClearSaid : Prop := fnCacheClearRow.holds Try.pinned (OpenSpec.ofChange fnCacheClearSpec)

/-- ITS FALSE NEIGHBOUR: 'it returns false'. Refute it at one input. -/
def fnCacheClearWrong : ChangeSpec := { name := "fnCacheClear", fn := fun _ => fun
  | [d] => { results := [.lit (.bool false)], args := [d] }
  | _ => none }
def FnCacheClearWrongFalsely : Prop := fnCacheClearRow.holds Try.pinned (OpenSpec.ofChange fnCacheClearWrong)

/- THE SECOND FORM. 'bulk': how many values and letters a reading holds, each counted each time it is reached (what is shared counts as often as it is met; a slice's spare places count too). A statement '..UptoSaid' is the law's where the arguments, and the package variables that the reading takes, are together of bulk at most 1048576: NARROWER than '..Said'. Prove '..Said' where nothing that the law and all that it calls make is longer than what came in: it says more and counts as full. Else prove '..UptoSaid'. A law counts once. -/
mutual
def uptoBulk {H : Type} : DataW H → Nat
  | .lit (.string bytes) => bytes.length + 1
  | .lit _ => 1
  | .nil => 1
  | .ptr d => uptoBulk d + 1
  | .slice elems spare => uptoBulkAll elems + uptoBulkAll spare + 1
  | .agg parts => uptoBulkAll parts + 1
  | .iface _ d => uptoBulk d + 1
  | .map entries => uptoBulkEntries entries + 1
  | .held _ => 1
def uptoBulkAll {H : Type} : List (DataW H) → Nat
  | [] => 0
  | d :: r => uptoBulk d + uptoBulkAll r
def uptoBulkEntries {H : Type} : List (Lit × DataW H) → Nat
  | [] => 0
  | x :: r => uptoBulkEntry x + uptoBulkEntries r
def uptoBulkEntry {H : Type} : Lit × DataW H → Nat
  | (.string bytes, d) => bytes.length + uptoBulk d + 1
  | (_, d) => uptoBulk d + 1
 end
def uptoSmall : (H : Type) → List (DataW H) → Bool := fun _ ds => decide (uptoBulkAll ds ≤ 1048576)
def OpenSpec.upto (s : _root_.Go.ChangeSpec) : _root_.Go.OpenSpec := { _root_.Go.OpenSpec.ofChange s with cond := some uptoSmall }

/-- 'laws.FnExactPick', WHERE WHAT IT READS IS OF BULK AT MOST 1048576: true; the input reads as it did. -/
def fnExactPickUptoRow : OpenClaim := { program := "ytenhcpjlkmbedaa", sum := "14d621f69118e9b0edb8f3a28b277c68465fb80c505da97cd864d0be8ce78cc2", func := "loop.example/g00008/laws.FnExactPick", spec := "fnExactPick", unfollowed := true, recurses := true, apart := false, narrowed := true }
def FnExactPickUptoSaid : Prop := fnExactPickUptoRow.holds Try.pinned (OpenSpec.upto fnExactPickSpec)

/-- 'laws.FnExactScan', WHERE WHAT IT READS IS OF BULK AT MOST 1048576: true; the input reads as it did. -/
def fnExactScanUptoRow : OpenClaim := { program := "ytenhcpjlkmbedaa", sum := "14d621f69118e9b0edb8f3a28b277c68465fb80c505da97cd864d0be8ce78cc2", func := "loop.example/g00008/laws.FnExactScan", spec := "fnExactScan", inPlace := ["math/bits.Add64", "internal/bytealg.IndexByteString"], apart := false, narrowed := true }
def FnExactScanUptoSaid : Prop := fnExactScanUptoRow.holds Try.pinned (OpenSpec.upto fnExactScanSpec)

/-- 'laws.FnImageBack', WHERE WHAT IT READS IS OF BULK AT MOST 1048576: true; the input reads as it did. -/
def fnImageBackUptoRow : OpenClaim := { program := "ytenhcpjlkmbedaa", sum := "14d621f69118e9b0edb8f3a28b277c68465fb80c505da97cd864d0be8ce78cc2", func := "loop.example/g00008/laws.FnImageBack", spec := "fnImageBack", unfollowed := true, recurses := true, apart := false, narrowed := true }
def FnImageBackUptoSaid : Prop := fnImageBackUptoRow.holds Try.pinned (OpenSpec.upto fnImageBackSpec)

/-- 'laws.FnExactJnlPlan', WHERE WHAT IT READS IS OF BULK AT MOST 1048576: true; the input reads as it did. -/
def fnExactJnlPlanUptoRow : OpenClaim := { program := "ytenhcpjlkmbedaa", sum := "14d621f69118e9b0edb8f3a28b277c68465fb80c505da97cd864d0be8ce78cc2", func := "loop.example/g00008/laws.FnExactJnlPlan", spec := "fnExactJnlPlan", apart := false, narrowed := true }
def FnExactJnlPlanUptoSaid : Prop := fnExactJnlPlanUptoRow.holds Try.pinned (OpenSpec.upto fnExactJnlPlanSpec)

/-- 'laws.FnExactJnlWrite', WHERE WHAT IT READS IS OF BULK AT MOST 1048576: true; the input reads as it did. -/
def fnExactJnlWriteUptoRow : OpenClaim := { program := "ytenhcpjlkmbedaa", sum := "14d621f69118e9b0edb8f3a28b277c68465fb80c505da97cd864d0be8ce78cc2", func := "loop.example/g00008/laws.FnExactJnlWrite", spec := "fnExactJnlWrite", apart := false, narrowed := true }
def FnExactJnlWriteUptoSaid : Prop := fnExactJnlWriteUptoRow.holds Try.pinned (OpenSpec.upto fnExactJnlWriteSpec)

/-- 'laws.FnCacheClear', WHERE WHAT IT READS IS OF BULK AT MOST 1048576: true; the input reads as it did. -/
def fnCacheClearUptoRow : OpenClaim := { program := "ytenhcpjlkmbedaa", sum := "14d621f69118e9b0edb8f3a28b277c68465fb80c505da97cd864d0be8ce78cc2", func := "loop.example/g00008/laws.FnCacheClear", spec := "fnCacheClear", apart := false, narrowed := true }
def FnCacheClearUptoSaid : Prop := fnCacheClearUptoRow.holds Try.pinned (OpenSpec.upto fnCacheClearSpec)

end Rows
end Go.Proofs.Ytenhcpjlkmbedaa
