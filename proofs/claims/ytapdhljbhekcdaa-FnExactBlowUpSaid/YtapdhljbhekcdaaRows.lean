/-
  No cell of these rows narrows 'for every input' (looked for: loops, veiled, ifaces, maps, wideKeys, modest, calm, conditions, laid).
  DERIVED. THE GIVEN ROWS OF THIS SEAT. 12 by the template 'for every input the law returns true; each argument reads behind the call as it read before'; 0 by the template 'total and deterministic' (their statements: YtapdhljbhekcdaaTotals.lean).
  GIVEN WITH THE SEED: the statements are not yours to turn. If you find one false, say at which input.
  Laid BY PROGRAM, IN A SANDBOX (cutbox-rows.mjs): the forced cells as the released guide's own fill.sh prints them over the translation d213f3e263cad60c… (all of the seat's roots in one cut). By AI agents, Wed Nov 11 2026. No macro, syntax, notation, axiom, sorry.
-/
import Derived.Test.YtapdhljbhekcdaaChecked
import GoSem.Claim
import GoSem.ClaimJoined
import GoSem.ClaimMapViews
import Derived.JoinedTies
import Derived.KernelRfl
namespace Go.Proofs.Ytapdhljbhekcdaa
/- THE CELL 'sum', in the pinned program and in every row, IS THE sha256 OF THE DUMP (.gsa) THAT YtapdhljbhekcdaaProg.lean LOADS. Nothing in Lean hashes anything: it is a label: what it is worth is what the hold of that sum in a sandbox is worth. -/
noncomputable def Try.pinned : Pinned := { name := "ytapdhljbhekcdaa", sum := "d213f3e263cad60c0039f6febe3e5c7ccc037c02212f54396d45cd9958d8ab65", checked := Try.checked }
namespace Rows
def none {H : Type} : Left H := { results := [], args := [] }

/-- 'laws.FnExactDepthOf': WHATEVER THE INPUT: true; the input reads as it did. -/
def fnExactDepthOfSpec : ChangeSpec := { name := "fnExactDepthOf", fn := fun _ => fun
  | [d] => { results := [.lit (.bool true)], args := [d] }
  | _ => none }
def fnExactDepthOfRow : OpenClaim := { program := "ytapdhljbhekcdaa", sum := "d213f3e263cad60c0039f6febe3e5c7ccc037c02212f54396d45cd9958d8ab65", func := "loop.example/g00595/laws.FnExactDepthOf", spec := "fnExactDepthOf", apart := false }
def FnExactDepthOfSaid : Prop := fnExactDepthOfRow.holds Try.pinned (OpenSpec.ofChange fnExactDepthOfSpec)

/-- ITS FALSE NEIGHBOUR: 'it returns false'. Refute it at one input. -/
def fnExactDepthOfWrong : ChangeSpec := { name := "fnExactDepthOf", fn := fun _ => fun
  | [d] => { results := [.lit (.bool false)], args := [d] }
  | _ => none }
def FnExactDepthOfWrongFalsely : Prop := fnExactDepthOfRow.holds Try.pinned (OpenSpec.ofChange fnExactDepthOfWrong)

/-- 'laws.FnExactPrimitiveBelow': WHATEVER THE INPUT: true; the input reads as it did. -/
def fnExactPrimitiveBelowSpec : ChangeSpec := { name := "fnExactPrimitiveBelow", fn := fun _ => fun
  | [d] => { results := [.lit (.bool true)], args := [d] }
  | _ => none }
def fnExactPrimitiveBelowRow : OpenClaim := { program := "ytapdhljbhekcdaa", sum := "d213f3e263cad60c0039f6febe3e5c7ccc037c02212f54396d45cd9958d8ab65", func := "loop.example/g00595/laws.FnExactPrimitiveBelow", spec := "fnExactPrimitiveBelow", apart := false }
def FnExactPrimitiveBelowSaid : Prop := fnExactPrimitiveBelowRow.holds Try.pinned (OpenSpec.ofChange fnExactPrimitiveBelowSpec)

/-- ITS FALSE NEIGHBOUR: 'it returns false'. Refute it at one input. -/
def fnExactPrimitiveBelowWrong : ChangeSpec := { name := "fnExactPrimitiveBelow", fn := fun _ => fun
  | [d] => { results := [.lit (.bool false)], args := [d] }
  | _ => none }
def FnExactPrimitiveBelowWrongFalsely : Prop := fnExactPrimitiveBelowRow.holds Try.pinned (OpenSpec.ofChange fnExactPrimitiveBelowWrong)

/-- 'laws.FnExactLeftCount': WHATEVER THE INPUT: true; the input reads as it did. -/
def fnExactLeftCountSpec : ChangeSpec := { name := "fnExactLeftCount", fn := fun _ => fun
  | [d] => { results := [.lit (.bool true)], args := [d] }
  | _ => none }
def fnExactLeftCountRow : OpenClaim := { program := "ytapdhljbhekcdaa", sum := "d213f3e263cad60c0039f6febe3e5c7ccc037c02212f54396d45cd9958d8ab65", func := "loop.example/g00595/laws.FnExactLeftCount", spec := "fnExactLeftCount", apart := false }
def FnExactLeftCountSaid : Prop := fnExactLeftCountRow.holds Try.pinned (OpenSpec.ofChange fnExactLeftCountSpec)

/-- ITS FALSE NEIGHBOUR: 'it returns false'. Refute it at one input. -/
def fnExactLeftCountWrong : ChangeSpec := { name := "fnExactLeftCount", fn := fun _ => fun
  | [d] => { results := [.lit (.bool false)], args := [d] }
  | _ => none }
def FnExactLeftCountWrongFalsely : Prop := fnExactLeftCountRow.holds Try.pinned (OpenSpec.ofChange fnExactLeftCountWrong)

/-- 'laws.FnExactWilfNumber': WHATEVER THE INPUT: true; the input reads as it did. -/
def fnExactWilfNumberSpec : ChangeSpec := { name := "fnExactWilfNumber", fn := fun _ => fun
  | [d] => { results := [.lit (.bool true)], args := [d] }
  | _ => none }
def fnExactWilfNumberRow : OpenClaim := { program := "ytapdhljbhekcdaa", sum := "d213f3e263cad60c0039f6febe3e5c7ccc037c02212f54396d45cd9958d8ab65", func := "loop.example/g00595/laws.FnExactWilfNumber", spec := "fnExactWilfNumber", apart := false }
def FnExactWilfNumberSaid : Prop := fnExactWilfNumberRow.holds Try.pinned (OpenSpec.ofChange fnExactWilfNumberSpec)

/-- ITS FALSE NEIGHBOUR: 'it returns false'. Refute it at one input. -/
def fnExactWilfNumberWrong : ChangeSpec := { name := "fnExactWilfNumber", fn := fun _ => fun
  | [d] => { results := [.lit (.bool false)], args := [d] }
  | _ => none }
def FnExactWilfNumberWrongFalsely : Prop := fnExactWilfNumberRow.holds Try.pinned (OpenSpec.ofChange fnExactWilfNumberWrong)

/-- 'laws.FnExactOrderBound': WHATEVER THE INPUT: true; the input reads as it did. -/
def fnExactOrderBoundSpec : ChangeSpec := { name := "fnExactOrderBound", fn := fun _ => fun
  | [d1, d2] => { results := [.lit (.bool true)], args := [d1, d2] }
  | _ => none }
def fnExactOrderBoundRow : OpenClaim := { program := "ytapdhljbhekcdaa", sum := "d213f3e263cad60c0039f6febe3e5c7ccc037c02212f54396d45cd9958d8ab65", func := "loop.example/g00595/laws.FnExactOrderBound", spec := "fnExactOrderBound", unfollowed := true, recurses := true, apart := false }
def FnExactOrderBoundSaid : Prop := fnExactOrderBoundRow.holds Try.pinned (OpenSpec.ofChange fnExactOrderBoundSpec)

/-- ITS FALSE NEIGHBOUR: 'it returns false'. Refute it at one input. -/
def fnExactOrderBoundWrong : ChangeSpec := { name := "fnExactOrderBound", fn := fun _ => fun
  | [d1, d2] => { results := [.lit (.bool false)], args := [d1, d2] }
  | _ => none }
def FnExactOrderBoundWrongFalsely : Prop := fnExactOrderBoundRow.holds Try.pinned (OpenSpec.ofChange fnExactOrderBoundWrong)

/-- 'laws.FnExactArfFailure': WHATEVER THE INPUT: true; the input reads as it did. -/
def fnExactArfFailureSpec : ChangeSpec := { name := "fnExactArfFailure", fn := fun _ => fun
  | [d] => { results := [.lit (.bool true)], args := [d] }
  | _ => none }
def fnExactArfFailureRow : OpenClaim := { program := "ytapdhljbhekcdaa", sum := "d213f3e263cad60c0039f6febe3e5c7ccc037c02212f54396d45cd9958d8ab65", func := "loop.example/g00595/laws.FnExactArfFailure", spec := "fnExactArfFailure", unfollowed := true, recurses := true, apart := false }
def FnExactArfFailureSaid : Prop := fnExactArfFailureRow.holds Try.pinned (OpenSpec.ofChange fnExactArfFailureSpec)

/-- ITS FALSE NEIGHBOUR: 'it returns false'. Refute it at one input. -/
def fnExactArfFailureWrong : ChangeSpec := { name := "fnExactArfFailure", fn := fun _ => fun
  | [d] => { results := [.lit (.bool false)], args := [d] }
  | _ => none }
def FnExactArfFailureWrongFalsely : Prop := fnExactArfFailureRow.holds Try.pinned (OpenSpec.ofChange fnExactArfFailureWrong)

/-- 'laws.FnExactSporadicDensity': WHATEVER THE INPUT: true; the input reads as it did. -/
def fnExactSporadicDensitySpec : ChangeSpec := { name := "fnExactSporadicDensity", fn := fun _ => fun
  | [d] => { results := [.lit (.bool true)], args := [d] }
  | _ => none }
def fnExactSporadicDensityRow : OpenClaim := { program := "ytapdhljbhekcdaa", sum := "d213f3e263cad60c0039f6febe3e5c7ccc037c02212f54396d45cd9958d8ab65", func := "loop.example/g00595/laws.FnExactSporadicDensity", spec := "fnExactSporadicDensity", apart := false }
def FnExactSporadicDensitySaid : Prop := fnExactSporadicDensityRow.holds Try.pinned (OpenSpec.ofChange fnExactSporadicDensitySpec)

/-- ITS FALSE NEIGHBOUR: 'it returns false'. Refute it at one input. -/
def fnExactSporadicDensityWrong : ChangeSpec := { name := "fnExactSporadicDensity", fn := fun _ => fun
  | [d] => { results := [.lit (.bool false)], args := [d] }
  | _ => none }
def FnExactSporadicDensityWrongFalsely : Prop := fnExactSporadicDensityRow.holds Try.pinned (OpenSpec.ofChange fnExactSporadicDensityWrong)

/-- 'laws.FnExactIsArf': WHATEVER THE INPUT: true; the input reads as it did. -/
def fnExactIsArfSpec : ChangeSpec := { name := "fnExactIsArf", fn := fun _ => fun
  | [d] => { results := [.lit (.bool true)], args := [d] }
  | _ => none }
def fnExactIsArfRow : OpenClaim := { program := "ytapdhljbhekcdaa", sum := "d213f3e263cad60c0039f6febe3e5c7ccc037c02212f54396d45cd9958d8ab65", func := "loop.example/g00595/laws.FnExactIsArf", spec := "fnExactIsArf", unfollowed := true, recurses := true, apart := false }
def FnExactIsArfSaid : Prop := fnExactIsArfRow.holds Try.pinned (OpenSpec.ofChange fnExactIsArfSpec)

/-- ITS FALSE NEIGHBOUR: 'it returns false'. Refute it at one input. -/
def fnExactIsArfWrong : ChangeSpec := { name := "fnExactIsArf", fn := fun _ => fun
  | [d] => { results := [.lit (.bool false)], args := [d] }
  | _ => none }
def FnExactIsArfWrongFalsely : Prop := fnExactIsArfRow.holds Try.pinned (OpenSpec.ofChange fnExactIsArfWrong)

/-- 'laws.FnBounds': WHATEVER THE INPUT: true; the input reads as it did. -/
def fnBoundsSpec : ChangeSpec := { name := "fnBounds", fn := fun _ => fun
  | [d] => { results := [.lit (.bool true)], args := [d] }
  | _ => none }
def fnBoundsRow : OpenClaim := { program := "ytapdhljbhekcdaa", sum := "d213f3e263cad60c0039f6febe3e5c7ccc037c02212f54396d45cd9958d8ab65", func := "loop.example/g00595/laws.FnBounds", spec := "fnBounds", unfollowed := true, recurses := true, apart := false }
def FnBoundsSaid : Prop := fnBoundsRow.holds Try.pinned (OpenSpec.ofChange fnBoundsSpec)

/-- ITS FALSE NEIGHBOUR: 'it returns false'. Refute it at one input. -/
def fnBoundsWrong : ChangeSpec := { name := "fnBounds", fn := fun _ => fun
  | [d] => { results := [.lit (.bool false)], args := [d] }
  | _ => none }
def FnBoundsWrongFalsely : Prop := fnBoundsRow.holds Try.pinned (OpenSpec.ofChange fnBoundsWrong)

/-- 'laws.FnExactArfClosure': WHATEVER THE INPUT: true; the input reads as it did. -/
def fnExactArfClosureSpec : ChangeSpec := { name := "fnExactArfClosure", fn := fun _ => fun
  | [d] => { results := [.lit (.bool true)], args := [d] }
  | _ => none }
def fnExactArfClosureRow : OpenClaim := { program := "ytapdhljbhekcdaa", sum := "d213f3e263cad60c0039f6febe3e5c7ccc037c02212f54396d45cd9958d8ab65", func := "loop.example/g00595/laws.FnExactArfClosure", spec := "fnExactArfClosure", apart := false }
def FnExactArfClosureSaid : Prop := fnExactArfClosureRow.holds Try.pinned (OpenSpec.ofChange fnExactArfClosureSpec)

/-- ITS FALSE NEIGHBOUR: 'it returns false'. Refute it at one input. -/
def fnExactArfClosureWrong : ChangeSpec := { name := "fnExactArfClosure", fn := fun _ => fun
  | [d] => { results := [.lit (.bool false)], args := [d] }
  | _ => none }
def FnExactArfClosureWrongFalsely : Prop := fnExactArfClosureRow.holds Try.pinned (OpenSpec.ofChange fnExactArfClosureWrong)

/-- 'laws.FnWilf': WHATEVER THE INPUT: true; the input reads as it did. -/
def fnWilfSpec : ChangeSpec := { name := "fnWilf", fn := fun _ => fun
  | [d] => { results := [.lit (.bool true)], args := [d] }
  | _ => none }
def fnWilfRow : OpenClaim := { program := "ytapdhljbhekcdaa", sum := "d213f3e263cad60c0039f6febe3e5c7ccc037c02212f54396d45cd9958d8ab65", func := "loop.example/g00595/laws.FnWilf", spec := "fnWilf", apart := false }
def FnWilfSaid : Prop := fnWilfRow.holds Try.pinned (OpenSpec.ofChange fnWilfSpec)

/-- ITS FALSE NEIGHBOUR: 'it returns false'. Refute it at one input. -/
def fnWilfWrong : ChangeSpec := { name := "fnWilf", fn := fun _ => fun
  | [d] => { results := [.lit (.bool false)], args := [d] }
  | _ => none }
def FnWilfWrongFalsely : Prop := fnWilfRow.holds Try.pinned (OpenSpec.ofChange fnWilfWrong)

/-- 'laws.FnExactBlowUp': WHATEVER THE INPUT: true; the input reads as it did. -/
def fnExactBlowUpSpec : ChangeSpec := { name := "fnExactBlowUp", fn := fun _ => fun
  | [d] => { results := [.lit (.bool true)], args := [d] }
  | _ => none }
def fnExactBlowUpRow : OpenClaim := { program := "ytapdhljbhekcdaa", sum := "d213f3e263cad60c0039f6febe3e5c7ccc037c02212f54396d45cd9958d8ab65", func := "loop.example/g00595/laws.FnExactBlowUp", spec := "fnExactBlowUp", recurses := true, apart := false }
def FnExactBlowUpSaid : Prop := fnExactBlowUpRow.holds Try.pinned (OpenSpec.ofChange fnExactBlowUpSpec)

/-- ITS FALSE NEIGHBOUR: 'it returns false'. Refute it at one input. -/
def fnExactBlowUpWrong : ChangeSpec := { name := "fnExactBlowUp", fn := fun _ => fun
  | [d] => { results := [.lit (.bool false)], args := [d] }
  | _ => none }
def FnExactBlowUpWrongFalsely : Prop := fnExactBlowUpRow.holds Try.pinned (OpenSpec.ofChange fnExactBlowUpWrong)

/- THE SECOND FORM. 'bulk': how many values and letters a reading holds, each counted each time it is reached (what is shared counts as often as it is met; a slice's spare places count too). A statement '..UptoSaid' is the law's where the arguments, and the package variables that the reading takes, are together of bulk at most 1048576: NARROWER than '..Said'. Prove '..Said' where nothing that the law and all that it calls make is longer than what came in: it says more and counts as full. Else prove '..UptoSaid'. A law counts once. -/
mutual
def uptoBulk {H : Type} : DataW H → Nat
  | .lit (.string bytes) => bytes.length + 1
  | .lit _ => 1
  | .nil => 1
  | .ptr d => uptoBulk d + 1
  | .slice elems spare => uptoBulkAll elems + uptoBulkAll spare + 1
  | .agg parts => uptoBulkAll parts + 1
  | .iface _ d => uptoBulk d + 1
  | .map entries => uptoBulkEntries entries + 1
  | .held _ => 1
def uptoBulkAll {H : Type} : List (DataW H) → Nat
  | [] => 0
  | d :: r => uptoBulk d + uptoBulkAll r
def uptoBulkEntries {H : Type} : List (Lit × DataW H) → Nat
  | [] => 0
  | x :: r => uptoBulkEntry x + uptoBulkEntries r
def uptoBulkEntry {H : Type} : Lit × DataW H → Nat
  | (.string bytes, d) => bytes.length + uptoBulk d + 1
  | (_, d) => uptoBulk d + 1
 end
def uptoSmall : (H : Type) → List (DataW H) → Bool := fun _ ds => decide (uptoBulkAll ds ≤ 1048576)
def OpenSpec.upto (s : _root_.Go.ChangeSpec) : _root_.Go.OpenSpec := { _root_.Go.OpenSpec.ofChange s with cond := some uptoSmall }

/-- 'laws.FnExactDepthOf', WHERE WHAT IT READS IS OF BULK AT MOST 1048576: true; the input reads as it did. -/
def fnExactDepthOfUptoRow : OpenClaim := { program := "ytapdhljbhekcdaa", sum := "d213f3e263cad60c0039f6febe3e5c7ccc037c02212f54396d45cd9958d8ab65", func := "loop.example/g00595/laws.FnExactDepthOf", spec := "fnExactDepthOf", apart := false, narrowed := true }
def FnExactDepthOfUptoSaid : Prop := fnExactDepthOfUptoRow.holds Try.pinned (OpenSpec.upto fnExactDepthOfSpec)

/-- 'laws.FnExactPrimitiveBelow', WHERE WHAT IT READS IS OF BULK AT MOST 1048576: true; the input reads as it did. -/
def fnExactPrimitiveBelowUptoRow : OpenClaim := { program := "ytapdhljbhekcdaa", sum := "d213f3e263cad60c0039f6febe3e5c7ccc037c02212f54396d45cd9958d8ab65", func := "loop.example/g00595/laws.FnExactPrimitiveBelow", spec := "fnExactPrimitiveBelow", apart := false, narrowed := true }
def FnExactPrimitiveBelowUptoSaid : Prop := fnExactPrimitiveBelowUptoRow.holds Try.pinned (OpenSpec.upto fnExactPrimitiveBelowSpec)

/-- 'laws.FnExactLeftCount', WHERE WHAT IT READS IS OF BULK AT MOST 1048576: true; the input reads as it did. -/
def fnExactLeftCountUptoRow : OpenClaim := { program := "ytapdhljbhekcdaa", sum := "d213f3e263cad60c0039f6febe3e5c7ccc037c02212f54396d45cd9958d8ab65", func := "loop.example/g00595/laws.FnExactLeftCount", spec := "fnExactLeftCount", apart := false, narrowed := true }
def FnExactLeftCountUptoSaid : Prop := fnExactLeftCountUptoRow.holds Try.pinned (OpenSpec.upto fnExactLeftCountSpec)

/-- 'laws.FnExactWilfNumber', WHERE WHAT IT READS IS OF BULK AT MOST 1048576: true; the input reads as it did. -/
def fnExactWilfNumberUptoRow : OpenClaim := { program := "ytapdhljbhekcdaa", sum := "d213f3e263cad60c0039f6febe3e5c7ccc037c02212f54396d45cd9958d8ab65", func := "loop.example/g00595/laws.FnExactWilfNumber", spec := "fnExactWilfNumber", apart := false, narrowed := true }
def FnExactWilfNumberUptoSaid : Prop := fnExactWilfNumberUptoRow.holds Try.pinned (OpenSpec.upto fnExactWilfNumberSpec)

/-- 'laws.FnExactOrderBound', WHERE WHAT IT READS IS OF BULK AT MOST 1048576: true; the input reads as it did. -/
def fnExactOrderBoundUptoRow : OpenClaim := { program := "ytapdhljbhekcdaa", sum := "d213f3e263cad60c0039f6febe3e5c7ccc037c02212f54396d45cd9958d8ab65", func := "loop.example/g00595/laws.FnExactOrderBound", spec := "fnExactOrderBound", unfollowed := true, recurses := true, apart := false, narrowed := true }
def FnExactOrderBoundUptoSaid : Prop := fnExactOrderBoundUptoRow.holds Try.pinned (OpenSpec.upto fnExactOrderBoundSpec)

/-- 'laws.FnExactArfFailure', WHERE WHAT IT READS IS OF BULK AT MOST 1048576: true; the input reads as it did. -/
def fnExactArfFailureUptoRow : OpenClaim := { program := "ytapdhljbhekcdaa", sum := "d213f3e263cad60c0039f6febe3e5c7ccc037c02212f54396d45cd9958d8ab65", func := "loop.example/g00595/laws.FnExactArfFailure", spec := "fnExactArfFailure", unfollowed := true, recurses := true, apart := false, narrowed := true }
def FnExactArfFailureUptoSaid : Prop := fnExactArfFailureUptoRow.holds Try.pinned (OpenSpec.upto fnExactArfFailureSpec)

/-- 'laws.FnExactSporadicDensity', WHERE WHAT IT READS IS OF BULK AT MOST 1048576: true; the input reads as it did. -/
def fnExactSporadicDensityUptoRow : OpenClaim := { program := "ytapdhljbhekcdaa", sum := "d213f3e263cad60c0039f6febe3e5c7ccc037c02212f54396d45cd9958d8ab65", func := "loop.example/g00595/laws.FnExactSporadicDensity", spec := "fnExactSporadicDensity", apart := false, narrowed := true }
def FnExactSporadicDensityUptoSaid : Prop := fnExactSporadicDensityUptoRow.holds Try.pinned (OpenSpec.upto fnExactSporadicDensitySpec)

/-- 'laws.FnExactIsArf', WHERE WHAT IT READS IS OF BULK AT MOST 1048576: true; the input reads as it did. -/
def fnExactIsArfUptoRow : OpenClaim := { program := "ytapdhljbhekcdaa", sum := "d213f3e263cad60c0039f6febe3e5c7ccc037c02212f54396d45cd9958d8ab65", func := "loop.example/g00595/laws.FnExactIsArf", spec := "fnExactIsArf", unfollowed := true, recurses := true, apart := false, narrowed := true }
def FnExactIsArfUptoSaid : Prop := fnExactIsArfUptoRow.holds Try.pinned (OpenSpec.upto fnExactIsArfSpec)

/-- 'laws.FnBounds', WHERE WHAT IT READS IS OF BULK AT MOST 1048576: true; the input reads as it did. -/
def fnBoundsUptoRow : OpenClaim := { program := "ytapdhljbhekcdaa", sum := "d213f3e263cad60c0039f6febe3e5c7ccc037c02212f54396d45cd9958d8ab65", func := "loop.example/g00595/laws.FnBounds", spec := "fnBounds", unfollowed := true, recurses := true, apart := false, narrowed := true }
def FnBoundsUptoSaid : Prop := fnBoundsUptoRow.holds Try.pinned (OpenSpec.upto fnBoundsSpec)

/-- 'laws.FnExactArfClosure', WHERE WHAT IT READS IS OF BULK AT MOST 1048576: true; the input reads as it did. -/
def fnExactArfClosureUptoRow : OpenClaim := { program := "ytapdhljbhekcdaa", sum := "d213f3e263cad60c0039f6febe3e5c7ccc037c02212f54396d45cd9958d8ab65", func := "loop.example/g00595/laws.FnExactArfClosure", spec := "fnExactArfClosure", apart := false, narrowed := true }
def FnExactArfClosureUptoSaid : Prop := fnExactArfClosureUptoRow.holds Try.pinned (OpenSpec.upto fnExactArfClosureSpec)

/-- 'laws.FnWilf', WHERE WHAT IT READS IS OF BULK AT MOST 1048576: true; the input reads as it did. -/
def fnWilfUptoRow : OpenClaim := { program := "ytapdhljbhekcdaa", sum := "d213f3e263cad60c0039f6febe3e5c7ccc037c02212f54396d45cd9958d8ab65", func := "loop.example/g00595/laws.FnWilf", spec := "fnWilf", apart := false, narrowed := true }
def FnWilfUptoSaid : Prop := fnWilfUptoRow.holds Try.pinned (OpenSpec.upto fnWilfSpec)

/-- 'laws.FnExactBlowUp', WHERE WHAT IT READS IS OF BULK AT MOST 1048576: true; the input reads as it did. -/
def fnExactBlowUpUptoRow : OpenClaim := { program := "ytapdhljbhekcdaa", sum := "d213f3e263cad60c0039f6febe3e5c7ccc037c02212f54396d45cd9958d8ab65", func := "loop.example/g00595/laws.FnExactBlowUp", spec := "fnExactBlowUp", recurses := true, apart := false, narrowed := true }
def FnExactBlowUpUptoSaid : Prop := fnExactBlowUpUptoRow.holds Try.pinned (OpenSpec.upto fnExactBlowUpSpec)

end Rows
end Go.Proofs.Ytapdhljbhekcdaa
