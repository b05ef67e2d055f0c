/-
  No cell of these rows narrows 'for every input' (looked for: loops, veiled, ifaces, maps, wideKeys, modest, calm, conditions, laid).
  DERIVED. THE GIVEN ROWS OF THIS SEAT. 4 by the template 'for every input the law returns true; each argument reads behind the call as it read before'; 0 by the template 'total and deterministic' (their statements: YtonknpgfbkgbjaaTotals.lean).
  GIVEN WITH THE SEED: the statements are not yours to turn. If you find one false, say at which input.
  Laid BY PROGRAM, IN A SANDBOX (cutbox-rows.mjs): the forced cells as the released guide's own fill.sh prints them over the translation 01f62d684dc4d111… (all of the seat's roots in one cut). By AI agents, Wed Nov 11 2026. No macro, syntax, notation, axiom, sorry.
-/
import Derived.Test.YtonknpgfbkgbjaaChecked
import GoSem.Claim
import GoSem.ClaimJoined
import GoSem.ClaimMapViews
import Derived.JoinedTies
import Derived.KernelRfl
namespace Go.Proofs.Ytonknpgfbkgbjaa
/- THE CELL 'sum', in the pinned program and in every row, IS THE sha256 OF THE DUMP (.gsa) THAT YtonknpgfbkgbjaaProg.lean LOADS. Nothing in Lean hashes anything: it is a label: what it is worth is what the hold of that sum in a sandbox is worth. -/
noncomputable def Try.pinned : Pinned := { name := "ytonknpgfbkgbjaa", sum := "01f62d684dc4d11194bfa7845c8dfb1b4508fc1d678ec5c307346dd446e884e0", checked := Try.checked }
namespace Rows
def none {H : Type} : Left H := { results := [], args := [] }

/-- 'laws.FnExactMeetOfAll': WHATEVER THE INPUT: true; the input reads as it did. -/
def fnExactMeetOfAllSpec : ChangeSpec := { name := "fnExactMeetOfAll", fn := fun _ => fun
  | [d] => { results := [.lit (.bool true)], args := [d] }
  | _ => none }
def fnExactMeetOfAllRow : OpenClaim := { program := "ytonknpgfbkgbjaa", sum := "01f62d684dc4d11194bfa7845c8dfb1b4508fc1d678ec5c307346dd446e884e0", func := "loop.example/g00595/laws.FnExactMeetOfAll", spec := "fnExactMeetOfAll", recurses := true, apart := false }
def FnExactMeetOfAllSaid : Prop := fnExactMeetOfAllRow.holds Try.pinned (OpenSpec.ofChange fnExactMeetOfAllSpec)

/-- ITS FALSE NEIGHBOUR: 'it returns false'. Refute it at one input. -/
def fnExactMeetOfAllWrong : ChangeSpec := { name := "fnExactMeetOfAll", fn := fun _ => fun
  | [d] => { results := [.lit (.bool false)], args := [d] }
  | _ => none }
def FnExactMeetOfAllWrongFalsely : Prop := fnExactMeetOfAllRow.holds Try.pinned (OpenSpec.ofChange fnExactMeetOfAllWrong)

/-- 'laws.FnExactIrreducibleOvers': WHATEVER THE INPUT: true; the input reads as it did. -/
def fnExactIrreducibleOversSpec : ChangeSpec := { name := "fnExactIrreducibleOvers", fn := fun _ => fun
  | [d] => { results := [.lit (.bool true)], args := [d] }
  | _ => none }
def fnExactIrreducibleOversRow : OpenClaim := { program := "ytonknpgfbkgbjaa", sum := "01f62d684dc4d11194bfa7845c8dfb1b4508fc1d678ec5c307346dd446e884e0", func := "loop.example/g00595/laws.FnExactIrreducibleOvers", spec := "fnExactIrreducibleOvers", unfollowed := true, recurses := true, apart := false }
def FnExactIrreducibleOversSaid : Prop := fnExactIrreducibleOversRow.holds Try.pinned (OpenSpec.ofChange fnExactIrreducibleOversSpec)

/-- ITS FALSE NEIGHBOUR: 'it returns false'. Refute it at one input. -/
def fnExactIrreducibleOversWrong : ChangeSpec := { name := "fnExactIrreducibleOvers", fn := fun _ => fun
  | [d] => { results := [.lit (.bool false)], args := [d] }
  | _ => none }
def FnExactIrreducibleOversWrongFalsely : Prop := fnExactIrreducibleOversRow.holds Try.pinned (OpenSpec.ofChange fnExactIrreducibleOversWrong)

/-- 'laws.FnExactCountGenus': WHATEVER THE INPUT: true; the input reads as it did. -/
def fnExactCountGenusSpec : ChangeSpec := { name := "fnExactCountGenus", fn := fun _ => fun
  | [d] => { results := [.lit (.bool true)], args := [d] }
  | _ => none }
def fnExactCountGenusRow : OpenClaim := { program := "ytonknpgfbkgbjaa", sum := "01f62d684dc4d11194bfa7845c8dfb1b4508fc1d678ec5c307346dd446e884e0", func := "loop.example/g00595/laws.FnExactCountGenus", spec := "fnExactCountGenus", unfollowed := true, recurses := true, apart := false }
def FnExactCountGenusSaid : Prop := fnExactCountGenusRow.holds Try.pinned (OpenSpec.ofChange fnExactCountGenusSpec)

/-- ITS FALSE NEIGHBOUR: 'it returns false'. Refute it at one input. -/
def fnExactCountGenusWrong : ChangeSpec := { name := "fnExactCountGenus", fn := fun _ => fun
  | [d] => { results := [.lit (.bool false)], args := [d] }
  | _ => none }
def FnExactCountGenusWrongFalsely : Prop := fnExactCountGenusRow.holds Try.pinned (OpenSpec.ofChange fnExactCountGenusWrong)

/-- 'laws.FnExactAllOfGenus': WHATEVER THE INPUT: true; the input reads as it did. -/
def fnExactAllOfGenusSpec : ChangeSpec := { name := "fnExactAllOfGenus", fn := fun _ => fun
  | [d] => { results := [.lit (.bool true)], args := [d] }
  | _ => none }
def fnExactAllOfGenusRow : OpenClaim := { program := "ytonknpgfbkgbjaa", sum := "01f62d684dc4d11194bfa7845c8dfb1b4508fc1d678ec5c307346dd446e884e0", func := "loop.example/g00595/laws.FnExactAllOfGenus", spec := "fnExactAllOfGenus", unfollowed := true, recurses := true, apart := false }
def FnExactAllOfGenusSaid : Prop := fnExactAllOfGenusRow.holds Try.pinned (OpenSpec.ofChange fnExactAllOfGenusSpec)

/-- ITS FALSE NEIGHBOUR: 'it returns false'. Refute it at one input. -/
def fnExactAllOfGenusWrong : ChangeSpec := { name := "fnExactAllOfGenus", fn := fun _ => fun
  | [d] => { results := [.lit (.bool false)], args := [d] }
  | _ => none }
def FnExactAllOfGenusWrongFalsely : Prop := fnExactAllOfGenusRow.holds Try.pinned (OpenSpec.ofChange fnExactAllOfGenusWrong)

/- THE SECOND FORM. 'bulk': how many values and letters a reading holds, each counted each time it is reached (what is shared counts as often as it is met; a slice's spare places count too). A statement '..UptoSaid' is the law's where the arguments, and the package variables that the reading takes, are together of bulk at most 1048576: NARROWER than '..Said'. Prove '..Said' where nothing that the law and all that it calls make is longer than what came in: it says more and counts as full. Else prove '..UptoSaid'. A law counts once. -/
mutual
def uptoBulk {H : Type} : DataW H → Nat
  | .lit (.string bytes) => bytes.length + 1
  | .lit _ => 1
  | .nil => 1
  | .ptr d => uptoBulk d + 1
  | .slice elems spare => uptoBulkAll elems + uptoBulkAll spare + 1
  | .agg parts => uptoBulkAll parts + 1
  | .iface _ d => uptoBulk d + 1
  | .map entries => uptoBulkEntries entries + 1
  | .held _ => 1
def uptoBulkAll {H : Type} : List (DataW H) → Nat
  | [] => 0
  | d :: r => uptoBulk d + uptoBulkAll r
def uptoBulkEntries {H : Type} : List (Lit × DataW H) → Nat
  | [] => 0
  | x :: r => uptoBulkEntry x + uptoBulkEntries r
def uptoBulkEntry {H : Type} : Lit × DataW H → Nat
  | (.string bytes, d) => bytes.length + uptoBulk d + 1
  | (_, d) => uptoBulk d + 1
 end
def uptoSmall : (H : Type) → List (DataW H) → Bool := fun _ ds => decide (uptoBulkAll ds ≤ 1048576)
def OpenSpec.upto (s : _root_.Go.ChangeSpec) : _root_.Go.OpenSpec := { _root_.Go.OpenSpec.ofChange s with cond := some uptoSmall }

/-- 'laws.FnExactMeetOfAll', WHERE WHAT IT READS IS OF BULK AT MOST 1048576: true; the input reads as it did. -/
def fnExactMeetOfAllUptoRow : OpenClaim := { program := "ytonknpgfbkgbjaa", sum := "01f62d684dc4d11194bfa7845c8dfb1b4508fc1d678ec5c307346dd446e884e0", func := "loop.example/g00595/laws.FnExactMeetOfAll", spec := "fnExactMeetOfAll", recurses := true, apart := false, narrowed := true }
def FnExactMeetOfAllUptoSaid : Prop := fnExactMeetOfAllUptoRow.holds Try.pinned (OpenSpec.upto fnExactMeetOfAllSpec)

/-- 'laws.FnExactIrreducibleOvers', WHERE WHAT IT READS IS OF BULK AT MOST 1048576: true; the input reads as it did. -/
def fnExactIrreducibleOversUptoRow : OpenClaim := { program := "ytonknpgfbkgbjaa", sum := "01f62d684dc4d11194bfa7845c8dfb1b4508fc1d678ec5c307346dd446e884e0", func := "loop.example/g00595/laws.FnExactIrreducibleOvers", spec := "fnExactIrreducibleOvers", unfollowed := true, recurses := true, apart := false, narrowed := true }
def FnExactIrreducibleOversUptoSaid : Prop := fnExactIrreducibleOversUptoRow.holds Try.pinned (OpenSpec.upto fnExactIrreducibleOversSpec)

/-- 'laws.FnExactCountGenus', WHERE WHAT IT READS IS OF BULK AT MOST 1048576: true; the input reads as it did. -/
def fnExactCountGenusUptoRow : OpenClaim := { program := "ytonknpgfbkgbjaa", sum := "01f62d684dc4d11194bfa7845c8dfb1b4508fc1d678ec5c307346dd446e884e0", func := "loop.example/g00595/laws.FnExactCountGenus", spec := "fnExactCountGenus", unfollowed := true, recurses := true, apart := false, narrowed := true }
def FnExactCountGenusUptoSaid : Prop := fnExactCountGenusUptoRow.holds Try.pinned (OpenSpec.upto fnExactCountGenusSpec)

/-- 'laws.FnExactAllOfGenus', WHERE WHAT IT READS IS OF BULK AT MOST 1048576: true; the input reads as it did. -/
def fnExactAllOfGenusUptoRow : OpenClaim := { program := "ytonknpgfbkgbjaa", sum := "01f62d684dc4d11194bfa7845c8dfb1b4508fc1d678ec5c307346dd446e884e0", func := "loop.example/g00595/laws.FnExactAllOfGenus", spec := "fnExactAllOfGenus", unfollowed := true, recurses := true, apart := false, narrowed := true }
def FnExactAllOfGenusUptoSaid : Prop := fnExactAllOfGenusUptoRow.holds Try.pinned (OpenSpec.upto fnExactAllOfGenusSpec)

end Rows
end Go.Proofs.Ytonknpgfbkgbjaa
