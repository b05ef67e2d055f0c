/-
  No cell of these rows narrows 'for every input' (looked for: loops, veiled, ifaces, maps, wideKeys, modest, calm, conditions, laid).
  DERIVED. THE GIVEN ROWS OF THIS SEAT. 5 by the template 'for every input the law returns true; each argument reads behind the call as it read before'; 0 by the template 'total and deterministic' (their statements: YthkhpejggdnkfaaTotals.lean).
  GIVEN WITH THE SEED: the statements are not yours to turn. If you find one false, say at which input.
  Laid BY PROGRAM, IN A SANDBOX (cutbox-rows.mjs): the forced cells as the released guide's own fill.sh prints them over the translation a4a2641be46cf3dd… (all of the seat's roots in one cut). By AI agents, Wed Nov 11 2026. No macro, syntax, notation, axiom, sorry.
-/
import Derived.Test.YthkhpejggdnkfaaChecked
import GoSem.Claim
import GoSem.ClaimJoined
import GoSem.ClaimMapViews
import Derived.JoinedTies
import Derived.KernelRfl
namespace Go.Proofs.Ythkhpejggdnkfaa
/- THE CELL 'sum', in the pinned program and in every row, IS THE sha256 OF THE DUMP (.gsa) THAT YthkhpejggdnkfaaProg.lean LOADS. Nothing in Lean hashes anything: it is a label: what it is worth is what the hold of that sum in a sandbox is worth. -/
noncomputable def Try.pinned : Pinned := { name := "ythkhpejggdnkfaa", sum := "a4a2641be46cf3dd00993ef5f81fe0525e56e64868f01e8367952c230dc8b566", checked := Try.checked }
namespace Rows
def none {H : Type} : Left H := { results := [], args := [] }

/-- 'laws.FnExactBestStamps': WHATEVER THE INPUT: true; the input reads as it did. -/
def fnExactBestStampsSpec : ChangeSpec := { name := "fnExactBestStamps", fn := fun _ => fun
  | [d1, d2] => { results := [.lit (.bool true)], args := [d1, d2] }
  | _ => none }
def fnExactBestStampsRow : OpenClaim := { program := "ythkhpejggdnkfaa", sum := "a4a2641be46cf3dd00993ef5f81fe0525e56e64868f01e8367952c230dc8b566", func := "loop.example/g00595/laws.FnExactBestStamps", spec := "fnExactBestStamps", unfollowed := true, recurses := true, apart := false }
def FnExactBestStampsSaid : Prop := fnExactBestStampsRow.holds Try.pinned (OpenSpec.ofChange fnExactBestStampsSpec)

/-- ITS FALSE NEIGHBOUR: 'it returns false'. Refute it at one input. -/
def fnExactBestStampsWrong : ChangeSpec := { name := "fnExactBestStamps", fn := fun _ => fun
  | [d1, d2] => { results := [.lit (.bool false)], args := [d1, d2] }
  | _ => none }
def FnExactBestStampsWrongFalsely : Prop := fnExactBestStampsRow.holds Try.pinned (OpenSpec.ofChange fnExactBestStampsWrong)

/-- 'laws.FnStamps': WHATEVER THE INPUT: true; the input reads as it did. -/
def fnStampsSpec : ChangeSpec := { name := "fnStamps", fn := fun _ => fun
  | [d] => { results := [.lit (.bool true)], args := [d] }
  | _ => none }
def fnStampsRow : OpenClaim := { program := "ythkhpejggdnkfaa", sum := "a4a2641be46cf3dd00993ef5f81fe0525e56e64868f01e8367952c230dc8b566", func := "loop.example/g00595/laws.FnStamps", spec := "fnStamps", unfollowed := true, recurses := true, apart := false }
def FnStampsSaid : Prop := fnStampsRow.holds Try.pinned (OpenSpec.ofChange fnStampsSpec)

/-- ITS FALSE NEIGHBOUR: 'it returns false'. Refute it at one input. -/
def fnStampsWrong : ChangeSpec := { name := "fnStamps", fn := fun _ => fun
  | [d] => { results := [.lit (.bool false)], args := [d] }
  | _ => none }
def FnStampsWrongFalsely : Prop := fnStampsRow.holds Try.pinned (OpenSpec.ofChange fnStampsWrong)

/-- 'laws.FnExactMultiplicitySequence': WHATEVER THE INPUT: true; the input reads as it did. -/
def fnExactMultiplicitySequenceSpec : ChangeSpec := { name := "fnExactMultiplicitySequence", fn := fun _ => fun
  | [d] => { results := [.lit (.bool true)], args := [d] }
  | _ => none }
def fnExactMultiplicitySequenceRow : OpenClaim := { program := "ythkhpejggdnkfaa", sum := "a4a2641be46cf3dd00993ef5f81fe0525e56e64868f01e8367952c230dc8b566", func := "loop.example/g00595/laws.FnExactMultiplicitySequence", spec := "fnExactMultiplicitySequence", recurses := true, apart := false }
def FnExactMultiplicitySequenceSaid : Prop := fnExactMultiplicitySequenceRow.holds Try.pinned (OpenSpec.ofChange fnExactMultiplicitySequenceSpec)

/-- ITS FALSE NEIGHBOUR: 'it returns false'. Refute it at one input. -/
def fnExactMultiplicitySequenceWrong : ChangeSpec := { name := "fnExactMultiplicitySequence", fn := fun _ => fun
  | [d] => { results := [.lit (.bool false)], args := [d] }
  | _ => none }
def FnExactMultiplicitySequenceWrongFalsely : Prop := fnExactMultiplicitySequenceRow.holds Try.pinned (OpenSpec.ofChange fnExactMultiplicitySequenceWrong)

/-- 'laws.FnExactGlueOf': WHATEVER THE INPUT: true; the input reads as it did. -/
def fnExactGlueOfSpec : ChangeSpec := { name := "fnExactGlueOf", fn := fun _ => fun
  | [d1, d2, d3, d4] => { results := [.lit (.bool true)], args := [d1, d2, d3, d4] }
  | _ => none }
def fnExactGlueOfRow : OpenClaim := { program := "ythkhpejggdnkfaa", sum := "a4a2641be46cf3dd00993ef5f81fe0525e56e64868f01e8367952c230dc8b566", func := "loop.example/g00595/laws.FnExactGlueOf", spec := "fnExactGlueOf", recurses := true, apart := false }
def FnExactGlueOfSaid : Prop := fnExactGlueOfRow.holds Try.pinned (OpenSpec.ofChange fnExactGlueOfSpec)

/-- ITS FALSE NEIGHBOUR: 'it returns false'. Refute it at one input. -/
def fnExactGlueOfWrong : ChangeSpec := { name := "fnExactGlueOf", fn := fun _ => fun
  | [d1, d2, d3, d4] => { results := [.lit (.bool false)], args := [d1, d2, d3, d4] }
  | _ => none }
def FnExactGlueOfWrongFalsely : Prop := fnExactGlueOfRow.holds Try.pinned (OpenSpec.ofChange fnExactGlueOfWrong)

/-- 'laws.FnExactGlueFrobenius': WHATEVER THE INPUT: true; the input reads as it did. -/
def fnExactGlueFrobeniusSpec : ChangeSpec := { name := "fnExactGlueFrobenius", fn := fun _ => fun
  | [d1, d2, d3, d4] => { results := [.lit (.bool true)], args := [d1, d2, d3, d4] }
  | _ => none }
def fnExactGlueFrobeniusRow : OpenClaim := { program := "ythkhpejggdnkfaa", sum := "a4a2641be46cf3dd00993ef5f81fe0525e56e64868f01e8367952c230dc8b566", func := "loop.example/g00595/laws.FnExactGlueFrobenius", spec := "fnExactGlueFrobenius", recurses := true, apart := false }
def FnExactGlueFrobeniusSaid : Prop := fnExactGlueFrobeniusRow.holds Try.pinned (OpenSpec.ofChange fnExactGlueFrobeniusSpec)

/-- ITS FALSE NEIGHBOUR: 'it returns false'. Refute it at one input. -/
def fnExactGlueFrobeniusWrong : ChangeSpec := { name := "fnExactGlueFrobenius", fn := fun _ => fun
  | [d1, d2, d3, d4] => { results := [.lit (.bool false)], args := [d1, d2, d3, d4] }
  | _ => none }
def FnExactGlueFrobeniusWrongFalsely : Prop := fnExactGlueFrobeniusRow.holds Try.pinned (OpenSpec.ofChange fnExactGlueFrobeniusWrong)

/- THE SECOND FORM. 'bulk': how many values and letters a reading holds, each counted each time it is reached (what is shared counts as often as it is met; a slice's spare places count too). A statement '..UptoSaid' is the law's where the arguments, and the package variables that the reading takes, are together of bulk at most 1048576: NARROWER than '..Said'. Prove '..Said' where nothing that the law and all that it calls make is longer than what came in: it says more and counts as full. Else prove '..UptoSaid'. A law counts once. -/
mutual
def uptoBulk {H : Type} : DataW H → Nat
  | .lit (.string bytes) => bytes.length + 1
  | .lit _ => 1
  | .nil => 1
  | .ptr d => uptoBulk d + 1
  | .slice elems spare => uptoBulkAll elems + uptoBulkAll spare + 1
  | .agg parts => uptoBulkAll parts + 1
  | .iface _ d => uptoBulk d + 1
  | .map entries => uptoBulkEntries entries + 1
  | .held _ => 1
def uptoBulkAll {H : Type} : List (DataW H) → Nat
  | [] => 0
  | d :: r => uptoBulk d + uptoBulkAll r
def uptoBulkEntries {H : Type} : List (Lit × DataW H) → Nat
  | [] => 0
  | x :: r => uptoBulkEntry x + uptoBulkEntries r
def uptoBulkEntry {H : Type} : Lit × DataW H → Nat
  | (.string bytes, d) => bytes.length + uptoBulk d + 1
  | (_, d) => uptoBulk d + 1
 end
def uptoSmall : (H : Type) → List (DataW H) → Bool := fun _ ds => decide (uptoBulkAll ds ≤ 1048576)
def OpenSpec.upto (s : _root_.Go.ChangeSpec) : _root_.Go.OpenSpec := { _root_.Go.OpenSpec.ofChange s with cond := some uptoSmall }

/-- 'laws.FnExactBestStamps', WHERE WHAT IT READS IS OF BULK AT MOST 1048576: true; the input reads as it did. -/
def fnExactBestStampsUptoRow : OpenClaim := { program := "ythkhpejggdnkfaa", sum := "a4a2641be46cf3dd00993ef5f81fe0525e56e64868f01e8367952c230dc8b566", func := "loop.example/g00595/laws.FnExactBestStamps", spec := "fnExactBestStamps", unfollowed := true, recurses := true, apart := false, narrowed := true }
def FnExactBestStampsUptoSaid : Prop := fnExactBestStampsUptoRow.holds Try.pinned (OpenSpec.upto fnExactBestStampsSpec)

/-- 'laws.FnStamps', WHERE WHAT IT READS IS OF BULK AT MOST 1048576: true; the input reads as it did. -/
def fnStampsUptoRow : OpenClaim := { program := "ythkhpejggdnkfaa", sum := "a4a2641be46cf3dd00993ef5f81fe0525e56e64868f01e8367952c230dc8b566", func := "loop.example/g00595/laws.FnStamps", spec := "fnStamps", unfollowed := true, recurses := true, apart := false, narrowed := true }
def FnStampsUptoSaid : Prop := fnStampsUptoRow.holds Try.pinned (OpenSpec.upto fnStampsSpec)

/-- 'laws.FnExactMultiplicitySequence', WHERE WHAT IT READS IS OF BULK AT MOST 1048576: true; the input reads as it did. -/
def fnExactMultiplicitySequenceUptoRow : OpenClaim := { program := "ythkhpejggdnkfaa", sum := "a4a2641be46cf3dd00993ef5f81fe0525e56e64868f01e8367952c230dc8b566", func := "loop.example/g00595/laws.FnExactMultiplicitySequence", spec := "fnExactMultiplicitySequence", recurses := true, apart := false, narrowed := true }
def FnExactMultiplicitySequenceUptoSaid : Prop := fnExactMultiplicitySequenceUptoRow.holds Try.pinned (OpenSpec.upto fnExactMultiplicitySequenceSpec)

/-- 'laws.FnExactGlueOf', WHERE WHAT IT READS IS OF BULK AT MOST 1048576: true; the input reads as it did. -/
def fnExactGlueOfUptoRow : OpenClaim := { program := "ythkhpejggdnkfaa", sum := "a4a2641be46cf3dd00993ef5f81fe0525e56e64868f01e8367952c230dc8b566", func := "loop.example/g00595/laws.FnExactGlueOf", spec := "fnExactGlueOf", recurses := true, apart := false, narrowed := true }
def FnExactGlueOfUptoSaid : Prop := fnExactGlueOfUptoRow.holds Try.pinned (OpenSpec.upto fnExactGlueOfSpec)

/-- 'laws.FnExactGlueFrobenius', WHERE WHAT IT READS IS OF BULK AT MOST 1048576: true; the input reads as it did. -/
def fnExactGlueFrobeniusUptoRow : OpenClaim := { program := "ythkhpejggdnkfaa", sum := "a4a2641be46cf3dd00993ef5f81fe0525e56e64868f01e8367952c230dc8b566", func := "loop.example/g00595/laws.FnExactGlueFrobenius", spec := "fnExactGlueFrobenius", recurses := true, apart := false, narrowed := true }
def FnExactGlueFrobeniusUptoSaid : Prop := fnExactGlueFrobeniusUptoRow.holds Try.pinned (OpenSpec.upto fnExactGlueFrobeniusSpec)

end Rows
end Go.Proofs.Ythkhpejggdnkfaa
