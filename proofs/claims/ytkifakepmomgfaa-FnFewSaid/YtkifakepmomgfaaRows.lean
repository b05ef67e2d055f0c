/-
  No cell of these rows narrows 'for every input' (looked for: loops, veiled, ifaces, maps, wideKeys, modest, calm, conditions, laid).
  DERIVED. THE GIVEN ROWS OF THIS SEAT. 12 by the template 'for every input the law returns true; each argument reads behind the call as it read before'; 0 by the template 'total and deterministic' (their statements: YtkifakepmomgfaaTotals.lean).
  GIVEN WITH THE SEED: the statements are not yours to turn. If you find one false, say at which input.
  Laid BY PROGRAM, IN A SANDBOX (cutbox-rows.mjs): the forced cells as the released guide's own fill.sh prints them over the translation b7f5a855adae0192… (all of the seat's roots in one cut). By AI agents, Wed Nov 11 2026. No macro, syntax, notation, axiom, sorry.
-/
import Derived.Test.YtkifakepmomgfaaChecked
import GoSem.Claim
import GoSem.ClaimJoined
import GoSem.ClaimMapViews
import Derived.JoinedTies
import Derived.KernelRfl
namespace Go.Proofs.Ytkifakepmomgfaa
/- THE CELL 'sum', in the pinned program and in every row, IS THE sha256 OF THE DUMP (.gsa) THAT YtkifakepmomgfaaProg.lean LOADS. Nothing in Lean hashes anything: it is a label: what it is worth is what the hold of that sum in a sandbox is worth. -/
noncomputable def Try.pinned : Pinned := { name := "ytkifakepmomgfaa", sum := "b7f5a855adae0192911cebaed949392ca3a51d37efec83bacc8000fbd0857879", checked := Try.checked }
namespace Rows
def none {H : Type} : Left H := { results := [], args := [] }

/-- 'laws.FnExactStampsFor': WHATEVER THE INPUT: true; the input reads as it did. -/
def fnExactStampsForSpec : ChangeSpec := { name := "fnExactStampsFor", fn := fun _ => fun
  | [d1, d2, d3] => { results := [.lit (.bool true)], args := [d1, d2, d3] }
  | _ => none }
def fnExactStampsForRow : OpenClaim := { program := "ytkifakepmomgfaa", sum := "b7f5a855adae0192911cebaed949392ca3a51d37efec83bacc8000fbd0857879", func := "loop.example/g00595/laws.FnExactStampsFor", spec := "fnExactStampsFor", apart := false }
def FnExactStampsForSaid : Prop := fnExactStampsForRow.holds Try.pinned (OpenSpec.ofChange fnExactStampsForSpec)

/-- ITS FALSE NEIGHBOUR: 'it returns false'. Refute it at one input. -/
def fnExactStampsForWrong : ChangeSpec := { name := "fnExactStampsFor", fn := fun _ => fun
  | [d1, d2, d3] => { results := [.lit (.bool false)], args := [d1, d2, d3] }
  | _ => none }
def FnExactStampsForWrongFalsely : Prop := fnExactStampsForRow.holds Try.pinned (OpenSpec.ofChange fnExactStampsForWrong)

/-- 'laws.FnExactFirstWaste': WHATEVER THE INPUT: true; the input reads as it did. -/
def fnExactFirstWasteSpec : ChangeSpec := { name := "fnExactFirstWaste", fn := fun _ => fun
  | [d] => { results := [.lit (.bool true)], args := [d] }
  | _ => none }
def fnExactFirstWasteRow : OpenClaim := { program := "ytkifakepmomgfaa", sum := "b7f5a855adae0192911cebaed949392ca3a51d37efec83bacc8000fbd0857879", func := "loop.example/g00595/laws.FnExactFirstWaste", spec := "fnExactFirstWaste", apart := false }
def FnExactFirstWasteSaid : Prop := fnExactFirstWasteRow.holds Try.pinned (OpenSpec.ofChange fnExactFirstWasteSpec)

/-- ITS FALSE NEIGHBOUR: 'it returns false'. Refute it at one input. -/
def fnExactFirstWasteWrong : ChangeSpec := { name := "fnExactFirstWaste", fn := fun _ => fun
  | [d] => { results := [.lit (.bool false)], args := [d] }
  | _ => none }
def FnExactFirstWasteWrongFalsely : Prop := fnExactFirstWasteRow.holds Try.pinned (OpenSpec.ofChange fnExactFirstWasteWrong)

/-- 'laws.FnExactIsOrderly': WHATEVER THE INPUT: true; the input reads as it did. -/
def fnExactIsOrderlySpec : ChangeSpec := { name := "fnExactIsOrderly", fn := fun _ => fun
  | [d] => { results := [.lit (.bool true)], args := [d] }
  | _ => none }
def fnExactIsOrderlyRow : OpenClaim := { program := "ytkifakepmomgfaa", sum := "b7f5a855adae0192911cebaed949392ca3a51d37efec83bacc8000fbd0857879", func := "loop.example/g00595/laws.FnExactIsOrderly", spec := "fnExactIsOrderly", apart := false }
def FnExactIsOrderlySaid : Prop := fnExactIsOrderlyRow.holds Try.pinned (OpenSpec.ofChange fnExactIsOrderlySpec)

/-- ITS FALSE NEIGHBOUR: 'it returns false'. Refute it at one input. -/
def fnExactIsOrderlyWrong : ChangeSpec := { name := "fnExactIsOrderly", fn := fun _ => fun
  | [d] => { results := [.lit (.bool false)], args := [d] }
  | _ => none }
def FnExactIsOrderlyWrongFalsely : Prop := fnExactIsOrderlyRow.holds Try.pinned (OpenSpec.ofChange fnExactIsOrderlyWrong)

/-- 'laws.FnExactBestStamps': WHATEVER THE INPUT: true; the input reads as it did. -/
def fnExactBestStampsSpec : ChangeSpec := { name := "fnExactBestStamps", fn := fun _ => fun
  | [d1, d2] => { results := [.lit (.bool true)], args := [d1, d2] }
  | _ => none }
def fnExactBestStampsRow : OpenClaim := { program := "ytkifakepmomgfaa", sum := "b7f5a855adae0192911cebaed949392ca3a51d37efec83bacc8000fbd0857879", func := "loop.example/g00595/laws.FnExactBestStamps", spec := "fnExactBestStamps", unfollowed := true, recurses := true, apart := false }
def FnExactBestStampsSaid : Prop := fnExactBestStampsRow.holds Try.pinned (OpenSpec.ofChange fnExactBestStampsSpec)

/-- ITS FALSE NEIGHBOUR: 'it returns false'. Refute it at one input. -/
def fnExactBestStampsWrong : ChangeSpec := { name := "fnExactBestStamps", fn := fun _ => fun
  | [d1, d2] => { results := [.lit (.bool false)], args := [d1, d2] }
  | _ => none }
def FnExactBestStampsWrongFalsely : Prop := fnExactBestStampsRow.holds Try.pinned (OpenSpec.ofChange fnExactBestStampsWrong)

/-- 'laws.FnExactIsTelescopic': WHATEVER THE INPUT: true; the input reads as it did. -/
def fnExactIsTelescopicSpec : ChangeSpec := { name := "fnExactIsTelescopic", fn := fun _ => fun
  | [d] => { results := [.lit (.bool true)], args := [d] }
  | _ => none }
def fnExactIsTelescopicRow : OpenClaim := { program := "ytkifakepmomgfaa", sum := "b7f5a855adae0192911cebaed949392ca3a51d37efec83bacc8000fbd0857879", func := "loop.example/g00595/laws.FnExactIsTelescopic", spec := "fnExactIsTelescopic", apart := false }
def FnExactIsTelescopicSaid : Prop := fnExactIsTelescopicRow.holds Try.pinned (OpenSpec.ofChange fnExactIsTelescopicSpec)

/-- ITS FALSE NEIGHBOUR: 'it returns false'. Refute it at one input. -/
def fnExactIsTelescopicWrong : ChangeSpec := { name := "fnExactIsTelescopic", fn := fun _ => fun
  | [d] => { results := [.lit (.bool false)], args := [d] }
  | _ => none }
def FnExactIsTelescopicWrongFalsely : Prop := fnExactIsTelescopicRow.holds Try.pinned (OpenSpec.ofChange fnExactIsTelescopicWrong)

/-- 'laws.FnExactTelescopicFrobenius': WHATEVER THE INPUT: true; the input reads as it did. -/
def fnExactTelescopicFrobeniusSpec : ChangeSpec := { name := "fnExactTelescopicFrobenius", fn := fun _ => fun
  | [d] => { results := [.lit (.bool true)], args := [d] }
  | _ => none }
def fnExactTelescopicFrobeniusRow : OpenClaim := { program := "ytkifakepmomgfaa", sum := "b7f5a855adae0192911cebaed949392ca3a51d37efec83bacc8000fbd0857879", func := "loop.example/g00595/laws.FnExactTelescopicFrobenius", spec := "fnExactTelescopicFrobenius", apart := false }
def FnExactTelescopicFrobeniusSaid : Prop := fnExactTelescopicFrobeniusRow.holds Try.pinned (OpenSpec.ofChange fnExactTelescopicFrobeniusSpec)

/-- ITS FALSE NEIGHBOUR: 'it returns false'. Refute it at one input. -/
def fnExactTelescopicFrobeniusWrong : ChangeSpec := { name := "fnExactTelescopicFrobenius", fn := fun _ => fun
  | [d] => { results := [.lit (.bool false)], args := [d] }
  | _ => none }
def FnExactTelescopicFrobeniusWrongFalsely : Prop := fnExactTelescopicFrobeniusRow.holds Try.pinned (OpenSpec.ofChange fnExactTelescopicFrobeniusWrong)

/-- 'laws.FnExactEqualSession': WHATEVER THE INPUT: true; the input reads as it did. -/
def fnExactEqualSessionSpec : ChangeSpec := { name := "fnExactEqualSession", fn := fun _ => fun
  | [d1, d2] => { results := [.lit (.bool true)], args := [d1, d2] }
  | _ => none }
def fnExactEqualSessionRow : OpenClaim := { program := "ytkifakepmomgfaa", sum := "b7f5a855adae0192911cebaed949392ca3a51d37efec83bacc8000fbd0857879", func := "loop.example/g00595/laws.FnExactEqualSession", spec := "fnExactEqualSession", apart := false }
def FnExactEqualSessionSaid : Prop := fnExactEqualSessionRow.holds Try.pinned (OpenSpec.ofChange fnExactEqualSessionSpec)

/-- ITS FALSE NEIGHBOUR: 'it returns false'. Refute it at one input. -/
def fnExactEqualSessionWrong : ChangeSpec := { name := "fnExactEqualSession", fn := fun _ => fun
  | [d1, d2] => { results := [.lit (.bool false)], args := [d1, d2] }
  | _ => none }
def FnExactEqualSessionWrongFalsely : Prop := fnExactEqualSessionRow.holds Try.pinned (OpenSpec.ofChange fnExactEqualSessionWrong)

/-- 'laws.FnFew': WHATEVER THE INPUT: true; the input reads as it did. -/
def fnFewSpec : ChangeSpec := { name := "fnFew", fn := fun _ => fun
  | [d] => { results := [.lit (.bool true)], args := [d] }
  | _ => none }
def fnFewRow : OpenClaim := { program := "ytkifakepmomgfaa", sum := "b7f5a855adae0192911cebaed949392ca3a51d37efec83bacc8000fbd0857879", func := "loop.example/g00595/laws.FnFew", spec := "fnFew", apart := false }
def FnFewSaid : Prop := fnFewRow.holds Try.pinned (OpenSpec.ofChange fnFewSpec)

/-- ITS FALSE NEIGHBOUR: 'it returns false'. Refute it at one input. -/
def fnFewWrong : ChangeSpec := { name := "fnFew", fn := fun _ => fun
  | [d] => { results := [.lit (.bool false)], args := [d] }
  | _ => none }
def FnFewWrongFalsely : Prop := fnFewRow.holds Try.pinned (OpenSpec.ofChange fnFewWrong)

/-- 'laws.FnChange': WHATEVER THE INPUT: true; the input reads as it did. -/
def fnChangeSpec : ChangeSpec := { name := "fnChange", fn := fun _ => fun
  | [d] => { results := [.lit (.bool true)], args := [d] }
  | _ => none }
def fnChangeRow : OpenClaim := { program := "ytkifakepmomgfaa", sum := "b7f5a855adae0192911cebaed949392ca3a51d37efec83bacc8000fbd0857879", func := "loop.example/g00595/laws.FnChange", spec := "fnChange", apart := false }
def FnChangeSaid : Prop := fnChangeRow.holds Try.pinned (OpenSpec.ofChange fnChangeSpec)

/-- ITS FALSE NEIGHBOUR: 'it returns false'. Refute it at one input. -/
def fnChangeWrong : ChangeSpec := { name := "fnChange", fn := fun _ => fun
  | [d] => { results := [.lit (.bool false)], args := [d] }
  | _ => none }
def FnChangeWrongFalsely : Prop := fnChangeRow.holds Try.pinned (OpenSpec.ofChange fnChangeWrong)

/-- 'laws.FnStamps': WHATEVER THE INPUT: true; the input reads as it did. -/
def fnStampsSpec : ChangeSpec := { name := "fnStamps", fn := fun _ => fun
  | [d] => { results := [.lit (.bool true)], args := [d] }
  | _ => none }
def fnStampsRow : OpenClaim := { program := "ytkifakepmomgfaa", sum := "b7f5a855adae0192911cebaed949392ca3a51d37efec83bacc8000fbd0857879", func := "loop.example/g00595/laws.FnStamps", spec := "fnStamps", unfollowed := true, recurses := true, apart := false }
def FnStampsSaid : Prop := fnStampsRow.holds Try.pinned (OpenSpec.ofChange fnStampsSpec)

/-- ITS FALSE NEIGHBOUR: 'it returns false'. Refute it at one input. -/
def fnStampsWrong : ChangeSpec := { name := "fnStamps", fn := fun _ => fun
  | [d] => { results := [.lit (.bool false)], args := [d] }
  | _ => none }
def FnStampsWrongFalsely : Prop := fnStampsRow.holds Try.pinned (OpenSpec.ofChange fnStampsWrong)

/-- 'laws.FnExactPairsOf': WHATEVER THE INPUT: true; the input reads as it did. -/
def fnExactPairsOfSpec : ChangeSpec := { name := "fnExactPairsOf", fn := fun _ => fun
  | [d1, d2] => { results := [.lit (.bool true)], args := [d1, d2] }
  | _ => none }
def fnExactPairsOfRow : OpenClaim := { program := "ytkifakepmomgfaa", sum := "b7f5a855adae0192911cebaed949392ca3a51d37efec83bacc8000fbd0857879", func := "loop.example/g00595/laws.FnExactPairsOf", spec := "fnExactPairsOf", unfollowed := true, recurses := true, apart := false }
def FnExactPairsOfSaid : Prop := fnExactPairsOfRow.holds Try.pinned (OpenSpec.ofChange fnExactPairsOfSpec)

/-- ITS FALSE NEIGHBOUR: 'it returns false'. Refute it at one input. -/
def fnExactPairsOfWrong : ChangeSpec := { name := "fnExactPairsOf", fn := fun _ => fun
  | [d1, d2] => { results := [.lit (.bool false)], args := [d1, d2] }
  | _ => none }
def FnExactPairsOfWrongFalsely : Prop := fnExactPairsOfRow.holds Try.pinned (OpenSpec.ofChange fnExactPairsOfWrong)

/-- 'laws.FnExactLinearBound': WHATEVER THE INPUT: true; the input reads as it did. -/
def fnExactLinearBoundSpec : ChangeSpec := { name := "fnExactLinearBound", fn := fun _ => fun
  | [d1, d2] => { results := [.lit (.bool true)], args := [d1, d2] }
  | _ => none }
def fnExactLinearBoundRow : OpenClaim := { program := "ytkifakepmomgfaa", sum := "b7f5a855adae0192911cebaed949392ca3a51d37efec83bacc8000fbd0857879", func := "loop.example/g00595/laws.FnExactLinearBound", spec := "fnExactLinearBound", apart := false }
def FnExactLinearBoundSaid : Prop := fnExactLinearBoundRow.holds Try.pinned (OpenSpec.ofChange fnExactLinearBoundSpec)

/-- ITS FALSE NEIGHBOUR: 'it returns false'. Refute it at one input. -/
def fnExactLinearBoundWrong : ChangeSpec := { name := "fnExactLinearBound", fn := fun _ => fun
  | [d1, d2] => { results := [.lit (.bool false)], args := [d1, d2] }
  | _ => none }
def FnExactLinearBoundWrongFalsely : Prop := fnExactLinearBoundRow.holds Try.pinned (OpenSpec.ofChange fnExactLinearBoundWrong)

/- THE SECOND FORM. 'bulk': how many values and letters a reading holds, each counted each time it is reached (what is shared counts as often as it is met; a slice's spare places count too). A statement '..UptoSaid' is the law's where the arguments, and the package variables that the reading takes, are together of bulk at most 1048576: NARROWER than '..Said'. Prove '..Said' where nothing that the law and all that it calls make is longer than what came in: it says more and counts as full. Else prove '..UptoSaid'. A law counts once. -/
mutual
def uptoBulk {H : Type} : DataW H → Nat
  | .lit (.string bytes) => bytes.length + 1
  | .lit _ => 1
  | .nil => 1
  | .ptr d => uptoBulk d + 1
  | .slice elems spare => uptoBulkAll elems + uptoBulkAll spare + 1
  | .agg parts => uptoBulkAll parts + 1
  | .iface _ d => uptoBulk d + 1
  | .map entries => uptoBulkEntries entries + 1
  | .held _ => 1
def uptoBulkAll {H : Type} : List (DataW H) → Nat
  | [] => 0
  | d :: r => uptoBulk d + uptoBulkAll r
def uptoBulkEntries {H : Type} : List (Lit × DataW H) → Nat
  | [] => 0
  | x :: r => uptoBulkEntry x + uptoBulkEntries r
def uptoBulkEntry {H : Type} : Lit × DataW H → Nat
  | (.string bytes, d) => bytes.length + uptoBulk d + 1
  | (_, d) => uptoBulk d + 1
 end
def uptoSmall : (H : Type) → List (DataW H) → Bool := fun _ ds => decide (uptoBulkAll ds ≤ 1048576)
def OpenSpec.upto (s : _root_.Go.ChangeSpec) : _root_.Go.OpenSpec := { _root_.Go.OpenSpec.ofChange s with cond := some uptoSmall }

/-- 'laws.FnExactStampsFor', WHERE WHAT IT READS IS OF BULK AT MOST 1048576: true; the input reads as it did. -/
def fnExactStampsForUptoRow : OpenClaim := { program := "ytkifakepmomgfaa", sum := "b7f5a855adae0192911cebaed949392ca3a51d37efec83bacc8000fbd0857879", func := "loop.example/g00595/laws.FnExactStampsFor", spec := "fnExactStampsFor", apart := false, narrowed := true }
def FnExactStampsForUptoSaid : Prop := fnExactStampsForUptoRow.holds Try.pinned (OpenSpec.upto fnExactStampsForSpec)

/-- 'laws.FnExactFirstWaste', WHERE WHAT IT READS IS OF BULK AT MOST 1048576: true; the input reads as it did. -/
def fnExactFirstWasteUptoRow : OpenClaim := { program := "ytkifakepmomgfaa", sum := "b7f5a855adae0192911cebaed949392ca3a51d37efec83bacc8000fbd0857879", func := "loop.example/g00595/laws.FnExactFirstWaste", spec := "fnExactFirstWaste", apart := false, narrowed := true }
def FnExactFirstWasteUptoSaid : Prop := fnExactFirstWasteUptoRow.holds Try.pinned (OpenSpec.upto fnExactFirstWasteSpec)

/-- 'laws.FnExactIsOrderly', WHERE WHAT IT READS IS OF BULK AT MOST 1048576: true; the input reads as it did. -/
def fnExactIsOrderlyUptoRow : OpenClaim := { program := "ytkifakepmomgfaa", sum := "b7f5a855adae0192911cebaed949392ca3a51d37efec83bacc8000fbd0857879", func := "loop.example/g00595/laws.FnExactIsOrderly", spec := "fnExactIsOrderly", apart := false, narrowed := true }
def FnExactIsOrderlyUptoSaid : Prop := fnExactIsOrderlyUptoRow.holds Try.pinned (OpenSpec.upto fnExactIsOrderlySpec)

/-- 'laws.FnExactBestStamps', WHERE WHAT IT READS IS OF BULK AT MOST 1048576: true; the input reads as it did. -/
def fnExactBestStampsUptoRow : OpenClaim := { program := "ytkifakepmomgfaa", sum := "b7f5a855adae0192911cebaed949392ca3a51d37efec83bacc8000fbd0857879", func := "loop.example/g00595/laws.FnExactBestStamps", spec := "fnExactBestStamps", unfollowed := true, recurses := true, apart := false, narrowed := true }
def FnExactBestStampsUptoSaid : Prop := fnExactBestStampsUptoRow.holds Try.pinned (OpenSpec.upto fnExactBestStampsSpec)

/-- 'laws.FnExactIsTelescopic', WHERE WHAT IT READS IS OF BULK AT MOST 1048576: true; the input reads as it did. -/
def fnExactIsTelescopicUptoRow : OpenClaim := { program := "ytkifakepmomgfaa", sum := "b7f5a855adae0192911cebaed949392ca3a51d37efec83bacc8000fbd0857879", func := "loop.example/g00595/laws.FnExactIsTelescopic", spec := "fnExactIsTelescopic", apart := false, narrowed := true }
def FnExactIsTelescopicUptoSaid : Prop := fnExactIsTelescopicUptoRow.holds Try.pinned (OpenSpec.upto fnExactIsTelescopicSpec)

/-- 'laws.FnExactTelescopicFrobenius', WHERE WHAT IT READS IS OF BULK AT MOST 1048576: true; the input reads as it did. -/
def fnExactTelescopicFrobeniusUptoRow : OpenClaim := { program := "ytkifakepmomgfaa", sum := "b7f5a855adae0192911cebaed949392ca3a51d37efec83bacc8000fbd0857879", func := "loop.example/g00595/laws.FnExactTelescopicFrobenius", spec := "fnExactTelescopicFrobenius", apart := false, narrowed := true }
def FnExactTelescopicFrobeniusUptoSaid : Prop := fnExactTelescopicFrobeniusUptoRow.holds Try.pinned (OpenSpec.upto fnExactTelescopicFrobeniusSpec)

/-- 'laws.FnExactEqualSession', WHERE WHAT IT READS IS OF BULK AT MOST 1048576: true; the input reads as it did. -/
def fnExactEqualSessionUptoRow : OpenClaim := { program := "ytkifakepmomgfaa", sum := "b7f5a855adae0192911cebaed949392ca3a51d37efec83bacc8000fbd0857879", func := "loop.example/g00595/laws.FnExactEqualSession", spec := "fnExactEqualSession", apart := false, narrowed := true }
def FnExactEqualSessionUptoSaid : Prop := fnExactEqualSessionUptoRow.holds Try.pinned (OpenSpec.upto fnExactEqualSessionSpec)

/-- 'laws.FnFew', WHERE WHAT IT READS IS OF BULK AT MOST 1048576: true; the input reads as it did. -/
def fnFewUptoRow : OpenClaim := { program := "ytkifakepmomgfaa", sum := "b7f5a855adae0192911cebaed949392ca3a51d37efec83bacc8000fbd0857879", func := "loop.example/g00595/laws.FnFew", spec := "fnFew", apart := false, narrowed := true }
def FnFewUptoSaid : Prop := fnFewUptoRow.holds Try.pinned (OpenSpec.upto fnFewSpec)

/-- 'laws.FnChange', WHERE WHAT IT READS IS OF BULK AT MOST 1048576: true; the input reads as it did. -/
def fnChangeUptoRow : OpenClaim := { program := "ytkifakepmomgfaa", sum := "b7f5a855adae0192911cebaed949392ca3a51d37efec83bacc8000fbd0857879", func := "loop.example/g00595/laws.FnChange", spec := "fnChange", apart := false, narrowed := true }
def FnChangeUptoSaid : Prop := fnChangeUptoRow.holds Try.pinned (OpenSpec.upto fnChangeSpec)

/-- 'laws.FnStamps', WHERE WHAT IT READS IS OF BULK AT MOST 1048576: true; the input reads as it did. -/
def fnStampsUptoRow : OpenClaim := { program := "ytkifakepmomgfaa", sum := "b7f5a855adae0192911cebaed949392ca3a51d37efec83bacc8000fbd0857879", func := "loop.example/g00595/laws.FnStamps", spec := "fnStamps", unfollowed := true, recurses := true, apart := false, narrowed := true }
def FnStampsUptoSaid : Prop := fnStampsUptoRow.holds Try.pinned (OpenSpec.upto fnStampsSpec)

/-- 'laws.FnExactPairsOf', WHERE WHAT IT READS IS OF BULK AT MOST 1048576: true; the input reads as it did. -/
def fnExactPairsOfUptoRow : OpenClaim := { program := "ytkifakepmomgfaa", sum := "b7f5a855adae0192911cebaed949392ca3a51d37efec83bacc8000fbd0857879", func := "loop.example/g00595/laws.FnExactPairsOf", spec := "fnExactPairsOf", unfollowed := true, recurses := true, apart := false, narrowed := true }
def FnExactPairsOfUptoSaid : Prop := fnExactPairsOfUptoRow.holds Try.pinned (OpenSpec.upto fnExactPairsOfSpec)

/-- 'laws.FnExactLinearBound', WHERE WHAT IT READS IS OF BULK AT MOST 1048576: true; the input reads as it did. -/
def fnExactLinearBoundUptoRow : OpenClaim := { program := "ytkifakepmomgfaa", sum := "b7f5a855adae0192911cebaed949392ca3a51d37efec83bacc8000fbd0857879", func := "loop.example/g00595/laws.FnExactLinearBound", spec := "fnExactLinearBound", apart := false, narrowed := true }
def FnExactLinearBoundUptoSaid : Prop := fnExactLinearBoundUptoRow.holds Try.pinned (OpenSpec.upto fnExactLinearBoundSpec)

end Rows
end Go.Proofs.Ytkifakepmomgfaa
