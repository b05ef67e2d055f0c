/-
  No cell of these rows narrows 'for every input' (looked for: loops, veiled, ifaces, maps, wideKeys, modest, calm, conditions, laid).
  DERIVED. THE GIVEN ROWS OF THIS SEAT. 12 by the template 'for every input the law returns true; each argument reads behind the call as it read before'; 0 by the template 'total and deterministic' (their statements: YtllhjnaiobpghaaTotals.lean).
  GIVEN WITH THE SEED: the statements are not yours to turn. If you find one false, say at which input.
  Laid BY PROGRAM, IN A SANDBOX (cutbox-rows.mjs): the forced cells as the released guide's own fill.sh prints them over the translation e6570287ed537ad9… (all of the seat's roots in one cut). By AI agents, Wed Nov 11 2026. No macro, syntax, notation, axiom, sorry.
-/
import Derived.Test.YtllhjnaiobpghaaChecked
import GoSem.Claim
import GoSem.ClaimJoined
import GoSem.ClaimMapViews
import Derived.JoinedTies
import Derived.KernelRfl
namespace Go.Proofs.Ytllhjnaiobpghaa
/- THE CELL 'sum', in the pinned program and in every row, IS THE sha256 OF THE DUMP (.gsa) THAT YtllhjnaiobpghaaProg.lean LOADS. Nothing in Lean hashes anything: it is a label: what it is worth is what the hold of that sum in a sandbox is worth. -/
noncomputable def Try.pinned : Pinned := { name := "ytllhjnaiobpghaa", sum := "e6570287ed537ad9cc3889109f04451409dfc24c75eff9bfc15f6038750bd060", checked := Try.checked }
namespace Rows
def none {H : Type} : Left H := { results := [], args := [] }

/-- 'laws.FnExactExampleText': WHATEVER THE INPUT: true; the input reads as it did. -/
def fnExactExampleTextSpec : ChangeSpec := { name := "fnExactExampleText", fn := fun _ => fun
  | [d] => { results := [.lit (.bool true)], args := [d] }
  | _ => none }
def fnExactExampleTextRow : OpenClaim := { program := "ytllhjnaiobpghaa", sum := "e6570287ed537ad9cc3889109f04451409dfc24c75eff9bfc15f6038750bd060", func := "loop.example/g00595/laws.FnExactExampleText", spec := "fnExactExampleText", apart := false }
def FnExactExampleTextSaid : Prop := fnExactExampleTextRow.holds Try.pinned (OpenSpec.ofChange fnExactExampleTextSpec)

/-- ITS FALSE NEIGHBOUR: 'it returns false'. Refute it at one input. -/
def fnExactExampleTextWrong : ChangeSpec := { name := "fnExactExampleText", fn := fun _ => fun
  | [d] => { results := [.lit (.bool false)], args := [d] }
  | _ => none }
def FnExactExampleTextWrongFalsely : Prop := fnExactExampleTextRow.holds Try.pinned (OpenSpec.ofChange fnExactExampleTextWrong)

/-- 'laws.FnExactRunFrobenius': WHATEVER THE INPUT: true; the input reads as it did. -/
def fnExactRunFrobeniusSpec : ChangeSpec := { name := "fnExactRunFrobenius", fn := fun _ => fun
  | [d1, d2, d3] => { results := [.lit (.bool true)], args := [d1, d2, d3] }
  | _ => none }
def fnExactRunFrobeniusRow : OpenClaim := { program := "ytllhjnaiobpghaa", sum := "e6570287ed537ad9cc3889109f04451409dfc24c75eff9bfc15f6038750bd060", func := "loop.example/g00595/laws.FnExactRunFrobenius", spec := "fnExactRunFrobenius", apart := false }
def FnExactRunFrobeniusSaid : Prop := fnExactRunFrobeniusRow.holds Try.pinned (OpenSpec.ofChange fnExactRunFrobeniusSpec)

/-- ITS FALSE NEIGHBOUR: 'it returns false'. Refute it at one input. -/
def fnExactRunFrobeniusWrong : ChangeSpec := { name := "fnExactRunFrobenius", fn := fun _ => fun
  | [d1, d2, d3] => { results := [.lit (.bool false)], args := [d1, d2, d3] }
  | _ => none }
def FnExactRunFrobeniusWrongFalsely : Prop := fnExactRunFrobeniusRow.holds Try.pinned (OpenSpec.ofChange fnExactRunFrobeniusWrong)

/-- 'laws.FnExactAreCoins': WHATEVER THE INPUT: true; the input reads as it did. -/
def fnExactAreCoinsSpec : ChangeSpec := { name := "fnExactAreCoins", fn := fun _ => fun
  | [d] => { results := [.lit (.bool true)], args := [d] }
  | _ => none }
def fnExactAreCoinsRow : OpenClaim := { program := "ytllhjnaiobpghaa", sum := "e6570287ed537ad9cc3889109f04451409dfc24c75eff9bfc15f6038750bd060", func := "loop.example/g00595/laws.FnExactAreCoins", spec := "fnExactAreCoins", apart := false }
def FnExactAreCoinsSaid : Prop := fnExactAreCoinsRow.holds Try.pinned (OpenSpec.ofChange fnExactAreCoinsSpec)

/-- ITS FALSE NEIGHBOUR: 'it returns false'. Refute it at one input. -/
def fnExactAreCoinsWrong : ChangeSpec := { name := "fnExactAreCoins", fn := fun _ => fun
  | [d] => { results := [.lit (.bool false)], args := [d] }
  | _ => none }
def FnExactAreCoinsWrongFalsely : Prop := fnExactAreCoinsRow.holds Try.pinned (OpenSpec.ofChange fnExactAreCoinsWrong)

/-- 'laws.FnExactAreStamps': WHATEVER THE INPUT: true; the input reads as it did. -/
def fnExactAreStampsSpec : ChangeSpec := { name := "fnExactAreStamps", fn := fun _ => fun
  | [d] => { results := [.lit (.bool true)], args := [d] }
  | _ => none }
def fnExactAreStampsRow : OpenClaim := { program := "ytllhjnaiobpghaa", sum := "e6570287ed537ad9cc3889109f04451409dfc24c75eff9bfc15f6038750bd060", func := "loop.example/g00595/laws.FnExactAreStamps", spec := "fnExactAreStamps", apart := false }
def FnExactAreStampsSaid : Prop := fnExactAreStampsRow.holds Try.pinned (OpenSpec.ofChange fnExactAreStampsSpec)

/-- ITS FALSE NEIGHBOUR: 'it returns false'. Refute it at one input. -/
def fnExactAreStampsWrong : ChangeSpec := { name := "fnExactAreStamps", fn := fun _ => fun
  | [d] => { results := [.lit (.bool false)], args := [d] }
  | _ => none }
def FnExactAreStampsWrongFalsely : Prop := fnExactAreStampsRow.holds Try.pinned (OpenSpec.ofChange fnExactAreStampsWrong)

/-- 'laws.FnExactPairFrobenius': WHATEVER THE INPUT: true; the input reads as it did. -/
def fnExactPairFrobeniusSpec : ChangeSpec := { name := "fnExactPairFrobenius", fn := fun _ => fun
  | [d1, d2] => { results := [.lit (.bool true)], args := [d1, d2] }
  | _ => none }
def fnExactPairFrobeniusRow : OpenClaim := { program := "ytllhjnaiobpghaa", sum := "e6570287ed537ad9cc3889109f04451409dfc24c75eff9bfc15f6038750bd060", func := "loop.example/g00595/laws.FnExactPairFrobenius", spec := "fnExactPairFrobenius", apart := false }
def FnExactPairFrobeniusSaid : Prop := fnExactPairFrobeniusRow.holds Try.pinned (OpenSpec.ofChange fnExactPairFrobeniusSpec)

/-- ITS FALSE NEIGHBOUR: 'it returns false'. Refute it at one input. -/
def fnExactPairFrobeniusWrong : ChangeSpec := { name := "fnExactPairFrobenius", fn := fun _ => fun
  | [d1, d2] => { results := [.lit (.bool false)], args := [d1, d2] }
  | _ => none }
def FnExactPairFrobeniusWrongFalsely : Prop := fnExactPairFrobeniusRow.holds Try.pinned (OpenSpec.ofChange fnExactPairFrobeniusWrong)

/-- 'laws.FnExactPairGenus': WHATEVER THE INPUT: true; the input reads as it did. -/
def fnExactPairGenusSpec : ChangeSpec := { name := "fnExactPairGenus", fn := fun _ => fun
  | [d1, d2] => { results := [.lit (.bool true)], args := [d1, d2] }
  | _ => none }
def fnExactPairGenusRow : OpenClaim := { program := "ytllhjnaiobpghaa", sum := "e6570287ed537ad9cc3889109f04451409dfc24c75eff9bfc15f6038750bd060", func := "loop.example/g00595/laws.FnExactPairGenus", spec := "fnExactPairGenus", apart := false }
def FnExactPairGenusSaid : Prop := fnExactPairGenusRow.holds Try.pinned (OpenSpec.ofChange fnExactPairGenusSpec)

/-- ITS FALSE NEIGHBOUR: 'it returns false'. Refute it at one input. -/
def fnExactPairGenusWrong : ChangeSpec := { name := "fnExactPairGenus", fn := fun _ => fun
  | [d1, d2] => { results := [.lit (.bool false)], args := [d1, d2] }
  | _ => none }
def FnExactPairGenusWrongFalsely : Prop := fnExactPairGenusRow.holds Try.pinned (OpenSpec.ofChange fnExactPairGenusWrong)

/-- 'laws.FnExactPairWays': WHATEVER THE INPUT: true; the input reads as it did. -/
def fnExactPairWaysSpec : ChangeSpec := { name := "fnExactPairWays", fn := fun _ => fun
  | [d1, d2, d3] => { results := [.lit (.bool true)], args := [d1, d2, d3] }
  | _ => none }
def fnExactPairWaysRow : OpenClaim := { program := "ytllhjnaiobpghaa", sum := "e6570287ed537ad9cc3889109f04451409dfc24c75eff9bfc15f6038750bd060", func := "loop.example/g00595/laws.FnExactPairWays", spec := "fnExactPairWays", apart := false }
def FnExactPairWaysSaid : Prop := fnExactPairWaysRow.holds Try.pinned (OpenSpec.ofChange fnExactPairWaysSpec)

/-- ITS FALSE NEIGHBOUR: 'it returns false'. Refute it at one input. -/
def fnExactPairWaysWrong : ChangeSpec := { name := "fnExactPairWays", fn := fun _ => fun
  | [d1, d2, d3] => { results := [.lit (.bool false)], args := [d1, d2, d3] }
  | _ => none }
def FnExactPairWaysWrongFalsely : Prop := fnExactPairWaysRow.holds Try.pinned (OpenSpec.ofChange fnExactPairWaysWrong)

/-- 'laws.FnExactGreedyChange': WHATEVER THE INPUT: true; the input reads as it did. -/
def fnExactGreedyChangeSpec : ChangeSpec := { name := "fnExactGreedyChange", fn := fun _ => fun
  | [d1, d2] => { results := [.lit (.bool true)], args := [d1, d2] }
  | _ => none }
def fnExactGreedyChangeRow : OpenClaim := { program := "ytllhjnaiobpghaa", sum := "e6570287ed537ad9cc3889109f04451409dfc24c75eff9bfc15f6038750bd060", func := "loop.example/g00595/laws.FnExactGreedyChange", spec := "fnExactGreedyChange", apart := false }
def FnExactGreedyChangeSaid : Prop := fnExactGreedyChangeRow.holds Try.pinned (OpenSpec.ofChange fnExactGreedyChangeSpec)

/-- ITS FALSE NEIGHBOUR: 'it returns false'. Refute it at one input. -/
def fnExactGreedyChangeWrong : ChangeSpec := { name := "fnExactGreedyChange", fn := fun _ => fun
  | [d1, d2] => { results := [.lit (.bool false)], args := [d1, d2] }
  | _ => none }
def FnExactGreedyChangeWrongFalsely : Prop := fnExactGreedyChangeRow.holds Try.pinned (OpenSpec.ofChange fnExactGreedyChangeWrong)

/-- 'laws.FnExactLeastInSum': WHATEVER THE INPUT: true; the input reads as it did. -/
def fnExactLeastInSumSpec : ChangeSpec := { name := "fnExactLeastInSum", fn := fun _ => fun
  | [d1, d2] => { results := [.lit (.bool true)], args := [d1, d2] }
  | _ => none }
def fnExactLeastInSumRow : OpenClaim := { program := "ytllhjnaiobpghaa", sum := "e6570287ed537ad9cc3889109f04451409dfc24c75eff9bfc15f6038750bd060", func := "loop.example/g00595/laws.FnExactLeastInSum", spec := "fnExactLeastInSum", apart := false }
def FnExactLeastInSumSaid : Prop := fnExactLeastInSumRow.holds Try.pinned (OpenSpec.ofChange fnExactLeastInSumSpec)

/-- ITS FALSE NEIGHBOUR: 'it returns false'. Refute it at one input. -/
def fnExactLeastInSumWrong : ChangeSpec := { name := "fnExactLeastInSum", fn := fun _ => fun
  | [d1, d2] => { results := [.lit (.bool false)], args := [d1, d2] }
  | _ => none }
def FnExactLeastInSumWrongFalsely : Prop := fnExactLeastInSumRow.holds Try.pinned (OpenSpec.ofChange fnExactLeastInSumWrong)

/-- 'laws.FnExactFewestCoins': WHATEVER THE INPUT: true; the input reads as it did. -/
def fnExactFewestCoinsSpec : ChangeSpec := { name := "fnExactFewestCoins", fn := fun _ => fun
  | [d1, d2] => { results := [.lit (.bool true)], args := [d1, d2] }
  | _ => none }
def fnExactFewestCoinsRow : OpenClaim := { program := "ytllhjnaiobpghaa", sum := "e6570287ed537ad9cc3889109f04451409dfc24c75eff9bfc15f6038750bd060", func := "loop.example/g00595/laws.FnExactFewestCoins", spec := "fnExactFewestCoins", apart := false }
def FnExactFewestCoinsSaid : Prop := fnExactFewestCoinsRow.holds Try.pinned (OpenSpec.ofChange fnExactFewestCoinsSpec)

/-- ITS FALSE NEIGHBOUR: 'it returns false'. Refute it at one input. -/
def fnExactFewestCoinsWrong : ChangeSpec := { name := "fnExactFewestCoins", fn := fun _ => fun
  | [d1, d2] => { results := [.lit (.bool false)], args := [d1, d2] }
  | _ => none }
def FnExactFewestCoinsWrongFalsely : Prop := fnExactFewestCoinsRow.holds Try.pinned (OpenSpec.ofChange fnExactFewestCoinsWrong)

/-- 'laws.FnExactReachOf': WHATEVER THE INPUT: true; the input reads as it did. -/
def fnExactReachOfSpec : ChangeSpec := { name := "fnExactReachOf", fn := fun _ => fun
  | [d1, d2] => { results := [.lit (.bool true)], args := [d1, d2] }
  | _ => none }
def fnExactReachOfRow : OpenClaim := { program := "ytllhjnaiobpghaa", sum := "e6570287ed537ad9cc3889109f04451409dfc24c75eff9bfc15f6038750bd060", func := "loop.example/g00595/laws.FnExactReachOf", spec := "fnExactReachOf", apart := false }
def FnExactReachOfSaid : Prop := fnExactReachOfRow.holds Try.pinned (OpenSpec.ofChange fnExactReachOfSpec)

/-- ITS FALSE NEIGHBOUR: 'it returns false'. Refute it at one input. -/
def fnExactReachOfWrong : ChangeSpec := { name := "fnExactReachOf", fn := fun _ => fun
  | [d1, d2] => { results := [.lit (.bool false)], args := [d1, d2] }
  | _ => none }
def FnExactReachOfWrongFalsely : Prop := fnExactReachOfRow.holds Try.pinned (OpenSpec.ofChange fnExactReachOfWrong)

/-- 'laws.FnExactBestChange': WHATEVER THE INPUT: true; the input reads as it did. -/
def fnExactBestChangeSpec : ChangeSpec := { name := "fnExactBestChange", fn := fun _ => fun
  | [d1, d2] => { results := [.lit (.bool true)], args := [d1, d2] }
  | _ => none }
def fnExactBestChangeRow : OpenClaim := { program := "ytllhjnaiobpghaa", sum := "e6570287ed537ad9cc3889109f04451409dfc24c75eff9bfc15f6038750bd060", func := "loop.example/g00595/laws.FnExactBestChange", spec := "fnExactBestChange", apart := false }
def FnExactBestChangeSaid : Prop := fnExactBestChangeRow.holds Try.pinned (OpenSpec.ofChange fnExactBestChangeSpec)

/-- ITS FALSE NEIGHBOUR: 'it returns false'. Refute it at one input. -/
def fnExactBestChangeWrong : ChangeSpec := { name := "fnExactBestChange", fn := fun _ => fun
  | [d1, d2] => { results := [.lit (.bool false)], args := [d1, d2] }
  | _ => none }
def FnExactBestChangeWrongFalsely : Prop := fnExactBestChangeRow.holds Try.pinned (OpenSpec.ofChange fnExactBestChangeWrong)

/- THE SECOND FORM. 'bulk': how many values and letters a reading holds, each counted each time it is reached (what is shared counts as often as it is met; a slice's spare places count too). A statement '..UptoSaid' is the law's where the arguments, and the package variables that the reading takes, are together of bulk at most 1048576: NARROWER than '..Said'. Prove '..Said' where nothing that the law and all that it calls make is longer than what came in: it says more and counts as full. Else prove '..UptoSaid'. A law counts once. -/
mutual
def uptoBulk {H : Type} : DataW H → Nat
  | .lit (.string bytes) => bytes.length + 1
  | .lit _ => 1
  | .nil => 1
  | .ptr d => uptoBulk d + 1
  | .slice elems spare => uptoBulkAll elems + uptoBulkAll spare + 1
  | .agg parts => uptoBulkAll parts + 1
  | .iface _ d => uptoBulk d + 1
  | .map entries => uptoBulkEntries entries + 1
  | .held _ => 1
def uptoBulkAll {H : Type} : List (DataW H) → Nat
  | [] => 0
  | d :: r => uptoBulk d + uptoBulkAll r
def uptoBulkEntries {H : Type} : List (Lit × DataW H) → Nat
  | [] => 0
  | x :: r => uptoBulkEntry x + uptoBulkEntries r
def uptoBulkEntry {H : Type} : Lit × DataW H → Nat
  | (.string bytes, d) => bytes.length + uptoBulk d + 1
  | (_, d) => uptoBulk d + 1
 end
def uptoSmall : (H : Type) → List (DataW H) → Bool := fun _ ds => decide (uptoBulkAll ds ≤ 1048576)
def OpenSpec.upto (s : _root_.Go.ChangeSpec) : _root_.Go.OpenSpec := { _root_.Go.OpenSpec.ofChange s with cond := some uptoSmall }

/-- 'laws.FnExactExampleText', WHERE WHAT IT READS IS OF BULK AT MOST 1048576: true; the input reads as it did. -/
def fnExactExampleTextUptoRow : OpenClaim := { program := "ytllhjnaiobpghaa", sum := "e6570287ed537ad9cc3889109f04451409dfc24c75eff9bfc15f6038750bd060", func := "loop.example/g00595/laws.FnExactExampleText", spec := "fnExactExampleText", apart := false, narrowed := true }
def FnExactExampleTextUptoSaid : Prop := fnExactExampleTextUptoRow.holds Try.pinned (OpenSpec.upto fnExactExampleTextSpec)

/-- 'laws.FnExactRunFrobenius', WHERE WHAT IT READS IS OF BULK AT MOST 1048576: true; the input reads as it did. -/
def fnExactRunFrobeniusUptoRow : OpenClaim := { program := "ytllhjnaiobpghaa", sum := "e6570287ed537ad9cc3889109f04451409dfc24c75eff9bfc15f6038750bd060", func := "loop.example/g00595/laws.FnExactRunFrobenius", spec := "fnExactRunFrobenius", apart := false, narrowed := true }
def FnExactRunFrobeniusUptoSaid : Prop := fnExactRunFrobeniusUptoRow.holds Try.pinned (OpenSpec.upto fnExactRunFrobeniusSpec)

/-- 'laws.FnExactAreCoins', WHERE WHAT IT READS IS OF BULK AT MOST 1048576: true; the input reads as it did. -/
def fnExactAreCoinsUptoRow : OpenClaim := { program := "ytllhjnaiobpghaa", sum := "e6570287ed537ad9cc3889109f04451409dfc24c75eff9bfc15f6038750bd060", func := "loop.example/g00595/laws.FnExactAreCoins", spec := "fnExactAreCoins", apart := false, narrowed := true }
def FnExactAreCoinsUptoSaid : Prop := fnExactAreCoinsUptoRow.holds Try.pinned (OpenSpec.upto fnExactAreCoinsSpec)

/-- 'laws.FnExactAreStamps', WHERE WHAT IT READS IS OF BULK AT MOST 1048576: true; the input reads as it did. -/
def fnExactAreStampsUptoRow : OpenClaim := { program := "ytllhjnaiobpghaa", sum := "e6570287ed537ad9cc3889109f04451409dfc24c75eff9bfc15f6038750bd060", func := "loop.example/g00595/laws.FnExactAreStamps", spec := "fnExactAreStamps", apart := false, narrowed := true }
def FnExactAreStampsUptoSaid : Prop := fnExactAreStampsUptoRow.holds Try.pinned (OpenSpec.upto fnExactAreStampsSpec)

/-- 'laws.FnExactPairFrobenius', WHERE WHAT IT READS IS OF BULK AT MOST 1048576: true; the input reads as it did. -/
def fnExactPairFrobeniusUptoRow : OpenClaim := { program := "ytllhjnaiobpghaa", sum := "e6570287ed537ad9cc3889109f04451409dfc24c75eff9bfc15f6038750bd060", func := "loop.example/g00595/laws.FnExactPairFrobenius", spec := "fnExactPairFrobenius", apart := false, narrowed := true }
def FnExactPairFrobeniusUptoSaid : Prop := fnExactPairFrobeniusUptoRow.holds Try.pinned (OpenSpec.upto fnExactPairFrobeniusSpec)

/-- 'laws.FnExactPairGenus', WHERE WHAT IT READS IS OF BULK AT MOST 1048576: true; the input reads as it did. -/
def fnExactPairGenusUptoRow : OpenClaim := { program := "ytllhjnaiobpghaa", sum := "e6570287ed537ad9cc3889109f04451409dfc24c75eff9bfc15f6038750bd060", func := "loop.example/g00595/laws.FnExactPairGenus", spec := "fnExactPairGenus", apart := false, narrowed := true }
def FnExactPairGenusUptoSaid : Prop := fnExactPairGenusUptoRow.holds Try.pinned (OpenSpec.upto fnExactPairGenusSpec)

/-- 'laws.FnExactPairWays', WHERE WHAT IT READS IS OF BULK AT MOST 1048576: true; the input reads as it did. -/
def fnExactPairWaysUptoRow : OpenClaim := { program := "ytllhjnaiobpghaa", sum := "e6570287ed537ad9cc3889109f04451409dfc24c75eff9bfc15f6038750bd060", func := "loop.example/g00595/laws.FnExactPairWays", spec := "fnExactPairWays", apart := false, narrowed := true }
def FnExactPairWaysUptoSaid : Prop := fnExactPairWaysUptoRow.holds Try.pinned (OpenSpec.upto fnExactPairWaysSpec)

/-- 'laws.FnExactGreedyChange', WHERE WHAT IT READS IS OF BULK AT MOST 1048576: true; the input reads as it did. -/
def fnExactGreedyChangeUptoRow : OpenClaim := { program := "ytllhjnaiobpghaa", sum := "e6570287ed537ad9cc3889109f04451409dfc24c75eff9bfc15f6038750bd060", func := "loop.example/g00595/laws.FnExactGreedyChange", spec := "fnExactGreedyChange", apart := false, narrowed := true }
def FnExactGreedyChangeUptoSaid : Prop := fnExactGreedyChangeUptoRow.holds Try.pinned (OpenSpec.upto fnExactGreedyChangeSpec)

/-- 'laws.FnExactLeastInSum', WHERE WHAT IT READS IS OF BULK AT MOST 1048576: true; the input reads as it did. -/
def fnExactLeastInSumUptoRow : OpenClaim := { program := "ytllhjnaiobpghaa", sum := "e6570287ed537ad9cc3889109f04451409dfc24c75eff9bfc15f6038750bd060", func := "loop.example/g00595/laws.FnExactLeastInSum", spec := "fnExactLeastInSum", apart := false, narrowed := true }
def FnExactLeastInSumUptoSaid : Prop := fnExactLeastInSumUptoRow.holds Try.pinned (OpenSpec.upto fnExactLeastInSumSpec)

/-- 'laws.FnExactFewestCoins', WHERE WHAT IT READS IS OF BULK AT MOST 1048576: true; the input reads as it did. -/
def fnExactFewestCoinsUptoRow : OpenClaim := { program := "ytllhjnaiobpghaa", sum := "e6570287ed537ad9cc3889109f04451409dfc24c75eff9bfc15f6038750bd060", func := "loop.example/g00595/laws.FnExactFewestCoins", spec := "fnExactFewestCoins", apart := false, narrowed := true }
def FnExactFewestCoinsUptoSaid : Prop := fnExactFewestCoinsUptoRow.holds Try.pinned (OpenSpec.upto fnExactFewestCoinsSpec)

/-- 'laws.FnExactReachOf', WHERE WHAT IT READS IS OF BULK AT MOST 1048576: true; the input reads as it did. -/
def fnExactReachOfUptoRow : OpenClaim := { program := "ytllhjnaiobpghaa", sum := "e6570287ed537ad9cc3889109f04451409dfc24c75eff9bfc15f6038750bd060", func := "loop.example/g00595/laws.FnExactReachOf", spec := "fnExactReachOf", apart := false, narrowed := true }
def FnExactReachOfUptoSaid : Prop := fnExactReachOfUptoRow.holds Try.pinned (OpenSpec.upto fnExactReachOfSpec)

/-- 'laws.FnExactBestChange', WHERE WHAT IT READS IS OF BULK AT MOST 1048576: true; the input reads as it did. -/
def fnExactBestChangeUptoRow : OpenClaim := { program := "ytllhjnaiobpghaa", sum := "e6570287ed537ad9cc3889109f04451409dfc24c75eff9bfc15f6038750bd060", func := "loop.example/g00595/laws.FnExactBestChange", spec := "fnExactBestChange", apart := false, narrowed := true }
def FnExactBestChangeUptoSaid : Prop := fnExactBestChangeUptoRow.holds Try.pinned (OpenSpec.upto fnExactBestChangeSpec)

end Rows
end Go.Proofs.Ytllhjnaiobpghaa
