/- The law FnExactPairWays holds of the given program for every input that its row lets in: what is proved is its pure statement, from which the printed row follows. Conditions: those of the given statement alone. -/
import Derived.Test.YtllhjnaiobpghaaEBa
import Derived.Test.YtllhjnaiobpghaaEPairWays
import Derived.Test.YtllhjnaiobpghaaPAx4
namespace Go.Proofs.Ytllhjnaiobpghaa.Pure
open Go.RowKit Go.Proofs.Ytllhjnaiobpghaa.PA Go.Proofs.Ytllhjnaiobpghaa.E Go.Proofs.YtllhjnaiobpghaaW.PrintWords Go.Proofs.YtllhjnaiobpghaaW.PrintLast Go.Proofs.YtllhjnaiobpghaaW.PrintMore
set_option linter.unusedVariables false
set_option linter.unusedSimpArgs false
theorem FnExactPairWays : laws_FnExactPairWays.Pure := by
  intro a b n h1 h2 h3
  apply Ev.rounds
  unfold laws_FnExactPairWays.f
  obtain ⟨r, hi, hs⟩ := pairWays_ev a b n
  exact ev_bind _ hs (ev_bind _ hi (ev_ifp rfl (Ev.now _)))

end Go.Proofs.Ytllhjnaiobpghaa.Pure
