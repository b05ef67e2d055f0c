/- The law FnExactPairFrobenius holds of the given program for every input that its row lets in: what is proved is its pure statement, from which the printed row follows. Conditions: those of the given statement alone. -/
import Derived.Test.YtllhjnaiobpghaaEBa
import Derived.Test.YtllhjnaiobpghaaEPairWays
import Derived.Test.YtllhjnaiobpghaaPAx3
import Derived.Test.YtllhjnaiobpghaaPAx4
namespace Go.Proofs.Ytllhjnaiobpghaa.Pure
open Go.RowKit Go.Proofs.Ytllhjnaiobpghaa.PA Go.Proofs.Ytllhjnaiobpghaa.E Go.Proofs.YtllhjnaiobpghaaW.PrintWords Go.Proofs.YtllhjnaiobpghaaW.PrintLast Go.Proofs.YtllhjnaiobpghaaW.PrintMore
set_option linter.unusedVariables false
set_option linter.unusedSimpArgs false
theorem FnExactPairFrobenius : laws_FnExactPairFrobenius.Pure := by
  intro a b h1 h2
  apply Ev.rounds
  unfold laws_FnExactPairFrobenius.f spec_PairFrobenius.f impl_PairFrobenius.f
  by_cases h : PairOk a b
  · exact ev_bind _ (ev_bind _ (pairS_ev a b) (ev_ifp (by simpa using h) (Ev.now _))) (ev_bind _ (ev_bind _ (pairI_ev a b) (ev_ifp (by simpa using h) (Ev.now _))) (ev_ifp rfl (Ev.now _)))
  · exact ev_bind _ (ev_bind _ (pairS_ev a b) (ev_ifn (by simpa using h) (Ev.now _))) (ev_bind _ (ev_bind _ (pairI_ev a b) (ev_ifn (by simpa using h) (Ev.now _))) (ev_ifp rfl (Ev.now _)))

end Go.Proofs.Ytllhjnaiobpghaa.Pure
