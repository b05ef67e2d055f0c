/- The law FnExactFewestCoins holds of the given program for every input that its row lets in: what is proved is its pure statement, from which the printed row follows. Conditions: those of the given statement alone. -/
import Derived.Test.YtllhjnaiobpghaaEBa
import Derived.Test.YtllhjnaiobpghaaECoins
import Derived.Test.YtllhjnaiobpghaaELawHelp
import Derived.Test.YtllhjnaiobpghaaPAx10
namespace Go.Proofs.Ytllhjnaiobpghaa.Pure
open Go.RowKit Go.Proofs.Ytllhjnaiobpghaa.PA Go.Proofs.Ytllhjnaiobpghaa.E Go.Proofs.YtllhjnaiobpghaaW.PrintWords Go.Proofs.YtllhjnaiobpghaaW.PrintLast Go.Proofs.YtllhjnaiobpghaaW.PrintMore
set_option linter.unusedVariables false
set_option linter.unusedSimpArgs false
theorem FnExactFewestCoins : laws_FnExactFewestCoins.Pure := by
  intro l0 a1 h1 h2 h3 h4
  apply Ev.rounds
  unfold laws_FnExactFewestCoins.f
  by_cases h : (l0.length : Int) > 1048576
  · exact ev_ifp h (Ev.now _)
  have hl : l0.length ≤ 1048576 := by omega
  obtain ⟨r, hi, hs, _⟩ := fewCoins_ev l0 a1 (by omega)
  exact ev_ifn h (ev_bind _ (toIntS_ev hl) (ev_bind _ hs (ev_bind _ (toIntS_ev hl) (ev_bind _ hi (ev_ifp rfl (ev_bind _ (toIntS_ev hl) (ev_bind _ (eqIntS_same (by omega)) (ev_ifp rfl (Ev.now _)))))))))

end Go.Proofs.Ytllhjnaiobpghaa.Pure
