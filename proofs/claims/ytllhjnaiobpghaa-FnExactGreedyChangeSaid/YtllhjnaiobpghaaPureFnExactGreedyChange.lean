/- The law FnExactGreedyChange holds of the given program for every input that its row lets in: what is proved is its pure statement, from which the printed row follows. Conditions: those of the given statement alone. -/
import Derived.Test.YtllhjnaiobpghaaEBa
import Derived.Test.YtllhjnaiobpghaaEGreedy
import Derived.Test.YtllhjnaiobpghaaELawHelp
import Derived.Test.YtllhjnaiobpghaaPAx6
namespace Go.Proofs.Ytllhjnaiobpghaa.Pure
open Go.RowKit Go.Proofs.Ytllhjnaiobpghaa.PA Go.Proofs.Ytllhjnaiobpghaa.E Go.Proofs.YtllhjnaiobpghaaW.PrintWords Go.Proofs.YtllhjnaiobpghaaW.PrintLast Go.Proofs.YtllhjnaiobpghaaW.PrintMore
set_option linter.unusedVariables false
set_option linter.unusedSimpArgs false
theorem FnExactGreedyChange : laws_FnExactGreedyChange.Pure := by
  intro l0 a1 h1 h2 h3 h4
  apply Ev.rounds
  unfold laws_FnExactGreedyChange.f
  by_cases h : (l0.length : Int) > 1048576
  · exact ev_ifp h (Ev.now _)
  have hl : l0.length ≤ 1048576 := by omega
  obtain ⟨r, hr, hi, hs⟩ := greedy_ev (l := l0) a1 (by omega)
  have hr' : r.length ≤ 1048576 := by omega
  refine ev_ifn h (ev_bind _ (toIntS_ev hl) (ev_bind _ hs (ev_bind _ (toIntS_ev hl) (ev_bind _ hi (ev_bind _ (eqIntS_same (l := r) (by omega)) (ev_ifp rfl (ev_bind _ (toIntS_ev hl) (ev_bind _ (eqIntS_same (l := l0) (by omega)) (ev_ifp rfl (ev_bind _ (markIntS_ev (l := l0) (a := 1) (by omega) (by omega)) (ev_ifn (show ¬ (1 + (l0.length : Int) < 0) by omega) (ev_bind _ (eqIntS_same (l := r) (by omega)) ?_))))))))))))
  refine Ev.step (fun k => by rw [laws_FnExactGreedyChange.j0]) (ev_ifn (by simp) (ev_bind _ (markIntS_ev (l := r) (a := 1) (by omega) (by omega)) (ev_bind _ (heldIntS_ev (n := r.length) (a := 1) (by omega) (by omega)) (ev_ifn (show ¬ (1 + (r.length : Int) < 0) by omega) (ev_ifp rfl (ev_bind _ (toIntS_ev hl) (ev_bind _ hi (ev_bind _ (eqIntS_same (l := r) (by omega)) (ev_ifp rfl (ev_bind _ (heldIntS_ev (n := r.length) (a := 1) (by omega) (by omega)) (ev_ifn (show ¬ (1 + (r.length : Int) < 0) by omega) (ev_ifp rfl (Ev.now _)))))))))))))

end Go.Proofs.Ytllhjnaiobpghaa.Pure
