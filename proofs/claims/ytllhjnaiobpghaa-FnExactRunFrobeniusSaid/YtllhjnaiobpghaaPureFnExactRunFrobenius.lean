/- The law FnExactRunFrobenius holds of the given program for every input that its row lets in: what is proved is its pure statement, from which the printed row follows. Conditions: those of the given statement alone. -/
import Derived.Test.YtllhjnaiobpghaaEBa
import Derived.Test.YtllhjnaiobpghaaEBasic
import Derived.Test.YtllhjnaiobpghaaEGcd
import Derived.Test.YtllhjnaiobpghaaPAx1
import Derived.Test.YtllhjnaiobpghaaPAx2
namespace Go.Proofs.Ytllhjnaiobpghaa.Pure
open Go.RowKit Go.Proofs.Ytllhjnaiobpghaa.PA Go.Proofs.Ytllhjnaiobpghaa.E Go.Proofs.YtllhjnaiobpghaaW.PrintWords Go.Proofs.YtllhjnaiobpghaaW.PrintLast Go.Proofs.YtllhjnaiobpghaaW.PrintMore
set_option linter.unusedVariables false
set_option linter.unusedSimpArgs false
theorem FnExactRunFrobenius : laws_FnExactRunFrobenius.Pure := by
  intro a d k h1 h2 h3
  apply Ev.rounds
  have key : ∃ r, Ev (fun n => spec_RunFrobenius.f n a d k) r ∧ Ev (fun n => impl_RunFrobenius.f n a d k) r := by
    unfold spec_RunFrobenius.f impl_RunFrobenius.f
    simp only [within_eq, l1In_eq, Option.bind_some]
    by_cases c1 : 2 ≤ a ∧ a ≤ 1000
    · by_cases c2 : 1 ≤ d ∧ d ≤ 1000
      · by_cases c3 : gcdOf a d = 1
        · by_cases c4 : 1 ≤ k ∧ k ≤ wrap64 (a - 1)
          · exact ⟨_, ev_ifp (by simpa using c1) (ev_ifp (by simpa using c2) (ev_bind _ (gcdS_ev a d) (ev_ifp c3 (ev_ifp (by simpa using c4) (ev_ifn (by omega) (Ev.now _)))))), ev_ifp (by simpa using c1) (ev_ifp (by simpa using c2) (ev_bind _ (gcdI_ev a d) (ev_ifp c3 (ev_ifp (by simpa using c4) (ev_ifn (by omega) (Ev.now _))))))⟩
          · exact ⟨_, ev_ifp (by simpa using c1) (ev_ifp (by simpa using c2) (ev_bind _ (gcdS_ev a d) (ev_ifp c3 (ev_ifn (by simpa using c4) (Ev.now _))))), ev_ifp (by simpa using c1) (ev_ifp (by simpa using c2) (ev_bind _ (gcdI_ev a d) (ev_ifp c3 (ev_ifn (by simpa using c4) (Ev.now _)))))⟩
        · exact ⟨_, ev_ifp (by simpa using c1) (ev_ifp (by simpa using c2) (ev_bind _ (gcdS_ev a d) (ev_ifn c3 (Ev.now _)))), ev_ifp (by simpa using c1) (ev_ifp (by simpa using c2) (ev_bind _ (gcdI_ev a d) (ev_ifn c3 (Ev.now _))))⟩
      · exact ⟨_, ev_ifp (by simpa using c1) (ev_ifn (by simpa using c2) (Ev.now _)), ev_ifp (by simpa using c1) (ev_ifn (by simpa using c2) (Ev.now _))⟩
    · exact ⟨_, ev_ifn (by simpa using c1) (Ev.now _), ev_ifn (by simpa using c1) (Ev.now _)⟩
  obtain ⟨r, hs, hi⟩ := key
  unfold laws_FnExactRunFrobenius.f
  exact ev_bind _ hs (ev_bind _ hi (ev_ifp rfl (Ev.now _)))

end Go.Proofs.Ytllhjnaiobpghaa.Pure
