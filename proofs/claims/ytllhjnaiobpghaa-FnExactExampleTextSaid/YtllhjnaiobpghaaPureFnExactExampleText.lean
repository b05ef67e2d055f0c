/- The law FnExactExampleText holds of the given program for every input that its row lets in: what is proved is its pure statement, from which the printed row follows. Conditions: those of the given statement alone. -/
import Derived.Test.YtllhjnaiobpghaaEBa
import Derived.Test.YtllhjnaiobpghaaEBasic
import Derived.Test.YtllhjnaiobpghaaPAx1
namespace Go.Proofs.Ytllhjnaiobpghaa.Pure
open Go.RowKit Go.Proofs.Ytllhjnaiobpghaa.PA Go.Proofs.Ytllhjnaiobpghaa.E Go.Proofs.YtllhjnaiobpghaaW.PrintWords Go.Proofs.YtllhjnaiobpghaaW.PrintLast Go.Proofs.YtllhjnaiobpghaaW.PrintMore
set_option linter.unusedVariables false
set_option linter.unusedSimpArgs false
theorem ex_of {a : Int} {x : ByteArray} (h1 : spec_ExampleText.f a = some x) (h2 : impl_ExampleText.f a = some x) : laws_FnExactExampleText.f a = some true := by
  unfold laws_FnExactExampleText.f
  rw [h1, h2]
  exact if_pos rfl
theorem FnExactExampleText : laws_FnExactExampleText.Pure := by
  intro a h
  have hw := wf64 h
  by_cases h1 : a = 1
  · subst h1; exact ex_of (x := ⟨#[60, 51, 44, 53, 62]⟩) rfl (by decide +kernel)
  by_cases h2 : a = 2
  · subst h2; exact ex_of (x := ⟨#[60, 52, 44, 54, 44, 57, 62]⟩) rfl (by decide +kernel)
  by_cases h3 : a = 3
  · subst h3; exact ex_of (x := ⟨#[60, 54, 44, 57, 44, 50, 48, 62]⟩) rfl (by decide +kernel)
  by_cases h4 : a = 4
  · subst h4; exact ex_of (x := ⟨#[60, 51, 44, 52, 44, 53, 62]⟩) rfl (by decide +kernel)
  by_cases h5 : a = 5
  · subst h5; exact ex_of (x := ⟨#[60, 49, 62]⟩) rfl (by decide +kernel)
  by_cases h6 : a = 6
  · subst h6; exact ex_of (x := ⟨#[60, 53, 44, 55, 44, 57, 44, 49, 49, 62]⟩) rfl (by decide +kernel)
  refine ex_of (x := ⟨#[]⟩) ?_ ?_
  · unfold spec_ExampleText.f
    rw [if_neg h1, if_neg h2, if_neg h3, if_neg h4, if_neg h5, if_neg h6]
  · unfold impl_ExampleText.f
    simp only [within_eq, Option.bind_some]
    exact if_neg (by simp; omega)

end Go.Proofs.Ytllhjnaiobpghaa.Pure
