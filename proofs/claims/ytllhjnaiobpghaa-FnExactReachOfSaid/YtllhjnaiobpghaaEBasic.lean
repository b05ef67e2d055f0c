/- Lemmas towards the laws of this seat: within, allWithin, IsAscending, GcdOf, on both sides. Conditions: each lemma's own premises. -/
import Derived.Test.YtllhjnaiobpghaaEBa
import Derived.Test.YtllhjnaiobpghaaPAx1
import Derived.Test.YtllhjnaiobpghaaPAx2
namespace Go.Proofs.Ytllhjnaiobpghaa.E
open Go.RowKit Go.Proofs.Ytllhjnaiobpghaa.PA Go.Proofs.YtllhjnaiobpghaaW.PrintWords Go.Proofs.YtllhjnaiobpghaaW.PrintLast Go.Proofs.YtllhjnaiobpghaaW.PrintMore
set_option linter.unusedVariables false
set_option linter.unusedSimpArgs false
/-! within, allWithin, IsAscending, GcdOf, on both sides. -/
theorem l1In_eq (n lo hi : Int) : spec_l1In.f n lo hi = some (decide (lo ≤ n ∧ n ≤ hi)) := by
  unfold spec_l1In.f; by_cases h : n ≥ lo
  · rw [if_pos h]; simp [h]
  · rw [if_neg h]; simp [show ¬ lo ≤ n from h]
theorem within_eq (n lo hi : Int) : impl_within.f n lo hi = some (decide (lo ≤ n ∧ n ≤ hi)) := l1In_eq n lo hi
theorem allWithin_l {l : List Int} {lo hi : Int} (hl : l.length ≤ 1099511627776) (d : Nat) : ∀ (i : Int), 0 ≤ i → i + d = l.length → Ev (fun k => impl_allWithin.l0 k lo hi l l.length i) (decide (∀ x ∈ l.drop i.toNat, lo ≤ x ∧ x ≤ hi)) := by
  induction d with
  | zero =>
    intro i h0 h1
    refine Ev.step (fun k => by rw [impl_allWithin.l0]) ?_
    simp (disch := omega) only [if_neg]
    refine ev_to (Ev.now _) ?_
    rw [List.drop_of_length_le (by omega)]; simp
  | succ d ih =>
    intro i h0 h1
    refine Ev.step (fun k => by rw [impl_allWithin.l0]) ?_
    simp (disch := omega) only [if_pos, w64, within_eq, Option.bind_some]
    rw [drop_rd h0 (by omega)]
    by_cases h : lo ≤ rd l i ∧ rd l i ≤ hi
    · refine ev_ifp (by simpa using h) (ev_to (ih (i + 1) (by omega) (by omega)) ?_)
      simp [h]
    · refine ev_ifn (by simpa using h) (ev_to (Ev.now _) ?_)
      simp only [List.mem_cons, forall_eq_or_imp, h, false_and, decide_false]
theorem allWithin_ev {l : List Int} (lo hi : Int) (hl : l.length ≤ 1099511627776) : Ev (fun k => impl_allWithin.f k l lo hi) (decide (∀ x ∈ l, lo ≤ x ∧ x ≤ hi)) :=
  ev_to (allWithin_l hl l.length 0 (by omega) (by omega)) (by simp)
/-- Each number is greater than the one before it. -/
def Asc (l : List Int) : Prop := ∀ i : Int, 0 < i → i < l.length → rd l (i - 1) < rd l i
noncomputable instance (l : List Int) : Decidable (Asc l) := Classical.propDecidable _
theorem asc_l {l : List Int} (hl : l.length ≤ 1099511627776) (d : Nat) : ∀ (i : Int), 0 < i → i + d = max 1 l.length → (∀ j, 0 < j → j < i → rd l (j - 1) < rd l j) → Ev (fun k => impl_IsAscending.l0 k l i) (decide (Asc l)) ∧ Ev (fun k => spec_IsAscending.l0 k l i) (decide (Asc l)) := by
  induction d with
  | zero =>
    intro i h0 h1 h2
    have ha : Asc l := fun j hj hj' => h2 j hj (by omega)
    constructor
    · refine Ev.step (fun k => by rw [impl_IsAscending.l0]) ?_
      simp (disch := omega) only [if_neg]
      exact ev_to (Ev.now _) (by simp [ha])
    · refine Ev.step (fun k => by rw [spec_IsAscending.l0]) ?_
      simp (disch := omega) only [if_neg]
      exact ev_to (Ev.now _) (by simp [ha])
  | succ d ih =>
    intro i h0 h1 h2
    by_cases h : rd l (i - 1) < rd l i
    · obtain ⟨a, b⟩ := ih (i + 1) (by omega) (by omega) (fun j hj hj' => by
        by_cases e : j = i
        · subst e; exact h
        · exact h2 j hj (by omega))
      constructor
      · refine Ev.step (fun k => by rw [impl_IsAscending.l0]) ?_
        simp (disch := omega) only [if_pos, if_neg, w64]
        exact a
      · refine Ev.step (fun k => by rw [spec_IsAscending.l0]) ?_
        simp (disch := omega) only [if_pos, if_neg, w64]
        exact b
    · have hn : ¬ Asc l := fun ha => h (ha i h0 (by omega))
      constructor
      · refine Ev.step (fun k => by rw [impl_IsAscending.l0]) ?_
        simp (disch := omega) only [if_pos, w64]
        exact ev_to (Ev.now _) (by simp [hn])
      · refine Ev.step (fun k => by rw [spec_IsAscending.l0]) ?_
        simp (disch := omega) only [if_pos, w64]
        exact ev_to (Ev.now _) (by simp [hn])
theorem ascI_ev {l : List Int} (hl : l.length ≤ 1099511627776) : Ev (fun k => impl_IsAscending.f k l) (decide (Asc l)) :=
  (asc_l hl (l.length - 1) 1 (by omega) (by omega) (fun j h h' => by omega)).1
theorem ascS_ev {l : List Int} (hl : l.length ≤ 1099511627776) : Ev (fun k => spec_IsAscending.f k l) (decide (Asc l)) :=
  (asc_l hl (l.length - 1) 1 (by omega) (by omega) (fun j h h' => by omega)).2

end Go.Proofs.Ytllhjnaiobpghaa.E
