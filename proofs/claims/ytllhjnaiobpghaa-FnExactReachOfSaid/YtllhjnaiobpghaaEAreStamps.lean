/- Lemmas towards the laws of this seat: AreStamps on both sides. Conditions: each lemma's own premises. -/
import Derived.Test.YtllhjnaiobpghaaEBa
import Derived.Test.YtllhjnaiobpghaaEBasic
import Derived.Test.YtllhjnaiobpghaaPAx3
namespace Go.Proofs.Ytllhjnaiobpghaa.E
open Go.RowKit Go.Proofs.Ytllhjnaiobpghaa.PA Go.Proofs.YtllhjnaiobpghaaW.PrintWords Go.Proofs.YtllhjnaiobpghaaW.PrintLast Go.Proofs.YtllhjnaiobpghaaW.PrintMore
set_option linter.unusedVariables false
set_option linter.unusedSimpArgs false
/-! AreStamps on both sides. -/
def AreSt (l : List Int) : Prop := (1 ≤ (l.length : Int) ∧ (l.length : Int) ≤ 6) ∧ (∀ x ∈ l, 1 ≤ x ∧ x ≤ 60) ∧ Asc l
noncomputable instance (l : List Int) : Decidable (AreSt l) := Classical.propDecidable _
theorem areStampsI_ev {l : List Int} (hl : l.length ≤ 1099511627776) : Ev (fun k => impl_AreStamps.f k l) (decide (AreSt l)) := by
  unfold impl_AreStamps.f
  simp only [within_eq, Option.bind_some]
  by_cases h1 : 1 ≤ (l.length : Int) ∧ (l.length : Int) ≤ 6
  · refine ev_ifp (by simpa using h1) (ev_bind _ (allWithin_ev 1 60 hl) ?_)
    by_cases h2 : ∀ x ∈ l, 1 ≤ x ∧ x ≤ 60
    · refine ev_ifp (by simpa using h2) (ev_bind _ (ascI_ev hl) (ev_to (Ev.now _) ?_))
      rw [Bool.eq_iff_iff]; simp only [decide_eq_true_eq]
      exact ⟨fun h => ⟨h1, h2, h⟩, fun h => h.2.2⟩
    · exact ev_ifn (by rw [decide_eq_true_eq]; exact h2) (ev_to (Ev.now _) (decide_eq_false (fun h => h2 h.2.1)).symm)
  · exact ev_ifn (by simpa using h1) (ev_to (Ev.now _) (decide_eq_false (fun h => h1 h.1)).symm)
theorem areStampsS_l {l : List Int} (hl : l.length ≤ 1099511627776) (d : Nat) : ∀ (i : Int), 0 ≤ i → i + d = l.length → (∀ j, 0 ≤ j → j < i → 1 ≤ rd l j ∧ rd l j ≤ 60) → Ev (fun k => spec_AreStamps.l0 k l i) (decide (AreSt l)) := by
  induction d with
  | zero =>
    intro i h0 h1 h2
    refine Ev.step (fun k => by rw [spec_AreStamps.l0]) (ev_ifn (by omega) ?_)
    simp only [l1In_eq, Option.bind_some]
    have h2' : ∀ x ∈ l, 1 ≤ x ∧ x ≤ 60 := fun x hx => by
      obtain ⟨j, hj, hj', rfl⟩ := mem_rd hx
      exact h2 j hj (by omega)
    by_cases h1 : 1 ≤ (l.length : Int) ∧ (l.length : Int) ≤ 6
    · refine ev_ifp (by simpa using h1) (ev_bind _ (ascS_ev hl) (ev_to (Ev.now _) ?_))
      rw [Bool.eq_iff_iff]; simp only [decide_eq_true_eq]
      exact ⟨fun h => ⟨h1, h2', h⟩, fun h => h.2.2⟩
    · exact ev_ifn (by simpa using h1) (ev_to (Ev.now _) (decide_eq_false (fun h => h1 h.1)).symm)
  | succ d ih =>
    intro i h0 h1 h2
    refine Ev.step (fun k => by rw [spec_AreStamps.l0]) (ev_ifp (by omega) (ev_ifp h0 ?_))
    simp only [l1In_eq, Option.bind_some]
    rw [w64 (by omega) (by omega)]
    by_cases h : 1 ≤ rd l i ∧ rd l i ≤ 60
    · refine ev_ifp (by simpa using h) (ih (i + 1) (by omega) (by omega) fun j hj hj' => ?_)
      by_cases e : j = i
      · subst e; exact h
      · exact h2 j hj (by omega)
    · exact ev_ifn (by simpa using h) (ev_to (Ev.now _) (decide_eq_false (fun hc => h (hc.2.1 _ (rd_mem h0 (by omega))))).symm)
theorem areStampsS_ev {l : List Int} (hl : l.length ≤ 1099511627776) : Ev (fun k => spec_AreStamps.f k l) (decide (AreSt l)) :=
  areStampsS_l hl l.length 0 (by omega) (by omega) (fun j h h' => by omega)

end Go.Proofs.Ytllhjnaiobpghaa.E
