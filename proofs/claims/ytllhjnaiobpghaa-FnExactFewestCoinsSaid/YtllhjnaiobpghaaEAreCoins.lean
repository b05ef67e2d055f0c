/- Lemmas towards the laws of this seat: AreCoins on both sides. Conditions: each lemma's own premises. -/
import Derived.Test.YtllhjnaiobpghaaEBa
import Derived.Test.YtllhjnaiobpghaaEBasic
import Derived.Test.YtllhjnaiobpghaaPAx2
namespace Go.Proofs.Ytllhjnaiobpghaa.E
open Go.RowKit Go.Proofs.Ytllhjnaiobpghaa.PA Go.Proofs.YtllhjnaiobpghaaW.PrintWords Go.Proofs.YtllhjnaiobpghaaW.PrintLast Go.Proofs.YtllhjnaiobpghaaW.PrintMore
set_option linter.unusedVariables false
set_option linter.unusedSimpArgs false
/-! AreCoins on both sides. -/
def AreC (l : List Int) : Prop := (1 ≤ (l.length : Int) ∧ (l.length : Int) ≤ 10) ∧ (∀ x ∈ l, 1 ≤ x ∧ x ≤ 500) ∧ Asc l ∧ rd l 0 = 1
noncomputable instance (l : List Int) : Decidable (AreC l) := Classical.propDecidable _
theorem areCoinsI_ev {l : List Int} (hl : l.length ≤ 1099511627776) : Ev (fun k => impl_AreCoins.f k l) (decide (AreC l)) := by
  unfold impl_AreCoins.f
  simp only [within_eq, Option.bind_some]
  by_cases h1 : 1 ≤ (l.length : Int) ∧ (l.length : Int) ≤ 10
  · refine ev_ifp (by simpa using h1) (ev_bind _ (allWithin_ev 1 500 hl) ?_)
    by_cases h2 : ∀ x ∈ l, 1 ≤ x ∧ x ≤ 500
    · refine ev_ifp (by simpa using h2) (ev_bind _ (ascI_ev hl) ?_)
      by_cases h3 : Asc l
      · refine ev_ifp (by simpa using h3) (ev_ifp (by omega) (ev_to (Ev.now _) ?_))
        rw [Bool.eq_iff_iff]; simp only [beq_iff_eq, decide_eq_true_eq]
        exact ⟨fun h => ⟨h1, h2, h3, h⟩, fun h => h.2.2.2⟩
      · exact ev_ifn (by simpa using h3) (ev_to (Ev.now _) (decide_eq_false (fun h => h3 h.2.2.1)).symm)
    · exact ev_ifn (by rw [decide_eq_true_eq]; exact h2) (ev_to (Ev.now _) (decide_eq_false (fun h => h2 h.2.1)).symm)
  · exact ev_ifn (by simpa using h1) (ev_to (Ev.now _) (decide_eq_false (fun h => h1 h.1)).symm)
theorem areCoinsS_l {l : List Int} (hl : l.length ≤ 1099511627776) (d : Nat) : ∀ (i : Int), 0 ≤ i → i + d = l.length → (∀ j, 0 ≤ j → j < i → 1 ≤ rd l j ∧ rd l j ≤ 500) → Ev (fun k => spec_AreCoins.l0 k l i) (decide (AreC l)) := by
  induction d with
  | zero =>
    intro i h0 h1 h2
    refine Ev.step (fun k => by rw [spec_AreCoins.l0]) (ev_ifn (by omega) ?_)
    simp only [l1In_eq, Option.bind_some]
    have h2' : ∀ x ∈ l, 1 ≤ x ∧ x ≤ 500 := fun x hx => by
      obtain ⟨j, hj, hj', rfl⟩ := mem_rd hx
      exact h2 j hj (by omega)
    by_cases h1 : 1 ≤ (l.length : Int) ∧ (l.length : Int) ≤ 10
    · refine ev_ifp (by simpa using h1) (ev_bind _ (ascS_ev hl) ?_)
      by_cases h3 : Asc l
      · refine ev_ifp (by simpa using h3) (ev_ifp (by omega) (ev_to (Ev.now _) ?_))
        rw [Bool.eq_iff_iff]; simp only [beq_iff_eq, decide_eq_true_eq]
        exact ⟨fun h => ⟨h1, h2', h3, h⟩, fun h => h.2.2.2⟩
      · exact ev_ifn (by simpa using h3) (ev_to (Ev.now _) (decide_eq_false (fun h => h3 h.2.2.1)).symm)
    · exact ev_ifn (by simpa using h1) (ev_to (Ev.now _) (decide_eq_false (fun h => h1 h.1)).symm)
  | succ d ih =>
    intro i h0 h1 h2
    refine Ev.step (fun k => by rw [spec_AreCoins.l0]) (ev_ifp (by omega) (ev_ifp h0 ?_))
    simp only [l1In_eq, Option.bind_some]
    rw [w64 (by omega) (by omega)]
    by_cases h : 1 ≤ rd l i ∧ rd l i ≤ 500
    · refine ev_ifp (by simpa using h) (ih (i + 1) (by omega) (by omega) fun j hj hj' => ?_)
      by_cases e : j = i
      · subst e; exact h
      · exact h2 j hj (by omega)
    · exact ev_ifn (by simpa using h) (ev_to (Ev.now _) (decide_eq_false (fun hc => h (hc.2.1 _ (rd_mem h0 (by omega))))).symm)
theorem areCoinsS_ev {l : List Int} (hl : l.length ≤ 1099511627776) : Ev (fun k => spec_AreCoins.f k l) (decide (AreC l)) :=
  areCoinsS_l hl l.length 0 (by omega) (by omega) (fun j h h' => by omega)

end Go.Proofs.Ytllhjnaiobpghaa.E
