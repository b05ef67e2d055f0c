import Derived.Test.YtllhjnaiobpghaaEBa
import Derived.Test.YtllhjnaiobpghaaEBasic
import Derived.Test.YtllhjnaiobpghaaEGcd
import Derived.Test.YtllhjnaiobpghaaPAx3
import Derived.Test.YtllhjnaiobpghaaPAx4
namespace Go.Proofs.Ytllhjnaiobpghaa.E
open Go.RowKit Go.Proofs.Ytllhjnaiobpghaa.PA Go.Proofs.YtllhjnaiobpghaaW.PrintWords Go.Proofs.YtllhjnaiobpghaaW.PrintLast Go.Proofs.YtllhjnaiobpghaaW.PrintMore
set_option linter.unusedVariables false
set_option linter.unusedSimpArgs false
/-! PairWays on both sides. -/
theorem l1Bit_eq (b : Bool) : spec_l1Bit.f b = some (if b = true then 1 else 0) := by
  unfold spec_l1Bit.f; cases b <;> rfl
theorem pairWays_l {a b n : Int} (ha : 1 ≤ a) (ha' : a ≤ 1000) (hb : 1 ≤ b) (hn : n ≤ 1000000) (d : Nat) : ∀ (x w : Int), 0 ≤ x → 0 ≤ w → w ≤ x → 0 ≤ x * a → x ≤ x * a → x * a ≤ n + 1000 → n + 1 - x * a ≤ d → ∃ r, Ev (fun k => impl_PairWays.l0 k a b n w (x * a)) r ∧ Ev (fun k => spec_PairWays.l0 k a b n w x) r := by
  induction d with
  | zero =>
    intro x w h0 h1 h2 h3 h4 h5 h6
    refine ⟨w, Ev.step (fun k => by rw [impl_PairWays.l0]) ?_, Ev.step (fun k => by rw [spec_PairWays.l0]) ?_⟩
    · exact ev_ifn (by omega) (Ev.now _)
    · rw [w64 (by omega) (by omega)]
      exact ev_ifn (by omega) (Ev.now _)
  | succ d ih =>
    intro x w h0 h1 h2 h3 h4 h5 h6
    by_cases h : x * a ≤ n
    · have e : (x + 1) * a = x * a + a := by rw [Int.add_mul, Int.one_mul]
      by_cases hz : Int.tmod (n - x * a) b = 0
      · obtain ⟨r, hi, hs⟩ := ih (x + 1) (w + 1) (by omega) (by omega) (by omega) (by omega) (by omega) (by omega) (by omega)
        refine ⟨r, Ev.step (fun k => by rw [impl_PairWays.l0]) ?_, Ev.step (fun k => by rw [spec_PairWays.l0]) ?_⟩
        · rw [w64 (x := n - x * a) (by omega) (by omega), w64 (x := w + 1) (by omega) (by omega), w64 (x := x * a + a) (by omega) (by omega)]
          refine ev_ifp h (ev_ifn (by omega) (ev_ifp hz ?_))
          rw [← e]; exact hi
        · rw [w64 (x := x * a) (by omega) (by omega), w64 (x := n - x * a) (by omega) (by omega), w64 (x := x + 1) (by omega) (by omega)]
          refine ev_ifp h (ev_ifn (by omega) ?_)
          simp only [l1Bit_eq, Option.bind_some, hz, beq_self_eq_true, if_true]
          rw [w64 (x := w + 1) (by omega) (by omega)]
          exact hs
      · obtain ⟨r, hi, hs⟩ := ih (x + 1) w (by omega) (by omega) (by omega) (by omega) (by omega) (by omega) (by omega)
        have hz' : (Int.tmod (n - x * a) b == 0) = false := by simpa using hz
        refine ⟨r, Ev.step (fun k => by rw [impl_PairWays.l0]) ?_, Ev.step (fun k => by rw [spec_PairWays.l0]) ?_⟩
        · rw [w64 (x := n - x * a) (by omega) (by omega), w64 (x := x * a + a) (by omega) (by omega)]
          refine ev_ifp h (ev_ifn (by omega) (ev_ifn hz ?_))
          rw [← e]; exact hi
        · rw [w64 (x := x * a) (by omega) (by omega), w64 (x := n - x * a) (by omega) (by omega), w64 (x := x + 1) (by omega) (by omega)]
          refine ev_ifp h (ev_ifn (by omega) ?_)
          simp only [l1Bit_eq, Option.bind_some, hz']
          rw [show (if false = true then (1 : Int) else 0) = 0 from rfl, w64 (x := w + 0) (by omega) (by omega), Int.add_zero]
          exact hs
    · refine ⟨w, Ev.step (fun k => by rw [impl_PairWays.l0]) ?_, Ev.step (fun k => by rw [spec_PairWays.l0]) ?_⟩
      · exact ev_ifn (by omega) (Ev.now _)
      · rw [w64 (by omega) (by omega)]
        exact ev_ifn (by omega) (Ev.now _)
/-- two numbers from 1 to 1000 without a common divisor -/
def PairOk (a b : Int) : Prop := (1 ≤ a ∧ a ≤ 1000) ∧ (1 ≤ b ∧ b ≤ 1000) ∧ gcdOf a b = 1
noncomputable instance (a b : Int) : Decidable (PairOk a b) := Classical.propDecidable _
theorem pairI_ev (a b : Int) : Ev (fun k => impl_pair.f k a b) (decide (PairOk a b)) := by
  unfold impl_pair.f
  simp only [within_eq, Option.bind_some]
  by_cases h1 : 1 ≤ a ∧ a ≤ 1000
  · refine ev_ifp (by simpa using h1) ?_
    by_cases h2 : 1 ≤ b ∧ b ≤ 1000
    · refine ev_ifp (by simpa using h2) (ev_bind _ (gcdI_ev a b) (ev_to (Ev.now _) ?_))
      rw [Bool.eq_iff_iff]; simp only [beq_iff_eq, decide_eq_true_eq]
      exact ⟨fun h => ⟨h1, h2, h⟩, fun h => h.2.2⟩
    · exact ev_ifn (d_f h2) (ev_to (Ev.now _) (decide_eq_false (fun h => h2 h.2.1)).symm)
  · exact ev_ifn (d_f h1) (ev_to (Ev.now _) (decide_eq_false (fun h => h1 h.1)).symm)
theorem pairS_ev (a b : Int) : Ev (fun k => spec_l23Pair.f k a b) (decide (PairOk a b)) := by
  unfold spec_l23Pair.f
  simp only [l1In_eq, Option.bind_some]
  by_cases h1 : 1 ≤ a ∧ a ≤ 1000
  · refine ev_ifp (by simpa using h1) ?_
    by_cases h2 : 1 ≤ b ∧ b ≤ 1000
    · refine ev_ifp (by simpa using h2) (ev_bind _ (gcdS_ev a b) (ev_to (Ev.now _) ?_))
      rw [Bool.eq_iff_iff]; simp only [beq_iff_eq, decide_eq_true_eq]
      exact ⟨fun h => ⟨h1, h2, h⟩, fun h => h.2.2⟩
    · exact ev_ifn (d_f h2) (ev_to (Ev.now _) (decide_eq_false (fun h => h2 h.2.1)).symm)
  · exact ev_ifn (d_f h1) (ev_to (Ev.now _) (decide_eq_false (fun h => h1 h.1)).symm)
theorem pairWays_ev (a b n : Int) : ∃ r, Ev (fun k => impl_PairWays.f k a b n) r ∧ Ev (fun k => spec_PairWays.f k a b n) r := by
  by_cases h : PairOk a b
  · by_cases hn : 0 ≤ n ∧ n ≤ 1000000
    · obtain ⟨⟨h1, h2⟩, ⟨h3, h4⟩, h5⟩ := id h
      obtain ⟨r, hi, hs⟩ := pairWays_l h1 h2 h3 hn.2 (n + 1).toNat 0 0 (by omega) (by omega) (by omega) (by omega) (by omega) (by omega) (by omega)
      rw [Int.zero_mul] at hi
      refine ⟨r, ?_, ?_⟩
      · unfold impl_PairWays.f
        refine ev_bind _ (pairI_ev a b) (ev_ifp (by simpa using h) ?_)
        simp only [within_eq, Option.bind_some]
        refine Ev.step (fun k => by rw [impl_PairWays.j0]) (ev_ifn (by simpa using hn) hi)
      · unfold spec_PairWays.f
        refine ev_bind _ (pairS_ev a b) (ev_ifp (by simpa using h) ?_)
        simp only [l1In_eq, Option.bind_some]
        refine Ev.step (fun k => by rw [spec_PairWays.j0]) (ev_ifn (by simpa using hn) hs)
    · refine ⟨-1, ?_, ?_⟩
      · unfold impl_PairWays.f
        refine ev_bind _ (pairI_ev a b) (ev_ifp (by simpa using h) ?_)
        simp only [within_eq, Option.bind_some]
        exact Ev.step (fun k => by rw [impl_PairWays.j0]) (ev_ifp (nd_t hn) (Ev.now _))
      · unfold spec_PairWays.f
        refine ev_bind _ (pairS_ev a b) (ev_ifp (by simpa using h) ?_)
        simp only [l1In_eq, Option.bind_some]
        exact Ev.step (fun k => by rw [spec_PairWays.j0]) (ev_ifp (nd_t hn) (Ev.now _))
  · refine ⟨-1, ?_, ?_⟩
    · unfold impl_PairWays.f
      refine ev_bind _ (pairI_ev a b) (ev_ifn (by simpa using h) ?_)
      exact Ev.step (fun k => by rw [impl_PairWays.j0]) (ev_ifp rfl (Ev.now _))
    · unfold spec_PairWays.f
      refine ev_bind _ (pairS_ev a b) (ev_ifn (by simpa using h) ?_)
      exact Ev.step (fun k => by rw [spec_PairWays.j0]) (ev_ifp rfl (Ev.now _))

end Go.Proofs.Ytllhjnaiobpghaa.E
