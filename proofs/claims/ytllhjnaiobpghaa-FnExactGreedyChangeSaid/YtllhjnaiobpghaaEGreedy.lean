import Derived.Test.YtllhjnaiobpghaaEAreCoins
import Derived.Test.YtllhjnaiobpghaaEBa
import Derived.Test.YtllhjnaiobpghaaEBasic
import Derived.Test.YtllhjnaiobpghaaPAx4
import Derived.Test.YtllhjnaiobpghaaPAx5
namespace Go.Proofs.Ytllhjnaiobpghaa.E
open Go.RowKit Go.Proofs.Ytllhjnaiobpghaa.PA Go.Proofs.YtllhjnaiobpghaaW.PrintWords Go.Proofs.YtllhjnaiobpghaaW.PrintLast Go.Proofs.YtllhjnaiobpghaaW.PrintMore
set_option linter.unusedVariables false
set_option linter.unusedSimpArgs false
/-! GreedyChange on both sides. -/
theorem greedy_l {l : List Int} (hl : l.length ≤ 10) (hc : ∀ x ∈ l, 1 ≤ x ∧ x ≤ 500) (d : Nat) : ∀ (i n : Int) (out : List Int), i + 1 = d → i < l.length → 0 ≤ n → n ≤ 2000 → out.length = l.length → ∃ r, r.length = l.length ∧ Ev (fun k => impl_GreedyChange.l0 k l n out i) r ∧ Ev (fun k => spec_GreedyChange.l0 k l n out i) r := by
  induction d with
  | zero =>
    intro i n out h0 h1 h2 h3 h4
    exact ⟨out, h4, Ev.step (fun k => by rw [impl_GreedyChange.l0]) (ev_ifn (by omega) (Ev.now _)), Ev.step (fun k => by rw [spec_GreedyChange.l0]) (ev_ifn (by omega) (Ev.now _))⟩
  | succ d ih =>
    intro i n out h0 h1 h2 h3 h4
    obtain ⟨hv1, hv2⟩ := hc _ (rd_mem (l := l) (i := i) (by omega) h1)
    have hm1 := Int.emod_nonneg n (b := rd l i) (by omega)
    have hm2 := Int.emod_lt_of_pos n (b := rd l i) (by omega)
    have hd1 : 0 ≤ n / rd l i := Int.ediv_nonneg h2 (by omega)
    have hd2 : n / rd l i ≤ n := Int.ediv_le_self _ h2
    have hmn : n % rd l i ≤ n := emod_le_self h2 (by omega)
    obtain ⟨r, hr, a, b⟩ := ih (i - 1) (n % rd l i) (out.set i.toNat (n / rd l i)) (by omega) (by omega) hm1 (by omega) (by simpa using h4)
    refine ⟨r, hr, Ev.step (fun k => by rw [impl_GreedyChange.l0]) ?_, Ev.step (fun k => by rw [spec_GreedyChange.l0]) ?_⟩
    · rw [Int.tmod_eq_emod_of_nonneg h2, Int.tdiv_eq_ediv_of_nonneg h2]
      simp (disch := omega) only [if_pos, if_neg, w64]
      exact a
    · rw [Int.tmod_eq_emod_of_nonneg h2, Int.tdiv_eq_ediv_of_nonneg h2]
      simp (disch := omega) only [if_pos, if_neg, w64]
      exact b
theorem greedy_ev {l : List Int} (n : Int) (hl : l.length ≤ 1099511627776) : ∃ r, r.length ≤ 10 ∧ Ev (fun k => impl_GreedyChange.f k l n) r ∧ Ev (fun k => spec_GreedyChange.f k l n) r := by
  by_cases h : AreC l
  · by_cases hn : 0 ≤ n ∧ n ≤ 2000
    · obtain ⟨h1, h2, h3, h4⟩ := id h
      obtain ⟨r, hr, a, b⟩ := greedy_l (l := l) (by omega) h2 l.length (l.length - 1) n (List.replicate l.length 0) (by omega) (by omega) hn.1 hn.2 (by simp)
      refine ⟨r, by omega, ?_, ?_⟩
      · unfold impl_GreedyChange.f
        refine ev_bind _ (areCoinsI_ev hl) (ev_ifp (by simpa using h) ?_)
        simp only [within_eq, Option.bind_some]
        refine Ev.step (fun k => by rw [impl_GreedyChange.j0]) (ev_ifn (by simpa using hn) ?_)
        simp (disch := omega) only [if_pos, w64, Int.toNat_natCast]
        exact a
      · unfold spec_GreedyChange.f spec_l26Asked.f
        refine ev_bind true ?_ (ev_ifp rfl ?_)
        · refine ev_bind _ (areCoinsS_ev hl) (ev_ifp (by simpa using h) ?_)
          simp only [l1In_eq, Option.bind_some]
          exact ev_to (Ev.now _) (by simpa using hn)
        · simp (disch := omega) only [if_pos, w64, Int.toNat_natCast]
          exact b
    · refine ⟨[], by simp, ?_, ?_⟩
      · unfold impl_GreedyChange.f
        refine ev_bind _ (areCoinsI_ev hl) (ev_ifp (by simpa using h) ?_)
        simp only [within_eq, Option.bind_some]
        exact Ev.step (fun k => by rw [impl_GreedyChange.j0]) (ev_ifp (nd_t hn) (Ev.now _))
      · unfold spec_GreedyChange.f spec_l26Asked.f
        refine ev_bind false ?_ (ev_ifn (by simp) (Ev.now _))
        refine ev_bind _ (areCoinsS_ev hl) (ev_ifp (by simpa using h) ?_)
        simp only [l1In_eq, Option.bind_some]
        exact ev_to (Ev.now _) (decide_eq_false hn)
  · refine ⟨[], by simp, ?_, ?_⟩
    · unfold impl_GreedyChange.f
      refine ev_bind _ (areCoinsI_ev hl) (ev_ifn (by simpa using h) ?_)
      exact Ev.step (fun k => by rw [impl_GreedyChange.j0]) (ev_ifp rfl (Ev.now _))
    · unfold spec_GreedyChange.f spec_l26Asked.f
      refine ev_bind false ?_ (ev_ifn (by simp) (Ev.now _))
      exact ev_bind _ (areCoinsS_ev hl) (ev_ifn (by simpa using h) (Ev.now _))

end Go.Proofs.Ytllhjnaiobpghaa.E
