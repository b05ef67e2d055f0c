/- Lemmas towards the laws of this seat: FewestCoins, BestChange on both sides. Conditions: each lemma's own premises. -/
import Derived.Test.YtllhjnaiobpghaaEAreCoins
import Derived.Test.YtllhjnaiobpghaaEBa
import Derived.Test.YtllhjnaiobpghaaEBasic
import Derived.Test.YtllhjnaiobpghaaEFewest
import Derived.Test.YtllhjnaiobpghaaETab26
import Derived.Test.YtllhjnaiobpghaaETabPlain
import Derived.Test.YtllhjnaiobpghaaEWays
import Derived.Test.YtllhjnaiobpghaaPAx10
import Derived.Test.YtllhjnaiobpghaaPAx4
import Derived.Test.YtllhjnaiobpghaaPAx9
namespace Go.Proofs.Ytllhjnaiobpghaa.E
open Go.RowKit Go.Proofs.Ytllhjnaiobpghaa.PA Go.Proofs.YtllhjnaiobpghaaW.PrintWords Go.Proofs.YtllhjnaiobpghaaW.PrintLast Go.Proofs.YtllhjnaiobpghaaW.PrintMore
set_option linter.unusedVariables false
set_option linter.unusedSimpArgs false
/-! FewestCoins, BestChange on both sides. -/
theorem AreC.len {v : List Int} (h : AreC v) : 1 ≤ v.length ∧ v.length ≤ 10 := by have := h.1; omega
theorem AreC.vals {v : List Int} (h : AreC v) : ∀ x ∈ v, 1 ≤ x ∧ x ≤ 1000 := fun x hx => by have := h.2.1 x hx; omega
theorem AreC.one {v : List Int} (h : AreC v) : (1 : Int) ∈ v := by
  have := rd_mem (l := v) (i := 0) (by omega) (by have := h.1; omega)
  rwa [h.2.2.2] at this
theorem AreC.pos {v : List Int} (h : AreC v) : ∀ x ∈ v, 1 ≤ x := fun x hx => (h.vals x hx).1
theorem Way.ones {v : List Int} (h : (1 : Int) ∈ v) {k : Int} (hk : 0 ≤ k) : Way v k k := by
  have := Way.times h k.toNat
  rwa [Int.mul_one, show ((k.toNat : Nat) : Int) = k from by omega] at this
theorem asked_ev {v : List Int} (n : Int) (hl : v.length ≤ 1099511627776) : Ev (fun k => spec_l26Asked.f k v n) (decide (AreC v ∧ 0 ≤ n ∧ n ≤ 2000)) := by
  unfold spec_l26Asked.f
  by_cases h : AreC v
  · refine ev_bind _ (areCoinsS_ev hl) (ev_ifp (by simpa using h) ?_)
    simp only [l1In_eq, Option.bind_some]
    exact ev_to (Ev.now _) (by simp [h])
  · exact ev_bind _ (areCoinsS_ev hl) (ev_ifn (by simpa using h) (ev_to (Ev.now _) (by simp [h])))
theorem fewCoins_ev (v : List Int) (n : Int) (hl : v.length ≤ 1099511627776) : ∃ r, Ev (fun k => impl_FewestCoins.f k v n) r ∧ Ev (fun k => spec_FewestCoins.f k v n) r ∧ (AreC v ∧ 0 ≤ n ∧ n ≤ 2000 → Fw v n r) ∧ (¬ (AreC v ∧ 0 ≤ n ∧ n ≤ 2000) → r = -1) := by
  by_cases h : AreC v ∧ 0 ≤ n ∧ n ≤ 2000
  · obtain ⟨h1, h2, h3⟩ := id h
    obtain ⟨t, ht, hE⟩ := fewest_ev (n := n) h2 (by omega) h1.vals (by have := h1.len; omega)
    obtain ⟨tb, hb1, hb2, hE'⟩ := tab26_ev (v := v) (most := n) (by have := h1.len; omega) h1.vals h1.2.2.1 h1.one h2 (by omega)
    have hrow := ht.2 v.length (by omega) (by omega)
    rw [show ((v.length : Int)).toNat = v.length from by omega, List.take_length] at hrow
    have f := hrow.2 n h2 (by omega)
    have e := f.one h1.pos (TB.fw h1.one h2 (hb2 n h2 (by omega)))
    have htl := ht.1
    have hrl := hrow.1
    refine ⟨_, ?_, ?_, fun _ => f, fun h' => absurd h h'⟩
    · unfold impl_FewestCoins.f
      simp only [within_eq, Option.bind_some]
      exact ev_bind _ (areCoinsI_ev hl) (ev_ifp (by simpa using h1) (ev_ifp (by simp; omega) (ev_bind _ hE (ev_ifp (by omega) (ev_ifp (by omega) (ev_ifp h2 (ev_ifp (by omega) (Ev.now _))))))))
    · unfold spec_FewestCoins.f
      rw [e]
      exact ev_bind _ (asked_ev n hl) (ev_ifp (by simpa using h) (ev_bind _ hE' (ev_ifp h2 (ev_ifp (by omega) (Ev.now _)))))
  · refine ⟨-1, ?_, ?_, fun h' => absurd h' h, fun _ => rfl⟩
    · unfold impl_FewestCoins.f
      simp only [within_eq, Option.bind_some]
      by_cases h1 : AreC v
      · exact ev_bind _ (areCoinsI_ev hl) (ev_ifp (by simpa using h1) (ev_ifn (by simp; intro a; exact Int.not_le.1 (fun b => h ⟨h1, a, b⟩)) (Ev.now _)))
      · exact ev_bind _ (areCoinsI_ev hl) (ev_ifn (by simpa using h1) (Ev.now _))
    · unfold spec_FewestCoins.f
      exact ev_bind _ (asked_ev n hl) (ev_ifn (by simpa using h) (Ev.now _))

end Go.Proofs.Ytllhjnaiobpghaa.E
