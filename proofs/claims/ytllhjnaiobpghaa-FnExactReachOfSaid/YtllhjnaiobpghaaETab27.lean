/- Lemmas towards the laws of this seat: spec.l27Table: the same, with the cap 9. Conditions: each lemma's own premises. -/
import Derived.Test.YtllhjnaiobpghaaEBa
import Derived.Test.YtllhjnaiobpghaaEBasic
import Derived.Test.YtllhjnaiobpghaaETab26
import Derived.Test.YtllhjnaiobpghaaETabPlain
import Derived.Test.YtllhjnaiobpghaaEWays
import Derived.Test.YtllhjnaiobpghaaPAx11
namespace Go.Proofs.Ytllhjnaiobpghaa.E
open Go.RowKit Go.Proofs.Ytllhjnaiobpghaa.PA Go.Proofs.YtllhjnaiobpghaaW.PrintWords Go.Proofs.YtllhjnaiobpghaaW.PrintLast Go.Proofs.YtllhjnaiobpghaaW.PrintMore
set_option linter.unusedVariables false
set_option linter.unusedSimpArgs false
/-! spec.l27Table: the same, with the cap 9. -/
def CAP27 (_ : Int) : Int := 9
theorem tab27_l1 {v : List Int} {most n : Int} {out : List Int} (hl : v.length ≤ 20) (hv : ∀ x ∈ v, 1 ≤ x ∧ x ≤ 1000) (ha : Asc v) (hn : 1 ≤ n) (hn' : n ≤ 4000) (ho : (out.length : Int) = n) (hout : ∀ k, 0 ≤ k → k < n → TB (CAP27 k) v k (rd out k)) (hw : ∀ k m, 0 ≤ k → TB (CAP27 k) v k m → Way v k m ∨ ∀ n, CAP27 n ≤ m + 1) (d : Nat) :
    ∀ (i best : Int), 0 ≤ i → i + d = v.length → 0 ≤ best → best ≤ CAP27 n → (best < CAP27 n → Way v n best) → (∀ j, 0 ≤ j → j < i → rd v j ≤ n → best ≤ rd out (n - rd v j) + 1) →
      ∃ m, TB (CAP27 n) v n m ∧ ∀ r, Ev (fun k => spec_l27Table.l0 k v most (out ++ [m]) (n + 1)) r → Ev (fun k => spec_l27Table.l1 k v most out n best i) r := by
  have hv1 : ∀ x ∈ v, 1 ≤ x := fun x hx => (hv x hx).1
  induction d with
  | zero =>
    intro i best h0 h1 h2 h3 h4 h5
    refine ⟨best, TB.end_ (out := out) (i := i) hv1 ha hn h2 h3 h4 h5 (fun k hk hk' c w => .inl ((hout k hk hk').2.2.1 c w)) (fun j hj hj' => by omega), fun r hr => Ev.step (fun k => by rw [spec_l27Table.l1]) (ev_ifn (by omega) (ev_ifp (by omega) ?_))⟩
    rw [w64 (by omega) (by omega)]; exact hr
  | succ d ih =>
    intro i best h0 h1 h2 h3 h4 h5
    have hx := hv _ (rd_mem (l := v) h0 (by omega))
    by_cases hc : rd v i ≤ n
    · have ht := hout (n - rd v i) (by omega) (by omega)
      have hb : CAP27 (n - rd v i) ≤ 4000 := by unfold CAP27; omega
      have hm : Way v n (rd out (n - rd v i) + 1) ∨ CAP27 n ≤ rd out (n - rd v i) + 1 := by
        rcases hw _ _ (by omega) ht with e | e
        · have := Way.add (rd_mem (l := v) h0 (by omega)) e
          rw [show n - rd v i + rd v i = n from by omega] at this
          exact .inl this
        · exact .inr (e n)
      obtain ⟨m, a, b⟩ := ih (i + 1) (min best (rd out (n - rd v i) + 1)) (by omega) (by omega) (by have := ht.1; omega) (by omega) (by
        intro hlt
        by_cases e : best < rd out (n - rd v i) + 1
        · rw [Int.min_eq_left (by omega)] at hlt ⊢; exact h4 hlt
        · rw [Int.min_eq_right (by omega)] at hlt ⊢
          rcases hm with h | h
          · exact h
          · omega) (by
        intro j hj hj' hjn
        by_cases e : j = i
        · subst e; omega
        · have := h5 j hj (by omega) hjn; omega)
      refine ⟨m, a, fun r hr => Ev.step (fun k => by rw [spec_l27Table.l1]) ?_⟩
      have ht1 := ht.1
      have ht2 := ht.2.1
      simp (disch := omega) only [if_pos, w64, l1Min_eq, Option.bind_some]
      exact b r hr
    · refine ⟨best, TB.end_ (out := out) (i := i) hv1 ha hn h2 h3 h4 h5 (fun k hk hk' c w => .inl ((hout k hk hk').2.2.1 c w)) (fun j hj hj' => by have := ha.le h0 hj hj'; omega), fun r hr => Ev.step (fun k => by rw [spec_l27Table.l1]) (ev_ifp (by omega) (ev_ifp h0 (ev_ifn hc (ev_ifp (by omega) ?_))))⟩
      rw [w64 (by omega) (by omega)]; exact hr
theorem tab27_l0 {v : List Int} {most : Int} (hl : v.length ≤ 20) (hv : ∀ x ∈ v, 1 ≤ x ∧ x ≤ 1000) (ha : Asc v) (hm' : most ≤ 4000) (hw : ∀ k m, 0 ≤ k → TB (CAP27 k) v k m → Way v k m ∨ ∀ n, CAP27 n ≤ m + 1) (d : Nat) : ∀ (n : Int) (out : List Int), 1 ≤ n → n + d = most + 1 → (out.length : Int) = n → (∀ k, 0 ≤ k → k < n → TB (CAP27 k) v k (rd out k)) →
    ∃ t : List Int, (t.length : Int) = most + 1 ∧ (∀ k, 0 ≤ k → k ≤ most → TB (CAP27 k) v k (rd t k)) ∧ Ev (fun k => spec_l27Table.l0 k v most out n) t := by
  induction d with
  | zero =>
    intro n out h1 h2 h3 h4
    exact ⟨out, by omega, fun k hk hk' => h4 k hk (by omega), Ev.step (fun k => by rw [spec_l27Table.l0]) (ev_ifn (by omega) (Ev.now _))⟩
  | succ d ih =>
    intro n out h1 h2 h3 h4
    obtain ⟨m, a, b⟩ := tab27_l1 (most := most) hl hv ha h1 (by omega) h3 h4 hw v.length 0 (CAP27 n) (by omega) (by omega) (by unfold CAP27; omega) (by omega) (by omega) (fun j hj hj' => by omega)
    obtain ⟨t, t1, t2, t3⟩ := ih (n + 1) (out ++ [m]) (by omega) (by omega) (by simp; omega) (by
      intro k hk hk'
      rw [rd_append hk]
      by_cases e : k < out.length
      · rw [if_pos e]; exact h4 k hk (by omega)
      · rw [if_neg e, show k - out.length = 0 from by omega]
        rw [show k = n from by omega]; exact a)
    refine ⟨t, t1, t2, ?_⟩
    refine Ev.step (fun k => by rw [spec_l27Table.l0]) ?_
    exact ev_ifp (by omega) (b t t3)
theorem tab27_ev {v : List Int} {most : Int} (hl : v.length ≤ 20) (hv : ∀ x ∈ v, 1 ≤ x ∧ x ≤ 1000) (ha : Asc v) (hm : 0 ≤ most) (hm' : most ≤ 4000) :
    ∃ t : List Int, (t.length : Int) = most + 1 ∧ (∀ k, 0 ≤ k → k ≤ most → TB (CAP27 k) v k (rd t k)) ∧ Ev (fun k => spec_l27Table.f k v most) t := by
  refine tab27_l0 hl hv ha hm' (fun k m hk h => by
    by_cases e : m < 9
    · exact .inl (h.2.2.2 e)
    · exact .inr fun n => by unfold CAP27; omega) most.toNat 1 [0] (by omega) (by omega) (by simp) fun k hk hk' => ?_
  obtain rfl : k = 0 := by omega
  refine ⟨by simp [rd], by simp [rd, CAP27], fun c w => ?_, fun _ => by simpa [rd] using Way.zero⟩
  simpa [rd] using (w.pos (fun x hx => (hv x hx).1)).1

end Go.Proofs.Ytllhjnaiobpghaa.E
