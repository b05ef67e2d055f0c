/- Lemmas towards the laws of this seat: impl.fewest: the table of least numbers. Conditions: each lemma's own premises. -/
import Derived.Test.YtllhjnaiobpghaaEBa
import Derived.Test.YtllhjnaiobpghaaEWays
import Derived.Test.YtllhjnaiobpghaaPAx0
import Derived.Test.YtllhjnaiobpghaaPAx10
namespace Go.Proofs.Ytllhjnaiobpghaa.E
open Go.RowKit Go.Proofs.Ytllhjnaiobpghaa.PA Go.Proofs.YtllhjnaiobpghaaW.PrintWords Go.Proofs.YtllhjnaiobpghaaW.PrintLast Go.Proofs.YtllhjnaiobpghaaW.PrintMore
set_option linter.unusedVariables false
set_option linter.unusedSimpArgs false
/-! impl.fewest: the table of least numbers. -/
def RowOk (v : List Int) (n : Int) (row : List Int) : Prop := (row.length : Int) = n + 1 ∧ ∀ k, 0 ≤ k → k ≤ n → Fw v k (rd row k)
def FewTab (v : List Int) (n : Int) (t : List (List Int)) : Prop := t.length = v.length + 1 ∧ ∀ i : Int, 0 ≤ i → i ≤ v.length → RowOk (v.take i.toNat) n (rd_L2 t i)
theorem rdLL_append {t : List (List Int)} {r : List Int} {i : Int} (h0 : 0 ≤ i) (h : i ≤ t.length) : rd_L2 (t ++ [r]) i = if i = t.length then r else rd_L2 t i := by
  unfold rd_L2
  rw [List.getD_eq_getElem?_getD, List.getD_eq_getElem?_getD, List.getElem?_append]
  by_cases e : i = t.length
  · rw [if_pos e, if_neg (by omega), e]; simp
  · rw [if_neg e, if_pos (by omega)]
theorem fewest_l2 {v vals : List Int} {n x : Int} {len i : Int} (hn : 0 ≤ n) (hn' : n ≤ 4000) (hv : ∀ y ∈ v, 1 ≤ y) (hx : 1 ≤ x) (hx' : x ≤ 1000) {out : List (List Int)} (ho : out.length ≤ 1000) (hi : 0 ≤ i) (hi' : i ≤ 1000) (d : Nat) :
    ∀ (kk : Int) (next : List Int), x ≤ kk → kk + d = max x (n + 1) → (next.length : Int) = n + 1 → (∀ k, 0 ≤ k → k ≤ n → k < kk → Fw (v ++ [x]) k (rd next k)) → (∀ k, kk ≤ k → k ≤ n → Fw v k (rd next k)) →
      ∃ next', RowOk (v ++ [x]) n next' ∧ ∀ r, Ev (fun k => impl_fewest.l1 k n next' (out ++ [next']) vals len (i + 1)) r → Ev (fun k => impl_fewest.l2 k n out x next kk vals len i) r := by
  have hv' : ∀ y ∈ v ++ [x], 1 ≤ y := by
    intro y hy
    rcases List.mem_append.1 hy with hy | hy
    · exact hv y hy
    · have : y = x := by simpa using hy
      omega
  induction d with
  | zero =>
    intro kk next h0 h1 h2 h3 h4
    refine ⟨next, ⟨h2, fun k hk hk' => h3 k hk hk' (by omega)⟩, fun r hr => Ev.step (fun k => by rw [impl_fewest.l2]) (ev_ifn (by omega) ?_)⟩
    rw [w64 (by omega) (by omega)]
    exact ev_ifp (by omega) hr
  | succ d ih =>
    intro kk next h0 h1 h2 h3 h4
    have hkn : kk ≤ n := by omega
    have f1 := h3 (kk - x) (by omega) (by omega) (by omega)
    have f2 := h4 kk (by omega) hkn
    have f3 := Fw.next hv hx f2 f1
    have b1 := f1.ge hv'
    have b2 := f1.le hv' (by omega)
    have done : ∀ (y : Int), Fw (v ++ [x]) kk y → ∃ next', RowOk (v ++ [x]) n next' ∧ ∀ r, Ev (fun k => impl_fewest.l1 k n next' (out ++ [next']) vals len (i + 1)) r → Ev (fun k => impl_fewest.l2 k n out x (next.set kk.toNat y) (kk + 1) vals len i) r := by
      intro y hy
      refine ih (kk + 1) (next.set kk.toNat y) (by omega) (by omega) (by simpa using h2) ?_ ?_
      · intro k hk hk' hk''
        rw [rd_set _ (by omega) (by omega) hk]
        by_cases e : k = kk
        · subst e; rw [if_pos rfl]; exact hy
        · rw [if_neg e]; exact h3 k hk hk' (by omega)
      · intro k hk hk'
        rw [rd_set _ (by omega) (by omega) (by omega), if_neg (by omega)]
        exact h4 k (by omega) hk'
    have same : Fw (v ++ [x]) kk (rd next kk) → ∃ next', RowOk (v ++ [x]) n next' ∧ ∀ r, Ev (fun k => impl_fewest.l1 k n next' (out ++ [next']) vals len (i + 1)) r → Ev (fun k => impl_fewest.l2 k n out x next (kk + 1) vals len i) r := by
      intro hy
      refine ih (kk + 1) next (by omega) (by omega) h2 ?_ (fun k hk hk' => h4 k (by omega) hk')
      intro k hk hk' hk''
      by_cases e : k = kk
      · subst e; exact hy
      · exact h3 k hk hk' (by omega)
    by_cases c1 : rd next (kk - x) ≥ 0
    · rw [if_pos c1] at f3
      by_cases c2 : rd next kk < 0
      · rw [if_pos c2] at f3
        obtain ⟨next', a, b⟩ := done _ f3
        refine ⟨next', a, fun r hr => Ev.step (fun k => by rw [impl_fewest.l2]) ?_⟩
        simp (disch := omega) only [if_pos, w64]
        exact b r hr
      · rw [if_neg c2] at f3
        by_cases c3 : rd next (kk - x) + 1 < rd next kk
        · rw [if_pos c3] at f3
          obtain ⟨next', a, b⟩ := done _ f3
          refine ⟨next', a, fun r hr => Ev.step (fun k => by rw [impl_fewest.l2]) ?_⟩
          simp (disch := omega) only [if_pos, if_neg, w64]
          exact b r hr
        · rw [if_neg c3] at f3
          obtain ⟨next', a, b⟩ := same f3
          refine ⟨next', a, fun r hr => Ev.step (fun k => by rw [impl_fewest.l2]) ?_⟩
          simp (disch := omega) only [if_pos, if_neg, w64]
          exact b r hr
    · rw [if_neg c1] at f3
      obtain ⟨next', a, b⟩ := same f3
      refine ⟨next', a, fun r hr => Ev.step (fun k => by rw [impl_fewest.l2]) ?_⟩
      simp (disch := omega) only [if_pos, if_neg, w64]
      exact b r hr
theorem fewest_l1 {vals : List Int} {n : Int} (hn : 0 ≤ n) (hn' : n ≤ 4000) (hv : ∀ y ∈ vals, 1 ≤ y ∧ y ≤ 1000) (hl : vals.length ≤ 20) (d : Nat) :
    ∀ (i : Int) (row : List Int) (out : List (List Int)), 0 ≤ i → i + d = vals.length → RowOk (vals.take i.toNat) n row → (out.length : Int) = i + 1 → (∀ j : Int, 0 ≤ j → j ≤ i → RowOk (vals.take j.toNat) n (rd_L2 out j)) →
      ∃ t, FewTab vals n t ∧ Ev (fun k => impl_fewest.l1 k n row out vals vals.length i) t := by
  induction d with
  | zero =>
    intro i row out h0 h1 h2 h3 h4
    exact ⟨out, ⟨by omega, fun j hj hj' => h4 j hj (by omega)⟩, Ev.step (fun k => by rw [impl_fewest.l1]) (ev_ifn (by omega) (Ev.now _))⟩
  | succ d ih =>
    intro i row out h0 h1 h2 h3 h4
    have hx := hv _ (rd_mem (l := vals) h0 (by omega))
    have ht := take_rd (l := vals) h0 (by omega)
    have hvt : ∀ y ∈ vals.take i.toNat, 1 ≤ y := fun y hy => (hv y (List.mem_of_mem_take hy)).1
    obtain ⟨next', a, b⟩ := fewest_l2 (v := vals.take i.toNat) (vals := vals) (len := vals.length) (i := i) (out := out) hn hn' hvt hx.1 hx.2 (by omega) h0 (by omega) (max (rd vals i) (n + 1) - rd vals i).toNat (rd vals i) row (by omega) (by omega) h2.1 (fun k hk hk' hk'' => (h2.2 k hk hk').below hvt hk'' hk) (fun k hk hk' => h2.2 k (by omega) hk')
    rw [← ht] at a
    obtain ⟨t, ht1, ht2⟩ := ih (i + 1) next' (out ++ [next']) (by omega) (by omega) a (by simp; omega) (by
      intro j hj hj'
      rw [rdLL_append hj (by omega)]
      by_cases e : j = out.length
      · rw [if_pos e, show j = i + 1 from by omega]; exact a
      · rw [if_neg e]; exact h4 j hj (by omega))
    refine ⟨t, ht1, Ev.step (fun k => by rw [impl_fewest.l1]) ?_⟩
    have hr := h2.1
    refine ev_ifp (by omega) (ev_ifp h0 (ev_ifp (by omega) ?_))
    simp only [Option.bind_some]
    refine ev_ifp (by simp; omega) ?_
    exact b t ht2
theorem fewest_l0 {vals : List Int} {n : Int} (hn : 0 ≤ n) (hn' : n ≤ 4000) {t : List (List Int)} (H : Ev (fun k => impl_fewest.l1 k n ((List.replicate (n + 1).toNat (-1)).set 0 0) [(List.replicate (n + 1).toNat (-1)).set 0 0] vals vals.length 0) t) (d : Nat) :
    ∀ (i : Int) (row : List Int), 0 ≤ i → i + d = n + 1 → (row.length : Int) = n + 1 → (∀ j, 0 ≤ j → j < i → rd row j = -1) → Ev (fun k => impl_fewest.l0 k vals n row (n + 1) i) t := by
  induction d with
  | zero =>
    intro i row h0 h1 h2 h3
    have e : row = List.replicate (n + 1).toNat (-1) := rd_ext (by simp; omega) fun j hj hj' => by rw [h3 j hj (by omega), rd_rep hj (by omega)]
    subst e
    refine Ev.step (fun k => by rw [impl_fewest.l0]) (ev_ifn (by omega) (ev_ifp (by omega) ?_))
    simp only [Option.bind_some]
    exact H
  | succ d ih =>
    intro i row h0 h1 h2 h3
    refine Ev.step (fun k => by rw [impl_fewest.l0]) ?_
    simp (disch := omega) only [if_pos, w64]
    refine ih (i + 1) _ (by omega) (by omega) (by simpa using h2) fun j hj hj' => ?_
    rw [rd_set _ h0 (by omega) hj]
    by_cases e : j = i
    · rw [if_pos e]
    · rw [if_neg e]; exact h3 j hj (by omega)
theorem rowOk_first {n : Int} (hn : 0 ≤ n) : RowOk [] n ((List.replicate (n + 1).toNat (-1)).set 0 0) := by
  refine ⟨by simp; omega, fun k hk hk' => ?_⟩
  have := rd_set (l := List.replicate (n + 1).toNat (-1)) (i := 0) (j := k) 0 (by omega) (by simp; omega) hk
  rw [show (0 : Int).toNat = 0 from rfl] at this
  rw [this]
  have f := Fw.nil hk
  by_cases e : k = 0
  · rw [if_pos e] at f ⊢; exact f
  · rw [if_neg e] at f ⊢; rw [rd_rep hk (by omega)]; exact f
theorem fewest_ev {vals : List Int} {n : Int} (hn : 0 ≤ n) (hn' : n ≤ 4000) (hv : ∀ y ∈ vals, 1 ≤ y ∧ y ≤ 1000) (hl : vals.length ≤ 20) : ∃ t, FewTab vals n t ∧ Ev (fun k => impl_fewest.f k vals n) t := by
  have h1 := rowOk_first hn
  obtain ⟨t, a, b⟩ := fewest_l1 hn hn' hv hl vals.length 0 _ [(List.replicate (n + 1).toNat (-1)).set 0 0] (by omega) (by omega) (by simpa using h1) (by simp) (by
    intro j hj hj'
    obtain rfl : j = 0 := by omega
    simpa [rd_L2] using h1)
  refine ⟨t, a, ?_⟩
  unfold impl_fewest.f
  rw [w64 (by omega) (by omega)]
  refine ev_ifp (by omega) (ev_ifp (by omega) ?_)
  simp only [Option.bind_some]
  rw [show ((List.replicate (n + 1).toNat (0 : Int)).length : Int) = n + 1 from by simp; omega]
  exact fewest_l0 hn hn' b (n + 1).toNat 0 _ (by omega) (by omega) (by simp; omega) (fun j h h' => by omega)

end Go.Proofs.Ytllhjnaiobpghaa.E
