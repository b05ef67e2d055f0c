/- Lemmas towards the laws of this seat: The laws' own helpers: toIntS, eqIntS, markIntS, heldIntS. Conditions: each lemma's own premises. -/
import Derived.Test.YtllhjnaiobpghaaEBa
import Derived.Test.YtllhjnaiobpghaaPAx2
import Derived.Test.YtllhjnaiobpghaaPAx3
import Derived.Test.YtllhjnaiobpghaaPAx5
namespace Go.Proofs.Ytllhjnaiobpghaa.E
open Go.RowKit Go.Proofs.Ytllhjnaiobpghaa.PA Go.Proofs.YtllhjnaiobpghaaW.PrintWords Go.Proofs.YtllhjnaiobpghaaW.PrintLast Go.Proofs.YtllhjnaiobpghaaW.PrintMore
set_option linter.unusedVariables false
set_option linter.unusedSimpArgs false
/-! The laws' own helpers: toIntS, eqIntS, markIntS, heldIntS. -/
theorem toIntS_l {l : List Int} (hl : l.length ≤ 1048576) (d : Nat) : ∀ (i : Int) (out : List Int), 0 ≤ i → i + d = l.length → out.length = l.length → out.take i.toNat = l.take i.toNat → Ev (fun k => laws_toIntS.l0 k l out i) l := by
  induction d with
  | zero =>
    intro i out h0 h1 h2 h3
    refine Ev.step (fun k => by rw [laws_toIntS.l0]) ?_
    simp (disch := omega) only [if_neg]
    rw [List.take_of_length_le (by omega), List.take_of_length_le (by omega)] at h3
    subst h3
    exact Ev.now _
  | succ d ih =>
    intro i out h0 h1 h2 h3
    refine Ev.step (fun k => by rw [laws_toIntS.l0]) ?_
    simp (disch := omega) only [if_pos, w64]
    refine ih _ _ (by omega) (by omega) (by simpa using h2) ?_
    rw [take_rd h0 (by simp; omega), take_rd h0 (by omega), rd_set _ h0 (by omega) h0, if_pos rfl, ← h3]
    congr 1
    rw [List.take_set_of_le (Nat.le_refl _)]
theorem toIntS_ev {l : List Int} (hl : l.length ≤ 1048576) : Ev (fun k => laws_toIntS.f k l) l := by
  unfold laws_toIntS.f
  simp (disch := omega) only [if_pos]
  exact toIntS_l hl l.length _ _ (by omega) (by omega) (by simp) (by simp)
theorem eqIntS_l {l m : List Int} (hl : l.length ≤ 1099511627776) (e : l.length = m.length) (d : Nat) : ∀ (i : Int), 0 ≤ i → i + d = l.length → Ev (fun k => laws_eqIntS.l0 k l m i) (decide (l.drop i.toNat = m.drop i.toNat)) := by
  induction d with
  | zero =>
    intro i h0 h1
    refine Ev.step (fun k => by rw [laws_eqIntS.l0]) ?_
    simp (disch := omega) only [if_neg]
    refine ev_to (Ev.now _) ?_
    rw [List.drop_of_length_le (by omega), List.drop_of_length_le (by omega)]; simp
  | succ d ih =>
    intro i h0 h1
    refine Ev.step (fun k => by rw [laws_eqIntS.l0]) ?_
    simp (disch := omega) only [if_pos, w64]
    rw [drop_rd h0 (by omega), drop_rd (l := m) h0 (by omega)]
    by_cases h : rd l i = rd m i
    · refine ev_ifp h (ev_to (ih (i + 1) (by omega) (by omega)) ?_)
      simp [h]
    · refine ev_ifn h (ev_to (Ev.now _) ?_)
      simp [h]
theorem eqIntS_ev {l m : List Int} (hl : l.length ≤ 1099511627776) : Ev (fun k => laws_eqIntS.f k l m) (decide (l = m)) := by
  unfold laws_eqIntS.f
  by_cases e : l.length = m.length
  · refine ev_ifp (by omega) (ev_to (eqIntS_l hl e l.length 0 (by omega) (by omega)) ?_)
    simp
  · refine ev_ifn (by omega) (ev_to (Ev.now _) ?_)
    simp; intro h; exact e (by rw [h])
theorem eqIntS_same {l : List Int} (hl : l.length ≤ 1099511627776) : Ev (fun k => laws_eqIntS.f k l l) true := ev_to (eqIntS_ev hl) (by simp)
theorem markIntS_l {n : Nat} (a : Int) (ha : 0 ≤ a) (hn : a + n ≤ 4611686018427387904) (d : Nat) : ∀ (i : Int) (l : List Int), 0 ≤ i → i + d = n → l.length = n → (∀ j, 0 ≤ j → j < i → rd l j = a + j) → Ev (fun k => laws_markIntS.l0 k l (a + i) i) (a + n, marks a n) := by
  induction d with
  | zero =>
    intro i l h0 h1 h2 h3
    refine Ev.step (fun k => by rw [laws_markIntS.l0]) ?_
    simp (disch := omega) only [if_neg]
    refine ev_to (Ev.now _) ?_
    rw [show a + i = a + n from by omega]
    congr 1
    refine rd_ext (by rw [h2, marks_len]) fun j hj hj' => ?_
    rw [h3 j hj (by omega), marks_rd _ _ _ hj (by omega)]
  | succ d ih =>
    intro i l h0 h1 h2 h3
    refine Ev.step (fun k => by rw [laws_markIntS.l0]) ?_
    simp (disch := omega) only [if_pos, w64]
    rw [Int.add_assoc]
    refine ih (i + 1) _ (by omega) (by omega) (by simpa using h2) fun j hj hj' => ?_
    rw [rd_set _ h0 (by omega) hj]
    by_cases e : j = i
    · rw [if_pos e, e]
    · rw [if_neg e]; exact h3 j hj (by omega)
theorem markIntS_ev {l : List Int} {a : Int} (ha : 0 ≤ a) (hl : a + l.length ≤ 4611686018427387904) : Ev (fun k => laws_markIntS.f k l a) (a + l.length, marks a l.length) := by
  unfold laws_markIntS.f
  have := markIntS_l a ha hl l.length 0 l (by omega) (by omega) rfl (fun j h h' => by omega)
  rwa [Int.add_zero] at this
theorem heldIntS_l {n : Nat} (a : Int) (ha : 0 ≤ a) (hn : a + n ≤ 4611686018427387904) (d : Nat) : ∀ (i : Int), 0 ≤ i → i + d = n → Ev (fun k => laws_heldIntS.l0 k (marks a n) (a + i) i) (a + n) := by
  have hm := marks_len a n
  induction d with
  | zero =>
    intro i h0 h1
    refine Ev.step (fun k => by rw [laws_heldIntS.l0]) ?_
    simp (disch := omega) only [if_neg]
    exact ev_to (Ev.now _) (by omega)
  | succ d ih =>
    intro i h0 h1
    refine Ev.step (fun k => by rw [laws_heldIntS.l0]) ?_
    simp (disch := omega) only [if_pos, w64]
    refine ev_ifp (marks_rd _ _ _ h0 (by omega)) ?_
    rw [Int.add_assoc]
    exact ih (i + 1) (by omega) (by omega)
theorem heldIntS_ev {n : Nat} {a : Int} (ha : 0 ≤ a) (hn : a + n ≤ 4611686018427387904) : Ev (fun k => laws_heldIntS.f k (marks a n) a) (a + n) := by
  unfold laws_heldIntS.f
  have := heldIntS_l a ha hn n 0 (by omega) (by omega)
  rwa [Int.add_zero] at this

end Go.Proofs.Ytllhjnaiobpghaa.E
