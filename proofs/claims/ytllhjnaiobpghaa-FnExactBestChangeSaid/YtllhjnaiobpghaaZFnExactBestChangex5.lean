-- Bundled by shake.py from this session's printed and written texts; Lean checks it.
import Derived.ChangeSlices
import Derived.SizedLaws
import Derived.Test.YtllhjnaiobpghaaZFnExactBestChangex0
import Derived.Test.YtllhjnaiobpghaaZFnExactBestChangex1
import Derived.Test.YtllhjnaiobpghaaZFnExactBestChangex2
import Derived.Test.YtllhjnaiobpghaaZFnExactBestChangex3
import Derived.Test.YtllhjnaiobpghaaZFnExactBestChangex4
section
namespace Go.Proofs.Ytllhjnaiobpghaa.E
open Go.RowKit Go.Proofs.YtllhjnaiobpghaaW.PrintWords Go.Proofs.YtllhjnaiobpghaaW.PrintLast Go.Proofs.YtllhjnaiobpghaaW.PrintMore
set_option linter.unusedVariables false
set_option linter.unusedSimpArgs false
theorem exists_max {P : Nat → Prop} {B j0 : Nat} (h0 : P j0) (hB : ∀ j, P j → j ≤ B) : ∃ J, P J ∧ ∀ j, J < j → ¬ P j := by
  induction hd : B - j0 using Nat.strongRecOn generalizing j0 with
  | _ d ih =>
    by_cases h : ∃ j, j0 < j ∧ P j
    · obtain ⟨j, hj, hp⟩ := h
      have := hB j hp
      exact ih (B - j) (by omega) hp rfl
    · exact ⟨j0, h0, fun j hj hp => h ⟨j, hj, hp⟩⟩
structure Lev (v : List Int) (n need i : Int) : Prop where
  way : Way v n need
  least : ∀ c, Way v n c → need ≤ c
  no : ∀ y ∈ v.drop (i + 1).toNat, ¬ Way v (n - y) (need - 1)
theorem take_drop_mem {v : List Int} {m : Nat} {y : Int} (h : y ∈ v) (hn : y ∉ v.take m) : y ∈ v.drop m := by
  rw [← List.take_append_drop m v] at h
  rcases List.mem_append.1 h with h | h
  · exact absurd h hn
  · exact h
theorem Way.more {v : List Int} {x : Int} (hx : x ∈ v) {k c : Int} (w : Way v k c) (j : Nat) : Way v (k + j * x) (c + j) := w.plus (Way.times hx j)
structure LevStep (v : List Int) (n need i : Int) (J : Nat) : Prop where
  n0 : 0 ≤ n - J * rd v i
  c0 : (J : Int) ≤ need
  here : Way (v.take i.toNat) (n - J * rd v i) (need - J)
  above : ∀ j : Nat, J < j → ¬ Way (v.take i.toNat) (n - j * rd v i) (need - j)
  least : ∀ j : Nat, j ≤ J → Way v (n - j * rd v i) (need - j) ∧ ∀ c, Way v (n - j * rd v i) c → need - j ≤ c
  stop : ¬ Way v (n - J * rd v i - rd v i) (need - J - 1)
  next : Lev v (n - J * rd v i) (need - J) (i - 1)
theorem lev_step {v : List Int} {n need i : Int} (hv : ∀ x ∈ v, 1 ≤ x) (h0 : 0 ≤ i) (hi : i < v.length) (L : Lev v n need i) : ∃ J : Nat, LevStep v n need i J := by
  have hxm := rd_mem (l := v) h0 hi
  have hx := hv _ hxm
  have hvt : ∀ y ∈ v.take i.toNat, 1 ≤ y := fun y hy => hv y (List.mem_of_mem_take hy)
  have hsub : ∀ y ∈ v.take i.toNat, y ∈ v := fun y hy => List.mem_of_mem_take hy
  have w1 : Way (v.take (i + 1).toNat) n need := by
    rcases L.way.part (u := v.take (i + 1).toNat) with h | ⟨y, hy, hyu, h⟩
    · exact h
    · exact absurd h (L.no y (take_drop_mem hy hyu))
  rw [take_rd h0 hi] at w1
  obtain ⟨j0, hj0⟩ := w1.split
  obtain ⟨J, hJ, hmax⟩ := exists_max (P := fun j : Nat => Way (v.take i.toNat) (n - j * rd v i) (need - j)) (B := need.toNat) hj0 (fun j hj => by have := hj.pos hvt; omega)
  have hJ' : Way v (n - J * rd v i) (need - J) := hJ.mono hsub
  have hp := hJ.pos hvt
  have low : ∀ j : Nat, j ≤ J → Way v (n - j * rd v i) (need - j) ∧ ∀ c, Way v (n - j * rd v i) c → need - j ≤ c := by
    intro j hj
    constructor
    · have := hJ'.more hxm (J - j)
      have e : ((J - j : Nat) : Int) = J - j := by omega
      rw [e, show n - J * rd v i + ((J : Int) - j) * rd v i = n - j * rd v i from by rw [Int.sub_mul]; omega, show need - J + ((J : Int) - j) = need - j from by omega] at this
      exact this
    · intro c hc
      have := L.least _ (by have h := hc.more hxm j; rwa [show n - j * rd v i + j * rd v i = n from by omega] at h)
      omega
  have stop : ¬ Way v (n - J * rd v i - rd v i) (need - J - 1) := by
    intro hw
    have e1 : n - J * rd v i - rd v i = n - ((J + 1 : Nat) : Int) * rd v i := by rw [show ((J + 1 : Nat) : Int) = J + 1 from by omega, Int.add_mul]; omega
    have hw2 : Way (v.take (i + 1).toNat) (n - J * rd v i - rd v i) (need - J - 1) := by
      rcases hw.part (u := v.take (i + 1).toNat) with h | ⟨y, hy, hyu, h⟩
      · exact h
      · exfalso
        refine L.no y (take_drop_mem hy hyu) ?_
        have := h.more hxm (J + 1)
        rw [show n - J * rd v i - rd v i - y + ((J + 1 : Nat) : Int) * rd v i = n - y from by rw [show ((J + 1 : Nat) : Int) = J + 1 from by omega, Int.add_mul]; omega, show need - J - 1 - 1 + ((J + 1 : Nat) : Int) = need - 1 from by omega] at this
        exact this
    rw [take_rd h0 hi] at hw2
    obtain ⟨j, hj⟩ := hw2.split
    refine hmax (J + 1 + j) (by omega) ?_
    rw [show n - J * rd v i - rd v i - j * rd v i = n - ((J + 1 + j : Nat) : Int) * rd v i from by rw [show ((J + 1 + j : Nat) : Int) = J + 1 + j from by omega, Int.add_mul, Int.add_mul]; omega, show need - J - 1 - (j : Int) = need - ((J + 1 + j : Nat) : Int) from by omega] at hj
    exact hj
  refine ⟨J, by omega, by omega, hJ, hmax, low, stop, ⟨hJ', (low J (Nat.le_refl _)).2, fun y hy => ?_⟩⟩
  rw [show (i - 1 + 1).toNat = i.toNat from by omega, drop_rd h0 hi] at hy
  rcases List.mem_cons.1 hy with rfl | hy
  · exact stop
  · intro hw
    refine L.no y hy ?_
    have := hw.more hxm J
    rw [show n - J * rd v i - y + J * rd v i = n - y from by omega, show need - J - 1 + (J : Int) = need - 1 from by omega] at this
    exact this
end Go.Proofs.Ytllhjnaiobpghaa.E
end
section
namespace Go.Proofs.Ytllhjnaiobpghaa.E
open Go.RowKit Go.Proofs.Ytllhjnaiobpghaa.PA Go.Proofs.YtllhjnaiobpghaaW.PrintWords Go.Proofs.YtllhjnaiobpghaaW.PrintLast Go.Proofs.YtllhjnaiobpghaaW.PrintMore
set_option linter.unusedVariables false
set_option linter.unusedSimpArgs false
def RowOk (v : List Int) (n : Int) (row : List Int) : Prop := (row.length : Int) = n + 1 ∧ ∀ k, 0 ≤ k → k ≤ n → Fw v k (rd row k)
def FewTab (v : List Int) (n : Int) (t : List (List Int)) : Prop := t.length = v.length + 1 ∧ ∀ i : Int, 0 ≤ i → i ≤ v.length → RowOk (v.take i.toNat) n (rd_L2 t i)
theorem rdLL_append {t : List (List Int)} {r : List Int} {i : Int} (h0 : 0 ≤ i) (h : i ≤ t.length) : rd_L2 (t ++ [r]) i = if i = t.length then r else rd_L2 t i := by
  unfold rd_L2
  rw [List.getD_eq_getElem?_getD, List.getD_eq_getElem?_getD, List.getElem?_append]
  by_cases e : i = t.length
  · rw [if_pos e, if_neg (by omega), e]; simp
  · rw [if_neg e, if_pos (by omega)]
theorem fewest_l2 {v vals : List Int} {n x : Int} {len i : Int} (hn : 0 ≤ n) (hn' : n ≤ 4000) (hv : ∀ y ∈ v, 1 ≤ y) (hx : 1 ≤ x) (hx' : x ≤ 1000) {out : List (List Int)} (ho : out.length ≤ 1000) (hi : 0 ≤ i) (hi' : i ≤ 1000) (d : Nat) :
    ∀ (kk : Int) (next : List Int), x ≤ kk → kk + d = max x (n + 1) → (next.length : Int) = n + 1 → (∀ k, 0 ≤ k → k ≤ n → k < kk → Fw (v ++ [x]) k (rd next k)) → (∀ k, kk ≤ k → k ≤ n → Fw v k (rd next k)) →
      ∃ next', RowOk (v ++ [x]) n next' ∧ ∀ r, Ev (fun k => impl_fewest.l1 k n next' (out ++ [next']) vals len (i + 1)) r → Ev (fun k => impl_fewest.l2 k n out x next kk vals len i) r := by
  have hv' : ∀ y ∈ v ++ [x], 1 ≤ y := by
    intro y hy
    rcases List.mem_append.1 hy with hy | hy
    · exact hv y hy
    · have : y = x := by simpa using hy
      omega
  induction d with
  | zero =>
    intro kk next h0 h1 h2 h3 h4
    refine ⟨next, ⟨h2, fun k hk hk' => h3 k hk hk' (by omega)⟩, fun r hr => Ev.step (fun k => by rw [impl_fewest.l2]) (ev_ifn (by omega) ?_)⟩
    rw [w64 (by omega) (by omega)]
    exact ev_ifp (by omega) hr
  | succ d ih =>
    intro kk next h0 h1 h2 h3 h4
    have hkn : kk ≤ n := by omega
    have f1 := h3 (kk - x) (by omega) (by omega) (by omega)
    have f2 := h4 kk (by omega) hkn
    have f3 := Fw.next hv hx f2 f1
    have b1 := f1.ge hv'
    have b2 := f1.le hv' (by omega)
    have done : ∀ (y : Int), Fw (v ++ [x]) kk y → ∃ next', RowOk (v ++ [x]) n next' ∧ ∀ r, Ev (fun k => impl_fewest.l1 k n next' (out ++ [next']) vals len (i + 1)) r → Ev (fun k => impl_fewest.l2 k n out x (next.set kk.toNat y) (kk + 1) vals len i) r := by
      intro y hy
      refine ih (kk + 1) (next.set kk.toNat y) (by omega) (by omega) (by simpa using h2) ?_ ?_
      · intro k hk hk' hk''
        rw [rd_set _ (by omega) (by omega) hk]
        by_cases e : k = kk
        · subst e; rw [if_pos rfl]; exact hy
        · rw [if_neg e]; exact h3 k hk hk' (by omega)
      · intro k hk hk'
        rw [rd_set _ (by omega) (by omega) (by omega), if_neg (by omega)]
        exact h4 k (by omega) hk'
    have same : Fw (v ++ [x]) kk (rd next kk) → ∃ next', RowOk (v ++ [x]) n next' ∧ ∀ r, Ev (fun k => impl_fewest.l1 k n next' (out ++ [next']) vals len (i + 1)) r → Ev (fun k => impl_fewest.l2 k n out x next (kk + 1) vals len i) r := by
      intro hy
      refine ih (kk + 1) next (by omega) (by omega) h2 ?_ (fun k hk hk' => h4 k (by omega) hk')
      intro k hk hk' hk''
      by_cases e : k = kk
      · subst e; exact hy
      · exact h3 k hk hk' (by omega)
    by_cases c1 : rd next (kk - x) ≥ 0
    · rw [if_pos c1] at f3
      by_cases c2 : rd next kk < 0
      · rw [if_pos c2] at f3
        obtain ⟨next', a, b⟩ := done _ f3
        refine ⟨next', a, fun r hr => Ev.step (fun k => by rw [impl_fewest.l2]) ?_⟩
        simp (disch := omega) only [if_pos, w64]
        exact b r hr
      · rw [if_neg c2] at f3
        by_cases c3 : rd next (kk - x) + 1 < rd next kk
        · rw [if_pos c3] at f3
          obtain ⟨next', a, b⟩ := done _ f3
          refine ⟨next', a, fun r hr => Ev.step (fun k => by rw [impl_fewest.l2]) ?_⟩
          simp (disch := omega) only [if_pos, if_neg, w64]
          exact b r hr
        · rw [if_neg c3] at f3
          obtain ⟨next', a, b⟩ := same f3
          refine ⟨next', a, fun r hr => Ev.step (fun k => by rw [impl_fewest.l2]) ?_⟩
          simp (disch := omega) only [if_pos, if_neg, w64]
          exact b r hr
    · rw [if_neg c1] at f3
      obtain ⟨next', a, b⟩ := same f3
      refine ⟨next', a, fun r hr => Ev.step (fun k => by rw [impl_fewest.l2]) ?_⟩
      simp (disch := omega) only [if_pos, if_neg, w64]
      exact b r hr
theorem fewest_l1 {vals : List Int} {n : Int} (hn : 0 ≤ n) (hn' : n ≤ 4000) (hv : ∀ y ∈ vals, 1 ≤ y ∧ y ≤ 1000) (hl : vals.length ≤ 20) (d : Nat) :
    ∀ (i : Int) (row : List Int) (out : List (List Int)), 0 ≤ i → i + d = vals.length → RowOk (vals.take i.toNat) n row → (out.length : Int) = i + 1 → (∀ j : Int, 0 ≤ j → j ≤ i → RowOk (vals.take j.toNat) n (rd_L2 out j)) →
      ∃ t, FewTab vals n t ∧ Ev (fun k => impl_fewest.l1 k n row out vals vals.length i) t := by
  induction d with
  | zero =>
    intro i row out h0 h1 h2 h3 h4
    exact ⟨out, ⟨by omega, fun j hj hj' => h4 j hj (by omega)⟩, Ev.step (fun k => by rw [impl_fewest.l1]) (ev_ifn (by omega) (Ev.now _))⟩
  | succ d ih =>
    intro i row out h0 h1 h2 h3 h4
    have hx := hv _ (rd_mem (l := vals) h0 (by omega))
    have ht := take_rd (l := vals) h0 (by omega)
    have hvt : ∀ y ∈ vals.take i.toNat, 1 ≤ y := fun y hy => (hv y (List.mem_of_mem_take hy)).1
    obtain ⟨next', a, b⟩ := fewest_l2 (v := vals.take i.toNat) (vals := vals) (len := vals.length) (i := i) (out := out) hn hn' hvt hx.1 hx.2 (by omega) h0 (by omega) (max (rd vals i) (n + 1) - rd vals i).toNat (rd vals i) row (by omega) (by omega) h2.1 (fun k hk hk' hk'' => (h2.2 k hk hk').below hvt hk'' hk) (fun k hk hk' => h2.2 k (by omega) hk')
    rw [← ht] at a
    obtain ⟨t, ht1, ht2⟩ := ih (i + 1) next' (out ++ [next']) (by omega) (by omega) a (by simp; omega) (by
      intro j hj hj'
      rw [rdLL_append hj (by omega)]
      by_cases e : j = out.length
      · rw [if_pos e, show j = i + 1 from by omega]; exact a
      · rw [if_neg e]; exact h4 j hj (by omega))
    refine ⟨t, ht1, Ev.step (fun k => by rw [impl_fewest.l1]) ?_⟩
    have hr := h2.1
    refine ev_ifp (by omega) (ev_ifp h0 (ev_ifp (by omega) ?_))
    simp only [Option.bind_some]
    refine ev_ifp (by simp; omega) ?_
    exact b t ht2
theorem fewest_l0 {vals : List Int} {n : Int} (hn : 0 ≤ n) (hn' : n ≤ 4000) {t : List (List Int)} (H : Ev (fun k => impl_fewest.l1 k n ((List.replicate (n + 1).toNat (-1)).set 0 0) [(List.replicate (n + 1).toNat (-1)).set 0 0] vals vals.length 0) t) (d : Nat) :
    ∀ (i : Int) (row : List Int), 0 ≤ i → i + d = n + 1 → (row.length : Int) = n + 1 → (∀ j, 0 ≤ j → j < i → rd row j = -1) → Ev (fun k => impl_fewest.l0 k vals n row (n + 1) i) t := by
  induction d with
  | zero =>
    intro i row h0 h1 h2 h3
    have e : row = List.replicate (n + 1).toNat (-1) := rd_ext (by simp; omega) fun j hj hj' => by rw [h3 j hj (by omega), rd_rep hj (by omega)]
    subst e
    refine Ev.step (fun k => by rw [impl_fewest.l0]) (ev_ifn (by omega) (ev_ifp (by omega) ?_))
    simp only [Option.bind_some]
    exact H
  | succ d ih =>
    intro i row h0 h1 h2 h3
    refine Ev.step (fun k => by rw [impl_fewest.l0]) ?_
    simp (disch := omega) only [if_pos, w64]
    refine ih (i + 1) _ (by omega) (by omega) (by simpa using h2) fun j hj hj' => ?_
    rw [rd_set _ h0 (by omega) hj]
    by_cases e : j = i
    · rw [if_pos e]
    · rw [if_neg e]; exact h3 j hj (by omega)
theorem rowOk_first {n : Int} (hn : 0 ≤ n) : RowOk [] n ((List.replicate (n + 1).toNat (-1)).set 0 0) := by
  refine ⟨by simp; omega, fun k hk hk' => ?_⟩
  have := rd_set (l := List.replicate (n + 1).toNat (-1)) (i := 0) (j := k) 0 (by omega) (by simp; omega) hk
  rw [show (0 : Int).toNat = 0 from rfl] at this
  rw [this]
  have f := Fw.nil hk
  by_cases e : k = 0
  · rw [if_pos e] at f ⊢; exact f
  · rw [if_neg e] at f ⊢; rw [rd_rep hk (by omega)]; exact f
theorem fewest_ev {vals : List Int} {n : Int} (hn : 0 ≤ n) (hn' : n ≤ 4000) (hv : ∀ y ∈ vals, 1 ≤ y ∧ y ≤ 1000) (hl : vals.length ≤ 20) : ∃ t, FewTab vals n t ∧ Ev (fun k => impl_fewest.f k vals n) t := by
  have h1 := rowOk_first hn
  obtain ⟨t, a, b⟩ := fewest_l1 hn hn' hv hl vals.length 0 _ [(List.replicate (n + 1).toNat (-1)).set 0 0] (by omega) (by omega) (by simpa using h1) (by simp) (by
    intro j hj hj'
    obtain rfl : j = 0 := by omega
    simpa [rd_L2] using h1)
  refine ⟨t, a, ?_⟩
  unfold impl_fewest.f
  rw [w64 (by omega) (by omega)]
  refine ev_ifp (by omega) (ev_ifp (by omega) ?_)
  simp only [Option.bind_some]
  rw [show ((List.replicate (n + 1).toNat (0 : Int)).length : Int) = n + 1 from by simp; omega]
  exact fewest_l0 hn hn' b (n + 1).toNat 0 _ (by omega) (by omega) (by simp; omega) (fun j h h' => by omega)
end Go.Proofs.Ytllhjnaiobpghaa.E
end
section
namespace Go.Proofs.Ytllhjnaiobpghaa.E
open Go.RowKit Go.Proofs.Ytllhjnaiobpghaa.PA Go.Proofs.YtllhjnaiobpghaaW.PrintWords Go.Proofs.YtllhjnaiobpghaaW.PrintLast Go.Proofs.YtllhjnaiobpghaaW.PrintMore
set_option linter.unusedVariables false
set_option linter.unusedSimpArgs false
theorem int_ediv_mul_le {n x : Int} {j : Int} (hx : 1 ≤ x) (hj : 0 ≤ j) : j ≤ n / x ↔ j * x ≤ n := by
  rw [Int.le_ediv_iff_mul_le (by omega)]
theorem best_inner {v : List Int} {n need i most : Int} {t : List (List Int)} {out : List Int} {J : Nat} (hv : ∀ x ∈ v, 1 ≤ x ∧ x ≤ 1000) (hl : v.length ≤ 20) (h0 : 0 ≤ i) (hi : i < v.length) (hn : 0 ≤ n) (hnm : n ≤ most) (hm : most ≤ 4000) (ht : FewTab v most t) (hneed : need ≤ 4000) (ho : out.length = v.length)
    (S : LevStep v n need i J) {r : List Int} (H : Ev (fun k => impl_best.l0 k v (n - J * rd v i) t (out.set i.toNat J) (need - J) (i - 1)) r) (d : Nat) :
    ∀ kk : Int, (J : Int) + d = kk → kk * rd v i ≤ n → kk ≤ need → Ev (fun k => impl_best.l1 k v n t out need i kk) r := by
  have hx := hv _ (rd_mem (l := v) h0 hi)
  have hvt : ∀ y ∈ v.take i.toNat, 1 ≤ y := fun y hy => (hv y (List.mem_of_mem_take hy)).1
  have hrow := ht.2 i h0 (by omega)
  have htl := ht.1
  induction d with
  | zero =>
    intro kk h1 h2 h3
    obtain rfl : kk = J := by omega
    have hn0 := S.n0
    have hJx : 0 ≤ (J : Int) * rd v i := Int.mul_nonneg (by omega) (by omega)
    have hc0 := S.c0
    have e : rd (rd_L2 t i) (n - J * rd v i) = need - J :=
      (hrow.2 _ S.n0 (by omega)).one hvt (.inr ⟨S.here, fun c w => (S.least J (Nat.le_refl _)).2 c (w.mono (fun y hy => List.mem_of_mem_take hy))⟩)
    have hr1 := hrow.1
    refine Ev.step (fun k => by rw [impl_best.l1]) ?_
    rw [w64 (x := (J : Int) * rd v i) (by omega) (by omega), w64 (x := n - J * rd v i) (by omega) (by omega), w64 (x := need - J) (by omega) (by omega), w64 (x := i - 1) (by omega) (by omega)]
    exact ev_ifp h0 (ev_ifp (by omega) (ev_ifp hi (ev_ifp hn0 (ev_ifp (by omega) (ev_ifp e (ev_ifp (by omega) H))))))
  | succ d ih =>
    intro kk h1 h2 h3
    have hkx : 0 ≤ kk * rd v i := Int.mul_nonneg (by omega) (by omega)
    have hr1 := hrow.1
    have hne : rd (rd_L2 t i) (n - kk * rd v i) ≠ need - kk := by
      intro e
      have f := hrow.2 (n - kk * rd v i) (by omega) (by omega)
      have := (f.way (by omega)).1
      rw [e] at this
      have := S.above (J + (d + 1)) (by omega)
      rw [show ((J + (d + 1) : Nat) : Int) = kk from by omega] at this
      contradiction
    refine Ev.step (fun k => by rw [impl_best.l1]) ?_
    rw [w64 (x := kk * rd v i) (by omega) (by omega), w64 (x := n - kk * rd v i) (by omega) (by omega), w64 (x := need - kk) (by omega) (by omega), w64 (x := kk - 1) (by omega) (by omega)]
    refine ev_ifp h0 (ev_ifp (by omega) (ev_ifp hi (ev_ifp (by omega) (ev_ifp (by omega) (ev_ifn hne ?_)))))
    refine ih (kk - 1) (by omega) ?_ (by omega)
    rw [Int.sub_mul]; omega
end Go.Proofs.Ytllhjnaiobpghaa.E
end
section
namespace Go.Proofs.Ytllhjnaiobpghaa.E
open Go.RowKit Go.Proofs.Ytllhjnaiobpghaa.PA Go.Proofs.YtllhjnaiobpghaaW.PrintWords Go.Proofs.YtllhjnaiobpghaaW.PrintLast Go.Proofs.YtllhjnaiobpghaaW.PrintMore
set_option linter.unusedVariables false
set_option linter.unusedSimpArgs false
theorem bestC_inner {v : List Int} {n need i most C : Int} {tb : List Int} {J : Nat} (hv : ∀ x ∈ v, 1 ≤ x ∧ x ≤ 1000) (hl : v.length ≤ 20) (h0 : 0 ≤ i) (hi : i < v.length) (hn : 0 ≤ n) (hnm : n ≤ most) (hm : most ≤ 4000) (htl : (tb.length : Int) = most + 1)
    (hT1 : ∀ k c, 0 ≤ k → k ≤ most → c ≤ C → Way v k c → (∀ c', Way v k c' → c ≤ c') → rd tb k = c) (hT2 : ∀ k, 0 ≤ k → k ≤ most → rd tb k ≤ C → Way v k (rd tb k)) (hT3 : ∀ k, 0 ≤ k → k ≤ most → 0 ≤ rd tb k ∧ rd tb k ≤ 4000) (hneed : need ≤ C) (hneed' : need ≤ 4000)
    (S : LevStep v n need i J) {r : List Int} {out : List Int} (ho : out.length = v.length) (H : Ev (fun k => spec_BestChange.l0 k v (n - J * rd v i) tb (out.set i.toNat J) (i - 1)) r) (d : Nat) :
    ∀ j : Nat, j + d = J → Ev (fun k => spec_BestChange.l0 k v (n - j * rd v i) tb (out.set i.toNat j) i) r := by
  have hx := hv _ (rd_mem (l := v) h0 hi)
  have hn0 := S.n0
  have hc0 := S.c0
  have hJx : 0 ≤ (J : Int) * rd v i := Int.mul_nonneg (by omega) (by omega)
  induction d with
  | zero =>
    intro j hj
    obtain rfl : j = J := by omega
    have e1 := hT1 _ _ S.n0 (by omega) (by omega) (S.least j (Nat.le_refl _)).1 (S.least j (Nat.le_refl _)).2
    refine Ev.step (fun k => by rw [spec_BestChange.l0]) ?_
    rw [w64 (x := i - 1) (by omega) (by omega)]
    refine ev_ifp (by omega) (ev_ifp h0 (ev_ifp hi ?_))
    by_cases c : rd v i ≤ n - j * rd v i
    · rw [w64 (x := n - j * rd v i - rd v i) (by omega) (by omega)]
      have b := hT3 (n - j * rd v i - rd v i) (by omega) (by omega)
      rw [w64 (x := rd tb (n - j * rd v i - rd v i) + 1) (by omega) (by omega)]
      refine ev_ifp c (ev_ifp (by omega) (ev_ifp (by omega) (ev_ifp (by omega) (ev_ifp (by omega) (ev_ifn ?_ H)))))
      intro e
      have := hT2 (n - j * rd v i - rd v i) (by omega) (by omega) (by omega)
      rw [show rd tb (n - j * rd v i - rd v i) = need - j - 1 from by omega] at this
      exact S.stop this
    · exact ev_ifn c H
  | succ d ih =>
    intro j hj
    have hjJ : j + 1 ≤ J := by omega
    have hle : ((j + 1 : Nat) : Int) * rd v i ≤ J * rd v i := Int.mul_le_mul_of_nonneg_right (by omega) (by omega)
    have hle' : ((j + 1 : Nat) : Int) * rd v i = j * rd v i + rd v i := by rw [show ((j + 1 : Nat) : Int) = j + 1 from by omega, Int.add_mul]; omega
    have hj0 : 0 ≤ (j : Int) * rd v i := Int.mul_nonneg (by omega) (by omega)
    have e1 := hT1 (n - j * rd v i) (need - j) (by omega) (by omega) (by omega) (S.least j (by omega)).1 (S.least j (by omega)).2
    have e2 := hT1 (n - ((j + 1 : Nat) : Int) * rd v i) (need - ((j + 1 : Nat) : Int)) (by omega) (by omega) (by omega) (S.least (j + 1) hjJ).1 (S.least (j + 1) hjJ).2
    have e3 : n - j * rd v i - rd v i = n - ((j + 1 : Nat) : Int) * rd v i := by omega
    refine Ev.step (fun k => by rw [spec_BestChange.l0]) ?_
    rw [w64 (x := n - j * rd v i - rd v i) (by omega) (by omega), e3, e2, w64 (x := need - ((j + 1 : Nat) : Int) + 1) (by omega) (by omega), rd_set _ h0 (by omega) h0, if_pos rfl, w64 (x := (j : Int) + 1) (by omega) (by omega)]
    refine ev_ifp (by omega) (ev_ifp h0 (ev_ifp hi (ev_ifp (by omega) (ev_ifp (by omega) (ev_ifp (by omega) (ev_ifp (by omega) (ev_ifp (by omega) (ev_ifp (by omega) (ev_ifp (by simpa using by omega) ?_)))))))))
    rw [List.set_set]
    exact ih (j + 1) (by omega)
theorem bestC_levels {v : List Int} {most C : Int} {tb : List Int} {t : List (List Int)} (hv : ∀ x ∈ v, 1 ≤ x ∧ x ≤ 1000) (hl : v.length ≤ 20) (hm : most ≤ 4000) (ht : FewTab v most t) (htl : (tb.length : Int) = most + 1)
    (hT1 : ∀ k c, 0 ≤ k → k ≤ most → c ≤ C → Way v k c → (∀ c', Way v k c' → c ≤ c') → rd tb k = c) (hT2 : ∀ k, 0 ≤ k → k ≤ most → rd tb k ≤ C → Way v k (rd tb k)) (hT3 : ∀ k, 0 ≤ k → k ≤ most → 0 ≤ rd tb k ∧ rd tb k ≤ 4000) (d : Nat) :
    ∀ (i n need : Int) (out : List Int), i + 1 = d → i < v.length → 0 ≤ n → n ≤ most → 0 ≤ need → need ≤ C → need ≤ 4000 → Lev v n need i → out.length = v.length → (∀ j, 0 ≤ j → j ≤ i → rd out j = 0) →
      ∃ r : List Int, r.length = v.length ∧ Ev (fun k => impl_best.l0 k v n t out need i) r ∧ Ev (fun k => spec_BestChange.l0 k v n tb out i) r := by
  induction d with
  | zero =>
    intro i n need out h1 h2 h3 h4 h5 h6 h7 L h8 h9
    exact ⟨out, h8, Ev.step (fun k => by rw [impl_best.l0]) (ev_ifn (by omega) (Ev.now _)), Ev.step (fun k => by rw [spec_BestChange.l0]) (ev_ifn (by omega) (Ev.now _))⟩
  | succ d ih =>
    intro i n need out h1 h2 h3 h4 h5 h6 h7 L h8 h9
    have h0 : 0 ≤ i := by omega
    have hx := hv _ (rd_mem (l := v) h0 h2)
    obtain ⟨J, S⟩ := lev_step (fun x hx => (hv x hx).1) h0 h2 L
    have hJx : 0 ≤ (J : Int) * rd v i := Int.mul_nonneg (by omega) (by omega)
    have hn0 := S.n0
    have hc0 := S.c0
    obtain ⟨r, hr, a, b⟩ := ih (i - 1) (n - J * rd v i) (need - J) (out.set i.toNat J) (by omega) (by omega) S.n0 (by omega) (by omega) (by omega) (by omega) S.next (by simpa using h8) (by
      intro j hj hj'
      rw [rd_set _ h0 (by omega) hj, if_neg (by omega)]
      exact h9 j hj (by omega))
    refine ⟨r, hr, Ev.step (fun k => by rw [impl_best.l0]) ?_, ?_⟩
    · have hd1 : 0 ≤ n / rd v i := Int.ediv_nonneg h3 (by omega)
      have hd2 : n / rd v i ≤ n := Int.ediv_le_self _ h3
      rw [Int.tdiv_eq_ediv_of_nonneg h3, w64 (x := n / rd v i) (by omega) (by omega)]
      refine ev_ifp (by omega) (ev_ifp h0 (ev_ifp h2 (ev_ifn (by omega) ?_)))
      have hmn : mn (n / rd v i) need = min (n / rd v i) need := by unfold mn; omega
      rw [hmn]
      have hJ1 : (J : Int) ≤ n / rd v i := (int_ediv_mul_le hx.1 (by omega)).2 (by omega)
      refine best_inner hv hl h0 h2 h3 h4 hm ht h7 h8 S a (min (n / rd v i) need - J).toNat _ (by omega) ?_ (by omega)
      have h1 : min (n / rd v i) need * rd v i ≤ n / rd v i * rd v i := Int.mul_le_mul_of_nonneg_right (by omega) (by omega)
      have h2' := Int.ediv_mul_le n (b := rd v i) (by omega)
      omega
    · have := bestC_inner hv hl h0 h2 h3 h4 hm htl hT1 hT2 hT3 h6 h7 S h8 b J 0 (by omega)
      rw [show n - ((0 : Nat) : Int) * rd v i = n from by simp] at this
      have e : out.set i.toNat ((0 : Nat) : Int) = out := by
        refine rd_ext (by simp) fun j hj hj' => ?_
        rw [rd_set _ h0 (by omega) hj]
        by_cases e : j = i
        · rw [if_pos e, e, h9 i h0 (by omega)]; rfl
        · rw [if_neg e]
      rw [e] at this
      exact this
end Go.Proofs.Ytllhjnaiobpghaa.E
end
section
namespace Go.Proofs.Ytllhjnaiobpghaa.E
open Go.RowKit Go.Proofs.YtllhjnaiobpghaaW.PrintWords Go.Proofs.YtllhjnaiobpghaaW.PrintLast Go.Proofs.YtllhjnaiobpghaaW.PrintMore
set_option linter.unusedVariables false
set_option linter.unusedSimpArgs false
def TB (B : Int) (v : List Int) (k m : Int) : Prop := 0 ≤ m ∧ m ≤ B ∧ (∀ c, Way v k c → m ≤ c) ∧ (m < B → Way v k m)
theorem TB.end_ {B : Int} {v : List Int} (hv : ∀ x ∈ v, 1 ≤ x) (ha : Asc v) {n best i : Int} {out : List Int} (hn : 1 ≤ n) (h0 : 0 ≤ best) (h1 : best ≤ B) (h2 : best < B → Way v n best) (h3 : ∀ j, 0 ≤ j → j < i → rd v j ≤ n → best ≤ rd out (n - rd v j) + 1)
    (h4 : ∀ k, 0 ≤ k → k < n → ∀ c, Way v k c → rd out k ≤ c ∨ best ≤ c + 1) (hi : ∀ j, i ≤ j → j < v.length → n < rd v j) : TB B v n best := by
  refine ⟨h0, h1, fun c w => ?_, h2⟩
  rcases w.last with ⟨e, _⟩ | ⟨x, hx, w'⟩
  · omega
  · have hp := w'.pos hv
    have hx1 := hv x hx
    obtain ⟨j, hj, hj', rfl⟩ := mem_rd hx
    by_cases hji : j < i
    · have := h3 j hj hji (by omega)
      rcases h4 (n - rd v j) (by omega) (by omega) _ w' with h | h <;> omega
    · have := hi j (by omega) hj'
      omega
theorem Asc.lt {v : List Int} (ha : Asc v) {i : Int} (h0 : 0 ≤ i) (d : Nat) : i + d < v.length → rd v i ≤ rd v (i + d) := by
  induction d with
  | zero => intro _; simp
  | succ d ih =>
    intro h
    have h1 := ih (by omega)
    have h2 := ha (i + (d + 1 : Nat)) (by omega) h
    rw [show i + ((d + 1 : Nat) : Int) - 1 = i + d from by omega] at h2
    omega
theorem Asc.le {v : List Int} (ha : Asc v) {i j : Int} (h0 : 0 ≤ i) (hij : i ≤ j) (hj : j < v.length) : rd v i ≤ rd v j := by
  have := ha.lt h0 (j - i).toNat (by omega)
  rwa [show i + ((j - i).toNat : Int) = j from by omega] at this
theorem TB.fw {v : List Int} {k m : Int} (h1 : (1 : Int) ∈ v) (hk : 0 ≤ k) (h : TB k v k m) : Fw v k m := by
  refine .inr ⟨?_, h.2.2.1⟩
  by_cases e : m < k
  · exact h.2.2.2 e
  · have := Way.times h1 k.toNat
    have e2 : m = k := by have := h.2.1; omega
    rw [e2]
    rwa [show ((k.toNat : Nat) : Int) = k from by omega, Int.mul_one] at this
end Go.Proofs.Ytllhjnaiobpghaa.E
end
section
namespace Go.Proofs.Ytllhjnaiobpghaa.E
open Go.RowKit Go.Proofs.Ytllhjnaiobpghaa.PA Go.Proofs.YtllhjnaiobpghaaW.PrintWords Go.Proofs.YtllhjnaiobpghaaW.PrintLast Go.Proofs.YtllhjnaiobpghaaW.PrintMore
set_option linter.unusedVariables false
set_option linter.unusedSimpArgs false
def CAP26 (n : Int) : Int := n
theorem l1Min_eq (a b : Int) : spec_l1Min.f a b = some (min a b) := by
  unfold spec_l1Min.f
  by_cases h : a < b
  · rw [if_pos h, Int.min_eq_left (by omega)]
  · rw [if_neg h, Int.min_eq_right (by omega)]
theorem tab26_l1 {v : List Int} {most n : Int} {out : List Int} (hl : v.length ≤ 20) (hv : ∀ x ∈ v, 1 ≤ x ∧ x ≤ 1000) (ha : Asc v) (hn : 1 ≤ n) (hn' : n ≤ 4000) (ho : (out.length : Int) = n) (hout : ∀ k, 0 ≤ k → k < n → TB (CAP26 k) v k (rd out k)) (hw : ∀ k m, 0 ≤ k → TB (CAP26 k) v k m → Way v k m ∨ ∀ n, CAP26 n ≤ m + 1) (d : Nat) :
    ∀ (i best : Int), 0 ≤ i → i + d = v.length → 0 ≤ best → best ≤ CAP26 n → (best < CAP26 n → Way v n best) → (∀ j, 0 ≤ j → j < i → rd v j ≤ n → best ≤ rd out (n - rd v j) + 1) →
      ∃ m, TB (CAP26 n) v n m ∧ ∀ r, Ev (fun k => spec_l26Table.l0 k v most (out ++ [m]) (n + 1)) r → Ev (fun k => spec_l26Table.l1 k v most out n best i) r := by
  have hv1 : ∀ x ∈ v, 1 ≤ x := fun x hx => (hv x hx).1
  induction d with
  | zero =>
    intro i best h0 h1 h2 h3 h4 h5
    refine ⟨best, TB.end_ (out := out) (i := i) hv1 ha hn h2 h3 h4 h5 (fun k hk hk' c w => .inl ((hout k hk hk').2.2.1 c w)) (fun j hj hj' => by omega), fun r hr => Ev.step (fun k => by rw [spec_l26Table.l1]) (ev_ifn (by omega) (ev_ifp (by omega) ?_))⟩
    rw [w64 (by omega) (by omega)]; exact hr
  | succ d ih =>
    intro i best h0 h1 h2 h3 h4 h5
    have hx := hv _ (rd_mem (l := v) h0 (by omega))
    by_cases hc : rd v i ≤ n
    · have ht := hout (n - rd v i) (by omega) (by omega)
      have hb : CAP26 (n - rd v i) ≤ 4000 := by unfold CAP26; omega
      have hm : Way v n (rd out (n - rd v i) + 1) ∨ CAP26 n ≤ rd out (n - rd v i) + 1 := by
        rcases hw _ _ (by omega) ht with e | e
        · have := Way.add (rd_mem (l := v) h0 (by omega)) e
          rw [show n - rd v i + rd v i = n from by omega] at this
          exact .inl this
        · exact .inr (e n)
      obtain ⟨m, a, b⟩ := ih (i + 1) (min best (rd out (n - rd v i) + 1)) (by omega) (by omega) (by have := ht.1; omega) (by omega) (by
        intro hlt
        by_cases e : best < rd out (n - rd v i) + 1
        · rw [Int.min_eq_left (by omega)] at hlt ⊢; exact h4 hlt
        · rw [Int.min_eq_right (by omega)] at hlt ⊢
          rcases hm with h | h
          · exact h
          · omega) (by
        intro j hj hj' hjn
        by_cases e : j = i
        · subst e; omega
        · have := h5 j hj (by omega) hjn; omega)
      refine ⟨m, a, fun r hr => Ev.step (fun k => by rw [spec_l26Table.l1]) ?_⟩
      have ht1 := ht.1
      have ht2 := ht.2.1
      simp (disch := omega) only [if_pos, w64, l1Min_eq, Option.bind_some]
      exact b r hr
    · refine ⟨best, TB.end_ (out := out) (i := i) hv1 ha hn h2 h3 h4 h5 (fun k hk hk' c w => .inl ((hout k hk hk').2.2.1 c w)) (fun j hj hj' => by have := ha.le h0 hj hj'; omega), fun r hr => Ev.step (fun k => by rw [spec_l26Table.l1]) (ev_ifp (by omega) (ev_ifp h0 (ev_ifn hc (ev_ifp (by omega) ?_))))⟩
      rw [w64 (by omega) (by omega)]; exact hr
theorem tab26_l0 {v : List Int} {most : Int} (hl : v.length ≤ 20) (hv : ∀ x ∈ v, 1 ≤ x ∧ x ≤ 1000) (ha : Asc v) (hm' : most ≤ 4000) (hw : ∀ k m, 0 ≤ k → TB (CAP26 k) v k m → Way v k m ∨ ∀ n, CAP26 n ≤ m + 1) (d : Nat) : ∀ (n : Int) (out : List Int), 1 ≤ n → n + d = most + 1 → (out.length : Int) = n → (∀ k, 0 ≤ k → k < n → TB (CAP26 k) v k (rd out k)) →
    ∃ t : List Int, (t.length : Int) = most + 1 ∧ (∀ k, 0 ≤ k → k ≤ most → TB (CAP26 k) v k (rd t k)) ∧ Ev (fun k => spec_l26Table.l0 k v most out n) t := by
  induction d with
  | zero =>
    intro n out h1 h2 h3 h4
    exact ⟨out, by omega, fun k hk hk' => h4 k hk (by omega), Ev.step (fun k => by rw [spec_l26Table.l0]) (ev_ifn (by omega) (Ev.now _))⟩
  | succ d ih =>
    intro n out h1 h2 h3 h4
    obtain ⟨m, a, b⟩ := tab26_l1 (most := most) hl hv ha h1 (by omega) h3 h4 hw v.length 0 (CAP26 n) (by omega) (by omega) (by unfold CAP26; omega) (by omega) (by omega) (fun j hj hj' => by omega)
    obtain ⟨t, t1, t2, t3⟩ := ih (n + 1) (out ++ [m]) (by omega) (by omega) (by simp; omega) (by
      intro k hk hk'
      rw [rd_append hk]
      by_cases e : k < out.length
      · rw [if_pos e]; exact h4 k hk (by omega)
      · rw [if_neg e, show k - out.length = 0 from by omega]
        rw [show k = n from by omega]; exact a)
    refine ⟨t, t1, t2, ?_⟩
    refine Ev.step (fun k => by rw [spec_l26Table.l0]) ?_
    exact ev_ifp (by omega) (b t t3)
theorem tab26_ev {v : List Int} {most : Int} (hl : v.length ≤ 20) (hv : ∀ x ∈ v, 1 ≤ x ∧ x ≤ 1000) (ha : Asc v) (h1 : (1 : Int) ∈ v) (hm : 0 ≤ most) (hm' : most ≤ 4000) :
    ∃ t : List Int, (t.length : Int) = most + 1 ∧ (∀ k, 0 ≤ k → k ≤ most → TB (CAP26 k) v k (rd t k)) ∧ Ev (fun k => spec_l26Table.f k v most) t := by
  refine tab26_l0 hl hv ha hm' (fun k m hk h => .inl ((TB.fw h1 hk h).way h.1).1) most.toNat 1 [0] (by omega) (by omega) (by simp) fun k hk hk' => ?_
  obtain rfl : k = 0 := by omega
  refine ⟨by simp [rd], by simp [rd, CAP26], fun c w => ?_, fun _ => by simpa [rd] using Way.zero⟩
  simpa [rd] using (w.pos (fun x hx => (hv x hx).1)).1
end Go.Proofs.Ytllhjnaiobpghaa.E
end
section
namespace Go.Proofs.Ytllhjnaiobpghaa.E
open Go.RowKit Go.Proofs.Ytllhjnaiobpghaa.PA Go.Proofs.YtllhjnaiobpghaaW.PrintWords Go.Proofs.YtllhjnaiobpghaaW.PrintLast Go.Proofs.YtllhjnaiobpghaaW.PrintMore
set_option linter.unusedVariables false
set_option linter.unusedSimpArgs false
theorem AreC.len {v : List Int} (h : AreC v) : 1 ≤ v.length ∧ v.length ≤ 10 := by have := h.1; omega
theorem AreC.vals {v : List Int} (h : AreC v) : ∀ x ∈ v, 1 ≤ x ∧ x ≤ 1000 := fun x hx => by have := h.2.1 x hx; omega
theorem AreC.one {v : List Int} (h : AreC v) : (1 : Int) ∈ v := by
  have := rd_mem (l := v) (i := 0) (by omega) (by have := h.1; omega)
  rwa [h.2.2.2] at this
theorem AreC.pos {v : List Int} (h : AreC v) : ∀ x ∈ v, 1 ≤ x := fun x hx => (h.vals x hx).1
theorem Way.ones {v : List Int} (h : (1 : Int) ∈ v) {k : Int} (hk : 0 ≤ k) : Way v k k := by
  have := Way.times h k.toNat
  rwa [Int.mul_one, show ((k.toNat : Nat) : Int) = k from by omega] at this
theorem asked_ev {v : List Int} (n : Int) (hl : v.length ≤ 1099511627776) : Ev (fun k => spec_l26Asked.f k v n) (decide (AreC v ∧ 0 ≤ n ∧ n ≤ 2000)) := by
  unfold spec_l26Asked.f
  by_cases h : AreC v
  · refine ev_bind _ (areCoinsS_ev hl) (ev_ifp (by simpa using h) ?_)
    simp only [l1In_eq, Option.bind_some]
    exact ev_to (Ev.now _) (by simp [h])
  · exact ev_bind _ (areCoinsS_ev hl) (ev_ifn (by simpa using h) (ev_to (Ev.now _) (by simp [h])))
end Go.Proofs.Ytllhjnaiobpghaa.E
end
section
namespace Go.Proofs.Ytllhjnaiobpghaa.E
open Go.RowKit Go.Proofs.Ytllhjnaiobpghaa.PA Go.Proofs.YtllhjnaiobpghaaW.PrintWords Go.Proofs.YtllhjnaiobpghaaW.PrintLast Go.Proofs.YtllhjnaiobpghaaW.PrintMore
set_option linter.unusedVariables false
set_option linter.unusedSimpArgs false
theorem bestI_start {v : List Int} {n : Int} (hn : 0 ≤ n) (hn' : n ≤ 4000) (hv : ∀ y ∈ v, 1 ≤ y ∧ y ≤ 1000) (hl : v.length ≤ 20) {t : List (List Int)} (ht : FewTab v n t) (hE : Ev (fun k => impl_fewest.f k v n) t) {need : Int} (hf : rd (rd_L2 t v.length) n = need) {r : List Int}
    (H : Ev (fun k => impl_best.l0 k v n t (List.replicate v.length 0) need (v.length - 1)) r) : Ev (fun k => impl_best.f k v n) r := by
  have hrow := ht.2 v.length (by omega) (by omega)
  have htl := ht.1
  have hrl := hrow.1
  unfold impl_best.f
  rw [hf.symm] at H
  refine ev_bind _ hE (ev_ifp (by omega) (ev_ifp (by omega) (ev_ifp (by omega) (ev_ifp hn (ev_ifp (by omega) ?_)))))
  rw [w64 (by omega) (by omega), show ((v.length : Int)).toNat = v.length from by omega]
  exact H
theorem bestCoins_ev (v : List Int) (n : Int) (hl : v.length ≤ 1099511627776) : ∃ r : List Int, r.length ≤ 10 ∧ Ev (fun k => impl_BestChange.f k v n) r ∧ Ev (fun k => spec_BestChange.f k v n) r := by
  by_cases h : AreC v ∧ 0 ≤ n ∧ n ≤ 2000
  · obtain ⟨h1, h2, h3⟩ := id h
    have hlen := h1.len
    obtain ⟨t, ht, hE⟩ := fewest_ev (n := n) h2 (by omega) h1.vals (by omega)
    obtain ⟨tb, hb1, hb2, hE'⟩ := tab26_ev (v := v) (most := n) (by omega) h1.vals h1.2.2.1 h1.one h2 (by omega)
    have hrow := ht.2 v.length (by omega) (by omega)
    rw [show ((v.length : Int)).toNat = v.length from by omega, List.take_length] at hrow
    have f := hrow.2 n h2 (by omega)
    have fge : 0 ≤ rd (rd_L2 t v.length) n := by
      have := (not_congr (f.neg h1.pos)).2 (fun hno => hno _ (Way.ones h1.one h2)); omega
    have fle := f.le h1.pos h2
    obtain ⟨w, hw⟩ := f.way fge
    have hfw : ∀ k, 0 ≤ k → k ≤ n → Fw v k (rd tb k) := fun k hk hk' => TB.fw h1.one hk (hb2 k hk hk')
    obtain ⟨r, hr, a, b⟩ := bestC_levels (C := 4000) (most := n) (tb := tb) h1.vals (by omega) (by omega) ht hb1 (fun k c hk hk' _ hw hm => (hfw k hk hk').one h1.pos (.inr ⟨hw, hm⟩))
      (fun k hk hk' _ => ((hfw k hk hk').way (hb2 k hk hk').1).1) (fun k hk hk' => ⟨(hb2 k hk hk').1, by have := (hfw k hk hk').le h1.pos hk; omega⟩) v.length (v.length - 1) n _ (List.replicate v.length 0) (by omega) (by omega) h2 (Int.le_refl _) fge (by omega) (by omega)
      ⟨w, hw, fun y hy => by rw [List.drop_of_length_le (by omega)] at hy; simp at hy⟩ (by simp) (fun j hj hj' => rd_rep hj (by omega))
    refine ⟨r, by omega, ?_, ?_⟩
    · unfold impl_BestChange.f
      simp only [within_eq, Option.bind_some]
      exact ev_bind _ (areCoinsI_ev hl) (ev_ifp (by simpa using h1) (ev_ifp (by simp; omega) (ev_bind _ (bestI_start h2 (by omega) h1.vals (by omega) ht hE rfl a) (Ev.now _))))
    · unfold spec_BestChange.f
      refine ev_bind _ (asked_ev n hl) (ev_ifp (by simpa using h) (ev_bind _ hE' (ev_ifp (by omega) (ev_ifp (by omega) ?_))))
      rw [w64 (by omega) (by omega), show ((v.length : Int)).toNat = v.length from by omega]
      exact b
  · refine ⟨[], by simp, ?_, ?_⟩
    · unfold impl_BestChange.f
      simp only [within_eq, Option.bind_some]
      by_cases h1 : AreC v
      · exact ev_bind _ (areCoinsI_ev hl) (ev_ifp (by simpa using h1) (ev_ifn (by simp; intro a; exact Int.not_le.1 (fun b => h ⟨h1, a, b⟩)) (Ev.now _)))
      · exact ev_bind _ (areCoinsI_ev hl) (ev_ifn (by simpa using h1) (Ev.now _))
    · unfold spec_BestChange.f
      exact ev_bind _ (asked_ev n hl) (ev_ifn (by simpa using h) (Ev.now _))
end Go.Proofs.Ytllhjnaiobpghaa.E
end
section
namespace Go.Proofs.Ytllhjnaiobpghaa.E
open Go.RowKit Go.Proofs.Ytllhjnaiobpghaa.PA Go.Proofs.YtllhjnaiobpghaaW.PrintWords Go.Proofs.YtllhjnaiobpghaaW.PrintLast Go.Proofs.YtllhjnaiobpghaaW.PrintMore
set_option linter.unusedVariables false
set_option linter.unusedSimpArgs false
theorem toIntS_l {l : List Int} (hl : l.length ≤ 1048576) (d : Nat) : ∀ (i : Int) (out : List Int), 0 ≤ i → i + d = l.length → out.length = l.length → out.take i.toNat = l.take i.toNat → Ev (fun k => laws_toIntS.l0 k l out i) l := by
  induction d with
  | zero =>
    intro i out h0 h1 h2 h3
    refine Ev.step (fun k => by rw [laws_toIntS.l0]) ?_
    simp (disch := omega) only [if_neg]
    rw [List.take_of_length_le (by omega), List.take_of_length_le (by omega)] at h3
    subst h3
    exact Ev.now _
  | succ d ih =>
    intro i out h0 h1 h2 h3
    refine Ev.step (fun k => by rw [laws_toIntS.l0]) ?_
    simp (disch := omega) only [if_pos, w64]
    refine ih _ _ (by omega) (by omega) (by simpa using h2) ?_
    rw [take_rd h0 (by simp; omega), take_rd h0 (by omega), rd_set _ h0 (by omega) h0, if_pos rfl, ← h3]
    congr 1
    rw [List.take_set_of_le (Nat.le_refl _)]
theorem toIntS_ev {l : List Int} (hl : l.length ≤ 1048576) : Ev (fun k => laws_toIntS.f k l) l := by
  unfold laws_toIntS.f
  simp (disch := omega) only [if_pos]
  exact toIntS_l hl l.length _ _ (by omega) (by omega) (by simp) (by simp)
theorem eqIntS_l {l m : List Int} (hl : l.length ≤ 1099511627776) (e : l.length = m.length) (d : Nat) : ∀ (i : Int), 0 ≤ i → i + d = l.length → Ev (fun k => laws_eqIntS.l0 k l m i) (decide (l.drop i.toNat = m.drop i.toNat)) := by
  induction d with
  | zero =>
    intro i h0 h1
    refine Ev.step (fun k => by rw [laws_eqIntS.l0]) ?_
    simp (disch := omega) only [if_neg]
    refine ev_to (Ev.now _) ?_
    rw [List.drop_of_length_le (by omega), List.drop_of_length_le (by omega)]; simp
  | succ d ih =>
    intro i h0 h1
    refine Ev.step (fun k => by rw [laws_eqIntS.l0]) ?_
    simp (disch := omega) only [if_pos, w64]
    rw [drop_rd h0 (by omega), drop_rd (l := m) h0 (by omega)]
    by_cases h : rd l i = rd m i
    · refine ev_ifp h (ev_to (ih (i + 1) (by omega) (by omega)) ?_)
      simp [h]
    · refine ev_ifn h (ev_to (Ev.now _) ?_)
      simp [h]
theorem eqIntS_ev {l m : List Int} (hl : l.length ≤ 1099511627776) : Ev (fun k => laws_eqIntS.f k l m) (decide (l = m)) := by
  unfold laws_eqIntS.f
  by_cases e : l.length = m.length
  · refine ev_ifp (by omega) (ev_to (eqIntS_l hl e l.length 0 (by omega) (by omega)) ?_)
    simp
  · refine ev_ifn (by omega) (ev_to (Ev.now _) ?_)
    simp; intro h; exact e (by rw [h])
theorem eqIntS_same {l : List Int} (hl : l.length ≤ 1099511627776) : Ev (fun k => laws_eqIntS.f k l l) true := ev_to (eqIntS_ev hl) (by simp)
theorem markIntS_l {n : Nat} (a : Int) (ha : 0 ≤ a) (hn : a + n ≤ 4611686018427387904) (d : Nat) : ∀ (i : Int) (l : List Int), 0 ≤ i → i + d = n → l.length = n → (∀ j, 0 ≤ j → j < i → rd l j = a + j) → Ev (fun k => laws_markIntS.l0 k l (a + i) i) (a + n, marks a n) := by
  induction d with
  | zero =>
    intro i l h0 h1 h2 h3
    refine Ev.step (fun k => by rw [laws_markIntS.l0]) ?_
    simp (disch := omega) only [if_neg]
    refine ev_to (Ev.now _) ?_
    rw [show a + i = a + n from by omega]
    congr 1
    refine rd_ext (by rw [h2, marks_len]) fun j hj hj' => ?_
    rw [h3 j hj (by omega), marks_rd _ _ _ hj (by omega)]
  | succ d ih =>
    intro i l h0 h1 h2 h3
    refine Ev.step (fun k => by rw [laws_markIntS.l0]) ?_
    simp (disch := omega) only [if_pos, w64]
    rw [Int.add_assoc]
    refine ih (i + 1) _ (by omega) (by omega) (by simpa using h2) fun j hj hj' => ?_
    rw [rd_set _ h0 (by omega) hj]
    by_cases e : j = i
    · rw [if_pos e, e]
    · rw [if_neg e]; exact h3 j hj (by omega)
theorem markIntS_ev {l : List Int} {a : Int} (ha : 0 ≤ a) (hl : a + l.length ≤ 4611686018427387904) : Ev (fun k => laws_markIntS.f k l a) (a + l.length, marks a l.length) := by
  unfold laws_markIntS.f
  have := markIntS_l a ha hl l.length 0 l (by omega) (by omega) rfl (fun j h h' => by omega)
  rwa [Int.add_zero] at this
theorem heldIntS_l {n : Nat} (a : Int) (ha : 0 ≤ a) (hn : a + n ≤ 4611686018427387904) (d : Nat) : ∀ (i : Int), 0 ≤ i → i + d = n → Ev (fun k => laws_heldIntS.l0 k (marks a n) (a + i) i) (a + n) := by
  have hm := marks_len a n
  induction d with
  | zero =>
    intro i h0 h1
    refine Ev.step (fun k => by rw [laws_heldIntS.l0]) ?_
    simp (disch := omega) only [if_neg]
    exact ev_to (Ev.now _) (by omega)
  | succ d ih =>
    intro i h0 h1
    refine Ev.step (fun k => by rw [laws_heldIntS.l0]) ?_
    simp (disch := omega) only [if_pos, w64]
    refine ev_ifp (marks_rd _ _ _ h0 (by omega)) ?_
    rw [Int.add_assoc]
    exact ih (i + 1) (by omega) (by omega)
theorem heldIntS_ev {n : Nat} {a : Int} (ha : 0 ≤ a) (hn : a + n ≤ 4611686018427387904) : Ev (fun k => laws_heldIntS.f k (marks a n) a) (a + n) := by
  unfold laws_heldIntS.f
  have := heldIntS_l a ha hn n 0 (by omega) (by omega)
  rwa [Int.add_zero] at this
end Go.Proofs.Ytllhjnaiobpghaa.E
end
section
namespace Go.Proofs.Ytllhjnaiobpghaa.Pure
open Go.RowKit Go.Proofs.Ytllhjnaiobpghaa.PA Go.Proofs.Ytllhjnaiobpghaa.E Go.Proofs.YtllhjnaiobpghaaW.PrintWords Go.Proofs.YtllhjnaiobpghaaW.PrintLast Go.Proofs.YtllhjnaiobpghaaW.PrintMore
set_option linter.unusedVariables false
set_option linter.unusedSimpArgs false
theorem FnExactBestChange : laws_FnExactBestChange.Pure := by
  intro l0 a1 h1 h2 h3 h4
  apply Ev.rounds
  unfold laws_FnExactBestChange.f
  by_cases h : (l0.length : Int) > 1048576
  · exact ev_ifp h (Ev.now _)
  have hl : l0.length ≤ 1048576 := by omega
  obtain ⟨r, hr, hi, hs⟩ := bestCoins_ev l0 a1 (by omega)
  have hr' : r.length ≤ 1048576 := by omega
  refine ev_ifn h (ev_bind _ (toIntS_ev hl) (ev_bind _ hs (ev_bind _ (toIntS_ev hl) (ev_bind _ hi (ev_bind _ (eqIntS_same (l := r) (by omega)) (ev_ifp rfl (ev_bind _ (toIntS_ev hl) (ev_bind _ (eqIntS_same (l := l0) (by omega)) (ev_ifp rfl (ev_bind _ (markIntS_ev (l := l0) (a := 1) (by omega) (by omega)) (ev_ifn (show ¬ (1 + (l0.length : Int) < 0) by omega) (ev_bind _ (eqIntS_same (l := r) (by omega)) ?_))))))))))))
  refine Ev.step (fun k => by rw [laws_FnExactBestChange.j0]) (ev_ifn (by simp) (ev_bind _ (markIntS_ev (l := r) (a := 1) (by omega) (by omega)) (ev_bind _ (heldIntS_ev (n := r.length) (a := 1) (by omega) (by omega)) (ev_ifn (show ¬ (1 + (r.length : Int) < 0) by omega) (ev_ifp rfl (ev_bind _ (toIntS_ev hl) (ev_bind _ hi (ev_bind _ (eqIntS_same (l := r) (by omega)) (ev_ifp rfl (ev_bind _ (heldIntS_ev (n := r.length) (a := 1) (by omega) (by omega)) (ev_ifn (show ¬ (1 + (r.length : Int) < 0) by omega) (ev_ifp rfl (Ev.now _)))))))))))))
end Go.Proofs.Ytllhjnaiobpghaa.Pure
end
section
namespace Go.Proofs.YtllhjnaiobpghaaW.PrintWords
open Go.ChangeShapes Go.WideShapes
theorem sized_ints {H : Type} {enc : TypeId × Value → H} {P : Program} {W : World} {base : Nat} {spare : Nat → Bool} {held : Bool} {t e : TypeId} {k : IntKind} {a : Option Addr} {len cap : Nat} {d : DataW H} {ps : List MemPlace} {ts : List TypeId} {ds : List (DataW H)} {j : Nat}
    (hsz : (DataW.weightsEach P ts ds).all (· ≤ reachBytes) = true) (ht : ts[j]? = some t) (hd : ds[j]? = some d) (hu : P.underlying t = some (.slice e)) (he : P.underlying e = some (.int k)) (hc : P.cellsOf e = 1) {B : Nat} (hB : P.bytesOf e = B)
    (h : DataW.Trod enc P W base spare held t (.slice a len cap) d ps) : len * B ≤ 140737488351232 := by
  obtain ⟨fuel, hf⟩ := h
  rcases open_ints hu he hc hf with ⟨hcs, _⟩ | ⟨x, l, c, zs, hcs, _, hl, _, hz, hx, _, _⟩
  · simp [Value.cells] at hcs
    obtain ⟨rfl, rfl, rfl⟩ := hcs
    simp
  · simp [Value.cells] at hcs
    obtain ⟨rfl, rfl, rfl⟩ := hcs
    obtain ⟨hx, _⟩ := Prod.mk.inj hx
    subst hx
    have z := sized_slice hsz ht hd hu
    rw [hB] at z
    have hl2 : len ≤ zs.length := by
      rw [hz]
      split
      · exact hl
      · exact Nat.le_refl _
    have h1 : (lits (H := H) k (zs.take len)).length + (lits (H := H) k (zs.drop len)).length = zs.length := by
      simp [lits]
      omega
    rw [h1] at z
    exact Nat.le_trans (Nat.mul_le_mul_right _ hl2) z
end Go.Proofs.YtllhjnaiobpghaaW.PrintWords
end
