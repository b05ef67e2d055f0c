-- Bundled by shake.py from this session's printed and written texts; Lean checks it.
import Derived.ChangeSlices
import Derived.SizedLaws
import Derived.Test.YtkifakepmomgfaaZFnExactStampsForx0
import Derived.Test.YtkifakepmomgfaaZFnExactStampsForx1
import Derived.Test.YtkifakepmomgfaaZFnExactStampsForx2
import Derived.Test.YtkifakepmomgfaaZFnExactStampsForx3
import Derived.Test.YtkifakepmomgfaaZFnExactStampsForx4
import Derived.Test.YtkifakepmomgfaaZFnExactStampsForx5
section
namespace Go.Proofs.Ytkifakepmomgfaa.E
open Go.RowKit Go.Proofs.Ytkifakepmomgfaa.PA Go.Proofs.YtkifakepmomgfaaW.PrintWords Go.Proofs.YtkifakepmomgfaaW.PrintLast Go.Proofs.YtkifakepmomgfaaW.PrintMore
set_option linter.unusedVariables false
set_option linter.unusedSimpArgs false
theorem bestT_inner {v : List Int} {n need i most C : Int} {tb : List Int} {J : Nat} (hv : ∀ x ∈ v, 1 ≤ x ∧ x ≤ 1000) (hl : v.length ≤ 20) (h0 : 0 ≤ i) (hi : i < v.length) (hn : 0 ≤ n) (hnm : n ≤ most) (hm : most ≤ 4000) (htl : (tb.length : Int) = most + 1)
    (hT1 : ∀ k c, 0 ≤ k → k ≤ most → c ≤ C → Way v k c → (∀ c', Way v k c' → c ≤ c') → rd tb k = c) (hT2 : ∀ k, 0 ≤ k → k ≤ most → rd tb k ≤ C → Way v k (rd tb k)) (hT3 : ∀ k, 0 ≤ k → k ≤ most → 0 ≤ rd tb k ∧ rd tb k ≤ 4000) (hneed : need ≤ C) (hneed' : need ≤ 4000)
    (S : LevStep v n need i J) {r : (List Int × Bool)} {out : List Int} (ho : out.length = v.length) (H : Ev (fun k => spec_StampsFor.l0 k v (n - J * rd v i) tb (out.set i.toNat J) (i - 1)) r) (d : Nat) :
    ∀ j : Nat, j + d = J → Ev (fun k => spec_StampsFor.l0 k v (n - j * rd v i) tb (out.set i.toNat j) i) r := by
  have hx := hv _ (rd_mem (l := v) h0 hi)
  have hn0 := S.n0
  have hc0 := S.c0
  have hJx : 0 ≤ (J : Int) * rd v i := Int.mul_nonneg (by omega) (by omega)
  induction d with
  | zero =>
    intro j hj
    obtain rfl : j = J := by omega
    have e1 := hT1 _ _ S.n0 (by omega) (by omega) (S.least j (Nat.le_refl _)).1 (S.least j (Nat.le_refl _)).2
    refine Ev.step (fun k => by rw [spec_StampsFor.l0]) ?_
    rw [w64 (x := i - 1) (by omega) (by omega)]
    refine ev_ifp (by omega) (ev_ifp h0 (ev_ifp hi ?_))
    by_cases c : rd v i ≤ n - j * rd v i
    · rw [w64 (x := n - j * rd v i - rd v i) (by omega) (by omega)]
      have b := hT3 (n - j * rd v i - rd v i) (by omega) (by omega)
      rw [w64 (x := rd tb (n - j * rd v i - rd v i) + 1) (by omega) (by omega)]
      refine ev_ifp c (ev_ifp (by omega) (ev_ifp (by omega) (ev_ifp (by omega) (ev_ifp (by omega) (ev_ifn ?_ H)))))
      intro e
      have := hT2 (n - j * rd v i - rd v i) (by omega) (by omega) (by omega)
      rw [show rd tb (n - j * rd v i - rd v i) = need - j - 1 from by omega] at this
      exact S.stop this
    · exact ev_ifn c H
  | succ d ih =>
    intro j hj
    have hjJ : j + 1 ≤ J := by omega
    have hle : ((j + 1 : Nat) : Int) * rd v i ≤ J * rd v i := Int.mul_le_mul_of_nonneg_right (by omega) (by omega)
    have hle' : ((j + 1 : Nat) : Int) * rd v i = j * rd v i + rd v i := by rw [show ((j + 1 : Nat) : Int) = j + 1 from by omega, Int.add_mul]; omega
    have hj0 : 0 ≤ (j : Int) * rd v i := Int.mul_nonneg (by omega) (by omega)
    have e1 := hT1 (n - j * rd v i) (need - j) (by omega) (by omega) (by omega) (S.least j (by omega)).1 (S.least j (by omega)).2
    have e2 := hT1 (n - ((j + 1 : Nat) : Int) * rd v i) (need - ((j + 1 : Nat) : Int)) (by omega) (by omega) (by omega) (S.least (j + 1) hjJ).1 (S.least (j + 1) hjJ).2
    have e3 : n - j * rd v i - rd v i = n - ((j + 1 : Nat) : Int) * rd v i := by omega
    refine Ev.step (fun k => by rw [spec_StampsFor.l0]) ?_
    rw [w64 (x := n - j * rd v i - rd v i) (by omega) (by omega), e3, e2, w64 (x := need - ((j + 1 : Nat) : Int) + 1) (by omega) (by omega), rd_set _ h0 (by omega) h0, if_pos rfl, w64 (x := (j : Int) + 1) (by omega) (by omega)]
    refine ev_ifp (by omega) (ev_ifp h0 (ev_ifp hi (ev_ifp (by omega) (ev_ifp (by omega) (ev_ifp (by omega) (ev_ifp (by omega) (ev_ifp (by omega) (ev_ifp (by omega) (ev_ifp (by simpa using by omega) ?_)))))))))
    rw [List.set_set]
    exact ih (j + 1) (by omega)
theorem bestT_levels {v : List Int} {most C : Int} {tb : List Int} {t : List (List Int)} (hv : ∀ x ∈ v, 1 ≤ x ∧ x ≤ 1000) (hl : v.length ≤ 20) (hm : most ≤ 4000) (ht : FewTab v most t) (htl : (tb.length : Int) = most + 1)
    (hT1 : ∀ k c, 0 ≤ k → k ≤ most → c ≤ C → Way v k c → (∀ c', Way v k c' → c ≤ c') → rd tb k = c) (hT2 : ∀ k, 0 ≤ k → k ≤ most → rd tb k ≤ C → Way v k (rd tb k)) (hT3 : ∀ k, 0 ≤ k → k ≤ most → 0 ≤ rd tb k ∧ rd tb k ≤ 4000) (d : Nat) :
    ∀ (i n need : Int) (out : List Int), i + 1 = d → i < v.length → 0 ≤ n → n ≤ most → 0 ≤ need → need ≤ C → need ≤ 4000 → Lev v n need i → out.length = v.length → (∀ j, 0 ≤ j → j ≤ i → rd out j = 0) → (∀ x ∈ out, 0 ≤ x) →
      ∃ r : List Int, r.length = v.length ∧ Ev (fun k => impl_best.l0 k v n t out need i) r ∧ Ev (fun k => spec_StampsFor.l0 k v n tb out i) (r, true) ∧ (∀ x ∈ r, 0 ≤ x) ∧ dot r v = dot out v + n ∧ r.sum = out.sum + need := by
  induction d with
  | zero =>
    intro i n need out h1 h2 h3 h4 h5 h6 h7 L h8 h9 h10
    have h00 : n = 0 ∧ need = 0 := by
      rcases L.way.last with e | ⟨y, hy, w⟩
      · exact e
      · exact absurd w (L.no y (by rw [show (i + 1).toNat = 0 from by omega]; simpa using hy))
    obtain ⟨rfl, rfl⟩ := h00
    refine ⟨out, h8, Ev.step (fun k => by rw [impl_best.l0]) (ev_ifn (by omega) (Ev.now _)), Ev.step (fun k => by rw [spec_StampsFor.l0]) (ev_ifn (by omega) (Ev.now _)), h10, by omega, by omega⟩
  | succ d ih =>
    intro i n need out h1 h2 h3 h4 h5 h6 h7 L h8 h9 h10
    have h0 : 0 ≤ i := by omega
    have hx := hv _ (rd_mem (l := v) h0 h2)
    obtain ⟨J, S⟩ := lev_step (fun x hx => (hv x hx).1) h0 h2 L
    have hJx : 0 ≤ (J : Int) * rd v i := Int.mul_nonneg (by omega) (by omega)
    have hn0 := S.n0
    have hc0 := S.c0
    obtain ⟨r, hr, a, b, b1, b2, b3⟩ := ih (i - 1) (n - J * rd v i) (need - J) (out.set i.toNat J) (by omega) (by omega) S.n0 (by omega) (by omega) (by omega) (by omega) S.next (by simpa using h8) (by
      intro j hj hj'
      rw [rd_set _ h0 (by omega) hj, if_neg (by omega)]
      exact h9 j hj (by omega)) (nonneg_set h10 (by omega))
    have ez : rd out i = 0 := h9 i h0 (by omega)
    have ei : ((i.toNat : Nat) : Int) = i := by omega
    have d1 := dot_set out v i.toNat J h8 (by omega)
    have d2 := sum_set out i.toNat J (by omega)
    rw [ei, ez, Int.sub_zero] at d1 d2
    refine ⟨r, hr, Ev.step (fun k => by rw [impl_best.l0]) ?_, ?_, b1, by omega, by omega⟩
    · have hd1 : 0 ≤ n / rd v i := Int.ediv_nonneg h3 (by omega)
      have hd2 : n / rd v i ≤ n := Int.ediv_le_self _ h3
      rw [Int.tdiv_eq_ediv_of_nonneg h3, w64 (x := n / rd v i) (by omega) (by omega)]
      refine ev_ifp (by omega) (ev_ifp h0 (ev_ifp h2 (ev_ifn (by omega) ?_)))
      have hmn : mn (n / rd v i) need = min (n / rd v i) need := by unfold mn; omega
      rw [hmn]
      have hJ1 : (J : Int) ≤ n / rd v i := (int_ediv_mul_le hx.1 (by omega)).2 (by omega)
      refine best_inner hv hl h0 h2 h3 h4 hm ht h7 h8 S a (min (n / rd v i) need - J).toNat _ (by omega) ?_ (by omega)
      have h1 : min (n / rd v i) need * rd v i ≤ n / rd v i * rd v i := Int.mul_le_mul_of_nonneg_right (by omega) (by omega)
      have h2' := Int.ediv_mul_le n (b := rd v i) (by omega)
      omega
    · have := bestT_inner hv hl h0 h2 h3 h4 hm htl hT1 hT2 hT3 h6 h7 S h8 b J 0 (by omega)
      rw [show n - ((0 : Nat) : Int) * rd v i = n from by simp] at this
      have e : out.set i.toNat ((0 : Nat) : Int) = out := by
        refine rd_ext (by simp) fun j hj hj' => ?_
        rw [rd_set _ h0 (by omega) hj]
        by_cases e : j = i
        · rw [if_pos e, e, h9 i h0 (by omega)]; rfl
        · rw [if_neg e]
      rw [e] at this
      exact this
end Go.Proofs.Ytkifakepmomgfaa.E
end
section
namespace Go.Proofs.Ytkifakepmomgfaa.E
open Go.RowKit Go.Proofs.Ytkifakepmomgfaa.PA Go.Proofs.YtkifakepmomgfaaW.PrintWords Go.Proofs.YtkifakepmomgfaaW.PrintLast Go.Proofs.YtkifakepmomgfaaW.PrintMore
set_option linter.unusedVariables false
set_option linter.unusedSimpArgs false
theorem bestI_start {v : List Int} {n : Int} (hn : 0 ≤ n) (hn' : n ≤ 4000) (hv : ∀ y ∈ v, 1 ≤ y ∧ y ≤ 1000) (hl : v.length ≤ 20) {t : List (List Int)} (ht : FewTab v n t) (hE : Ev (fun k => impl_fewest.f k v n) t) {need : Int} (hf : rd (rd_L1 t v.length) n = need) {r : List Int}
    (H : Ev (fun k => impl_best.l0 k v n t (List.replicate v.length 0) need (v.length - 1)) r) : Ev (fun k => impl_best.f k v n) r := by
  have hrow := ht.2 v.length (by omega) (by omega)
  have htl := ht.1
  have hrl := hrow.1
  unfold impl_best.f
  rw [hf.symm] at H
  refine ev_bind _ hE (ev_ifp (by omega) (ev_ifp (by omega) (ev_ifp (by omega) (ev_ifp hn (ev_ifp (by omega) ?_)))))
  rw [w64 (by omega) (by omega), show ((v.length : Int)).toNat = v.length from by omega]
  exact H
end Go.Proofs.Ytkifakepmomgfaa.E
end
section
namespace Go.Proofs.Ytkifakepmomgfaa.E
open Go.RowKit Go.Proofs.YtkifakepmomgfaaW.PrintWords Go.Proofs.YtkifakepmomgfaaW.PrintLast Go.Proofs.YtkifakepmomgfaaW.PrintMore
set_option linter.unusedVariables false
set_option linter.unusedSimpArgs false
def TB (B : Int) (v : List Int) (k m : Int) : Prop := 0 ≤ m ∧ m ≤ B ∧ (∀ c, Way v k c → m ≤ c) ∧ (m < B → Way v k m)
theorem TB.end_ {B : Int} {v : List Int} (hv : ∀ x ∈ v, 1 ≤ x) (ha : Asc v) {n best i : Int} {out : List Int} (hn : 1 ≤ n) (h0 : 0 ≤ best) (h1 : best ≤ B) (h2 : best < B → Way v n best) (h3 : ∀ j, 0 ≤ j → j < i → rd v j ≤ n → best ≤ rd out (n - rd v j) + 1)
    (h4 : ∀ k, 0 ≤ k → k < n → ∀ c, Way v k c → rd out k ≤ c ∨ best ≤ c + 1) (hi : ∀ j, i ≤ j → j < v.length → n < rd v j) : TB B v n best := by
  refine ⟨h0, h1, fun c w => ?_, h2⟩
  rcases w.last with ⟨e, _⟩ | ⟨x, hx, w'⟩
  · omega
  · have hp := w'.pos hv
    have hx1 := hv x hx
    obtain ⟨j, hj, hj', rfl⟩ := mem_rd hx
    by_cases hji : j < i
    · have := h3 j hj hji (by omega)
      rcases h4 (n - rd v j) (by omega) (by omega) _ w' with h | h <;> omega
    · have := hi j (by omega) hj'
      omega
theorem Asc.lt {v : List Int} (ha : Asc v) {i : Int} (h0 : 0 ≤ i) (d : Nat) : i + d < v.length → rd v i ≤ rd v (i + d) := by
  induction d with
  | zero => intro _; simp
  | succ d ih =>
    intro h
    have h1 := ih (by omega)
    have h2 := ha (i + (d + 1 : Nat)) (by omega) h
    rw [show i + ((d + 1 : Nat) : Int) - 1 = i + d from by omega] at h2
    omega
theorem Asc.le {v : List Int} (ha : Asc v) {i j : Int} (h0 : 0 ≤ i) (hij : i ≤ j) (hj : j < v.length) : rd v i ≤ rd v j := by
  have := ha.lt h0 (j - i).toNat (by omega)
  rwa [show i + ((j - i).toNat : Int) = j from by omega] at this
end Go.Proofs.Ytkifakepmomgfaa.E
end
section
namespace Go.Proofs.Ytkifakepmomgfaa.E
open Go.RowKit Go.Proofs.YtkifakepmomgfaaW.PrintWords Go.Proofs.YtkifakepmomgfaaW.PrintLast Go.Proofs.YtkifakepmomgfaaW.PrintMore
set_option linter.unusedVariables false
set_option linter.unusedSimpArgs false
theorem AreSt.len {v : List Int} (h : AreSt v) : 1 ≤ v.length ∧ v.length ≤ 6 := by have := h.1; omega
theorem AreSt.vals {v : List Int} (h : AreSt v) : ∀ x ∈ v, 1 ≤ x ∧ x ≤ 1000 := fun x hx => by have := h.2.1 x hx; omega
theorem AreSt.pos {v : List Int} (h : AreSt v) : ∀ x ∈ v, 1 ≤ x := fun x hx => (h.2.1 x hx).1
theorem Way.most {v : List Int} {B : Int} (h : ∀ x ∈ v, x ≤ B) {k c : Int} (w : Way v k c) : k ≤ c * B := by
  induction w with
  | zero => simp
  | @add x k c hx _ ih => have := h x hx; rw [Int.add_mul]; omega
def Can (v : List Int) (h k : Int) : Prop := ∃ c, c ≤ h ∧ Way v k c
theorem can_fw {v : List Int} (hv : ∀ x ∈ v, 1 ≤ x) {k m h : Int} (hh : 0 ≤ h) (f : Fw v k m) : (0 ≤ m ∧ m ≤ h) ↔ Can v h k := by
  constructor
  · rintro ⟨h1, h2⟩; exact ⟨m, h2, (f.way h1).1⟩
  · rintro ⟨c, hc, w⟩
    have h1 : 0 ≤ m := by have := (not_congr (f.neg hv)).2 (fun hno => hno _ w); omega
    have := (f.way h1).2 _ w
    omega
theorem can_tb {v : List Int} {k m h : Int} (hh : h < 9) (f : TB 9 v k m) : m ≤ h ↔ Can v h k := by
  constructor
  · intro h1; exact ⟨m, h1, f.2.2.2 (by omega)⟩
  · rintro ⟨c, hc, w⟩
    have := f.2.2.1 _ w
    omega
end Go.Proofs.Ytkifakepmomgfaa.E
end
section
namespace Go.Proofs.Ytkifakepmomgfaa.E
open Go.RowKit Go.Proofs.Ytkifakepmomgfaa.PA Go.Proofs.YtkifakepmomgfaaW.PrintWords Go.Proofs.YtkifakepmomgfaaW.PrintLast Go.Proofs.YtkifakepmomgfaaW.PrintMore
set_option linter.unusedVariables false
set_option linter.unusedSimpArgs false
theorem l1Min_eq (a b : Int) : spec_l1Min.f a b = some (min a b) := by
  unfold spec_l1Min.f
  by_cases h : a < b
  · rw [if_pos h, Int.min_eq_left (by omega)]
  · rw [if_neg h, Int.min_eq_right (by omega)]
end Go.Proofs.Ytkifakepmomgfaa.E
end
section
namespace Go.Proofs.Ytkifakepmomgfaa.E
open Go.RowKit Go.Proofs.Ytkifakepmomgfaa.PA Go.Proofs.YtkifakepmomgfaaW.PrintWords Go.Proofs.YtkifakepmomgfaaW.PrintLast Go.Proofs.YtkifakepmomgfaaW.PrintMore
set_option linter.unusedVariables false
set_option linter.unusedSimpArgs false
def CAP27 (_ : Int) : Int := 9
theorem tab27_l1 {v : List Int} {most n : Int} {out : List Int} (hl : v.length ≤ 20) (hv : ∀ x ∈ v, 1 ≤ x ∧ x ≤ 1000) (ha : Asc v) (hn : 1 ≤ n) (hn' : n ≤ 4000) (ho : (out.length : Int) = n) (hout : ∀ k, 0 ≤ k → k < n → TB (CAP27 k) v k (rd out k)) (hw : ∀ k m, 0 ≤ k → TB (CAP27 k) v k m → Way v k m ∨ ∀ n, CAP27 n ≤ m + 1) (d : Nat) :
    ∀ (i best : Int), 0 ≤ i → i + d = v.length → 0 ≤ best → best ≤ CAP27 n → (best < CAP27 n → Way v n best) → (∀ j, 0 ≤ j → j < i → rd v j ≤ n → best ≤ rd out (n - rd v j) + 1) →
      ∃ m, TB (CAP27 n) v n m ∧ ∀ r, Ev (fun k => spec_l27Table.l0 k v most (out ++ [m]) (n + 1)) r → Ev (fun k => spec_l27Table.l1 k v most out n best i) r := by
  have hv1 : ∀ x ∈ v, 1 ≤ x := fun x hx => (hv x hx).1
  induction d with
  | zero =>
    intro i best h0 h1 h2 h3 h4 h5
    refine ⟨best, TB.end_ (out := out) (i := i) hv1 ha hn h2 h3 h4 h5 (fun k hk hk' c w => .inl ((hout k hk hk').2.2.1 c w)) (fun j hj hj' => by omega), fun r hr => Ev.step (fun k => by rw [spec_l27Table.l1]) (ev_ifn (by omega) (ev_ifp (by omega) ?_))⟩
    rw [w64 (by omega) (by omega)]; exact hr
  | succ d ih =>
    intro i best h0 h1 h2 h3 h4 h5
    have hx := hv _ (rd_mem (l := v) h0 (by omega))
    by_cases hc : rd v i ≤ n
    · have ht := hout (n - rd v i) (by omega) (by omega)
      have hb : CAP27 (n - rd v i) ≤ 4000 := by unfold CAP27; omega
      have hm : Way v n (rd out (n - rd v i) + 1) ∨ CAP27 n ≤ rd out (n - rd v i) + 1 := by
        rcases hw _ _ (by omega) ht with e | e
        · have := Way.add (rd_mem (l := v) h0 (by omega)) e
          rw [show n - rd v i + rd v i = n from by omega] at this
          exact .inl this
        · exact .inr (e n)
      obtain ⟨m, a, b⟩ := ih (i + 1) (min best (rd out (n - rd v i) + 1)) (by omega) (by omega) (by have := ht.1; omega) (by omega) (by
        intro hlt
        by_cases e : best < rd out (n - rd v i) + 1
        · rw [Int.min_eq_left (by omega)] at hlt ⊢; exact h4 hlt
        · rw [Int.min_eq_right (by omega)] at hlt ⊢
          rcases hm with h | h
          · exact h
          · omega) (by
        intro j hj hj' hjn
        by_cases e : j = i
        · subst e; omega
        · have := h5 j hj (by omega) hjn; omega)
      refine ⟨m, a, fun r hr => Ev.step (fun k => by rw [spec_l27Table.l1]) ?_⟩
      have ht1 := ht.1
      have ht2 := ht.2.1
      simp (disch := omega) only [if_pos, w64, l1Min_eq, Option.bind_some]
      exact b r hr
    · refine ⟨best, TB.end_ (out := out) (i := i) hv1 ha hn h2 h3 h4 h5 (fun k hk hk' c w => .inl ((hout k hk hk').2.2.1 c w)) (fun j hj hj' => by have := ha.le h0 hj hj'; omega), fun r hr => Ev.step (fun k => by rw [spec_l27Table.l1]) (ev_ifp (by omega) (ev_ifp h0 (ev_ifn hc (ev_ifp (by omega) ?_))))⟩
      rw [w64 (by omega) (by omega)]; exact hr
theorem tab27_l0 {v : List Int} {most : Int} (hl : v.length ≤ 20) (hv : ∀ x ∈ v, 1 ≤ x ∧ x ≤ 1000) (ha : Asc v) (hm' : most ≤ 4000) (hw : ∀ k m, 0 ≤ k → TB (CAP27 k) v k m → Way v k m ∨ ∀ n, CAP27 n ≤ m + 1) (d : Nat) : ∀ (n : Int) (out : List Int), 1 ≤ n → n + d = most + 1 → (out.length : Int) = n → (∀ k, 0 ≤ k → k < n → TB (CAP27 k) v k (rd out k)) →
    ∃ t : List Int, (t.length : Int) = most + 1 ∧ (∀ k, 0 ≤ k → k ≤ most → TB (CAP27 k) v k (rd t k)) ∧ Ev (fun k => spec_l27Table.l0 k v most out n) t := by
  induction d with
  | zero =>
    intro n out h1 h2 h3 h4
    exact ⟨out, by omega, fun k hk hk' => h4 k hk (by omega), Ev.step (fun k => by rw [spec_l27Table.l0]) (ev_ifn (by omega) (Ev.now _))⟩
  | succ d ih =>
    intro n out h1 h2 h3 h4
    obtain ⟨m, a, b⟩ := tab27_l1 (most := most) hl hv ha h1 (by omega) h3 h4 hw v.length 0 (CAP27 n) (by omega) (by omega) (by unfold CAP27; omega) (by omega) (by omega) (fun j hj hj' => by omega)
    obtain ⟨t, t1, t2, t3⟩ := ih (n + 1) (out ++ [m]) (by omega) (by omega) (by simp; omega) (by
      intro k hk hk'
      rw [rd_append hk]
      by_cases e : k < out.length
      · rw [if_pos e]; exact h4 k hk (by omega)
      · rw [if_neg e, show k - out.length = 0 from by omega]
        rw [show k = n from by omega]; exact a)
    refine ⟨t, t1, t2, ?_⟩
    refine Ev.step (fun k => by rw [spec_l27Table.l0]) ?_
    exact ev_ifp (by omega) (b t t3)
theorem tab27_ev {v : List Int} {most : Int} (hl : v.length ≤ 20) (hv : ∀ x ∈ v, 1 ≤ x ∧ x ≤ 1000) (ha : Asc v) (hm : 0 ≤ most) (hm' : most ≤ 4000) :
    ∃ t : List Int, (t.length : Int) = most + 1 ∧ (∀ k, 0 ≤ k → k ≤ most → TB (CAP27 k) v k (rd t k)) ∧ Ev (fun k => spec_l27Table.f k v most) t := by
  refine tab27_l0 hl hv ha hm' (fun k m hk h => by
    by_cases e : m < 9
    · exact .inl (h.2.2.2 e)
    · exact .inr fun n => by unfold CAP27; omega) most.toNat 1 [0] (by omega) (by omega) (by simp) fun k hk hk' => ?_
  obtain rfl : k = 0 := by omega
  refine ⟨by simp [rd], by simp [rd, CAP27], fun c w => ?_, fun _ => by simpa [rd] using Way.zero⟩
  simpa [rd] using (w.pos (fun x hx => (hv x hx).1)).1
end Go.Proofs.Ytkifakepmomgfaa.E
end
section
namespace Go.Proofs.Ytkifakepmomgfaa.E
open Go.RowKit Go.Proofs.Ytkifakepmomgfaa.PA Go.Proofs.YtkifakepmomgfaaW.PrintWords Go.Proofs.YtkifakepmomgfaaW.PrintLast Go.Proofs.YtkifakepmomgfaaW.PrintMore
set_option linter.unusedVariables false
set_option linter.unusedSimpArgs false
def StArg (v : List Int) (h n : Int) : Prop := AreSt v ∧ (1 ≤ h ∧ h ≤ 6) ∧ (0 ≤ n ∧ n ≤ 400)
noncomputable instance (v : List Int) (h n : Int) : Decidable (StArg v h n) := Classical.propDecidable _
theorem stampsI_arg {v : List Int} (h n : Int) (hl : v.length ≤ 1099511627776) {r : List Int × Bool} (H : Ev (fun k => impl_StampsFor.j0 k v h n (!decide (StArg v h n))) r) : Ev (fun k => impl_StampsFor.f k v h n) r := by
  unfold impl_StampsFor.f
  simp only [within_eq, Option.bind_some]
  by_cases h1 : AreSt v
  · by_cases h2 : 1 ≤ h ∧ h ≤ 6
    · refine ev_bind _ (areStampsI_ev hl) (ev_ifp (by simpa using h1) (ev_ifp (by simpa using h2) ?_))
      rwa [show decide (0 ≤ n ∧ n ≤ 400) = decide (StArg v h n) from by simp only [StArg, h1, h2, true_and]]
    · refine ev_bind _ (areStampsI_ev hl) (ev_ifp (by simpa using h1) (ev_ifn (by simpa using h2) ?_))
      rwa [show (!decide (StArg v h n)) = true from nd_t (fun e => h2 e.2.1)] at H
  · refine ev_bind _ (areStampsI_ev hl) (ev_ifn (by simpa using h1) ?_)
    rwa [show (!decide (StArg v h n)) = true from nd_t (fun e => h1 e.1)] at H
theorem stampsS_arg {v : List Int} (h n : Int) (hl : v.length ≤ 1099511627776) {r : List Int × Bool} (H : Ev (fun k => spec_StampsFor.j0 k v h n (!decide (StArg v h n))) r) : Ev (fun k => spec_StampsFor.f k v h n) r := by
  unfold spec_StampsFor.f
  simp only [l1In_eq, Option.bind_some]
  by_cases h1 : AreSt v
  · by_cases h2 : 1 ≤ h ∧ h ≤ 6
    · refine ev_bind _ (areStampsS_ev hl) (ev_ifp (by simpa using h1) (ev_ifp (by simpa using h2) ?_))
      rwa [show decide (0 ≤ n ∧ n ≤ 400) = decide (StArg v h n) from by simp only [StArg, h1, h2, true_and]]
    · refine ev_bind _ (areStampsS_ev hl) (ev_ifp (by simpa using h1) (ev_ifn (by simpa using h2) ?_))
      rwa [show (!decide (StArg v h n)) = true from nd_t (fun e => h2 e.2.1)] at H
  · refine ev_bind _ (areStampsS_ev hl) (ev_ifn (by simpa using h1) ?_)
    rwa [show (!decide (StArg v h n)) = true from nd_t (fun e => h1 e.1)] at H
theorem stamps_ev (v : List Int) (h n : Int) (hl : v.length ≤ 1099511627776) : ∃ (r : List Int) (ok : Bool), r.length ≤ 6 ∧ Ev (fun k => impl_StampsFor.f k v h n) (r, ok) ∧ Ev (fun k => spec_StampsFor.f k v h n) (r, ok) ∧ (ok = true ↔ StArg v h n ∧ Can v h n) ∧ (ok = true → r.length = v.length ∧ (∀ x ∈ r, 0 ≤ x) ∧ dot r v = n ∧ r.sum ≤ h) ∧ (ok = false → r = []) := by
  by_cases hA : StArg v h n
  · obtain ⟨h1, h2, h3⟩ := id hA
    have hlen := h1.len
    obtain ⟨t, ht, hE⟩ := fewest_ev (n := n) h3.1 (by omega) h1.vals (by omega)
    obtain ⟨tb, hb1, hb2, hE'⟩ := tab27_ev (v := v) (most := n) (by omega) h1.vals h1.2.2 h3.1 (by omega)
    have hrow := ht.2 v.length (by omega) (by omega)
    rw [show ((v.length : Int)).toNat = v.length from by omega, List.take_length] at hrow
    have f := hrow.2 n h3.1 (by omega)
    have g := hb2 n h3.1 (Int.le_refl _)
    have cf := can_fw h1.pos (h := h) (by omega) f
    have cg := can_tb (h := h) (by omega) g
    have htl := ht.1
    have hrl := hrow.1
    by_cases hc : Can v h n
    · have c1 := cf.2 hc
      have c2 := cg.2 hc
      obtain ⟨w, hw⟩ := f.way c1.1
      obtain ⟨r, hr, a, b, b1, b2, b3⟩ := bestT_levels (C := 8) (most := n) (tb := tb) h1.vals (by omega) (by omega) ht hb1 (fun k c hk hk' hC hw hm => by
          have T := hb2 k hk hk'
          have e1 := T.2.2.1 c hw
          have e2 := hm _ (T.2.2.2 (by unfold CAP27; omega))
          omega)
        (fun k hk hk' hC => (hb2 k hk hk').2.2.2 (by unfold CAP27; omega)) (fun k hk hk' => ⟨(hb2 k hk hk').1, by have := (hb2 k hk hk').2.1; unfold CAP27 at this; omega⟩) v.length (v.length - 1) n _ (List.replicate v.length 0) (by omega) (by omega) h3.1 (Int.le_refl _) c1.1 (by omega) (by omega)
        ⟨w, hw, fun y hy => by rw [List.drop_of_length_le (by omega)] at hy; simp at hy⟩ (by simp) (fun j hj hj' => rd_rep hj (by omega)) (fun x hx => by have := List.eq_of_mem_replicate hx; omega)
      rw [dot_zeros, Int.zero_add] at b2
      rw [sum_zeros, Int.zero_add] at b3
      refine ⟨r, true, by omega, stampsI_arg h n hl ?_, stampsS_arg h n hl ?_, ⟨fun _ => ⟨hA, hc⟩, fun _ => rfl⟩, fun _ => ⟨hr, b1, b2, by omega⟩, fun h => (by cases h)⟩
      · refine Ev.step (fun k => by rw [impl_StampsFor.j0]) ?_
        refine ev_ifn (nd_f hA) (ev_bind _ hE (ev_ifp (by omega) (ev_ifp (by omega) (ev_ifp h3.1 (ev_ifp (by omega) (ev_ifn (by omega) (ev_ifn (by omega) (ev_bind _ (bestI_start h3.1 (by omega) h1.vals (by omega) ht hE rfl a) (Ev.now _)))))))))
      · refine Ev.step (fun k => by rw [spec_StampsFor.j0]) ?_
        refine ev_ifn (nd_f hA) (ev_bind _ hE' (ev_ifp h3.1 (ev_ifp (by omega) (ev_ifn (by omega) (ev_ifp (by omega) (ev_ifp (by omega) ?_))))))
        rw [w64 (by omega) (by omega), show ((v.length : Int)).toNat = v.length from by omega]
        exact b
    · have c1 := (not_congr cf).2 hc
      have c2 := (not_congr cg).2 hc
      refine ⟨[], false, by simp, stampsI_arg h n hl ?_, stampsS_arg h n hl ?_, ⟨fun h => (by cases h), fun h' => absurd h'.2 hc⟩, fun h => (by cases h), fun _ => rfl⟩
      · refine Ev.step (fun k => by rw [impl_StampsFor.j0]) ?_
        refine ev_ifn (nd_f hA) (ev_bind _ hE (ev_ifp (by omega) (ev_ifp (by omega) (ev_ifp h3.1 (ev_ifp (by omega) ?_)))))
        by_cases e : rd (rd_L1 t v.length) n < 0
        · exact ev_ifp e (Ev.now _)
        · exact ev_ifn e (ev_ifp (by omega) (Ev.now _))
      · refine Ev.step (fun k => by rw [spec_StampsFor.j0]) ?_
        exact ev_ifn (nd_f hA) (ev_bind _ hE' (ev_ifp h3.1 (ev_ifp (by omega) (ev_ifp (by omega) (Ev.now _)))))
  · refine ⟨[], false, by simp, stampsI_arg h n hl ?_, stampsS_arg h n hl ?_, ⟨fun h => (by cases h), fun h' => absurd h'.1 hA⟩, fun h => (by cases h), fun _ => rfl⟩
    · refine Ev.step (fun k => by rw [impl_StampsFor.j0]) ?_
      exact ev_ifp (nd_t hA) (Ev.now _)
    · refine Ev.step (fun k => by rw [spec_StampsFor.j0]) ?_
      exact ev_ifp (nd_t hA) (Ev.now _)
end Go.Proofs.Ytkifakepmomgfaa.E
end
section
namespace Go.Proofs.Ytkifakepmomgfaa.Pure
open Go.RowKit Go.Proofs.Ytkifakepmomgfaa.PA Go.Proofs.Ytkifakepmomgfaa.E Go.Proofs.YtkifakepmomgfaaW.PrintWords Go.Proofs.YtkifakepmomgfaaW.PrintLast Go.Proofs.YtkifakepmomgfaaW.PrintMore
set_option linter.unusedVariables false
set_option linter.unusedSimpArgs false
theorem FnExactStampsFor : laws_FnExactStampsFor.Pure := by
  intro l0 a1 a2 h1 h2 h3 h4 h5
  apply Ev.rounds
  unfold laws_FnExactStampsFor.f
  by_cases h : (l0.length : Int) > 1048576
  · exact ev_ifp h (Ev.now _)
  have hl : l0.length ≤ 1048576 := by omega
  obtain ⟨r, ok, hr, hi, hs, _⟩ := stamps_ev l0 a1 a2 (by omega)
  have hr' : r.length ≤ 1048576 := by omega
  refine ev_ifn h (ev_bind _ (toIntS_ev hl) (ev_bind _ hs (ev_bind _ (toIntS_ev hl) (ev_bind _ hi (ev_bind _ (eqIntS_same (l := r) (by omega)) (ev_ifp rfl ?_))))))
  refine Ev.step (fun k => by rw [laws_FnExactStampsFor.j0]) (ev_ifn (by simp) (ev_bind _ (toIntS_ev hl) (ev_bind _ (eqIntS_same (l := l0) (by omega)) (ev_ifp rfl (ev_bind _ (markIntS_ev (l := l0) (a := 1) (by omega) (by omega)) (ev_ifn (show ¬ (1 + (l0.length : Int) < 0) by omega) (ev_bind _ (eqIntS_same (l := r) (by omega)) (ev_ifp rfl ?_))))))))
  refine Ev.step (fun k => by rw [laws_FnExactStampsFor.j1]) (ev_ifn (by simp) (ev_bind _ (markIntS_ev (l := r) (a := 1) (by omega) (by omega)) (ev_bind _ (heldIntS_ev (n := r.length) (a := 1) (by omega) (by omega)) (ev_ifn (show ¬ (1 + (r.length : Int) < 0) by omega) (ev_ifp rfl (ev_bind _ (toIntS_ev hl) (ev_bind _ hi (ev_bind _ (eqIntS_same (l := r) (by omega)) (ev_ifp rfl ?_)))))))))
  exact Ev.step (fun k => by rw [laws_FnExactStampsFor.j2]) (ev_ifn (by simp) (ev_bind _ (heldIntS_ev (n := r.length) (a := 1) (by omega) (by omega)) (ev_ifn (show ¬ (1 + (r.length : Int) < 0) by omega) (ev_ifp rfl (Ev.now _)))))
end Go.Proofs.Ytkifakepmomgfaa.Pure
end
section
namespace Go.Proofs.YtkifakepmomgfaaW.PrintWords
open Go.ChangeShapes Go.WideShapes
theorem sized_ints {H : Type} {enc : TypeId × Value → H} {P : Program} {W : World} {base : Nat} {spare : Nat → Bool} {held : Bool} {t e : TypeId} {k : IntKind} {a : Option Addr} {len cap : Nat} {d : DataW H} {ps : List MemPlace} {ts : List TypeId} {ds : List (DataW H)} {j : Nat}
    (hsz : (DataW.weightsEach P ts ds).all (· ≤ reachBytes) = true) (ht : ts[j]? = some t) (hd : ds[j]? = some d) (hu : P.underlying t = some (.slice e)) (he : P.underlying e = some (.int k)) (hc : P.cellsOf e = 1) {B : Nat} (hB : P.bytesOf e = B)
    (h : DataW.Trod enc P W base spare held t (.slice a len cap) d ps) : len * B ≤ 140737488351232 := by
  obtain ⟨fuel, hf⟩ := h
  rcases open_ints hu he hc hf with ⟨hcs, _⟩ | ⟨x, l, c, zs, hcs, _, hl, _, hz, hx, _, _⟩
  · simp [Value.cells] at hcs
    obtain ⟨rfl, rfl, rfl⟩ := hcs
    simp
  · simp [Value.cells] at hcs
    obtain ⟨rfl, rfl, rfl⟩ := hcs
    obtain ⟨hx, _⟩ := Prod.mk.inj hx
    subst hx
    have z := sized_slice hsz ht hd hu
    rw [hB] at z
    have hl2 : len ≤ zs.length := by
      rw [hz]
      split
      · exact hl
      · exact Nat.le_refl _
    have h1 : (lits (H := H) k (zs.take len)).length + (lits (H := H) k (zs.drop len)).length = zs.length := by
      simp [lits]
      omega
    rw [h1] at z
    exact Nat.le_trans (Nat.mul_le_mul_right _ hl2) z
end Go.Proofs.YtkifakepmomgfaaW.PrintWords
end
