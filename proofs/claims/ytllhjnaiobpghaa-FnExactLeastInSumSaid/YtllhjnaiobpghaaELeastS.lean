import Derived.Test.YtllhjnaiobpghaaEBa
import Derived.Test.YtllhjnaiobpghaaEBasic
import Derived.Test.YtllhjnaiobpghaaELeastI
import Derived.Test.YtllhjnaiobpghaaELeastPlain
import Derived.Test.YtllhjnaiobpghaaPAx7
import Derived.Test.YtllhjnaiobpghaaPAx8
namespace Go.Proofs.Ytllhjnaiobpghaa.E
open Go.RowKit Go.Proofs.Ytllhjnaiobpghaa.PA Go.Proofs.YtllhjnaiobpghaaW.PrintWords Go.Proofs.YtllhjnaiobpghaaW.PrintLast Go.Proofs.YtllhjnaiobpghaaW.PrintMore
set_option linter.unusedVariables false
set_option linter.unusedSimpArgs false
/-! spec.LeastInSum and impl.LeastInSum. -/
theorem lis_l4 {v : List Int} {a G M : Int} (hv : ∀ x ∈ v, 1 ≤ x ∧ x ≤ G) (hG : 0 ≤ G) (hG' : G ≤ 1000) (ha : 1 ≤ a) (ha' : a ≤ 200) (hl : v.length ≤ 20) {r : Int} (hr0 : 0 ≤ r) (hr1 : r < a) {P : List Int → Prop}
    (H : ∀ (t : List Int) (ch : Bool), LInv v a G t → weight (a * G + 1) t ≤ M → (ch = true → weight (a * G + 1) t < M) → (ch = false → ∀ s, 0 ≤ s → s < r + 1 → 0 ≤ rd t s → ∀ g ∈ v, 0 ≤ rd t ((rd t s + g) % a) ∧ rd t ((rd t s + g) % a) ≤ rd t s + g) → ∃ u, P u ∧ Ev (fun k => spec_LeastInSum.l3 k v a t ch (r + 1)) u) (d : Nat) :
    ∀ (t : List Int) (ch : Bool) (i : Int), 0 ≤ i → i + d = v.length → LInv v a G t → weight (a * G + 1) t ≤ M → (ch = true → weight (a * G + 1) t < M) →
      (ch = false → ∀ s, 0 ≤ s → s < r → 0 ≤ rd t s → ∀ g ∈ v, 0 ≤ rd t ((rd t s + g) % a) ∧ rd t ((rd t s + g) % a) ≤ rd t s + g) → (ch = false → 0 ≤ rd t r → ∀ j, 0 ≤ j → j < i → 0 ≤ rd t ((rd t r + rd v j) % a) ∧ rd t ((rd t r + rd v j) % a) ≤ rd t r + rd v j) →
      ∃ u, P u ∧ Ev (fun k => spec_LeastInSum.l4 k v a t ch r i) u := by
  have hm : a * G = (a - 1) * G + G := by rw [Int.sub_mul]; omega
  have haG : a * G ≤ 200 * 1000 := Int.mul_le_mul ha' hG' hG (by omega)
  induction d with
  | zero =>
    intro t ch i h0 h1 I hM h2 h3 h4
    obtain ⟨u, hu, hE⟩ := H t ch I hM h2 (by
      intro hc s hs0 hs1 hs g hg
      by_cases e : s = r
      · subst e
        obtain ⟨j, hj0, hj1, rfl⟩ := mem_rd hg
        exact h4 hc hs j hj0 (by omega)
      · exact h3 hc s hs0 (by omega) hs g hg)
    refine ⟨u, hu, Ev.step (fun k => by rw [spec_LeastInSum.l4]) (ev_ifn (by omega) (Ev.step (fun k => by rw [spec_LeastInSum.j6]) (ev_ifn (by simp) ?_)))⟩
    rw [w64 (by omega) (by omega)]; exact hE
  | succ d ih =>
    intro t ch i h0 h1 I hM h2 h3 h4
    have hgm := rd_mem (l := v) h0 (by omega)
    have hg := hv _ hgm
    have hb := I.top hG hr0 hr1
    have hlen := I.len
    have q0 := Int.emod_nonneg (rd t r + rd v i) (b := a) (by omega)
    have q1 := Int.emod_lt_of_pos (rd t r + rd v i) (b := a) (by omega)
    by_cases hs : 0 ≤ rd t r
    · have head : ∀ u, (∀ c1 : rd t ((rd t r + rd v i) % a) < 0, Ev (fun k => spec_LeastInSum.l4 k v a (t.set ((rd t r + rd v i) % a).toNat (rd t r + rd v i)) true r (i + 1)) u) → (∀ c1 : ¬ rd t ((rd t r + rd v i) % a) < 0, ∀ c2 : rd t r + rd v i < rd t ((rd t r + rd v i) % a), Ev (fun k => spec_LeastInSum.l4 k v a (t.set ((rd t r + rd v i) % a).toNat (rd t r + rd v i)) true r (i + 1)) u) → (∀ c1 : ¬ rd t ((rd t r + rd v i) % a) < 0, ∀ c2 : ¬ rd t r + rd v i < rd t ((rd t r + rd v i) % a), Ev (fun k => spec_LeastInSum.l4 k v a t ch r (i + 1)) u) → Ev (fun k => spec_LeastInSum.l4 k v a t ch r i) u := by
        intro u f1 f2 f3
        refine Ev.step (fun k => by rw [spec_LeastInSum.l4]) (ev_ifp (by omega) (ev_ifp hr0 (ev_ifp (by omega) (Ev.step (fun k => by rw [spec_LeastInSum.j6]) (ev_ifp (by simpa using hs) ?_)))))
        rw [w64 (x := rd t r + rd v i) (by omega) (by omega), Int.tmod_eq_emod_of_nonneg (by omega), w64 (x := i + 1) (by omega) (by omega)]
        refine ev_ifp hr0 (ev_ifp (by omega) (ev_ifp h0 (ev_ifp (by omega) (ev_ifn (by omega) (ev_ifp q0 (ev_ifp (by omega) ?_))))))
        by_cases c1 : rd t ((rd t r + rd v i) % a) < 0
        · exact ev_ifp c1 (f1 c1)
        · by_cases c2 : rd t r + rd v i < rd t ((rd t r + rd v i) % a)
          · exact ev_ifn c1 (ev_ifp c2 (f2 c1 c2))
          · exact ev_ifn c1 (ev_ifn c2 (f3 c1 c2))
      have change : (rd t ((rd t r + rd v i) % a) < 0 ∨ rd t r + rd v i < rd t ((rd t r + rd v i) % a)) → ∃ u, P u ∧ Ev (fun k => spec_LeastInSum.l4 k v a (t.set ((rd t r + rd v i) % a).toNat (rd t r + rd v i)) true r (i + 1)) u := by
        intro hc
        obtain ⟨I', w', _, hne⟩ := I.step hv ha hr0 hr1 hgm hs hc
        exact ih _ true (i + 1) (by omega) (by omega) I' (by omega) (fun _ => by omega) (fun h => by cases h) (fun h => by cases h)
      by_cases c1 : rd t ((rd t r + rd v i) % a) < 0
      · obtain ⟨u, hu, hE⟩ := change (.inl c1)
        exact ⟨u, hu, head u (fun _ => hE) (fun h => absurd c1 h) (fun h => absurd c1 h)⟩
      · by_cases c2 : rd t r + rd v i < rd t ((rd t r + rd v i) % a)
        · obtain ⟨u, hu, hE⟩ := change (.inr c2)
          exact ⟨u, hu, head u (fun h => absurd h c1) (fun _ _ => hE) (fun _ h => absurd c2 h)⟩
        · obtain ⟨u, hu, hE⟩ := ih t ch (i + 1) (by omega) (by omega) I hM h2 h3 (fun hf hs j hj0 hj1 => by
            by_cases e : j = i
            · subst e; omega
            · exact h4 hf hs j hj0 (by omega))
          exact ⟨u, hu, head u (fun h => absurd h c1) (fun _ h => absurd h c2) (fun _ _ => hE)⟩
    · obtain ⟨u, hu, hE⟩ := H t ch I hM h2 (by
        intro hc s hs0 hs1 hs' g hg
        by_cases e : s = r
        · subst e; exact absurd hs' hs
        · exact h3 hc s hs0 (by omega) hs' g hg)
      refine ⟨u, hu, Ev.step (fun k => by rw [spec_LeastInSum.l4]) (ev_ifp (by omega) (ev_ifp hr0 (ev_ifp (by omega) (Ev.step (fun k => by rw [spec_LeastInSum.j6]) (ev_ifn (by simpa using hs) ?_)))))⟩
      rw [w64 (by omega) (by omega)]; exact hE
theorem lis_l3 {v : List Int} {a G M : Int} (hv : ∀ x ∈ v, 1 ≤ x ∧ x ≤ G) (hG : 0 ≤ G) (hG' : G ≤ 1000) (ha : 1 ≤ a) (ha' : a ≤ 200) (hl : v.length ≤ 20)
    (H : ∀ t : List Int, LInv v a G t → weight (a * G + 1) t < M → ∃ u, Lst v a G u ∧ Ev (fun k => spec_LeastInSum.l2 k v a t true) u) (d : Nat) :
    ∀ (t : List Int) (ch : Bool) (r : Int), 0 ≤ r → r + d = a → LInv v a G t → weight (a * G + 1) t ≤ M → (ch = true → weight (a * G + 1) t < M) →
      (ch = false → ∀ s, 0 ≤ s → s < r → 0 ≤ rd t s → ∀ g ∈ v, 0 ≤ rd t ((rd t s + g) % a) ∧ rd t ((rd t s + g) % a) ≤ rd t s + g) →
      ∃ u, Lst v a G u ∧ Ev (fun k => spec_LeastInSum.l3 k v a t ch r) u := by
  induction d with
  | zero =>
    intro t ch r h0 h1 I hM h2 h3
    cases ch with
    | true =>
      obtain ⟨u, hu, hE⟩ := H t I (h2 rfl)
      exact ⟨u, hu, Ev.step (fun k => by rw [spec_LeastInSum.l3]) (ev_ifn (by omega) hE)⟩
    | false =>
      refine ⟨t, I.done hv hG ha (fun s hs0 hs1 hs g hg => h3 rfl s hs0 (by omega) hs g hg), Ev.step (fun k => by rw [spec_LeastInSum.l3]) (ev_ifn (by omega) (Ev.step (fun k => by rw [spec_LeastInSum.l2]) (ev_ifn (by simp) (Ev.now _))))⟩
  | succ d ih =>
    intro t ch r h0 h1 I hM h2 h3
    have hlen := I.len
    obtain ⟨u, hu, hE⟩ := lis_l4 (M := M) (P := Lst v a G) hv hG hG' ha ha' hl h0 (by omega) (fun t ch I hM h2 h3 => ih t ch (r + 1) (by omega) (by omega) I hM h2 h3) v.length t ch 0 (by omega) (by omega) I hM h2 h3 (fun _ _ j hj0 hj1 => by omega)
    exact ⟨u, hu, Ev.step (fun k => by rw [spec_LeastInSum.l3]) (ev_ifp (by omega) hE)⟩
theorem lis_l2 {v : List Int} {a G : Int} (hv : ∀ x ∈ v, 1 ≤ x ∧ x ≤ G) (hG : 0 ≤ G) (hG' : G ≤ 1000) (ha : 1 ≤ a) (ha' : a ≤ 200) (hl : v.length ≤ 20) (m : Nat) :
    ∀ t : List Int, LInv v a G t → weight (a * G + 1) t ≤ m → ∃ u, Lst v a G u ∧ Ev (fun k => spec_LeastInSum.l2 k v a t true) u := by
  induction m using Nat.strongRecOn with
  | _ m ih =>
    intro t I hm
    have hB : 0 ≤ a * G + 1 := by have := Int.mul_nonneg (show 0 ≤ a by omega) hG; omega
    obtain ⟨u, hu, hE⟩ := lis_l3 (M := weight (a * G + 1) t) hv hG hG' ha ha' hl (fun t' I' h' => ih (weight (a * G + 1) t').toNat (by have := weight_nonneg hB t'; have := weight_nonneg hB t; omega) t' I' (by have := weight_nonneg hB t'; omega)) a.toNat t false 0 (by omega) (by omega) I (Int.le_refl _) (fun h => by cases h) (fun _ s hs0 hs1 => by omega)
    exact ⟨u, hu, Ev.step (fun k => by rw [spec_LeastInSum.l2]) (ev_ifp rfl hE)⟩
theorem lis_l1 {v : List Int} {a : Int} (ha : 1 ≤ a) (ha' : a ≤ 200) {u : List Int} (H : Ev (fun k => spec_LeastInSum.l2 k v a ((List.replicate a.toNat (-1)).set 0 0) true) u) (d : Nat) :
    ∀ (i : Int) (row : List Int), 1 ≤ i → i + d = a → (row.length : Int) = a → rd row 0 = 0 → (∀ j, 0 < j → j < i → rd row j = -1) → Ev (fun k => spec_LeastInSum.l1 k v a row i) u := by
  induction d with
  | zero =>
    intro i row h0 h1 h2 hz h3
    have e : row = (List.replicate a.toNat (-1)).set 0 0 := rd_ext (by simp; omega) fun j hj hj' => by
      have := rd_set (l := List.replicate a.toNat (-1)) (i := 0) (j := j) 0 (by omega) (by simp; omega) hj
      rw [show (0 : Int).toNat = 0 from rfl] at this
      rw [this]
      by_cases e : j = 0
      · rw [if_pos e, e, hz]
      · rw [if_neg e, h3 j (by omega) (by omega), rd_rep hj (by omega)]
    subst e
    exact Ev.step (fun k => by rw [spec_LeastInSum.l1]) (ev_ifn (by omega) H)
  | succ d ih =>
    intro i row h0 h1 h2 hz h3
    refine Ev.step (fun k => by rw [spec_LeastInSum.l1]) ?_
    simp (disch := omega) only [if_pos, w64]
    refine ih (i + 1) _ (by omega) (by omega) (by simpa using h2) ?_ fun j hj hj' => ?_
    · rw [rd_set _ (by omega) (by omega) (by omega), if_neg (by omega)]; exact hz
    · rw [rd_set _ (by omega) (by omega) (by omega)]
      by_cases e : j = i
      · rw [if_pos e]
      · rw [if_neg e]; exact h3 j hj (by omega)
def LisOk (v : List Int) (a : Int) : Prop := (1 ≤ a ∧ a ≤ 200) ∧ (1 ≤ (v.length : Int) ∧ (v.length : Int) ≤ 20) ∧ ∀ x ∈ v, 1 ≤ x ∧ x ≤ 1000
theorem lis_l0 {v : List Int} {a : Int} (hl : v.length ≤ 20) (ha : 1 ≤ a) (ha' : a ≤ 200) {u : List Int} (H : (∀ x ∈ v, 1 ≤ x ∧ x ≤ 1000) → Ev (fun k => spec_LeastInSum.l2 k v a ((List.replicate a.toNat (-1)).set 0 0) true) u) (H' : (¬ ∀ x ∈ v, 1 ≤ x ∧ x ≤ 1000) → u = []) (d : Nat) :
    ∀ i : Int, 0 ≤ i → i + d = v.length → (∀ j, 0 ≤ j → j < i → 1 ≤ rd v j ∧ rd v j ≤ 1000) → Ev (fun k => spec_LeastInSum.l0 k v a i) u := by
  induction d with
  | zero =>
    intro i h0 h1 h2
    refine Ev.step (fun k => by rw [spec_LeastInSum.l0]) (ev_ifn (by omega) (ev_ifp (by omega) (ev_ifp (by omega) ?_)))
    refine lis_l1 ha ha' (H fun x hx => ?_) (a - 1).toNat 1 _ (by omega) (by omega) (by simp; omega) ?_ (fun j hj hj' => by omega)
    · obtain ⟨j, hj, hj', rfl⟩ := mem_rd hx
      exact h2 j hj (by omega)
    · rw [rd_rep (by omega) (by omega)]
  | succ d ih =>
    intro i h0 h1 h2
    refine Ev.step (fun k => by rw [spec_LeastInSum.l0]) (ev_ifp (by omega) (ev_ifp h0 ?_))
    simp only [l1In_eq, Option.bind_some]
    rw [w64 (by omega) (by omega)]
    by_cases h : 1 ≤ rd v i ∧ rd v i ≤ 1000
    · refine ev_ifp (by simpa using h) (ih (i + 1) (by omega) (by omega) fun j hj hj' => ?_)
      by_cases e : j = i
      · subst e; exact h
      · exact h2 j hj (by omega)
    · rw [H' (fun hc => h (hc _ (rd_mem h0 (by omega))))]
      exact ev_ifn (by simpa using h) (Ev.now _)
theorem lis_ev (v : List Int) (a : Int) (hl : v.length ≤ 1099511627776) : ∃ r : List Int, r.length ≤ 200 ∧ Ev (fun k => impl_LeastInSum.f k v a) r ∧ Ev (fun k => spec_LeastInSum.f k v a) r ∧ (LisOk v a → Lst v a 1000 r) ∧ (¬ LisOk v a → r = []) := by
  unfold impl_LeastInSum.f spec_LeastInSum.f
  simp only [within_eq, l1In_eq, Option.bind_some]
  by_cases c1 : 1 ≤ a ∧ a ≤ 200
  · by_cases c2 : 1 ≤ (v.length : Int) ∧ (v.length : Int) ≤ 20
    · by_cases c3 : ∀ x ∈ v, 1 ≤ x ∧ x ≤ 1000
      · obtain ⟨u, hu, hE⟩ := leasts_ev (G := 1000) c3 (by omega) (by omega) c1.1 c1.2 (by omega)
        have hB : 0 ≤ a * 1000 + 1 := by omega
        obtain ⟨u', hu', hE'⟩ := lis_l2 (G := 1000) c3 (by omega) (by omega) c1.1 c1.2 (by omega) (weight (a * 1000 + 1) ((List.replicate a.toNat (-1)).set 0 0)).toNat _ (LInv.first c1.1 (by omega)) (by have := weight_nonneg hB ((List.replicate a.toNat (-1)).set 0 0); omega)
        obtain rfl := hu.one hu'
        refine ⟨u, by have := hu.len; omega, ?_, ?_, fun _ => hu, fun h => absurd ⟨c1, c2, c3⟩ h⟩
        · exact ev_ifp (by simpa using c1) (ev_ifp (by simpa using c2) (ev_bind _ (allWithin_ev 1 1000 hl) (ev_ifp (by rw [decide_eq_true_eq]; exact c3) (ev_bind _ hE (Ev.now _)))))
        · exact ev_ifp (by simpa using c1) (Ev.step (fun k => by rw [spec_LeastInSum.j0]) (ev_ifn (by simpa using c2) (lis_l0 (by omega) c1.1 c1.2 (fun _ => hE') (fun h => absurd c3 h) v.length 0 (by omega) (by omega) (fun j hj hj' => by omega))))
      · refine ⟨[], by simp, ?_, ?_, fun h => absurd h.2.2 c3, fun _ => rfl⟩
        · exact ev_ifp (by simpa using c1) (ev_ifp (by simpa using c2) (ev_bind _ (allWithin_ev 1 1000 hl) (ev_ifn (by rw [decide_eq_true_eq]; exact c3) (Ev.now _))))
        · exact ev_ifp (by simpa using c1) (Ev.step (fun k => by rw [spec_LeastInSum.j0]) (ev_ifn (by simpa using c2) (lis_l0 (by omega) c1.1 c1.2 (fun h => absurd h c3) (fun _ => rfl) v.length 0 (by omega) (by omega) (fun j hj hj' => by omega))))
    · refine ⟨[], by simp, ?_, ?_, fun h => absurd h.2.1 c2, fun _ => rfl⟩
      · exact ev_ifp (by simpa using c1) (ev_ifn (by simpa using c2) (Ev.now _))
      · exact ev_ifp (by simpa using c1) (Ev.step (fun k => by rw [spec_LeastInSum.j0]) (ev_ifp (nd_t c2) (Ev.now _)))
  · refine ⟨[], by simp, ?_, ?_, fun h => absurd h.1 c1, fun _ => rfl⟩
    · exact ev_ifn (by simpa using c1) (Ev.now _)
    · exact ev_ifn (by simpa using c1) (Ev.step (fun k => by rw [spec_LeastInSum.j0]) (ev_ifp rfl (Ev.now _)))

end Go.Proofs.Ytllhjnaiobpghaa.E
