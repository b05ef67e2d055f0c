import Derived.Test.YtllhjnaiobpghaaEBa
import Derived.Test.YtllhjnaiobpghaaELeastPlain
import Derived.Test.YtllhjnaiobpghaaPAx8
namespace Go.Proofs.Ytllhjnaiobpghaa.E
open Go.RowKit Go.Proofs.Ytllhjnaiobpghaa.PA Go.Proofs.YtllhjnaiobpghaaW.PrintWords Go.Proofs.YtllhjnaiobpghaaW.PrintLast Go.Proofs.YtllhjnaiobpghaaW.PrintMore
set_option linter.unusedVariables false
set_option linter.unusedSimpArgs false
/-! impl.leasts. -/
theorem leasts_l3 {v : List Int} {a G M : Int} (hv : ∀ x ∈ v, 1 ≤ x ∧ x ≤ G) (hG : 0 ≤ G) (hG' : G ≤ 1000) (ha : 1 ≤ a) (ha' : a ≤ 200) (hl : v.length ≤ 20) {r n : Int} (hr0 : 0 ≤ r) (hr1 : r < a) {P : List Int → Prop}
    (H : ∀ (t : List Int) (ch : Bool), LInv v a G t → weight (a * G + 1) t ≤ M → (ch = true → weight (a * G + 1) t < M) → (ch = false → ∀ s, 0 ≤ s → s < r + 1 → 0 ≤ rd t s → ∀ g ∈ v, 0 ≤ rd t ((rd t s + g) % a) ∧ rd t ((rd t s + g) % a) ≤ rd t s + g) → ∃ u, P u ∧ Ev (fun k => impl_leasts.l2 k v a t ch a (r + 1)) u) (d : Nat) :
    ∀ (t : List Int) (ch : Bool) (i : Int), 0 ≤ i → i + d = v.length → LInv v a G t → rd t r = n → 0 ≤ n → weight (a * G + 1) t ≤ M → (ch = true → weight (a * G + 1) t < M) →
      (ch = false → ∀ s, 0 ≤ s → s < r → 0 ≤ rd t s → ∀ g ∈ v, 0 ≤ rd t ((rd t s + g) % a) ∧ rd t ((rd t s + g) % a) ≤ rd t s + g) → (ch = false → ∀ j, 0 ≤ j → j < i → 0 ≤ rd t ((rd t r + rd v j) % a) ∧ rd t ((rd t r + rd v j) % a) ≤ rd t r + rd v j) →
      ∃ u, P u ∧ Ev (fun k => impl_leasts.l3 k v a t ch r n a r v v.length i) u := by
  have hm : a * G = (a - 1) * G + G := by rw [Int.sub_mul]; omega
  have haG : a * G ≤ 200 * 1000 := Int.mul_le_mul ha' hG' hG (by omega)
  induction d with
  | zero =>
    intro t ch i h0 h1 I hn hn0 hM h2 h3 h4
    obtain ⟨u, hu, hE⟩ := H t ch I hM h2 (by
      intro hc s hs0 hs1 hs g hg
      by_cases e : s = r
      · subst e
        obtain ⟨j, hj0, hj1, rfl⟩ := mem_rd hg
        exact h4 hc j hj0 (by omega)
      · exact h3 hc s hs0 (by omega) hs g hg)
    refine ⟨u, hu, Ev.step (fun k => by rw [impl_leasts.l3]) (ev_ifn (by omega) ?_)⟩
    rw [w64 (by omega) (by omega)]; exact hE
  | succ d ih =>
    intro t ch i h0 h1 I hn hn0 hM h2 h3 h4
    have hgm := rd_mem (l := v) h0 (by omega)
    have hg := hv _ hgm
    have hb := I.top hG hr0 hr1
    have hlen := I.len
    have hto : Int.tmod (r + rd v i) a = (rd t r + rd v i) % a := by
      rw [Int.tmod_eq_emod_of_nonneg (by omega), Int.add_emod (rd t r), (I.way r hr0 hr1 (by omega)).2, Int.add_emod, Int.emod_eq_of_lt hr0 hr1]
    have q0 := Int.emod_nonneg (rd t r + rd v i) (b := a) (by omega)
    have q1 := Int.emod_lt_of_pos (rd t r + rd v i) (b := a) (by omega)
    have change : (rd t ((rd t r + rd v i) % a) < 0 ∨ rd t r + rd v i < rd t ((rd t r + rd v i) % a)) → ∃ u, P u ∧ Ev (fun k => impl_leasts.l3 k v a (t.set ((rd t r + rd v i) % a).toNat (n + rd v i)) true r n a r v v.length (i + 1)) u := by
      intro hc
      obtain ⟨I', w', _, hne⟩ := I.step hv ha hr0 hr1 hgm (by omega) hc
      rw [show n + rd v i = rd t r + rd v i from by omega]
      refine ih _ true (i + 1) (by omega) (by omega) I' ?_ (by omega) (by omega) (fun _ => by omega) (fun h => by cases h) (fun h => by cases h)
      rw [rd_set _ q0 (by omega) hr0, if_neg (fun e => hne e.symm)]; exact hn
    have stay : ¬ (rd t ((rd t r + rd v i) % a) < 0 ∨ rd t r + rd v i < rd t ((rd t r + rd v i) % a)) → ∃ u, P u ∧ Ev (fun k => impl_leasts.l3 k v a t ch r n a r v v.length (i + 1)) u := by
      intro hc
      refine ih t ch (i + 1) (by omega) (by omega) I hn hn0 hM h2 h3 (fun hf j hj0 hj1 => ?_)
      by_cases e : j = i
      · subst e; omega
      · exact h4 hf j hj0 (by omega)
    have head : ∀ u, (∀ c1 : rd t ((rd t r + rd v i) % a) < 0, Ev (fun k => impl_leasts.l3 k v a (t.set ((rd t r + rd v i) % a).toNat (n + rd v i)) true r n a r v v.length (i + 1)) u) → (∀ c1 : ¬ rd t ((rd t r + rd v i) % a) < 0, ∀ c2 : n + rd v i < rd t ((rd t r + rd v i) % a), Ev (fun k => impl_leasts.l3 k v a (t.set ((rd t r + rd v i) % a).toNat (n + rd v i)) true r n a r v v.length (i + 1)) u) → (∀ c1 : ¬ rd t ((rd t r + rd v i) % a) < 0, ∀ c2 : ¬ n + rd v i < rd t ((rd t r + rd v i) % a), Ev (fun k => impl_leasts.l3 k v a t ch r n a r v v.length (i + 1)) u) → Ev (fun k => impl_leasts.l3 k v a t ch r n a r v v.length i) u := by
      intro u f1 f2 f3
      refine Ev.step (fun k => by rw [impl_leasts.l3]) ?_
      rw [w64 (x := r + rd v i) (by omega) (by omega), hto, w64 (x := n + rd v i) (by omega) (by omega), w64 (x := i + 1) (by omega) (by omega)]
      refine ev_ifp (by omega) (ev_ifp h0 (ev_ifp (by omega) (ev_ifn (by omega) (ev_ifp q0 (ev_ifp (by omega) ?_)))))
      by_cases c1 : rd t ((rd t r + rd v i) % a) < 0
      · exact ev_ifp c1 (f1 c1)
      · by_cases c2 : n + rd v i < rd t ((rd t r + rd v i) % a)
        · exact ev_ifn c1 (ev_ifp c2 (f2 c1 c2))
        · exact ev_ifn c1 (ev_ifn c2 (f3 c1 c2))
    by_cases c1 : rd t ((rd t r + rd v i) % a) < 0
    · obtain ⟨u, hu, hE⟩ := change (.inl c1)
      exact ⟨u, hu, head u (fun _ => hE) (fun h => absurd c1 h) (fun h => absurd c1 h)⟩
    · by_cases c2 : n + rd v i < rd t ((rd t r + rd v i) % a)
      · obtain ⟨u, hu, hE⟩ := change (.inr (by omega))
        exact ⟨u, hu, head u (fun h => absurd h c1) (fun _ _ => hE) (fun _ h => absurd c2 h)⟩
      · obtain ⟨u, hu, hE⟩ := stay (by omega)
        exact ⟨u, hu, head u (fun h => absurd h c1) (fun _ h => absurd h c2) (fun _ _ => hE)⟩
theorem leasts_l2 {v : List Int} {a G M : Int} (hv : ∀ x ∈ v, 1 ≤ x ∧ x ≤ G) (hG : 0 ≤ G) (hG' : G ≤ 1000) (ha : 1 ≤ a) (ha' : a ≤ 200) (hl : v.length ≤ 20)
    (H : ∀ t : List Int, LInv v a G t → weight (a * G + 1) t < M → ∃ u, Lst v a G u ∧ Ev (fun k => impl_leasts.l1 k v a t true) u) (d : Nat) :
    ∀ (t : List Int) (ch : Bool) (r : Int), 0 ≤ r → r + d = a → LInv v a G t → weight (a * G + 1) t ≤ M → (ch = true → weight (a * G + 1) t < M) →
      (ch = false → ∀ s, 0 ≤ s → s < r → 0 ≤ rd t s → ∀ g ∈ v, 0 ≤ rd t ((rd t s + g) % a) ∧ rd t ((rd t s + g) % a) ≤ rd t s + g) →
      ∃ u, Lst v a G u ∧ Ev (fun k => impl_leasts.l2 k v a t ch a r) u := by
  induction d with
  | zero =>
    intro t ch r h0 h1 I hM h2 h3
    cases ch with
    | true =>
      obtain ⟨u, hu, hE⟩ := H t I (h2 rfl)
      exact ⟨u, hu, Ev.step (fun k => by rw [impl_leasts.l2]) (ev_ifn (by omega) hE)⟩
    | false =>
      refine ⟨t, I.done hv hG ha (fun s hs0 hs1 hs g hg => h3 rfl s hs0 (by omega) hs g hg), Ev.step (fun k => by rw [impl_leasts.l2]) (ev_ifn (by omega) (Ev.step (fun k => by rw [impl_leasts.l1]) (ev_ifn (by simp) (Ev.now _))))⟩
  | succ d ih =>
    intro t ch r h0 h1 I hM h2 h3
    have hlen := I.len
    by_cases c : rd t r < 0
    · obtain ⟨u, hu, hE⟩ := ih t ch (r + 1) (by omega) (by omega) I hM h2 (fun hf s hs0 hs1 hs g hg => by
        by_cases e : s = r
        · subst e; omega
        · exact h3 hf s hs0 (by omega) hs g hg)
      refine ⟨u, hu, Ev.step (fun k => by rw [impl_leasts.l2]) (ev_ifp (by omega) (ev_ifp h0 (ev_ifp (by omega) (ev_ifp c ?_))))⟩
      rw [w64 (by omega) (by omega)]; exact hE
    · obtain ⟨u, hu, hE⟩ := leasts_l3 (M := M) (P := Lst v a G) hv hG hG' ha ha' hl h0 (by omega) (fun t ch I hM h2 h3 => ih t ch (r + 1) (by omega) (by omega) I hM h2 h3) v.length t ch 0 (by omega) (by omega) I rfl (by omega) hM h2 h3 (fun _ j hj0 hj1 => by omega)
      exact ⟨u, hu, Ev.step (fun k => by rw [impl_leasts.l2]) (ev_ifp (by omega) (ev_ifp h0 (ev_ifp (by omega) (ev_ifn c hE))))⟩
theorem leasts_l1 {v : List Int} {a G : Int} (hv : ∀ x ∈ v, 1 ≤ x ∧ x ≤ G) (hG : 0 ≤ G) (hG' : G ≤ 1000) (ha : 1 ≤ a) (ha' : a ≤ 200) (hl : v.length ≤ 20) (m : Nat) :
    ∀ t : List Int, LInv v a G t → weight (a * G + 1) t ≤ m → ∃ u, Lst v a G u ∧ Ev (fun k => impl_leasts.l1 k v a t true) u := by
  induction m using Nat.strongRecOn with
  | _ m ih =>
    intro t I hm
    have hB : 0 ≤ a * G + 1 := by have := Int.mul_nonneg (show 0 ≤ a by omega) hG; omega
    obtain ⟨u, hu, hE⟩ := leasts_l2 (M := weight (a * G + 1) t) hv hG hG' ha ha' hl (fun t' I' h' => ih (weight (a * G + 1) t').toNat (by have := weight_nonneg hB t'; have := weight_nonneg hB t; omega) t' I' (by have := weight_nonneg hB t'; omega)) a.toNat t false 0 (by omega) (by omega) I (Int.le_refl _) (fun h => by cases h) (fun _ s hs0 hs1 => by omega)
    refine ⟨u, hu, Ev.step (fun k => by rw [impl_leasts.l1]) (ev_ifp rfl ?_)⟩
    rw [I.len]; exact hE
theorem leasts_l0 {v : List Int} {a : Int} (ha : 1 ≤ a) (ha' : a ≤ 200) {u : List Int} (H : Ev (fun k => impl_leasts.l1 k v a ((List.replicate a.toNat (-1)).set 0 0) true) u) (d : Nat) :
    ∀ (i : Int) (row : List Int), 0 ≤ i → i + d = a → (row.length : Int) = a → (∀ j, 0 ≤ j → j < i → rd row j = -1) → Ev (fun k => impl_leasts.l0 k v a row a i) u := by
  induction d with
  | zero =>
    intro i row h0 h1 h2 h3
    have e : row = List.replicate a.toNat (-1) := rd_ext (by simp; omega) fun j hj hj' => by rw [h3 j hj (by omega), rd_rep hj (by omega)]
    subst e
    refine Ev.step (fun k => by rw [impl_leasts.l0]) ?_
    exact ev_ifn (by omega) (ev_ifp (by omega) H)
  | succ d ih =>
    intro i row h0 h1 h2 h3
    refine Ev.step (fun k => by rw [impl_leasts.l0]) ?_
    simp (disch := omega) only [if_pos, w64]
    refine ih (i + 1) _ (by omega) (by omega) (by simpa using h2) fun j hj hj' => ?_
    rw [rd_set _ h0 (by omega) hj]
    by_cases e : j = i
    · rw [if_pos e]
    · rw [if_neg e]; exact h3 j hj (by omega)
theorem leasts_ev {v : List Int} {a G : Int} (hv : ∀ x ∈ v, 1 ≤ x ∧ x ≤ G) (hG : 0 ≤ G) (hG' : G ≤ 1000) (ha : 1 ≤ a) (ha' : a ≤ 200) (hl : v.length ≤ 20) : ∃ u, Lst v a G u ∧ Ev (fun k => impl_leasts.f k v a) u := by
  have hB : 0 ≤ a * G + 1 := by have := Int.mul_nonneg (show 0 ≤ a by omega) hG; omega
  obtain ⟨u, hu, hE⟩ := leasts_l1 hv hG hG' ha ha' hl (weight (a * G + 1) ((List.replicate a.toNat (-1)).set 0 0)).toNat _ (LInv.first ha hG) (by have := weight_nonneg hB ((List.replicate a.toNat (-1)).set 0 0); omega)
  refine ⟨u, hu, ?_⟩
  unfold impl_leasts.f
  refine ev_ifp (by omega) (ev_ifp (by omega) ?_)
  simp only [Option.bind_some]
  rw [show ((List.replicate a.toNat (0 : Int)).length : Int) = a from by simp; omega]
  exact leasts_l0 ha ha' hE a.toNat 0 _ (by omega) (by omega) (by simp; omega) (fun j h h' => by omega)

end Go.Proofs.Ytllhjnaiobpghaa.E
