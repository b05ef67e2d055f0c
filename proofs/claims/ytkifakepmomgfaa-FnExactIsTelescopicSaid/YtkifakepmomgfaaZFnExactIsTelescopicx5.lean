-- Bundled by shake.py from this session's printed and written texts; Lean checks it.
import Derived.ChangeSlices
import Derived.SizedLaws
import Derived.Test.YtkifakepmomgfaaZFnExactIsTelescopicx0
import Derived.Test.YtkifakepmomgfaaZFnExactIsTelescopicx1
import Derived.Test.YtkifakepmomgfaaZFnExactIsTelescopicx2
import Derived.Test.YtkifakepmomgfaaZFnExactIsTelescopicx3
import Derived.Test.YtkifakepmomgfaaZFnExactIsTelescopicx4
section
namespace Go.Proofs.Ytkifakepmomgfaa.E
open Go.RowKit Go.Proofs.YtkifakepmomgfaaW.PrintWords Go.Proofs.YtkifakepmomgfaaW.PrintLast Go.Proofs.YtkifakepmomgfaaW.PrintMore
set_option linter.unusedVariables false
set_option linter.unusedSimpArgs false
def Su (v : List Int) (n : Int) : Prop := ∃ c, Way v n c
noncomputable instance (v : List Int) (n : Int) : Decidable (Su v n) := Classical.propDecidable _
theorem Su.zero (v : List Int) : Su v 0 := ⟨0, .zero⟩
theorem Su.add {v : List Int} {n m : Int} (h : Su v n) (k : Su v m) : Su v (n + m) := by
  obtain ⟨c, h⟩ := h; obtain ⟨d, k⟩ := k; exact ⟨c + d, h.plus k⟩
theorem Su.mem {v : List Int} {x : Int} (h : x ∈ v) : Su v x := ⟨0 + 1, by have := Way.add h Way.zero; rwa [Int.zero_add] at this⟩
theorem Su.pos {v : List Int} (hv : ∀ x ∈ v, 1 ≤ x) {n : Int} (h : Su v n) : 0 ≤ n := by
  obtain ⟨c, h⟩ := h; have := h.pos hv; omega
theorem Su.mono {v u : List Int} (h : ∀ x ∈ v, x ∈ u) {n : Int} (k : Su v n) : Su u n := by
  obtain ⟨c, k⟩ := k; exact ⟨c, k.mono h⟩
theorem Su.last {v : List Int} {n : Int} (hn : n ≠ 0) : Su v n ↔ ∃ x ∈ v, Su v (n - x) := by
  constructor
  · rintro ⟨c, w⟩
    rcases w.last with h | ⟨x, hx, h⟩
    · exact absurd h.1 hn
    · exact ⟨x, hx, _, h⟩
  · rintro ⟨x, hx, h⟩
    have := h.add (Su.mem hx)
    rwa [show n - x + x = n from by omega] at this
theorem Su.times {v : List Int} {x : Int} (h : Su v x) (j : Nat) : Su v (j * x) := by
  induction j with
  | zero => simpa using Su.zero v
  | succ j ih =>
    have := ih.add h
    rwa [show (j : Int) * x + x = ((j + 1 : Nat) : Int) * x from by rw [Int.natCast_add, Int.add_mul]; simp] at this
theorem Su.dvd {v : List Int} {d : Int} (h : ∀ x ∈ v, d ∣ x) {n : Int} (k : Su v n) : d ∣ n := by
  obtain ⟨c, w⟩ := k
  induction w with
  | zero => exact Int.dvd_zero _
  | add hx _ ih => exact Int.dvd_add ih (h _ hx)
theorem Su.up {v : List Int} {a : Int} (ha : 1 ≤ a) (h : Su v a) {n m : Int} (hn : Su v n) (hle : n ≤ m) (hm : n % a = m % a) : Su v m := by
  have e1 := Int.mul_ediv_add_emod n a
  have e2 := Int.mul_ediv_add_emod m a
  have hq : n / a ≤ m / a := Int.ediv_le_ediv (by omega) hle
  have := hn.add (h.times (m / a - n / a).toNat)
  rw [show (((m / a - n / a).toNat : Nat) : Int) = m / a - n / a from by omega] at this
  rwa [show n + (m / a - n / a) * a = m from by rw [Int.sub_mul, Int.mul_comm (m / a), Int.mul_comm (n / a)]; omega] at this
theorem Lst.su {v : List Int} {a G : Int} {t : List Int} (h : Lst v a G t) (ha : 1 ≤ a) (hav : Su v a) {n : Int} : Su v n ↔ 0 ≤ rd t (n % a) ∧ rd t (n % a) ≤ n := by
  have q0 := Int.emod_nonneg n (b := a) (by omega)
  have q1 := Int.emod_lt_of_pos n (b := a) (by omega)
  constructor
  · rintro ⟨c, w⟩; exact h.least _ _ w
  · rintro ⟨h1, h2⟩
    obtain ⟨w, e⟩ := h.way _ q0 q1 h1
    exact Su.up ha hav w h2 (by omega)
def UL (v : List Int) : Prop := (1 ≤ (v.length : Int) ∧ (v.length : Int) ≤ 20) ∧ ∀ x ∈ v, 1 ≤ x ∧ x ≤ 60
noncomputable instance (v : List Int) : Decidable (UL v) := Classical.propDecidable _
theorem UL.pos {v : List Int} (h : UL v) : ∀ x ∈ v, 1 ≤ x := fun x hx => (h.2 x hx).1
theorem UL.first {v : List Int} (h : UL v) : rd v 0 ∈ v ∧ 1 ≤ rd v 0 ∧ rd v 0 ≤ 60 := by
  have := rd_mem (l := v) (i := 0) (by omega) (by have := h.1; omega)
  exact ⟨this, h.2 _ this⟩
theorem UL.ne {v : List Int} (h : UL v) : v ≠ [] := by rintro rfl; have := h.1; simp at this
theorem Lst.far {v : List Int} {a : Int} {t : List Int} (h : Lst v a 60 t) (ha : 1 ≤ a) (ha' : a ≤ 60) (hav : Su v a) {n m : Int} (hn : Su v n) (hm : 3540 ≤ m) (e : n % a = m % a) : Su v m := by
  have q0 := Int.emod_nonneg n (b := a) (by omega)
  have q1 := Int.emod_lt_of_pos n (b := a) (by omega)
  have k := (h.su ha hav).1 hn
  have b := h.bound _ q0 q1
  exact (h.su ha hav).2 (by rw [← e]; omega)
end Go.Proofs.Ytkifakepmomgfaa.E
end
section
namespace Go.Proofs.Ytkifakepmomgfaa.E
open Go.RowKit Go.Proofs.Ytkifakepmomgfaa.PA Go.Proofs.YtkifakepmomgfaaW.PrintWords Go.Proofs.YtkifakepmomgfaaW.PrintLast Go.Proofs.YtkifakepmomgfaaW.PrintMore
set_option linter.unusedVariables false
set_option linter.unusedSimpArgs false
theorem rdb_set {l : List Bool} {i j : Int} (x : Bool) (hi : 0 ≤ i) (hi' : i < l.length) (hj : 0 ≤ j) : rdOf false (l.set i.toNat x) j = if j = i then x else rdOf false l j := by
  unfold rdOf
  rw [List.getD_eq_getElem?_getD, List.getD_eq_getElem?_getD, List.getElem?_set]
  by_cases h : j = i
  · subst h; rw [if_pos rfl, if_pos rfl, if_pos (by omega)]; rfl
  · rw [if_neg h, if_neg (by omega)]
theorem rdb_rep {n : Nat} {i : Int} : rdOf false (List.replicate n false) i = false := by
  unfold rdOf
  rw [List.getD_eq_getElem?_getD, List.getElem?_replicate]
  split <;> rfl
def TabAt (v : List Int) (n : Int) (t : List Bool) : Prop := (∀ j, 0 ≤ j → j < n → (rdOf false t j = true ↔ Su v j)) ∧ ∀ j, n ≤ j → rdOf false t j = false
theorem tab_l1 {v : List Int} (hl : v.length ≤ 20) (hv : ∀ x ∈ v, 1 ≤ x ∧ x ≤ 60) {most n : Int} (hm : most ≤ 1048576) (hn : 1 ≤ n) (hn' : n ≤ most) {r : List Bool}
    (H : ∀ t : List Bool, (t.length : Int) = most + 1 → TabAt v (n + 1) t → Ev (fun k => spec_l3Table.l0 k v most t (n + 1)) r → True) (d : Nat) :
    ∀ (i : Int) (t : List Bool), 0 ≤ i → i + d = v.length → (t.length : Int) = most + 1 → (∀ j, 0 ≤ j → j < n → (rdOf false t j = true ↔ Su v j)) → (∀ j, n < j → rdOf false t j = false) → (rdOf false t n = true ↔ ∃ j, 0 ≤ j ∧ j < i ∧ rd v j ≤ n ∧ Su v (n - rd v j)) →
      ∃ t' : List Bool, (t'.length : Int) = most + 1 ∧ TabAt v (n + 1) t' ∧ ∀ r, Ev (fun k => spec_l3Table.l0 k v most t' (n + 1)) r → Ev (fun k => spec_l3Table.l1 k v most t n i) r := by
  have hv1 : ∀ x ∈ v, 1 ≤ x := fun x hx => (hv x hx).1
  induction d with
  | zero =>
    intro i t h0 h1 h2 h3 h4 h5
    refine ⟨t, h2, ⟨fun j hj hj' => ?_, fun j hj => h4 j (by omega)⟩, fun r hr => Ev.step (fun k => by rw [spec_l3Table.l1]) (ev_ifn (by omega) ?_)⟩
    · by_cases e : j = n
      · subst e
        rw [h5, Su.last (by omega)]
        constructor
        · rintro ⟨q, a, b, _, c⟩; exact ⟨_, rd_mem a (by omega), c⟩
        · rintro ⟨x, hx, c⟩
          obtain ⟨q, a, b, rfl⟩ := mem_rd hx
          have := c.pos hv1
          exact ⟨q, a, by omega, by omega, c⟩
      · exact h3 j hj (by omega)
    · rw [w64 (by omega) (by omega)]; exact hr
  | succ d ih =>
    intro i t h0 h1 h2 h3 h4 h5
    have hx := hv _ (rd_mem (l := v) h0 (by omega))
    by_cases c : n ≥ rd v i
    · have e := h3 (n - rd v i) (by omega) (by omega)
      by_cases b : rdOf false t (n - rd v i) = true
      · obtain ⟨t', a1, a2, a3⟩ := ih (i + 1) (t.set n.toNat true) (by omega) (by omega) (by simpa using h2) (fun j hj hj' => by rw [rdb_set _ (by omega) (by omega) hj, if_neg (by omega)]; exact h3 j hj hj') (fun j hj => by rw [rdb_set _ (by omega) (by omega) (by omega), if_neg (by omega)]; exact h4 j hj)
          (by rw [rdb_set _ (by omega) (by omega) (by omega), if_pos rfl]; exact ⟨fun _ => ⟨i, h0, by omega, c, e.1 b⟩, fun _ => rfl⟩)
        refine ⟨t', a1, a2, fun r hr => Ev.step (fun k => by rw [spec_l3Table.l1]) ?_⟩
        rw [w64 (x := n - rd v i) (by omega) (by omega), w64 (x := i + 1) (by omega) (by omega)]
        exact ev_ifp (by omega) (ev_ifp h0 (ev_ifp c (ev_ifp (by omega) (ev_ifp (by omega) (ev_ifp b (ev_ifp (by omega) (ev_ifp (by omega) (a3 r hr))))))))
      · obtain ⟨t', a1, a2, a3⟩ := ih (i + 1) t (by omega) (by omega) h2 h3 h4 (by
          rw [h5]
          constructor
          · rintro ⟨q, u1, u2, u3⟩; exact ⟨q, u1, by omega, u3⟩
          · rintro ⟨q, u1, u2, u3, u4⟩
            by_cases eq : q = i
            · subst eq; exact absurd (e.2 u4) b
            · exact ⟨q, u1, by omega, u3, u4⟩)
        refine ⟨t', a1, a2, fun r hr => Ev.step (fun k => by rw [spec_l3Table.l1]) ?_⟩
        rw [w64 (x := n - rd v i) (by omega) (by omega), w64 (x := i + 1) (by omega) (by omega)]
        exact ev_ifp (by omega) (ev_ifp h0 (ev_ifp c (ev_ifp (by omega) (ev_ifp (by omega) (ev_ifn b (a3 r hr))))))
    · obtain ⟨t', a1, a2, a3⟩ := ih (i + 1) t (by omega) (by omega) h2 h3 h4 (by
        rw [h5]
        constructor
        · rintro ⟨q, u1, u2, u3⟩; exact ⟨q, u1, by omega, u3⟩
        · rintro ⟨q, u1, u2, u3, u4⟩
          by_cases eq : q = i
          · subst eq; omega
          · exact ⟨q, u1, by omega, u3, u4⟩)
      refine ⟨t', a1, a2, fun r hr => Ev.step (fun k => by rw [spec_l3Table.l1]) ?_⟩
      rw [w64 (x := i + 1) (by omega) (by omega)]
      exact ev_ifp (by omega) (ev_ifp h0 (ev_ifn c (a3 r hr)))
theorem tab_l0 {v : List Int} (hl : v.length ≤ 20) (hv : ∀ x ∈ v, 1 ≤ x ∧ x ≤ 60) {most : Int} (hm : most ≤ 1048576) (d : Nat) : ∀ (n : Int) (t : List Bool), 1 ≤ n → n + d = most + 1 → (t.length : Int) = most + 1 → TabAt v n t →
    ∃ t' : List Bool, (t'.length : Int) = most + 1 ∧ (∀ j, 0 ≤ j → j ≤ most → (rdOf false t' j = true ↔ Su v j)) ∧ Ev (fun k => spec_l3Table.l0 k v most t n) t' := by
  induction d with
  | zero =>
    intro n t h0 h1 h2 h3
    exact ⟨t, h2, fun j hj hj' => h3.1 j hj (by omega), Ev.step (fun k => by rw [spec_l3Table.l0]) (ev_ifn (by omega) (Ev.now _))⟩
  | succ d ih =>
    intro n t h0 h1 h2 h3
    obtain ⟨t', a1, a2, a3⟩ := tab_l1 (r := t) hl hv hm h0 (by omega) (fun _ _ _ _ => trivial) v.length 0 t (by omega) (by omega) h2 h3.1 (fun j hj => h3.2 j (by omega)) (by
      rw [h3.2 n (Int.le_refl _)]
      exact ⟨fun h => (by cases h), fun ⟨j, u1, u2, _⟩ => by omega⟩)
    obtain ⟨t'', b1, b2, b3⟩ := ih (n + 1) t' (by omega) (by omega) a1 a2
    refine ⟨t'', b1, b2, Ev.step (fun k => by rw [spec_l3Table.l0]) ?_⟩
    exact ev_ifp (by omega) (a3 _ b3)
theorem tabS_ev {v : List Int} (hl : v.length ≤ 20) (hv : ∀ x ∈ v, 1 ≤ x ∧ x ≤ 60) {most : Int} (hm0 : 0 ≤ most) (hm : most ≤ 1048576) :
    ∃ t : List Bool, (t.length : Int) = most + 1 ∧ (∀ j, 0 ≤ j → j ≤ most → (rdOf false t j = true ↔ Su v j)) ∧ Ev (fun k => spec_l3Table.f k v most) t := by
  have e0 : ((List.replicate (most + 1).toNat false).length : Int) = most + 1 := by simp; omega
  obtain ⟨t, a, b, c⟩ := tab_l0 hl hv hm most.toNat 1 ((List.replicate (most + 1).toNat false).set (0 : Int).toNat true) (by omega) (by omega) (by rw [List.length_set]; exact e0) ⟨fun j hj hj' => by
      rw [rdb_set _ (by omega) (by omega) hj, if_pos (by omega), show j = 0 from by omega]
      exact ⟨fun _ => Su.zero v, fun _ => rfl⟩, fun j hj => by
      rw [rdb_set _ (by omega) (by omega) (by omega), if_neg (by omega)]; exact rdb_rep⟩
  refine ⟨t, a, b, ?_⟩
  unfold spec_l3Table.f
  rw [w64 (by omega) (by omega)]
  simp only [Option.bind_some]
  exact ev_ifp (by omega) (ev_ifp (by omega) (ev_ifp (by omega) c))
end Go.Proofs.Ytkifakepmomgfaa.E
end
section
namespace Go.Proofs.Ytkifakepmomgfaa.E
open Go.RowKit Go.Proofs.Ytkifakepmomgfaa.PA Go.Proofs.YtkifakepmomgfaaW.PrintWords Go.Proofs.YtkifakepmomgfaaW.PrintLast Go.Proofs.YtkifakepmomgfaaW.PrintMore
set_option linter.unusedVariables false
set_option linter.unusedSimpArgs false
theorem leasts_l3 {v : List Int} {a G M : Int} (hv : ∀ x ∈ v, 1 ≤ x ∧ x ≤ G) (hG : 0 ≤ G) (hG' : G ≤ 1000) (ha : 1 ≤ a) (ha' : a ≤ 200) (hl : v.length ≤ 20) {r n : Int} (hr0 : 0 ≤ r) (hr1 : r < a) {P : List Int → Prop}
    (H : ∀ (t : List Int) (ch : Bool), LInv v a G t → weight (a * G + 1) t ≤ M → (ch = true → weight (a * G + 1) t < M) → (ch = false → ∀ s, 0 ≤ s → s < r + 1 → 0 ≤ rd t s → ∀ g ∈ v, 0 ≤ rd t ((rd t s + g) % a) ∧ rd t ((rd t s + g) % a) ≤ rd t s + g) → ∃ u, P u ∧ Ev (fun k => impl_leasts.l2 k v a t ch a (r + 1)) u) (d : Nat) :
    ∀ (t : List Int) (ch : Bool) (i : Int), 0 ≤ i → i + d = v.length → LInv v a G t → rd t r = n → 0 ≤ n → weight (a * G + 1) t ≤ M → (ch = true → weight (a * G + 1) t < M) →
      (ch = false → ∀ s, 0 ≤ s → s < r → 0 ≤ rd t s → ∀ g ∈ v, 0 ≤ rd t ((rd t s + g) % a) ∧ rd t ((rd t s + g) % a) ≤ rd t s + g) → (ch = false → ∀ j, 0 ≤ j → j < i → 0 ≤ rd t ((rd t r + rd v j) % a) ∧ rd t ((rd t r + rd v j) % a) ≤ rd t r + rd v j) →
      ∃ u, P u ∧ Ev (fun k => impl_leasts.l3 k v a t ch r n a r v v.length i) u := by
  have hm : a * G = (a - 1) * G + G := by rw [Int.sub_mul]; omega
  have haG : a * G ≤ 200 * 1000 := Int.mul_le_mul ha' hG' hG (by omega)
  induction d with
  | zero =>
    intro t ch i h0 h1 I hn hn0 hM h2 h3 h4
    obtain ⟨u, hu, hE⟩ := H t ch I hM h2 (by
      intro hc s hs0 hs1 hs g hg
      by_cases e : s = r
      · subst e
        obtain ⟨j, hj0, hj1, rfl⟩ := mem_rd hg
        exact h4 hc j hj0 (by omega)
      · exact h3 hc s hs0 (by omega) hs g hg)
    refine ⟨u, hu, Ev.step (fun k => by rw [impl_leasts.l3]) (ev_ifn (by omega) ?_)⟩
    rw [w64 (by omega) (by omega)]; exact hE
  | succ d ih =>
    intro t ch i h0 h1 I hn hn0 hM h2 h3 h4
    have hgm := rd_mem (l := v) h0 (by omega)
    have hg := hv _ hgm
    have hb := I.top hG hr0 hr1
    have hlen := I.len
    have hto : Int.tmod (r + rd v i) a = (rd t r + rd v i) % a := by
      rw [Int.tmod_eq_emod_of_nonneg (by omega), Int.add_emod (rd t r), (I.way r hr0 hr1 (by omega)).2, Int.add_emod, Int.emod_eq_of_lt hr0 hr1]
    have q0 := Int.emod_nonneg (rd t r + rd v i) (b := a) (by omega)
    have q1 := Int.emod_lt_of_pos (rd t r + rd v i) (b := a) (by omega)
    have change : (rd t ((rd t r + rd v i) % a) < 0 ∨ rd t r + rd v i < rd t ((rd t r + rd v i) % a)) → ∃ u, P u ∧ Ev (fun k => impl_leasts.l3 k v a (t.set ((rd t r + rd v i) % a).toNat (n + rd v i)) true r n a r v v.length (i + 1)) u := by
      intro hc
      obtain ⟨I', w', _, hne⟩ := I.step hv ha hr0 hr1 hgm (by omega) hc
      rw [show n + rd v i = rd t r + rd v i from by omega]
      refine ih _ true (i + 1) (by omega) (by omega) I' ?_ (by omega) (by omega) (fun _ => by omega) (fun h => by cases h) (fun h => by cases h)
      rw [rd_set _ q0 (by omega) hr0, if_neg (fun e => hne e.symm)]; exact hn
    have stay : ¬ (rd t ((rd t r + rd v i) % a) < 0 ∨ rd t r + rd v i < rd t ((rd t r + rd v i) % a)) → ∃ u, P u ∧ Ev (fun k => impl_leasts.l3 k v a t ch r n a r v v.length (i + 1)) u := by
      intro hc
      refine ih t ch (i + 1) (by omega) (by omega) I hn hn0 hM h2 h3 (fun hf j hj0 hj1 => ?_)
      by_cases e : j = i
      · subst e; omega
      · exact h4 hf j hj0 (by omega)
    have head : ∀ u, (∀ c1 : rd t ((rd t r + rd v i) % a) < 0, Ev (fun k => impl_leasts.l3 k v a (t.set ((rd t r + rd v i) % a).toNat (n + rd v i)) true r n a r v v.length (i + 1)) u) → (∀ c1 : ¬ rd t ((rd t r + rd v i) % a) < 0, ∀ c2 : n + rd v i < rd t ((rd t r + rd v i) % a), Ev (fun k => impl_leasts.l3 k v a (t.set ((rd t r + rd v i) % a).toNat (n + rd v i)) true r n a r v v.length (i + 1)) u) → (∀ c1 : ¬ rd t ((rd t r + rd v i) % a) < 0, ∀ c2 : ¬ n + rd v i < rd t ((rd t r + rd v i) % a), Ev (fun k => impl_leasts.l3 k v a t ch r n a r v v.length (i + 1)) u) → Ev (fun k => impl_leasts.l3 k v a t ch r n a r v v.length i) u := by
      intro u f1 f2 f3
      refine Ev.step (fun k => by rw [impl_leasts.l3]) ?_
      rw [w64 (x := r + rd v i) (by omega) (by omega), hto, w64 (x := n + rd v i) (by omega) (by omega), w64 (x := i + 1) (by omega) (by omega)]
      refine ev_ifp (by omega) (ev_ifp h0 (ev_ifp (by omega) (ev_ifn (by omega) (ev_ifp q0 (ev_ifp (by omega) ?_)))))
      by_cases c1 : rd t ((rd t r + rd v i) % a) < 0
      · exact ev_ifp c1 (f1 c1)
      · by_cases c2 : n + rd v i < rd t ((rd t r + rd v i) % a)
        · exact ev_ifn c1 (ev_ifp c2 (f2 c1 c2))
        · exact ev_ifn c1 (ev_ifn c2 (f3 c1 c2))
    by_cases c1 : rd t ((rd t r + rd v i) % a) < 0
    · obtain ⟨u, hu, hE⟩ := change (.inl c1)
      exact ⟨u, hu, head u (fun _ => hE) (fun h => absurd c1 h) (fun h => absurd c1 h)⟩
    · by_cases c2 : n + rd v i < rd t ((rd t r + rd v i) % a)
      · obtain ⟨u, hu, hE⟩ := change (.inr (by omega))
        exact ⟨u, hu, head u (fun h => absurd h c1) (fun _ _ => hE) (fun _ h => absurd c2 h)⟩
      · obtain ⟨u, hu, hE⟩ := stay (by omega)
        exact ⟨u, hu, head u (fun h => absurd h c1) (fun _ h => absurd h c2) (fun _ _ => hE)⟩
theorem leasts_l2 {v : List Int} {a G M : Int} (hv : ∀ x ∈ v, 1 ≤ x ∧ x ≤ G) (hG : 0 ≤ G) (hG' : G ≤ 1000) (ha : 1 ≤ a) (ha' : a ≤ 200) (hl : v.length ≤ 20)
    (H : ∀ t : List Int, LInv v a G t → weight (a * G + 1) t < M → ∃ u, Lst v a G u ∧ Ev (fun k => impl_leasts.l1 k v a t true) u) (d : Nat) :
    ∀ (t : List Int) (ch : Bool) (r : Int), 0 ≤ r → r + d = a → LInv v a G t → weight (a * G + 1) t ≤ M → (ch = true → weight (a * G + 1) t < M) →
      (ch = false → ∀ s, 0 ≤ s → s < r → 0 ≤ rd t s → ∀ g ∈ v, 0 ≤ rd t ((rd t s + g) % a) ∧ rd t ((rd t s + g) % a) ≤ rd t s + g) →
      ∃ u, Lst v a G u ∧ Ev (fun k => impl_leasts.l2 k v a t ch a r) u := by
  induction d with
  | zero =>
    intro t ch r h0 h1 I hM h2 h3
    cases ch with
    | true =>
      obtain ⟨u, hu, hE⟩ := H t I (h2 rfl)
      exact ⟨u, hu, Ev.step (fun k => by rw [impl_leasts.l2]) (ev_ifn (by omega) hE)⟩
    | false =>
      refine ⟨t, I.done hv hG ha (fun s hs0 hs1 hs g hg => h3 rfl s hs0 (by omega) hs g hg), Ev.step (fun k => by rw [impl_leasts.l2]) (ev_ifn (by omega) (Ev.step (fun k => by rw [impl_leasts.l1]) (ev_ifn (by simp) (Ev.now _))))⟩
  | succ d ih =>
    intro t ch r h0 h1 I hM h2 h3
    have hlen := I.len
    by_cases c : rd t r < 0
    · obtain ⟨u, hu, hE⟩ := ih t ch (r + 1) (by omega) (by omega) I hM h2 (fun hf s hs0 hs1 hs g hg => by
        by_cases e : s = r
        · subst e; omega
        · exact h3 hf s hs0 (by omega) hs g hg)
      refine ⟨u, hu, Ev.step (fun k => by rw [impl_leasts.l2]) (ev_ifp (by omega) (ev_ifp h0 (ev_ifp (by omega) (ev_ifp c ?_))))⟩
      rw [w64 (by omega) (by omega)]; exact hE
    · obtain ⟨u, hu, hE⟩ := leasts_l3 (M := M) (P := Lst v a G) hv hG hG' ha ha' hl h0 (by omega) (fun t ch I hM h2 h3 => ih t ch (r + 1) (by omega) (by omega) I hM h2 h3) v.length t ch 0 (by omega) (by omega) I rfl (by omega) hM h2 h3 (fun _ j hj0 hj1 => by omega)
      exact ⟨u, hu, Ev.step (fun k => by rw [impl_leasts.l2]) (ev_ifp (by omega) (ev_ifp h0 (ev_ifp (by omega) (ev_ifn c hE))))⟩
theorem leasts_l1 {v : List Int} {a G : Int} (hv : ∀ x ∈ v, 1 ≤ x ∧ x ≤ G) (hG : 0 ≤ G) (hG' : G ≤ 1000) (ha : 1 ≤ a) (ha' : a ≤ 200) (hl : v.length ≤ 20) (m : Nat) :
    ∀ t : List Int, LInv v a G t → weight (a * G + 1) t ≤ m → ∃ u, Lst v a G u ∧ Ev (fun k => impl_leasts.l1 k v a t true) u := by
  induction m using Nat.strongRecOn with
  | _ m ih =>
    intro t I hm
    have hB : 0 ≤ a * G + 1 := by have := Int.mul_nonneg (show 0 ≤ a by omega) hG; omega
    obtain ⟨u, hu, hE⟩ := leasts_l2 (M := weight (a * G + 1) t) hv hG hG' ha ha' hl (fun t' I' h' => ih (weight (a * G + 1) t').toNat (by have := weight_nonneg hB t'; have := weight_nonneg hB t; omega) t' I' (by have := weight_nonneg hB t'; omega)) a.toNat t false 0 (by omega) (by omega) I (Int.le_refl _) (fun h => by cases h) (fun _ s hs0 hs1 => by omega)
    refine ⟨u, hu, Ev.step (fun k => by rw [impl_leasts.l1]) (ev_ifp rfl ?_)⟩
    rw [I.len]; exact hE
theorem leasts_l0 {v : List Int} {a : Int} (ha : 1 ≤ a) (ha' : a ≤ 200) {u : List Int} (H : Ev (fun k => impl_leasts.l1 k v a ((List.replicate a.toNat (-1)).set 0 0) true) u) (d : Nat) :
    ∀ (i : Int) (row : List Int), 0 ≤ i → i + d = a → (row.length : Int) = a → (∀ j, 0 ≤ j → j < i → rd row j = -1) → Ev (fun k => impl_leasts.l0 k v a row a i) u := by
  induction d with
  | zero =>
    intro i row h0 h1 h2 h3
    have e : row = List.replicate a.toNat (-1) := rd_ext (by simp; omega) fun j hj hj' => by rw [h3 j hj (by omega), rd_rep hj (by omega)]
    subst e
    refine Ev.step (fun k => by rw [impl_leasts.l0]) ?_
    exact ev_ifn (by omega) (ev_ifp (by omega) H)
  | succ d ih =>
    intro i row h0 h1 h2 h3
    refine Ev.step (fun k => by rw [impl_leasts.l0]) ?_
    simp (disch := omega) only [if_pos, w64]
    refine ih (i + 1) _ (by omega) (by omega) (by simpa using h2) fun j hj hj' => ?_
    rw [rd_set _ h0 (by omega) hj]
    by_cases e : j = i
    · rw [if_pos e]
    · rw [if_neg e]; exact h3 j hj (by omega)
theorem leasts_ev {v : List Int} {a G : Int} (hv : ∀ x ∈ v, 1 ≤ x ∧ x ≤ G) (hG : 0 ≤ G) (hG' : G ≤ 1000) (ha : 1 ≤ a) (ha' : a ≤ 200) (hl : v.length ≤ 20) : ∃ u, Lst v a G u ∧ Ev (fun k => impl_leasts.f k v a) u := by
  have hB : 0 ≤ a * G + 1 := by have := Int.mul_nonneg (show 0 ≤ a by omega) hG; omega
  obtain ⟨u, hu, hE⟩ := leasts_l1 hv hG hG' ha ha' hl (weight (a * G + 1) ((List.replicate a.toNat (-1)).set 0 0)).toNat _ (LInv.first ha hG) (by have := weight_nonneg hB ((List.replicate a.toNat (-1)).set 0 0); omega)
  refine ⟨u, hu, ?_⟩
  unfold impl_leasts.f
  refine ev_ifp (by omega) (ev_ifp (by omega) ?_)
  simp only [Option.bind_some]
  rw [show ((List.replicate a.toNat (0 : Int)).length : Int) = a from by simp; omega]
  exact leasts_l0 ha ha' hE a.toNat 0 _ (by omega) (by omega) (by simp; omega) (fun j h h' => by omega)
end Go.Proofs.Ytkifakepmomgfaa.E
end
section
namespace Go.Proofs.Ytkifakepmomgfaa.E
open Go.RowKit Go.Proofs.Ytkifakepmomgfaa.PA Go.Proofs.YtkifakepmomgfaaW.PrintWords Go.Proofs.YtkifakepmomgfaaW.PrintLast Go.Proofs.YtkifakepmomgfaaW.PrintMore
set_option linter.unusedVariables false
set_option linter.unusedSimpArgs false
theorem usableI_ev {v : List Int} (hl : v.length ≤ 1099511627776) : Ev (fun k => impl_usable.f k v) (decide (UL v)) := by
  unfold impl_usable.f
  simp only [within_eq, Option.bind_some]
  by_cases h : 1 ≤ (v.length : Int) ∧ (v.length : Int) ≤ 20
  · exact ev_ifp (by simpa using h) (ev_bind _ (allWithin_ev 1 60 hl) (ev_to (Ev.now _) (by simp only [UL, h, true_and])))
  · exact ev_ifn (by simpa using h) (ev_to (Ev.now _) (decide_eq_false (fun u => h u.1)).symm)
theorem gensS_l {v : List Int} (hl : v.length ≤ 1099511627776) (d : Nat) : ∀ i : Int, 0 ≤ i → i + d = v.length → (∀ j, 0 ≤ j → j < i → 1 ≤ rd v j ∧ rd v j ≤ 60) → Ev (fun k => spec_l3Gens.l0 k v i) (decide (UL v)) := by
  induction d with
  | zero =>
    intro i h0 h1 h2
    refine Ev.step (fun k => by rw [spec_l3Gens.l0]) ?_
    simp only [l1In_eq, Option.bind_some]
    refine ev_ifn (by omega) (ev_to (Ev.now _) ?_)
    have : ∀ x ∈ v, 1 ≤ x ∧ x ≤ 60 := fun x hx => by
      obtain ⟨j, hj, hj', rfl⟩ := mem_rd hx; exact h2 j hj (by omega)
    exact decide_eq_decide.2 ⟨fun h => ⟨h, this⟩, fun h => h.1⟩
  | succ d ih =>
    intro i h0 h1 h2
    refine Ev.step (fun k => by rw [spec_l3Gens.l0]) ?_
    simp only [l1In_eq, Option.bind_some]
    rw [w64 (by omega) (by omega)]
    by_cases h : 1 ≤ rd v i ∧ rd v i ≤ 60
    · refine ev_ifp (by omega) (ev_ifp h0 (ev_ifp (by simpa using h) (ih (i + 1) (by omega) (by omega) (fun j hj hj' => ?_))))
      by_cases e : j = i
      · rw [e]; exact h
      · exact h2 j hj (by omega)
    · exact ev_ifp (by omega) (ev_ifp h0 (ev_ifn (by simpa using h) (ev_to (Ev.now _) (decide_eq_false (fun u => h (u.2 _ (rd_mem h0 (by omega))))).symm)))
theorem gensS_ev {v : List Int} (hl : v.length ≤ 1099511627776) : Ev (fun k => spec_l3Gens.f k v) (decide (UL v)) :=
  gensS_l hl v.length 0 (by omega) (by omega) (fun j h h' => by omega)
end Go.Proofs.Ytkifakepmomgfaa.E
end
section
namespace Go.Proofs.Ytkifakepmomgfaa.E
open Go.RowKit Go.Proofs.Ytkifakepmomgfaa.PA Go.Proofs.YtkifakepmomgfaaW.PrintWords Go.Proofs.YtkifakepmomgfaaW.PrintLast Go.Proofs.YtkifakepmomgfaaW.PrintMore
set_option linter.unusedVariables false
set_option linter.unusedSimpArgs false
def Gen (v : List Int) (n : Int) : Prop := UL v ∧ (0 ≤ n ∧ n ≤ 1000000) ∧ Su v n
noncomputable instance (v : List Int) (n : Int) : Decidable (Gen v n) := Classical.propDecidable _
theorem genI_ev {v : List Int} (n : Int) (hl : v.length ≤ 1099511627776) : Ev (fun k => impl_Generates.f k v n) (decide (Gen v n)) := by
  unfold impl_Generates.f
  simp only [within_eq, Option.bind_some]
  by_cases hu : UL v
  · by_cases hn : 0 ≤ n ∧ n ≤ 1000000
    · obtain ⟨f1, f2, f3⟩ := hu.first
      have hlen := hu.1
      obtain ⟨u, hL, hE⟩ := leasts_ev (G := 60) (a := rd v 0) hu.2 (by omega) (by omega) f2 (by omega) (by omega)
      have q0 := Int.emod_nonneg n (b := rd v 0) (by omega)
      have q1 := Int.emod_lt_of_pos n (b := rd v 0) (by omega)
      have hs := hL.su (n := n) f2 (Su.mem f1)
      have hll := hL.len
      rw [Int.tmod_eq_emod_of_nonneg hn.1]
      refine ev_bind _ (usableI_ev hl) (ev_ifp (by simpa using hu) (ev_ifp (by simpa using hn) (ev_ifp (by omega) (ev_bind _ hE (ev_ifn (by omega) (ev_ifp q0 (ev_ifp (by omega) ?_)))))))
      by_cases c : rd u (n % rd v 0) ≥ 0
      · refine ev_ifp c (ev_to (Ev.now _) (decide_eq_decide.2 ?_))
        exact ⟨fun h => ⟨hu, hn, hs.2 ⟨c, h⟩⟩, fun h => (hs.1 h.2.2).2⟩
      · exact ev_ifn c (ev_to (Ev.now _) (decide_eq_false (fun h => c (hs.1 h.2.2).1)).symm)
    · exact ev_bind _ (usableI_ev hl) (ev_ifp (by simpa using hu) (ev_ifn (by simpa using hn) (ev_to (Ev.now _) (decide_eq_false (fun h => hn h.2.1)).symm)))
  · exact ev_bind _ (usableI_ev hl) (ev_ifn (by simpa using hu) (ev_to (Ev.now _) (decide_eq_false (fun h => hu h.1)).symm))
theorem genS_ev {v : List Int} (n : Int) (hl : v.length ≤ 1099511627776) : Ev (fun k => spec_Generates.f k v n) (decide (Gen v n)) := by
  unfold spec_Generates.f
  simp only [l1In_eq, Option.bind_some]
  by_cases hu : UL v
  · by_cases hn : 0 ≤ n ∧ n ≤ 1000000
    · obtain ⟨f1, f2, f3⟩ := hu.first
      have hlen := hu.1
      have hg := gl_pos hu.2 hu.ne
      refine ev_bind _ (gensS_ev hl) (ev_ifp (by simpa using hu) ?_)
      refine Ev.step (fun k => by rw [spec_Generates.j0]) ?_
      refine ev_ifn (nd_f hn) (ev_bind _ (gcdListS_ev hl) (ev_ifn (by omega) ?_))
      rw [Int.tmod_eq_emod_of_nonneg hn.1]
      by_cases hd : n % gl v = 0
      · by_cases hf : n > 3600
        · have q0 := Int.emod_nonneg (n - 3600) (b := rd v 0) (by omega)
          have q1 := Int.emod_lt_of_pos (n - 3600) (b := rd v 0) (by omega)
          obtain ⟨u, hL, _⟩ := leasts_ev (G := 60) (a := rd v 0) hu.2 (by omega) (by omega) f2 (by omega) (by omega)
          rw [w64 (x := n - 3600) (by omega) (by omega), Int.tmod_eq_emod_of_nonneg (by omega), w64 (x := 3600 + (n - 3600) % rd v 0) (by omega) (by omega)]
          obtain ⟨t, t1, t2, hE⟩ := tabS_ev (v := v) (by omega) hu.2 (most := 3600 + (n - 3600) % rd v 0) (by omega) (by omega)
          refine ev_ifp hd (ev_ifp hf (ev_ifp (by omega) (ev_ifn (by omega) (ev_bind _ hE (ev_ifp (by omega) (ev_ifp (by omega) (ev_to (Ev.now _) ?_)))))))
          have e : n % rd v 0 = (3600 + (n - 3600) % rd v 0) % rd v 0 := by
            rw [Int.add_emod_emod]; congr 1; omega
          have ht := t2 (3600 + (n - 3600) % rd v 0) (by omega) (Int.le_refl _)
          have hle : 3600 + (n - 3600) % rd v 0 ≤ n := by
            have := emod_le_self (n := n - 3600) (x := rd v 0) (by omega) (by omega); omega
          rw [Bool.eq_iff_iff, ht, decide_eq_true_eq]
          exact ⟨fun h => ⟨hu, hn, Su.up f2 (Su.mem f1) h hle e.symm⟩, fun h => hL.far f2 (by omega) (Su.mem f1) h.2.2 (by omega) e⟩
        · obtain ⟨t, t1, t2, hE⟩ := tabS_ev (v := v) (by omega) hu.2 (most := n) hn.1 (by omega)
          refine ev_ifp hd (ev_ifn hf (ev_bind _ hE (ev_ifp hn.1 (ev_ifp (by omega) (ev_to (Ev.now _) ?_)))))
          rw [Bool.eq_iff_iff, t2 n hn.1 (Int.le_refl _), decide_eq_true_eq]
          exact ⟨fun h => ⟨hu, hn, h⟩, fun h => h.2.2⟩
      · exact ev_ifn hd (ev_to (Ev.now _) (decide_eq_false (fun h => hd (Int.emod_eq_zero_of_dvd (h.2.2.dvd (gl_dvd hu.2))))).symm)
    · refine ev_bind _ (gensS_ev hl) (ev_ifp (by simpa using hu) ?_)
      refine Ev.step (fun k => by rw [spec_Generates.j0]) ?_
      exact ev_ifp (nd_t hn) (ev_to (Ev.now _) (decide_eq_false (fun h => hn h.2.1)).symm)
  · refine ev_bind _ (gensS_ev hl) (ev_ifn (by simpa using hu) ?_)
    refine Ev.step (fun k => by rw [spec_Generates.j0]) ?_
    exact ev_ifp rfl (ev_to (Ev.now _) (decide_eq_false (fun h => hu h.1)).symm)
end Go.Proofs.Ytkifakepmomgfaa.E
end
section
namespace Go.Proofs.Ytkifakepmomgfaa.E
open Go.RowKit Go.Proofs.Ytkifakepmomgfaa.PA Go.Proofs.YtkifakepmomgfaaW.PrintWords Go.Proofs.YtkifakepmomgfaaW.PrintLast Go.Proofs.YtkifakepmomgfaaW.PrintMore
set_option linter.unusedVariables false
set_option linter.unusedSimpArgs false
theorem take_ul {v : List Int} (hv : ∀ x ∈ v, 1 ≤ x ∧ x ≤ 60) (i : Nat) : ∀ x ∈ v.take i, 1 ≤ x ∧ x ≤ 60 := fun x hx => hv x (List.mem_of_mem_take hx)
theorem gl_take {v : List Int} (hv : ∀ x ∈ v, 1 ≤ x ∧ x ≤ 60) {i : Int} (h0 : 1 ≤ i) (hi : i ≤ v.length) : 1 ≤ gl (v.take i.toNat) ∧ gl (v.take i.toNat) ≤ 60 :=
  gl_pos (take_ul hv _) (fun e => by have := congrArg List.length e; rw [List.length_take, List.length_nil] at this; omega)
theorem take_len {v : List Int} {i : Int} (h0 : 0 ≤ i) (hi : i ≤ v.length) : ((v.take i.toNat).length : Int) = i := by rw [List.length_take]; omega
def Sh (v d : List Int) (n : Int) : Prop := (d.length : Int) = n ∧ ∀ j, 0 ≤ j → j < n → rd d j = gl (v.take (j + 1).toNat)
theorem shared_l {v : List Int} (hl : v.length ≤ 1099511627776) (d : Nat) : ∀ (i : Int) (out : List Int), 0 ≤ i → i + d = v.length → Sh v out i → ∃ r, Sh v r v.length ∧ Ev (fun k => impl_shared.l0 k v out v.length i) r := by
  induction d with
  | zero =>
    intro i out h0 h1 h2
    obtain rfl : i = v.length := by omega
    exact ⟨out, h2, Ev.step (fun k => by rw [impl_shared.l0]) (ev_ifn (by omega) (Ev.now _))⟩
  | succ d ih =>
    intro i out h0 h1 h2
    have ho := h2.1
    obtain ⟨r, hr, hE⟩ := ih (i + 1) (out ++ [gl (v.take (i + 1).toNat)]) (by omega) (by omega) ⟨by simp; omega, fun j hj hj' => by
      rw [rd_append hj]
      by_cases e : j < out.length
      · rw [if_pos e]; exact h2.2 j hj (by omega)
      · rw [if_neg e, show j - out.length = 0 from by omega, show j = i from by omega]; rfl⟩
    refine ⟨r, hr, Ev.step (fun k => by rw [impl_shared.l0]) ?_⟩
    rw [w64 (by omega) (by omega)]
    refine ev_ifp (by omega) (ev_ifp (by omega) (ev_ifp (by omega) (ev_bind _ (gcdListI_ev (l := v.take (i + 1).toNat) ?_) (ev_ifp (by omega) hE))))
    rw [List.length_take]; omega
theorem shared_ev {v : List Int} (hl : v.length ≤ 1099511627776) : ∃ r, Sh v r v.length ∧ Ev (fun k => impl_shared.f k v) r :=
  shared_l hl v.length 0 [] (by omega) (by omega) ⟨by simp, fun j h h' => by omega⟩
def over (l : List Int) (g : Int) : List Int := l.map (fun x => Int.tdiv x g)
theorem tdiv_small {x g : Int} (hx : 1 ≤ x ∧ x ≤ 60) (hg : 1 ≤ g) : 0 ≤ Int.tdiv x g ∧ Int.tdiv x g ≤ 60 := by
  rw [Int.tdiv_eq_ediv_of_nonneg (by omega)]
  have := Int.ediv_le_self g (show 0 ≤ x by omega)
  exact ⟨Int.ediv_nonneg (by omega) (by omega), by omega⟩
theorem overS_l {l : List Int} {g : Int} (hl : l.length ≤ 1048576) (hv : ∀ x ∈ l, 1 ≤ x ∧ x ≤ 60) (hg : 1 ≤ g) (d : Nat) : ∀ i : Int, 0 ≤ i → i + d = l.length → Ev (fun k => spec_l22Over.l0 k l g (over (l.take i.toNat) g) i) (over l g) := by
  induction d with
  | zero =>
    intro i h0 h1
    refine Ev.step (fun k => by rw [spec_l22Over.l0]) ?_
    rw [List.take_of_length_le (by omega)]
    exact ev_ifn (by omega) (Ev.now _)
  | succ d ih =>
    intro i h0 h1
    have b := tdiv_small (hv _ (rd_mem (l := l) h0 (by omega))) hg
    have := ih (i + 1) (by omega) (by omega)
    rw [take_rd h0 (by omega), over, List.map_append] at this
    refine Ev.step (fun k => by rw [spec_l22Over.l0]) ?_
    rw [w64 (x := Int.tdiv (rd l i) g) (by omega) (by omega), w64 (x := i + 1) (by omega) (by omega)]
    exact ev_ifp (by omega) (ev_ifp h0 (ev_ifn (by omega) (ev_ifp (by simp [over]; omega) this)))
theorem overS_ev {l : List Int} {g : Int} (hl : l.length ≤ 1048576) (hv : ∀ x ∈ l, 1 ≤ x ∧ x ≤ 60) (hg : 1 ≤ g) : Ev (fun k => spec_l22Over.f k l g) (over l g) := by
  unfold spec_l22Over.f
  have := overS_l hl hv hg l.length 0 (by omega) (by omega)
  simpa [over] using this
theorem overI_l {v sh : List Int} {i : Int} {r : Bool} (hl : v.length ≤ 20) (hv : ∀ x ∈ v, 1 ≤ x ∧ x ≤ 60) (h0 : 1 ≤ i) (hi : i < v.length) (hs : Sh v sh v.length)
    (H : Ev (fun k => impl_IsTelescopic.l1 k v sh i (over (v.take i.toNat) (gl (v.take i.toNat))) (v.take i.toNat) (v.take i.toNat).length i) r) (d : Nat) : ∀ j : Int, 0 ≤ j → j + d = i →
    Ev (fun k => impl_IsTelescopic.l1 k v sh i (over ((v.take i.toNat).take j.toNat) (gl (v.take i.toNat))) (v.take i.toNat) (v.take i.toNat).length j) r := by
  have hg := gl_take hv h0 (by omega)
  have htl := take_len (v := v) (i := i) (by omega) (by omega)
  have e := hs.2 (i - 1) (by omega) (by omega)
  rw [show i - 1 + 1 = i from by omega] at e
  have hsl := hs.1
  induction d with
  | zero =>
    intro j hj hj'
    obtain rfl : j = i := by omega
    rwa [List.take_of_length_le (l := v.take j.toNat) (by omega)]
  | succ d ih =>
    intro j hj hj'
    have b := tdiv_small (take_ul hv _ _ (rd_mem (l := v.take i.toNat) hj (by omega))) hg.1
    have := ih (j + 1) (by omega) (by omega)
    rw [take_rd hj (by omega), over, List.map_append] at this
    refine Ev.step (fun k => by rw [impl_IsTelescopic.l1]) ?_
    rw [w64 (x := i - 1) (by omega) (by omega), e, w64 (x := Int.tdiv (rd (v.take i.toNat) j) (gl (v.take i.toNat))) (by omega) (by omega), w64 (x := j + 1) (by omega) (by omega)]
    exact ev_ifp (by omega) (ev_ifp hj (ev_ifp (by omega) (ev_ifp (by omega) (ev_ifp (by omega) (ev_ifn (by omega) (ev_ifp (by simp [over]; omega) this))))))
theorem tele_l {v sh : List Int} (hl : v.length ≤ 20) (hv : ∀ x ∈ v, 1 ≤ x ∧ x ≤ 60) (hs : Sh v sh v.length) (d : Nat) : ∀ i : Int, 1 ≤ i → i + d = max 1 v.length → ∃ r : Bool, Ev (fun k => impl_IsTelescopic.l0 k v sh i) r ∧ Ev (fun k => spec_IsTelescopic.l0 k v i) r := by
  induction d with
  | zero =>
    intro i h0 h1
    exact ⟨true, Ev.step (fun k => by rw [impl_IsTelescopic.l0]) (ev_ifn (by omega) (Ev.now _)), Ev.step (fun k => by rw [spec_IsTelescopic.l0]) (ev_ifn (by omega) (Ev.now _))⟩
  | succ d ih =>
    intro i h0 h1
    have hg := gl_take hv h0 (by omega)
    have hg' := gl_take hv (i := i + 1) (by omega) (by omega)
    have htl := take_len (v := v) (i := i) (by omega) (by omega)
    have htl' := take_len (v := v) (i := i + 1) (by omega) (by omega)
    have e := hs.2 i (by omega) (by omega)
    have hsl := hs.1
    have b := tdiv_small (hv _ (rd_mem (l := v) (i := i) (by omega) (by omega))) hg'.1
    obtain ⟨r, a1, a2⟩ := ih (i + 1) (by omega) (by omega)
    have hol : (over (v.take i.toNat) (gl (v.take i.toNat))).length ≤ 1099511627776 := by simp [over]; omega
    have key : ∃ r' : Bool, (if decide (Gen (over (v.take i.toNat) (gl (v.take i.toNat))) (Int.tdiv (rd v i) (gl (v.take (i + 1).toNat)))) = true then r else false) = r' := ⟨_, rfl⟩
    obtain ⟨r', hr'⟩ := key
    have fin : ∀ {f g : Nat → Option Bool}, Ev f r → Ev g false → Ev (fun k => if decide (Gen (over (v.take i.toNat) (gl (v.take i.toNat))) (Int.tdiv (rd v i) (gl (v.take (i + 1).toNat)))) = true then f k else g k) r' := by
      intro f g hf hg
      by_cases c : decide (Gen (over (v.take i.toNat) (gl (v.take i.toNat))) (Int.tdiv (rd v i) (gl (v.take (i + 1).toNat)))) = true
      · rw [if_pos c] at hr'; exact ev_ifp c (hr' ▸ hf)
      · rw [if_neg c] at hr'; exact ev_ifn c (hr' ▸ hg)
    refine ⟨r', Ev.step (fun k => by rw [impl_IsTelescopic.l0]) ?_, Ev.step (fun k => by rw [spec_IsTelescopic.l0]) ?_⟩
    · refine ev_ifp (by omega) (ev_ifp (by omega) (ev_ifp (by omega) ?_))
      refine overI_l hl hv h0 (by omega) hs ?_ i.toNat 0 (by omega) (by omega)
      refine Ev.step (fun k => by rw [impl_IsTelescopic.l1]) ?_
      rw [e, w64 (x := Int.tdiv (rd v i) (gl (v.take (i + 1).toNat))) (by omega) (by omega), w64 (x := i + 1) (by omega) (by omega)]
      exact ev_ifn (by omega) (ev_ifp (by omega) (ev_ifp (by omega) (ev_ifp (by omega) (ev_ifn (by omega) (ev_bind _ (genI_ev _ hol) (fin a1 (Ev.now _)))))))
    · rw [w64 (x := i + 1) (by omega) (by omega)]
      refine ev_ifp (by omega) (ev_ifp (by omega) (ev_ifp (by omega) (ev_bind _ (gcdListS_ev (by omega)) (ev_ifp (by omega) (ev_ifp (by omega) (ev_bind _ (gcdListS_ev (by omega)) (ev_bind _ (overS_ev (by omega) (take_ul hv _) hg.1) (ev_ifn (by omega) ?_))))))))
      rw [w64 (x := Int.tdiv (rd v i) (gl (v.take (i + 1).toNat))) (by omega) (by omega)]
      exact ev_bind _ (genS_ev _ hol) (fin a2 (Ev.now _))
theorem tele_ev (v : List Int) (hl : v.length ≤ 1099511627776) : ∃ r : Bool, Ev (fun k => impl_IsTelescopic.f k v) r ∧ Ev (fun k => spec_IsTelescopic.f k v) r ∧ (r = true → UL v) := by
  unfold impl_IsTelescopic.f spec_IsTelescopic.f
  by_cases hu : UL v
  · have hlen := hu.1
    by_cases hg : gl v = 1
    · obtain ⟨sh, hs, hE⟩ := shared_ev hl
      obtain ⟨r, a, b⟩ := tele_l (by omega) hu.2 hs (v.length - 1) 1 (by omega) (by omega)
      refine ⟨r, ev_bind _ (usableI_ev hl) (ev_ifp (by simpa using hu) (ev_bind _ (gcdListI_ev hl) ?_)), ev_bind _ (gensS_ev hl) (ev_ifp (by simpa using hu) (ev_bind _ (gcdListS_ev hl) ?_)), fun _ => hu⟩
      · refine Ev.step (fun k => by rw [impl_IsTelescopic.j0]) ?_
        exact ev_ifn (by simpa using hg) (ev_bind _ hE a)
      · refine Ev.step (fun k => by rw [spec_IsTelescopic.j0]) ?_
        exact ev_ifn (by simpa using hg) b
    · refine ⟨false, ev_bind _ (usableI_ev hl) (ev_ifp (by simpa using hu) (ev_bind _ (gcdListI_ev hl) ?_)), ev_bind _ (gensS_ev hl) (ev_ifp (by simpa using hu) (ev_bind _ (gcdListS_ev hl) ?_)), fun _ => hu⟩
      · refine Ev.step (fun k => by rw [impl_IsTelescopic.j0]) ?_
        exact ev_ifp (by simpa using hg) (Ev.now _)
      · refine Ev.step (fun k => by rw [spec_IsTelescopic.j0]) ?_
        exact ev_ifp (by simpa using hg) (Ev.now _)
  · refine ⟨false, ev_bind _ (usableI_ev hl) (ev_ifn (by simpa using hu) ?_), ev_bind _ (gensS_ev hl) (ev_ifn (by simpa using hu) ?_), fun h => (by cases h)⟩
    · exact Ev.step (fun k => by rw [impl_IsTelescopic.j0]) (ev_ifp rfl (Ev.now _))
    · exact Ev.step (fun k => by rw [spec_IsTelescopic.j0]) (ev_ifp rfl (Ev.now _))
end Go.Proofs.Ytkifakepmomgfaa.E
end
section
namespace Go.Proofs.Ytkifakepmomgfaa.Pure
open Go.RowKit Go.Proofs.Ytkifakepmomgfaa.PA Go.Proofs.Ytkifakepmomgfaa.E Go.Proofs.YtkifakepmomgfaaW.PrintWords Go.Proofs.YtkifakepmomgfaaW.PrintLast Go.Proofs.YtkifakepmomgfaaW.PrintMore
set_option linter.unusedVariables false
set_option linter.unusedSimpArgs false
theorem FnExactIsTelescopic : laws_FnExactIsTelescopic.Pure := by
  intro l0 h1 h2 h3
  apply Ev.rounds
  unfold laws_FnExactIsTelescopic.f
  by_cases h : (l0.length : Int) > 1048576
  · exact ev_ifp h (Ev.now _)
  have hl : l0.length ≤ 1048576 := by omega
  obtain ⟨r, hi, hs, _⟩ := tele_ev l0 (by omega)
  exact ev_ifn h (ev_bind _ (toIntS_ev hl) (ev_bind _ hs (ev_bind _ (toIntS_ev hl) (ev_bind _ hi (ev_ifn (by simp) (ev_bind _ (toIntS_ev hl) (ev_bind _ (eqIntS_same (by omega)) (ev_ifp rfl (Ev.now _)))))))))
end Go.Proofs.Ytkifakepmomgfaa.Pure
end
section
namespace Go.Proofs.YtkifakepmomgfaaW.PrintWords
open Go.ChangeShapes Go.WideShapes
theorem sized_ints {H : Type} {enc : TypeId × Value → H} {P : Program} {W : World} {base : Nat} {spare : Nat → Bool} {held : Bool} {t e : TypeId} {k : IntKind} {a : Option Addr} {len cap : Nat} {d : DataW H} {ps : List MemPlace} {ts : List TypeId} {ds : List (DataW H)} {j : Nat}
    (hsz : (DataW.weightsEach P ts ds).all (· ≤ reachBytes) = true) (ht : ts[j]? = some t) (hd : ds[j]? = some d) (hu : P.underlying t = some (.slice e)) (he : P.underlying e = some (.int k)) (hc : P.cellsOf e = 1) {B : Nat} (hB : P.bytesOf e = B)
    (h : DataW.Trod enc P W base spare held t (.slice a len cap) d ps) : len * B ≤ 140737488351232 := by
  obtain ⟨fuel, hf⟩ := h
  rcases open_ints hu he hc hf with ⟨hcs, _⟩ | ⟨x, l, c, zs, hcs, _, hl, _, hz, hx, _, _⟩
  · simp [Value.cells] at hcs
    obtain ⟨rfl, rfl, rfl⟩ := hcs
    simp
  · simp [Value.cells] at hcs
    obtain ⟨rfl, rfl, rfl⟩ := hcs
    obtain ⟨hx, _⟩ := Prod.mk.inj hx
    subst hx
    have z := sized_slice hsz ht hd hu
    rw [hB] at z
    have hl2 : len ≤ zs.length := by
      rw [hz]
      split
      · exact hl
      · exact Nat.le_refl _
    have h1 : (lits (H := H) k (zs.take len)).length + (lits (H := H) k (zs.drop len)).length = zs.length := by
      simp [lits]
      omega
    rw [h1] at z
    exact Nat.le_trans (Nat.mul_le_mul_right _ hl2) z
end Go.Proofs.YtkifakepmomgfaaW.PrintWords
end
