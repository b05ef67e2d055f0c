-- Bundled by shake.py from this session's printed and written texts; Lean checks it.
import Derived.Below
import Derived.ChangeOld
import Derived.ChangeSlices
import Derived.Deep.Fields
import Derived.Lib.SmallJoins
import Derived.OpenShut
import Derived.ProofKit
import Derived.SizedLaws
import Derived.Test.YtkifakepmomgfaaZFnExactPairsOfx1
import Derived.Test.YtkifakepmomgfaaZFnExactPairsOfx2
import Derived.Test.YtkifakepmomgfaaZFnExactPairsOfx3
import Derived.Test.YtkifakepmomgfaaZFnExactPairsOfx4
import Derived.Test.YtkifakepmomgfaaZFnExactPairsOfx5
import Derived.Test.YtkifakepmomgfaaZFnExactPairsOfx6
import Derived.Test.YtkifakepmomgfaaZFnExactPairsOfx7
import Derived.Test.YtkifakepmomgfaaZFnExactPairsOfx8
import Derived.WalkKit
section
namespace Go.Proofs.Ytkifakepmomgfaa.E
open Go.RowKit Go.Proofs.Ytkifakepmomgfaa.PB Go.Proofs.YtkifakepmomgfaaW.PrintWords Go.Proofs.YtkifakepmomgfaaW.PrintLast Go.Proofs.YtkifakepmomgfaaW.PrintMore
set_option linter.unusedVariables false
set_option linter.unusedSimpArgs false
structure SG (v : List Int) : Prop where
  ul : UL v
  len : (v.length : Int) ≤ 12
  asc : Asc v
  gcd : gl v = 1
  min : ∀ i : Int, 1 ≤ i → i < v.length → ¬ Su (v.take i.toNat) (rd v i)
  ends : ∀ n, 200 ≤ n → Su v n
noncomputable instance (v : List Int) : Decidable (SG v) := Classical.propDecidable _
theorem ends_iff {v : List Int} {a : Int} (ha : 1 ≤ a) (hav : Su v a) : (∀ n, 200 ≤ n → Su v n) ↔ ∀ n, 200 ≤ n → n < 200 + a → Su v n := by
  constructor
  · intro h n h1 _; exact h n h1
  · intro h n hn
    have q0 := Int.emod_nonneg (n - 200) (b := a) (by omega)
    have q1 := Int.emod_lt_of_pos (n - 200) (b := a) (by omega)
    have le := emod_le_self (n := n - 200) (x := a) (by omega) (by omega)
    refine Su.up ha hav (h (200 + (n - 200) % a) (by omega) (by omega)) (by omega) ?_
    rw [Int.add_emod_emod]; congr 1; omega
theorem Lst.all {v : List Int} {a G : Int} {t : List Int} (h : Lst v a G t) (ha : 1 ≤ a) (hv : ∀ x ∈ v, 1 ≤ x ∧ x ≤ 60) (hg : gl v = 1) {r : Int} (h0 : 0 ≤ r) (h1 : r < a) : 0 ≤ rd t r := by
  obtain ⟨n, ⟨c, w⟩, e⟩ := all_classes ha hv hg r
  have := (h.least n c w).1
  rwa [e, Int.emod_eq_of_lt h0 h1] at this
theorem ends_lst {v : List Int} {a G : Int} {t : List Int} (h : Lst v a G t) (ha : 1 ≤ a) (hav : Su v a) (hv : ∀ x ∈ v, 1 ≤ x ∧ x ≤ 60) (hg : gl v = 1) : (∀ n, 200 ≤ n → Su v n) ↔ ∀ r, 0 ≤ r → r < a → rd t r < 200 + a := by
  rw [ends_iff ha hav]
  constructor
  · intro k r h0 h1
    have q0 := Int.emod_nonneg (r - 200) (b := a) (by omega)
    have q1 := Int.emod_lt_of_pos (r - 200) (b := a) (by omega)
    have e : (200 + (r - 200) % a) % a = r := by
      rw [Int.add_emod_emod, show 200 + (r - 200) = r from by omega, Int.emod_eq_of_lt h0 h1]
    have := (h.su ha hav).1 (k (200 + (r - 200) % a) (by omega) (by omega))
    rw [e] at this
    omega
  · intro k n h0 h1
    have q0 := Int.emod_nonneg n (b := a) (by omega)
    have q1 := Int.emod_lt_of_pos n (b := a) (by omega)
    have p := h.all ha hv hg q0 q1
    have b := k _ q0 q1
    refine (h.su ha hav).2 ⟨p, ?_⟩
    have e := (h.way _ q0 q1 p).2
    by_cases c : rd t (n % a) ≤ n
    · exact c
    · exfalso
      have e1 := Int.mul_ediv_add_emod n a
      have e2 := Int.mul_ediv_add_emod (rd t (n % a)) a
      rw [e] at e2
      have hq : a * (n / a) < a * (rd t (n % a) / a) := by omega
      have hq' : n / a < rd t (n % a) / a := Int.lt_of_mul_lt_mul_left hq (by omega)
      have : a * (n / a + 1) ≤ a * (rd t (n % a) / a) := Int.mul_le_mul_of_nonneg_left (by omega) (by omega)
      rw [Int.mul_add] at this
      omega
theorem sgI_l1 {v u : List Int} {a : Int} (hl : 0 < (v.length : Int)) (ha : rd v 0 = a) (ha1 : 1 ≤ a ∧ a ≤ 60) (hul : (u.length : Int) = a) (hb : ∀ r, 0 ≤ r → r < a → -1 ≤ rd u r ∧ rd u r ≤ 3600) (d : Nat) : ∀ i : Int, 0 ≤ i → i + d = a → ∃ r : Bool, Ev (fun k => impl_IsSemigroup.l1 k v u a i) r ∧ (r = true ↔ ∀ j, i ≤ j → j < a → rd u j < 200 + a) := by
  induction d with
  | zero =>
    intro i h0 h1
    exact ⟨true, Ev.step (fun k => by rw [impl_IsSemigroup.l1]) (ev_ifn (by omega) (Ev.now _)), fun _ j hj hj' => by omega, fun _ => rfl⟩
  | succ d ih =>
    intro i h0 h1
    have b := hb i h0 (by omega)
    by_cases c : rd u i - a ≥ 200
    · refine ⟨false, Ev.step (fun k => by rw [impl_IsSemigroup.l1]) ?_, fun h => (by cases h), fun h => ?_⟩
      · rw [ha, w64 (x := rd u i - a) (by omega) (by omega)]
        exact ev_ifp (by omega) (ev_ifp h0 (ev_ifp (by omega) (ev_ifp hl (ev_ifp c (Ev.now _)))))
      · have := h i (Int.le_refl _) (by omega); omega
    · obtain ⟨r, hE, hr⟩ := ih (i + 1) (by omega) (by omega)
      refine ⟨r, Ev.step (fun k => by rw [impl_IsSemigroup.l1]) ?_, ?_⟩
      · rw [ha, w64 (x := rd u i - a) (by omega) (by omega), w64 (x := i + 1) (by omega) (by omega)]
        exact ev_ifp (by omega) (ev_ifp h0 (ev_ifp (by omega) (ev_ifp hl (ev_ifn c hE))))
      · rw [hr]
        constructor
        · intro h j hj hj'
          by_cases e : j = i
          · rw [e]; omega
          · exact h j (by omega) hj'
        · intro h j hj hj'; exact h j (by omega) hj'
theorem gen_take {v : List Int} (hu : UL v) {i : Int} (h0 : 1 ≤ i) (hi : i < v.length) : Gen (v.take i.toNat) (rd v i) ↔ Su (v.take i.toNat) (rd v i) := by
  have hx := hu.2 _ (rd_mem (l := v) (i := i) (by omega) hi)
  have hl := hu.1
  exact ⟨fun h => h.2.2, fun h => ⟨⟨by rw [take_len (by omega) (by omega)]; omega, take_ul hu.2 _⟩, by omega, h⟩⟩
theorem sgI_l0 {v : List Int} (hu : UL v) (hg : gl v = 1) (d : Nat) : ∀ i : Int, 1 ≤ i → i + d = max 1 v.length → ∃ r : Bool, Ev (fun k => impl_IsSemigroup.l0 k v i) r ∧ (r = true ↔ (∀ j : Int, i ≤ j → j < v.length → ¬ Su (v.take j.toNat) (rd v j)) ∧ ∀ n, 200 ≤ n → Su v n) := by
  have hlen := hu.1
  induction d with
  | zero =>
    intro i h0 h1
    obtain ⟨f1, f2, f3⟩ := hu.first
    obtain ⟨u, hL, hE⟩ := leasts_ev (G := 60) (a := rd v 0) hu.2 (by omega) (by omega) f2 (by omega) (by omega)
    have hll := hL.len
    obtain ⟨r, hE', hr⟩ := sgI_l1 (v := v) (u := u) (a := rd v 0) (by omega) rfl ⟨f2, f3⟩ hll (fun r h0 h1 => ⟨hL.ge r h0 h1, by have := hL.bound r h0 h1; omega⟩) (rd v 0).toNat 0 (by omega) (by omega)
    refine ⟨r, Ev.step (fun k => by rw [impl_IsSemigroup.l0]) ?_, ?_⟩
    · refine ev_ifn (by omega) (ev_ifp (by omega) (ev_bind _ hE ?_))
      rw [hll]; exact hE'
    · rw [hr, ends_lst hL f2 (Su.mem f1) hu.2 hg]
      exact ⟨fun h => ⟨fun j hj hj' => by omega, h⟩, fun h => h.2⟩
  | succ d ih =>
    intro i h0 h1
    have g := gen_take hu h0 (by omega)
    have tl := take_len (v := v) (i := i) (by omega) (by omega)
    by_cases c : Su (v.take i.toNat) (rd v i)
    · refine ⟨false, Ev.step (fun k => by rw [impl_IsSemigroup.l0]) ?_, fun h => (by cases h), fun h => absurd c (h.1 i (Int.le_refl _) (by omega))⟩
      exact ev_ifp (by omega) (ev_ifp (by omega) (ev_ifp (by omega) (ev_bind _ (genI_ev _ (by omega)) (ev_ifp (by simpa using g.2 c) (Ev.now _)))))
    · obtain ⟨r, hE, hr⟩ := ih (i + 1) (by omega) (by omega)
      refine ⟨r, Ev.step (fun k => by rw [impl_IsSemigroup.l0]) ?_, ?_⟩
      · rw [w64 (x := i + 1) (by omega) (by omega)]
        exact ev_ifp (by omega) (ev_ifp (by omega) (ev_ifp (by omega) (ev_bind _ (genI_ev _ (by omega)) (ev_ifn (by simpa using fun h => c (g.1 h)) hE))))
      · rw [hr]
        constructor
        · rintro ⟨h, h'⟩
          refine ⟨fun j hj hj' => ?_, h'⟩
          by_cases e : j = i
          · rw [e]; exact c
          · exact h j (by omega) hj'
        · rintro ⟨h, h'⟩; exact ⟨fun j hj hj' => h j (by omega) hj', h'⟩
theorem sgI_ev {v : List Int} (hl : v.length ≤ 1099511627776) : Ev (fun k => impl_IsSemigroup.f k v) (decide (SG v)) := by
  unfold impl_IsSemigroup.f
  simp only [within_eq, Option.bind_some]
  have no : ¬ SG v → Ev (fun k => impl_IsSemigroup.j0 k v true) (decide (SG v)) := fun h => by
    refine Ev.step (fun k => by rw [impl_IsSemigroup.j0]) ?_
    exact ev_ifp rfl (ev_to (Ev.now _) (decide_eq_false h).symm)
  by_cases c1 : 1 ≤ (v.length : Int) ∧ (v.length : Int) ≤ 12
  · refine ev_ifp (by simpa using c1) ?_
    by_cases c2 : ∀ x ∈ v, 1 ≤ x ∧ x ≤ 60
    · refine ev_bind _ (allWithin_ev 1 60 hl) (ev_ifp (by rw [decide_eq_true_eq]; exact c2) ?_)
      have hu : UL v := ⟨by omega, c2⟩
      by_cases c3 : Asc v
      · refine ev_bind _ (ascI_ev hl) (ev_ifp (by simpa using c3) (ev_bind _ (gcdListI_ev hl) ?_))
        by_cases c4 : gl v = 1
        · obtain ⟨r, hE, hr⟩ := sgI_l0 hu c4 (v.length - 1) 1 (by omega) (by omega)
          refine Ev.step (fun k => by rw [impl_IsSemigroup.j0]) ?_
          refine ev_ifn (by simpa using c4) (ev_to hE ?_)
          rw [Bool.eq_iff_iff, hr, decide_eq_true_eq]
          exact ⟨fun h => ⟨hu, c1.2, c3, c4, h.1, h.2⟩, fun h => ⟨h.min, h.ends⟩⟩
        · rw [show (gl v != 1) = true from by simpa using c4]
          exact no (fun h => c4 h.gcd)
      · exact ev_bind _ (ascI_ev hl) (ev_ifn (by simpa using c3) (no (fun h => c3 h.asc)))
    · exact ev_bind _ (allWithin_ev 1 60 hl) (ev_ifn (by rw [decide_eq_true_eq]; exact c2) (no (fun h => c2 h.ul.2)))
  · exact ev_ifn (by simpa using c1) (no (fun h => c1 ⟨h.ul.1.1, h.len⟩))
end Go.Proofs.Ytkifakepmomgfaa.E
end
section
namespace Go.Proofs.Ytkifakepmomgfaa.E
open Go.RowKit Go.Proofs.Ytkifakepmomgfaa.PB Go.Proofs.YtkifakepmomgfaaW.PrintWords Go.Proofs.YtkifakepmomgfaaW.PrintLast Go.Proofs.YtkifakepmomgfaaW.PrintMore
set_option linter.unusedVariables false
set_option linter.unusedSimpArgs false
theorem rdb_set {l : List Bool} {i j : Int} (x : Bool) (hi : 0 ≤ i) (hi' : i < l.length) (hj : 0 ≤ j) : rdOf false (l.set i.toNat x) j = if j = i then x else rdOf false l j := by
  unfold rdOf
  rw [List.getD_eq_getElem?_getD, List.getD_eq_getElem?_getD, List.getElem?_set]
  by_cases h : j = i
  · subst h; rw [if_pos rfl, if_pos rfl, if_pos (by omega)]; rfl
  · rw [if_neg h, if_neg (by omega)]
theorem rdb_rep {n : Nat} {i : Int} : rdOf false (List.replicate n false) i = false := by
  unfold rdOf
  rw [List.getD_eq_getElem?_getD, List.getElem?_replicate]
  split <;> rfl
def TabAt (v : List Int) (n : Int) (t : List Bool) : Prop := (∀ j, 0 ≤ j → j < n → (rdOf false t j = true ↔ Su v j)) ∧ ∀ j, n ≤ j → rdOf false t j = false
theorem tab_l1 {v : List Int} (hl : v.length ≤ 20) (hv : ∀ x ∈ v, 1 ≤ x ∧ x ≤ 60) {most n : Int} (hm : most ≤ 1048576) (hn : 1 ≤ n) (hn' : n ≤ most) {r : List Bool}
    (H : ∀ t : List Bool, (t.length : Int) = most + 1 → TabAt v (n + 1) t → Ev (fun k => spec_l3Table.l0 k v most t (n + 1)) r → True) (d : Nat) :
    ∀ (i : Int) (t : List Bool), 0 ≤ i → i + d = v.length → (t.length : Int) = most + 1 → (∀ j, 0 ≤ j → j < n → (rdOf false t j = true ↔ Su v j)) → (∀ j, n < j → rdOf false t j = false) → (rdOf false t n = true ↔ ∃ j, 0 ≤ j ∧ j < i ∧ rd v j ≤ n ∧ Su v (n - rd v j)) →
      ∃ t' : List Bool, (t'.length : Int) = most + 1 ∧ TabAt v (n + 1) t' ∧ ∀ r, Ev (fun k => spec_l3Table.l0 k v most t' (n + 1)) r → Ev (fun k => spec_l3Table.l1 k v most t n i) r := by
  have hv1 : ∀ x ∈ v, 1 ≤ x := fun x hx => (hv x hx).1
  induction d with
  | zero =>
    intro i t h0 h1 h2 h3 h4 h5
    refine ⟨t, h2, ⟨fun j hj hj' => ?_, fun j hj => h4 j (by omega)⟩, fun r hr => Ev.step (fun k => by rw [spec_l3Table.l1]) (ev_ifn (by omega) ?_)⟩
    · by_cases e : j = n
      · subst e
        rw [h5, Su.last (by omega)]
        constructor
        · rintro ⟨q, a, b, _, c⟩; exact ⟨_, rd_mem a (by omega), c⟩
        · rintro ⟨x, hx, c⟩
          obtain ⟨q, a, b, rfl⟩ := mem_rd hx
          have := c.pos hv1
          exact ⟨q, a, by omega, by omega, c⟩
      · exact h3 j hj (by omega)
    · rw [w64 (by omega) (by omega)]; exact hr
  | succ d ih =>
    intro i t h0 h1 h2 h3 h4 h5
    have hx := hv _ (rd_mem (l := v) h0 (by omega))
    by_cases c : n ≥ rd v i
    · have e := h3 (n - rd v i) (by omega) (by omega)
      by_cases b : rdOf false t (n - rd v i) = true
      · obtain ⟨t', a1, a2, a3⟩ := ih (i + 1) (t.set n.toNat true) (by omega) (by omega) (by simpa using h2) (fun j hj hj' => by rw [rdb_set _ (by omega) (by omega) hj, if_neg (by omega)]; exact h3 j hj hj') (fun j hj => by rw [rdb_set _ (by omega) (by omega) (by omega), if_neg (by omega)]; exact h4 j hj)
          (by rw [rdb_set _ (by omega) (by omega) (by omega), if_pos rfl]; exact ⟨fun _ => ⟨i, h0, by omega, c, e.1 b⟩, fun _ => rfl⟩)
        refine ⟨t', a1, a2, fun r hr => Ev.step (fun k => by rw [spec_l3Table.l1]) ?_⟩
        rw [w64 (x := n - rd v i) (by omega) (by omega), w64 (x := i + 1) (by omega) (by omega)]
        exact ev_ifp (by omega) (ev_ifp h0 (ev_ifp c (ev_ifp (by omega) (ev_ifp (by omega) (ev_ifp b (ev_ifp (by omega) (ev_ifp (by omega) (a3 r hr))))))))
      · obtain ⟨t', a1, a2, a3⟩ := ih (i + 1) t (by omega) (by omega) h2 h3 h4 (by
          rw [h5]
          constructor
          · rintro ⟨q, u1, u2, u3⟩; exact ⟨q, u1, by omega, u3⟩
          · rintro ⟨q, u1, u2, u3, u4⟩
            by_cases eq : q = i
            · subst eq; exact absurd (e.2 u4) b
            · exact ⟨q, u1, by omega, u3, u4⟩)
        refine ⟨t', a1, a2, fun r hr => Ev.step (fun k => by rw [spec_l3Table.l1]) ?_⟩
        rw [w64 (x := n - rd v i) (by omega) (by omega), w64 (x := i + 1) (by omega) (by omega)]
        exact ev_ifp (by omega) (ev_ifp h0 (ev_ifp c (ev_ifp (by omega) (ev_ifp (by omega) (ev_ifn b (a3 r hr))))))
    · obtain ⟨t', a1, a2, a3⟩ := ih (i + 1) t (by omega) (by omega) h2 h3 h4 (by
        rw [h5]
        constructor
        · rintro ⟨q, u1, u2, u3⟩; exact ⟨q, u1, by omega, u3⟩
        · rintro ⟨q, u1, u2, u3, u4⟩
          by_cases eq : q = i
          · subst eq; omega
          · exact ⟨q, u1, by omega, u3, u4⟩)
      refine ⟨t', a1, a2, fun r hr => Ev.step (fun k => by rw [spec_l3Table.l1]) ?_⟩
      rw [w64 (x := i + 1) (by omega) (by omega)]
      exact ev_ifp (by omega) (ev_ifp h0 (ev_ifn c (a3 r hr)))
theorem tab_l0 {v : List Int} (hl : v.length ≤ 20) (hv : ∀ x ∈ v, 1 ≤ x ∧ x ≤ 60) {most : Int} (hm : most ≤ 1048576) (d : Nat) : ∀ (n : Int) (t : List Bool), 1 ≤ n → n + d = most + 1 → (t.length : Int) = most + 1 → TabAt v n t →
    ∃ t' : List Bool, (t'.length : Int) = most + 1 ∧ (∀ j, 0 ≤ j → j ≤ most → (rdOf false t' j = true ↔ Su v j)) ∧ Ev (fun k => spec_l3Table.l0 k v most t n) t' := by
  induction d with
  | zero =>
    intro n t h0 h1 h2 h3
    exact ⟨t, h2, fun j hj hj' => h3.1 j hj (by omega), Ev.step (fun k => by rw [spec_l3Table.l0]) (ev_ifn (by omega) (Ev.now _))⟩
  | succ d ih =>
    intro n t h0 h1 h2 h3
    obtain ⟨t', a1, a2, a3⟩ := tab_l1 (r := t) hl hv hm h0 (by omega) (fun _ _ _ _ => trivial) v.length 0 t (by omega) (by omega) h2 h3.1 (fun j hj => h3.2 j (by omega)) (by
      rw [h3.2 n (Int.le_refl _)]
      exact ⟨fun h => (by cases h), fun ⟨j, u1, u2, _⟩ => by omega⟩)
    obtain ⟨t'', b1, b2, b3⟩ := ih (n + 1) t' (by omega) (by omega) a1 a2
    refine ⟨t'', b1, b2, Ev.step (fun k => by rw [spec_l3Table.l0]) ?_⟩
    exact ev_ifp (by omega) (a3 _ b3)
theorem tabS_ev {v : List Int} (hl : v.length ≤ 20) (hv : ∀ x ∈ v, 1 ≤ x ∧ x ≤ 60) {most : Int} (hm0 : 0 ≤ most) (hm : most ≤ 1048576) :
    ∃ t : List Bool, (t.length : Int) = most + 1 ∧ (∀ j, 0 ≤ j → j ≤ most → (rdOf false t j = true ↔ Su v j)) ∧ Ev (fun k => spec_l3Table.f k v most) t := by
  have e0 : ((List.replicate (most + 1).toNat false).length : Int) = most + 1 := by simp; omega
  obtain ⟨t, a, b, c⟩ := tab_l0 hl hv hm most.toNat 1 ((List.replicate (most + 1).toNat false).set (0 : Int).toNat true) (by omega) (by omega) (by rw [List.length_set]; exact e0) ⟨fun j hj hj' => by
      rw [rdb_set _ (by omega) (by omega) hj, if_pos (by omega), show j = 0 from by omega]
      exact ⟨fun _ => Su.zero v, fun _ => rfl⟩, fun j hj => by
      rw [rdb_set _ (by omega) (by omega) (by omega), if_neg (by omega)]; exact rdb_rep⟩
  refine ⟨t, a, b, ?_⟩
  unfold spec_l3Table.f
  rw [w64 (by omega) (by omega)]
  simp only [Option.bind_some]
  exact ev_ifp (by omega) (ev_ifp (by omega) (ev_ifp (by omega) c))
end Go.Proofs.Ytkifakepmomgfaa.E
end
section
namespace Go.Proofs.Ytkifakepmomgfaa.E
open Go.RowKit Go.Proofs.Ytkifakepmomgfaa.PB Go.Proofs.YtkifakepmomgfaaW.PrintWords Go.Proofs.YtkifakepmomgfaaW.PrintLast Go.Proofs.YtkifakepmomgfaaW.PrintMore
set_option linter.unusedVariables false
set_option linter.unusedSimpArgs false
noncomputable def stab (v : List Int) (m : Int) : List Bool := (List.range (m + 1).toNat).map (fun n : Nat => decide (Su v (n : Int)))
theorem stab_len {v : List Int} {m : Int} (h : 0 ≤ m) : ((stab v m).length : Int) = m + 1 := by unfold stab; simp; omega
theorem rdb_lt {l : List Bool} {i : Int} (h0 : 0 ≤ i) (h : i < l.length) : rdOf false l i = l[i.toNat]'(by omega) := by
  unfold rdOf; rw [List.getD_eq_getElem?_getD, List.getElem?_eq_getElem (by omega)]; rfl
theorem rdb_ext {l m : List Bool} (hl : l.length = m.length) (h : ∀ i : Int, 0 ≤ i → i < l.length → rdOf false l i = rdOf false m i) : l = m := by
  refine List.ext_getElem hl fun n h1 h2 => ?_
  have := h n (by omega) (by omega)
  rw [rdb_lt (by omega) (by omega), rdb_lt (by omega) (by omega)] at this
  simpa using this
theorem stab_rd {v : List Int} {m j : Int} (h0 : 0 ≤ j) (h : j ≤ m) : rdOf false (stab v m) j = decide (Su v j) := by
  have := stab_len (v := v) (m := m) (by omega)
  rw [rdb_lt h0 (by omega)]
  unfold stab
  rw [List.getElem_map, List.getElem_range, show ((j.toNat : Nat) : Int) = j from by omega]
theorem stab_eq {v : List Int} {m : Int} (hm : 0 ≤ m) {t : List Bool} (hl : (t.length : Int) = m + 1) (h : ∀ j, 0 ≤ j → j ≤ m → (rdOf false t j = true ↔ Su v j)) : t = stab v m := by
  have e := stab_len (v := v) hm
  refine rdb_ext (by omega) fun i h0 h1 => ?_
  rw [stab_rd h0 (by omega), Bool.eq_iff_iff, h i h0 (by omega), decide_eq_true_eq]
theorem tabS_st {v : List Int} (hl : v.length ≤ 20) (hv : ∀ x ∈ v, 1 ≤ x ∧ x ≤ 60) {most : Int} (h0 : 0 ≤ most) (hm : most ≤ 1048576) : Ev (fun k => spec_l3Table.f k v most) (stab v most) := by
  obtain ⟨t, a, b, c⟩ := tabS_ev hl hv h0 hm
  rw [stab_eq h0 a b] at c
  exact c
theorem tabI_l {v u : List Int} (hu : UL v) (hg : gl v = 1) (hL : Lst v (rd v 0) 60 u) {most : Int} (hm0 : 0 ≤ most) (hm : most ≤ 1048576) (d : Nat) : ∀ (i : Int) (out : List Bool), 0 ≤ i → i + d = most + 1 → (out.length : Int) = most + 1 → (∀ j, 0 ≤ j → j < i → (rdOf false out j = true ↔ Su v j)) → Ev (fun k => impl_table.l0 k u out (most + 1) i v) (stab v most) := by
  have f := hu.first
  obtain ⟨_, fa, fb⟩ := f
  have f := hu.first
  have hlen := hu.1
  have hll := hL.len
  induction d with
  | zero =>
    intro i out h0 h1 h2 h3
    refine Ev.step (fun k => by rw [impl_table.l0]) ?_
    rw [stab_eq (v := v) (m := most) (t := out) (by omega) h2 (fun j a b => h3 j a (by omega))]
    exact ev_ifn (by omega) (Ev.now _)
  | succ d ih =>
    intro i out h0 h1 h2 h3
    have q0 := Int.emod_nonneg i (b := rd v 0) (by omega)
    have q1 := Int.emod_lt_of_pos i (b := rd v 0) (by omega)
    have p := hL.all f.2.1 hu.2 hg q0 q1
    have s := hL.su f.2.1 (Su.mem f.1) (n := i)
    refine Ev.step (fun k => by rw [impl_table.l0]) ?_
    rw [Int.tmod_eq_emod_of_nonneg h0, w64 (x := i + 1) (by omega) (by omega)]
    refine ev_ifp (by omega) (ev_ifp (by omega) (ev_ifn (by omega) (ev_ifp q0 (ev_ifp (by omega) (ev_ifp h0 (ev_ifp (by omega) (ih (i + 1) _ (by omega) (by omega) (by simpa using h2) fun j hj hj' => ?_)))))))
    rw [rdb_set _ h0 (by omega) hj]
    by_cases e : j = i
    · subst e
      rw [if_pos rfl, decide_eq_true_eq, s]
      exact ⟨fun h => ⟨p, h⟩, fun h => h.2⟩
    · rw [if_neg e]; exact h3 j hj (by omega)
theorem tabI_st {v : List Int} (hu : UL v) (hg : gl v = 1) {most : Int} (h0 : 0 ≤ most) (hm : most ≤ 1048576) : Ev (fun k => impl_table.f k v most) (stab v most) := by
  obtain ⟨f1, f2, f3⟩ := hu.first
  have hlen := hu.1
  obtain ⟨u, hL, hE⟩ := leasts_ev (G := 60) (a := rd v 0) hu.2 (by omega) (by omega) f2 (by omega) (by omega)
  have e0 : ((List.replicate (most + 1).toNat false).length : Int) = most + 1 := by simp; omega
  unfold impl_table.f
  refine ev_ifp (by omega) (ev_bind _ hE ?_)
  rw [w64 (by omega) (by omega)]
  simp only [Option.bind_some]
  refine ev_ifp (by omega) (ev_ifp (by omega) ?_)
  rw [e0]
  exact tabI_l hu hg hL h0 hm (most + 1).toNat 0 _ (by omega) (by omega) e0 (fun j a b => by omega)
end Go.Proofs.Ytkifakepmomgfaa.E
end
section
namespace Go.Proofs.Ytkifakepmomgfaa.E
open Go.RowKit Go.Proofs.Ytkifakepmomgfaa.PB Go.Proofs.YtkifakepmomgfaaW.PrintWords Go.Proofs.YtkifakepmomgfaaW.PrintLast Go.Proofs.YtkifakepmomgfaaW.PrintMore
set_option linter.unusedVariables false
set_option linter.unusedSimpArgs false
theorem SG.sutab {v : List Int} (h : SG v) {m : Int} (h0 : 0 ≤ m) (hm : m ≤ 1048576) : Ev (fun k => impl_table.f k v m) (stab v m) := tabI_st h.ul h.gcd h0 hm
theorem SG.sutabS {v : List Int} (h : SG v) {m : Int} (h0 : 0 ≤ m) (hm : m ≤ 1048576) : Ev (fun k => spec_l3Table.f k v m) (stab v m) := tabS_st (by have := h.len; omega) h.ul.2 h0 hm
end Go.Proofs.Ytkifakepmomgfaa.E
end
section
namespace Go.Proofs.Ytkifakepmomgfaa.E
open Go.RowKit Go.Proofs.YtkifakepmomgfaaW.PrintWords Go.Proofs.YtkifakepmomgfaaW.PrintLast Go.Proofs.YtkifakepmomgfaaW.PrintMore
set_option linter.unusedVariables false
set_option linter.unusedSimpArgs false
theorem SG.pos {v : List Int} (h : SG v) : ∀ x ∈ v, 1 ≤ x := fun x hx => (h.ul.2 x hx).1
end Go.Proofs.Ytkifakepmomgfaa.E
end
section
namespace Go.Proofs.Ytkifakepmomgfaa.E
open Go.RowKit Go.Proofs.Ytkifakepmomgfaa.PB Go.Proofs.YtkifakepmomgfaaW.PrintWords Go.Proofs.YtkifakepmomgfaaW.PrintLast Go.Proofs.YtkifakepmomgfaaW.PrintMore
set_option linter.unusedVariables false
set_option linter.unusedSimpArgs false
noncomputable def sub (v : List Int) (d : Int) : Bool := decide (Su v d)
theorem inOf_sub {v : List Int} (h : SG v) : inOf (some (stab v 200)) = sub v := by
  funext d
  unfold inOf sub
  by_cases h1 : 200 ≤ d
  · simp [h1, h.ends d h1]
  · by_cases h2 : 0 ≤ d
    · simp [h1, h2, stab_rd (v := v) (m := 200) h2 (by omega)]
    · have : ¬ Su v d := fun k => by have := k.pos h.pos; omega
      simp [h1, h2, this]
noncomputable def rch (v : List Int) : Option (List Bool) := if SG v then some (stab v 200) else none
theorem rch_sg {v : List Int} (h : SG v) : rch v = some (stab v 200) := by unfold rch; rw [if_pos h]
theorem rch_no {v : List Int} (h : ¬ SG v) : rch v = none := by unfold rch; rw [if_neg h]
theorem reach_ev {v : List Int} (hl : v.length ≤ 1099511627776) : Ev (fun k => impl_reach.f k v) (rch v) := by
  have sl := stab_len (v := v) (m := 200) (by omega)
  unfold impl_reach.f
  refine ev_bind _ (sgI_ev hl) ?_
  by_cases c : SG v
  · rw [rch_sg c]; exact ev_ifp (by simpa using c) (ev_bind _ (c.sutab (by omega) (by omega)) (ev_ifp (by omega) (Ev.now _)))
  · rw [rch_no c]; exact ev_ifn (by simpa using c) (Ev.now _)
theorem l3Has_ev {v : List Int} (h : SG v) (a : Int) : Ev (fun k => spec_l3Has.f k v a) (decide (Su v a) || decide (200 ≤ a)) := by
  unfold spec_l3Has.f
  by_cases h1 : a < 0
  · have : ¬ Su v a := fun k => by have := k.pos h.pos; omega
    exact ev_ifp h1 (ev_to (Ev.now _) (by simp [this]; omega))
  · by_cases h2 : a ≥ 200
    · exact ev_ifn h1 (ev_ifp h2 (ev_to (Ev.now _) (by simp [h2]; omega)))
    · have sl := stab_len (v := v) (m := a) (by omega)
      refine ev_ifn h1 (ev_ifn h2 (ev_bind _ (h.sutabS (by omega) (by omega)) (ev_ifp (by omega) (ev_ifp (by omega) (ev_to (Ev.now _) ?_)))))
      rw [stab_rd (by omega) (Int.le_refl _)]; simp [h2]
theorem l3Has_su {v : List Int} (h : SG v) (a : Int) : Ev (fun k => spec_l3Has.f k v a) (sub v a) := by
  refine ev_to (l3Has_ev h a) ?_
  unfold sub
  by_cases c : 200 ≤ a
  · simp [h.ends a c]
  · simp [c]
theorem l15Has_su {v : List Int} (h : SG v) (a : Int) : Ev (fun k => spec_l15Has.f k v a) (sub v a) := by
  unfold spec_l15Has.f
  by_cases c : a = 0
  · subst c
    exact ev_ifp rfl (ev_to (Ev.now _) (by unfold sub; simp [Su.zero v]))
  · exact ev_ifn c (ev_bind _ (l3Has_su h a) (Ev.now _))
end Go.Proofs.Ytkifakepmomgfaa.E
end
section
namespace Go.Proofs.Ytkifakepmomgfaa.E
open Go.RowKit Go.Proofs.Ytkifakepmomgfaa.PB Go.Proofs.YtkifakepmomgfaaW.PrintWords Go.Proofs.YtkifakepmomgfaaW.PrintLast Go.Proofs.YtkifakepmomgfaaW.PrintMore
set_option linter.unusedVariables false
set_option linter.unusedSimpArgs false
noncomputable def prs (v : List Int) (n : Int) : Int := cnt (sub v) n 0 (n + 1).toNat
end Go.Proofs.Ytkifakepmomgfaa.E
end
section
namespace Go.Proofs.Ytkifakepmomgfaa.E
open Go.RowKit Go.Proofs.Ytkifakepmomgfaa.PB Go.Proofs.YtkifakepmomgfaaW.PrintWords Go.Proofs.YtkifakepmomgfaaW.PrintLast Go.Proofs.YtkifakepmomgfaaW.PrintMore
set_option linter.unusedVariables false
set_option linter.unusedSimpArgs false
theorem sortS_asc_l {v : List Int} (hl : v.length ≤ 1048576) (ha : Asc v) (d : Nat) : ∀ i : Int, 0 ≤ i → i + d = v.length → Ev (fun k => spec_SortList.l0 k v (v.take i.toNat) i) v := by
  induction d with
  | zero =>
    intro i h0 h1
    refine Ev.step (fun k => by rw [spec_SortList.l0]) ?_
    rw [List.take_of_length_le (by omega)]
    exact ev_ifn (by omega) (Ev.now _)
  | succ d ih =>
    intro i h0 h1
    have tl := take_len (v := v) (i := i) (by omega) (by omega)
    have nx := ih (i + 1) (by omega) (by omega)
    rw [take_rd h0 (by omega)] at nx
    refine Ev.step (fun k => by rw [spec_SortList.l0]) (ev_ifp (by omega) ?_)
    rw [tl]
    refine Ev.step (fun k => by rw [spec_SortList.l1]) ?_
    simp only [Option.bind_some]
    rw [w64 (x := i - 1) (by omega) (by omega), w64 (x := i + 1) (by omega) (by omega), List.drop_of_length_le (l := v.take i.toNat) (by omega), List.take_of_length_le (l := v.take i.toNat) (by omega)]
    have e0 : ([] : List Int).length + ([] : List Int).length < 17592186044416 := by simp
    have e1 : (v.take i.toNat).length < 17592186044416 := by omega
    have e2 : (v.take i.toNat ++ [rd v i]).length + ([] ++ [] : List Int).length < 17592186044416 := by simp; omega
    by_cases c : i > 0
    · have lt : rd (v.take i.toNat) (i - 1) < rd v i := by
        have e : rd (v.take i.toNat) (i - 1) = rd v (i - 1) := by
          rw [rd_lt (by omega) (by omega), rd_lt (by omega) (by omega), List.getElem_take]
        rw [e]; exact ha i c (by omega)
      refine ev_ifp c (ev_ifp (by omega) (ev_ifp (by omega) (ev_ifp h0 (ev_ifp (by omega) (ev_ifn (by omega) (ev_ifn (by omega) (ev_ifp h0 (ev_ifp (by omega) (ev_ifp e0 (ev_ifp e1 (ev_ifp e2 ?_)))))))))))
      simpa using nx
    · refine ev_ifn c (ev_ifp h0 (ev_ifp (by omega) (ev_ifp e0 (ev_ifp h0 (ev_ifp (by omega) (ev_ifp e1 (ev_ifp e2 ?_)))))))
      simpa using nx
theorem sortS_asc {v : List Int} (hl : v.length ≤ 1048576) (ha : Asc v) : Ev (fun k => spec_SortList.f k v) v := by
  unfold spec_SortList.f
  exact sortS_asc_l hl ha v.length 0 (by omega) (by omega)
theorem min_l {v : List Int} (hu : UL v) (d : Nat) : ∀ (i : Int) (out : List Int), 0 ≤ i → i + d = v.length → ((out = v.take i.toNat ∧ ∀ j : Int, 1 ≤ j → j < i → ¬ Su (v.take j.toNat) (rd v j)) ∨ ((out.length : Int) < i ∧ ¬ ∀ j : Int, 1 ≤ j → j < i → ¬ Su (v.take j.toNat) (rd v j))) →
    ∃ r, r.length ≤ 20 ∧ Ev (fun k => spec_l3Minimal.l0 k out v i) r ∧ (r = v ↔ ∀ j : Int, 1 ≤ j → j < v.length → ¬ Su (v.take j.toNat) (rd v j)) := by
  have hlen := hu.1
  induction d with
  | zero =>
    intro i out h0 h1 h2
    obtain rfl : i = v.length := by omega
    have hE : Ev (fun k => spec_l3Minimal.l0 k out v v.length) out := Ev.step (fun k => by rw [spec_l3Minimal.l0]) (ev_ifn (by omega) (Ev.now _))
    rcases h2 with ⟨e, h⟩ | ⟨e, h⟩
    · rw [List.take_of_length_le (by omega)] at e
      exact ⟨out, by rw [e]; omega, hE, fun _ => h, fun _ => e⟩
    · exact ⟨out, by omega, hE, fun e' => by rw [e'] at e; omega, fun h' => absurd h' h⟩
  | succ d ih =>
    intro i out h0 h1 h2
    have hx := hu.2 _ (rd_mem (l := v) h0 (by omega))
    have tl := take_len (v := v) (i := i) (by omega) (by omega)
    have ol : (out.length : Int) ≤ i := by
      rcases h2 with ⟨e, _⟩ | ⟨e, _⟩
      · rw [e, tl]; exact Int.le_refl _
      · omega
    by_cases c0 : i = 0
    · obtain ⟨r, r1, r2, r3⟩ := ih (i + 1) (out ++ [rd v i]) (by omega) (by omega) (by
        rcases h2 with ⟨e, _⟩ | ⟨e, _⟩
        · exact .inl ⟨by rw [take_rd h0 (by omega), e], fun j hj hj' => by omega⟩
        · omega)
      refine ⟨r, r1, Ev.step (fun k => by rw [spec_l3Minimal.l0]) ?_, r3⟩
      rw [w64 (x := i + 1) (by omega) (by omega)]
      exact ev_ifp (by omega) (ev_ifp c0 (ev_ifp h0 (ev_ifp (by omega) r2)))
    · obtain ⟨t, t1, t2, hE⟩ := tabS_ev (v := v.take i.toNat) (by omega) (take_ul hu.2 _) (most := rd v i) (by omega) (by omega)
      have ht := t2 (rd v i) (by omega) (Int.le_refl _)
      by_cases c : Su (v.take i.toNat) (rd v i)
      · obtain ⟨r, r1, r2, r3⟩ := ih (i + 1) out (by omega) (by omega) (.inr ⟨by omega, fun h => h i (by omega) (by omega) c⟩)
        refine ⟨r, r1, Ev.step (fun k => by rw [spec_l3Minimal.l0]) ?_, r3⟩
        rw [w64 (x := i + 1) (by omega) (by omega)]
        exact ev_ifp (by omega) (ev_ifn c0 (ev_ifp h0 (ev_ifp (by omega) (ev_bind _ hE (ev_ifp (by omega) (ev_ifp (by omega) (ev_ifp (ht.2 c) r2)))))))
      · obtain ⟨r, r1, r2, r3⟩ := ih (i + 1) (out ++ [rd v i]) (by omega) (by omega) (by
          rcases h2 with ⟨e, h⟩ | ⟨e, h⟩
          · refine .inl ⟨by rw [take_rd h0 (by omega), e], fun j hj hj' => ?_⟩
            by_cases ej : j = i
            · rw [ej]; exact c
            · exact h j hj (by omega)
          · refine .inr ⟨by simp; omega, fun h' => h fun j hj hj' => h' j hj (by omega)⟩)
        refine ⟨r, r1, Ev.step (fun k => by rw [spec_l3Minimal.l0]) ?_, r3⟩
        rw [w64 (x := i + 1) (by omega) (by omega)]
        exact ev_ifp (by omega) (ev_ifn c0 (ev_ifp h0 (ev_ifp (by omega) (ev_bind _ hE (ev_ifp (by omega) (ev_ifp (by omega) (ev_ifn (fun h => c (ht.1 h)) (ev_ifp (by omega) r2))))))))
theorem same2_l {l m : List Int} (hl : l.length ≤ 1099511627776) (e : l.length = m.length) (d : Nat) : ∀ (i : Int), 0 ≤ i → i + d = l.length → Ev (fun k => spec_l2Same.l0 k l m i) (decide (l.drop i.toNat = m.drop i.toNat)) := by
  induction d with
  | zero =>
    intro i h0 h1
    refine Ev.step (fun k => by rw [spec_l2Same.l0]) ?_
    refine ev_ifn (by omega) (ev_to (Ev.now _) ?_)
    rw [List.drop_of_length_le (by omega), List.drop_of_length_le (by omega)]; simp
  | succ d ih =>
    intro i h0 h1
    refine Ev.step (fun k => by rw [spec_l2Same.l0]) ?_
    rw [w64 (x := i + 1) (by omega) (by omega), drop_rd h0 (by omega), drop_rd (l := m) h0 (by omega)]
    refine ev_ifp (by omega) (ev_ifp h0 (ev_ifp (by omega) ?_))
    by_cases h : rd l i = rd m i
    · refine ev_ifp h (ev_to (ih (i + 1) (by omega) (by omega)) ?_)
      simp [h]
    · refine ev_ifn h (ev_to (Ev.now _) ?_)
      simp [h]
theorem same2_ev {l m : List Int} (hl : l.length ≤ 1099511627776) : Ev (fun k => spec_l2Same.f k l m) (decide (l = m)) := by
  unfold spec_l2Same.f
  by_cases e : l.length = m.length
  · refine ev_ifp (by omega) (ev_to (same2_l hl e l.length 0 (by omega) (by omega)) ?_)
    simp
  · refine ev_ifn (by omega) (ev_to (Ev.now _) ?_)
    simp; intro h; exact e (by rw [h])
theorem endsS_l {v : List Int} (hu : UL v) {t : List Bool} (t1 : (t.length : Int) = 261) (t2 : ∀ j, 0 ≤ j → j ≤ 260 → (rdOf false t j = true ↔ Su v j)) (d : Nat) : ∀ i : Int, 200 ≤ i → i + d = 200 + rd v 0 → ∃ r : Bool, Ev (fun k => spec_l3Ends.l0 k v t i) r ∧ (r = true ↔ ∀ n, i ≤ n → n < 200 + rd v 0 → Su v n) := by
  have f := hu.first
  have hlen := hu.1
  induction d with
  | zero =>
    intro i h0 h1
    refine ⟨true, Ev.step (fun k => by rw [spec_l3Ends.l0]) ?_, fun _ n hn hn' => by omega, fun _ => rfl⟩
    rw [w64 (x := 200 + rd v 0) (by omega) (by omega)]
    exact ev_ifp (by omega) (ev_ifn (by omega) (Ev.now _))
  | succ d ih =>
    intro i h0 h1
    have ht := t2 i (by omega) (by omega)
    by_cases c : Su v i
    · obtain ⟨r, hE, hr⟩ := ih (i + 1) (by omega) (by omega)
      refine ⟨r, Ev.step (fun k => by rw [spec_l3Ends.l0]) ?_, ?_⟩
      · rw [w64 (x := 200 + rd v 0) (by omega) (by omega), w64 (x := i + 1) (by omega) (by omega)]
        exact ev_ifp (by omega) (ev_ifp (by omega) (ev_ifp (by omega) (ev_ifp (by omega) (ev_ifp (ht.2 c) hE))))
      · rw [hr]
        constructor
        · intro h n hn hn'
          by_cases e : n = i
          · rw [e]; exact c
          · exact h n (by omega) hn'
        · intro h n hn hn'; exact h n (by omega) hn'
    · refine ⟨false, Ev.step (fun k => by rw [spec_l3Ends.l0]) ?_, fun h => (by cases h), fun h => absurd (h i (Int.le_refl _) (by omega)) c⟩
      rw [w64 (x := 200 + rd v 0) (by omega) (by omega)]
      exact ev_ifp (by omega) (ev_ifp (by omega) (ev_ifp (by omega) (ev_ifp (by omega) (ev_ifn (fun h => c (ht.1 h)) (Ev.now _)))))
theorem sgS_ev {v : List Int} (hl : v.length ≤ 1099511627776) : Ev (fun k => spec_IsSemigroup.f k v) (decide (SG v)) := by
  unfold spec_IsSemigroup.f
  by_cases hu : UL v
  · refine ev_bind _ (gensS_ev hl) (ev_ifp (by simpa using hu) ?_)
    by_cases c1 : (v.length : Int) ≤ 12
    · refine ev_ifp c1 ?_
      by_cases c3 : Asc v
      · refine ev_bind _ (ascS_ev hl) (ev_ifp (by simpa using c3) (ev_bind _ (gcdListS_ev hl) ?_))
        by_cases c4 : gl v = 1
        · have hlen := hu.1
          obtain ⟨f1, f2, f3⟩ := hu.first
          obtain ⟨r, r1, r2, r3⟩ := min_l hu v.length 0 [] (by omega) (by omega) (.inl ⟨by simp, fun j hj hj' => by omega⟩)
          refine ev_ifp c4 (ev_bind r ?_ (ev_bind _ (same2_ev (l := r) (m := v) (by omega)) ?_))
          · unfold spec_l3Minimal.f
            exact ev_bind _ (sortS_asc (by omega) c3) r2
          · by_cases c5 : r = v
            · obtain ⟨t, t1, t2, hE⟩ := tabS_ev (v := v) (by omega) hu.2 (most := 260) (by omega) (by omega)
              obtain ⟨b, b1, b2⟩ := endsS_l hu (by omega) t2 (rd v 0).toNat 200 (by omega) (by omega)
              refine ev_ifp (by simpa using c5) (ev_bind b ?_ (ev_to (Ev.now _) ?_))
              · unfold spec_l3Ends.f
                exact ev_bind _ hE b1
              · rw [Bool.eq_iff_iff, b2, ← ends_iff f2 (Su.mem f1), decide_eq_true_eq]
                exact ⟨fun h => ⟨hu, c1, c3, c4, r3.1 c5, h⟩, fun h => h.ends⟩
            · exact ev_ifn (by simpa using c5) (ev_to (Ev.now _) (decide_eq_false (fun h => c5 (r3.2 h.min))).symm)
        · exact ev_ifn c4 (ev_to (Ev.now _) (decide_eq_false (fun h => c4 h.gcd)).symm)
      · exact ev_bind _ (ascS_ev hl) (ev_ifn (by simpa using c3) (ev_to (Ev.now _) (decide_eq_false (fun h => c3 h.asc)).symm))
    · exact ev_ifn c1 (ev_to (Ev.now _) (decide_eq_false (fun h => c1 h.len)).symm)
  · exact ev_bind _ (gensS_ev hl) (ev_ifn (by simpa using hu) (ev_to (Ev.now _) (decide_eq_false (fun h => hu h.ul)).symm))
end Go.Proofs.Ytkifakepmomgfaa.E
end
section
namespace Go.Proofs.Ytkifakepmomgfaa.E
open Go.RowKit Go.Proofs.Ytkifakepmomgfaa.PB Go.Proofs.YtkifakepmomgfaaW.PrintWords Go.Proofs.YtkifakepmomgfaaW.PrintLast Go.Proofs.YtkifakepmomgfaaW.PrintMore
set_option linter.unusedVariables false
set_option linter.unusedSimpArgs false
noncomputable def pof (v : List Int) (n : Int) : Int := if SG v ∧ 0 ≤ n ∧ n ≤ 1000 then prs v n else 0
theorem pairsI_ev {v : List Int} (n : Int) (hl : v.length ≤ 1099511627776) : Ev (fun k => impl_PairsOf.f k v n) (pof v n) := by
  unfold impl_PairsOf.f pof
  simp only [within_eq, Option.bind_some]
  refine ev_bind _ (sgI_ev hl) ?_
  by_cases c : SG v
  · refine ev_ifp (by simpa using c) ?_
    by_cases h : 0 ≤ n ∧ n ≤ 1000
    · have r := reach_ev hl
      rw [rch_sg c] at r
      refine ev_ifp (by simpa using h) (ev_bind _ r (ev_ifp (by omega) (ev_to (Ev.now _) ?_)))
      rw [if_pos ⟨c, h⟩, inOf_sub c]; rfl
    · rw [if_neg (fun k => h k.2)]; exact ev_ifn (by simpa using h) (Ev.now _)
  · rw [if_neg (fun k => c k.1)]; exact ev_ifn (by simpa using c) (Ev.now _)
theorem pairsS_l {v : List Int} (h : SG v) {n : Int} (hn : n ≤ 1000) (d : Nat) : ∀ i m : Int, 0 ≤ i → i + d = n + 1 → 0 ≤ m → m ≤ i → Ev (fun k => spec_PairsOf.l0 k n m i v) (m + cnt (sub v) n i d) := by
  induction d with
  | zero =>
    intro i m h0 h1 h2 h3
    refine Ev.step (fun k => by rw [spec_PairsOf.l0]) (ev_ifn (by omega) (ev_to (Ev.now _) ?_))
    simp [cnt]
  | succ d ih =>
    intro i m h0 h1 h2 h3
    refine Ev.step (fun k => by rw [spec_PairsOf.l0]) ?_
    simp only [l1Bit_eq, Option.bind_some]
    rw [w64 (x := i + 1) (by omega) (by omega), w64 (x := n - i) (by omega) (by omega), cnt]
    refine ev_ifp (by omega) (ev_bind _ (l15Has_su h i) ?_)
    by_cases c : sub v i = true
    · refine ev_ifp c (ev_bind _ (l15Has_su h (n - i)) ?_)
      by_cases e : sub v (n - i) = true
      · rw [if_pos e, if_pos ⟨c, e⟩, w64 (x := m + 1) (by omega) (by omega)]
        exact ev_to (ih (i + 1) (m + 1) (by omega) (by omega) (by omega) (by omega)) (by omega)
      · rw [if_neg e, if_neg (fun k => e k.2), w64 (x := m + 0) (by omega) (by omega)]
        exact ev_to (ih (i + 1) (m + 0) (by omega) (by omega) (by omega) (by omega)) (by omega)
    · rw [if_neg (show ¬ false = true by simp), if_neg (fun k => c k.1), w64 (x := m + 0) (by omega) (by omega)]
      exact ev_ifn c (ev_to (ih (i + 1) (m + 0) (by omega) (by omega) (by omega) (by omega)) (by omega))
theorem pairsS_ev {v : List Int} (n : Int) (hl : v.length ≤ 1099511627776) : Ev (fun k => spec_PairsOf.f k v n) (pof v n) := by
  unfold spec_PairsOf.f pof
  simp only [l1In_eq, Option.bind_some]
  refine ev_bind _ (sgS_ev hl) ?_
  by_cases c : SG v
  · refine ev_ifp (by simpa using c) (Ev.step (fun k => by rw [spec_PairsOf.j0]) ?_)
    by_cases h : 0 ≤ n ∧ n ≤ 1000
    · rw [if_pos ⟨c, h⟩]
      refine ev_ifn (nd_f h) (ev_to (pairsS_l c h.2 (n + 1).toNat 0 0 (by omega) (by omega) (by omega) (by omega)) ?_)
      unfold prs; omega
    · rw [if_neg (fun k => h k.2)]; exact ev_ifp (nd_t h) (Ev.now _)
  · rw [if_neg (fun k => c k.1)]; exact ev_ifn (by simpa using c) (Ev.step (fun k => by rw [spec_PairsOf.j0]) (ev_ifp rfl (Ev.now _)))
end Go.Proofs.Ytkifakepmomgfaa.E
end
section
namespace Go.Proofs.Ytkifakepmomgfaa.E
open Go.RowKit Go.Proofs.Ytkifakepmomgfaa.PB Go.Proofs.YtkifakepmomgfaaW.PrintWords Go.Proofs.YtkifakepmomgfaaW.PrintLast Go.Proofs.YtkifakepmomgfaaW.PrintMore
set_option linter.unusedVariables false
set_option linter.unusedSimpArgs false
theorem toIntS_l {l : List Int} (hl : l.length ≤ 1048576) (d : Nat) : ∀ (i : Int) (out : List Int), 0 ≤ i → i + d = l.length → out.length = l.length → out.take i.toNat = l.take i.toNat → Ev (fun k => laws_toIntS.l0 k l out i) l := by
  induction d with
  | zero =>
    intro i out h0 h1 h2 h3
    refine Ev.step (fun k => by rw [laws_toIntS.l0]) ?_
    simp (disch := omega) only [if_neg]
    rw [List.take_of_length_le (by omega), List.take_of_length_le (by omega)] at h3
    subst h3
    exact Ev.now _
  | succ d ih =>
    intro i out h0 h1 h2 h3
    refine Ev.step (fun k => by rw [laws_toIntS.l0]) ?_
    simp (disch := omega) only [if_pos, w64]
    refine ih _ _ (by omega) (by omega) (by simpa using h2) ?_
    rw [take_rd h0 (by simp; omega), take_rd h0 (by omega), rd_set _ h0 (by omega) h0, if_pos rfl, ← h3]
    congr 1
    rw [List.take_set_of_le (Nat.le_refl _)]
theorem toIntS_ev {l : List Int} (hl : l.length ≤ 1048576) : Ev (fun k => laws_toIntS.f k l) l := by
  unfold laws_toIntS.f
  simp (disch := omega) only [if_pos]
  exact toIntS_l hl l.length _ _ (by omega) (by omega) (by simp) (by simp)
theorem eqIntS_l {l m : List Int} (hl : l.length ≤ 1099511627776) (e : l.length = m.length) (d : Nat) : ∀ (i : Int), 0 ≤ i → i + d = l.length → Ev (fun k => laws_eqIntS.l0 k l m i) (decide (l.drop i.toNat = m.drop i.toNat)) := by
  induction d with
  | zero =>
    intro i h0 h1
    refine Ev.step (fun k => by rw [laws_eqIntS.l0]) ?_
    simp (disch := omega) only [if_neg]
    refine ev_to (Ev.now _) ?_
    rw [List.drop_of_length_le (by omega), List.drop_of_length_le (by omega)]; simp
  | succ d ih =>
    intro i h0 h1
    refine Ev.step (fun k => by rw [laws_eqIntS.l0]) ?_
    simp (disch := omega) only [if_pos, w64]
    rw [drop_rd h0 (by omega), drop_rd (l := m) h0 (by omega)]
    by_cases h : rd l i = rd m i
    · refine ev_ifp h (ev_to (ih (i + 1) (by omega) (by omega)) ?_)
      simp [h]
    · refine ev_ifn h (ev_to (Ev.now _) ?_)
      simp [h]
theorem eqIntS_ev {l m : List Int} (hl : l.length ≤ 1099511627776) : Ev (fun k => laws_eqIntS.f k l m) (decide (l = m)) := by
  unfold laws_eqIntS.f
  by_cases e : l.length = m.length
  · refine ev_ifp (by omega) (ev_to (eqIntS_l hl e l.length 0 (by omega) (by omega)) ?_)
    simp
  · refine ev_ifn (by omega) (ev_to (Ev.now _) ?_)
    simp; intro h; exact e (by rw [h])
end Go.Proofs.Ytkifakepmomgfaa.E
end
section
namespace Go.Proofs.Ytkifakepmomgfaa.E
open Go.RowKit Go.Proofs.Ytkifakepmomgfaa.PB Go.Proofs.YtkifakepmomgfaaW.PrintWords Go.Proofs.YtkifakepmomgfaaW.PrintLast Go.Proofs.YtkifakepmomgfaaW.PrintMore
set_option linter.unusedVariables false
set_option linter.unusedSimpArgs false
theorem szSg_small {l : List Int} {a : Int} (h : (l.length : Int) ≤ a) (ha : a ≤ 1048576) : laws_szSemigroup.f l a = some (a - l.length) := by
  unfold laws_szSemigroup.f laws_szIntS.f
  rw [w64 (x := a - l.length) (by omega) (by omega), if_neg (by omega)]
  simp only [Option.bind_some]
  rw [if_neg (by omega)]
theorem szSg_big {l : List Int} {a : Int} (h : ¬ (l.length : Int) ≤ a) (h0 : 0 ≤ a) (ha : a ≤ 1048576) (hl : l.length ≤ 1152921504606846976) : laws_szSemigroup.f l a = some (-1) := by
  unfold laws_szSemigroup.f laws_szIntS.f
  rw [w64 (x := a - l.length) (by omega) (by omega), if_pos (by omega)]
  rfl
theorem toSg_ev {l : List Int} (hl : l.length ≤ 1048576) : Ev (fun k => laws_toSemigroup.f k l) l := by
  unfold laws_toSemigroup.f
  exact ev_bind _ (toIntS_ev hl) (Ev.now _)
theorem eqSg_ev {l m : List Int} (hl : l.length ≤ 1099511627776) : Ev (fun k => laws_eqSemigroup.f k l m) (decide (l = m)) := by
  unfold laws_eqSemigroup.f
  refine ev_bind _ (eqIntS_ev hl) ?_
  by_cases e : l = m
  · exact ev_ifp (by simpa using e) (ev_to (Ev.now _) (by simp [e]))
  · exact ev_ifn (by simpa using e) (ev_to (Ev.now _) (by simp [e]))
theorem eqSg_same {l : List Int} (hl : l.length ≤ 1099511627776) : Ev (fun k => laws_eqSemigroup.f k l l) true := ev_to (eqSg_ev hl) (by simp)
end Go.Proofs.Ytkifakepmomgfaa.E
end
section
namespace Go.Proofs.Ytkifakepmomgfaa.Pure
open Go.RowKit Go.Proofs.Ytkifakepmomgfaa.PB Go.Proofs.Ytkifakepmomgfaa.E Go.Proofs.YtkifakepmomgfaaW.PrintWords Go.Proofs.YtkifakepmomgfaaW.PrintLast Go.Proofs.YtkifakepmomgfaaW.PrintMore
set_option linter.unusedVariables false
set_option linter.unusedSimpArgs false
theorem FnExactPairsOf (l0 : List Int) (a1 : Int) (h0 : l0.length ≤ maxLen) (h1 : l0.length * 8 ≤ 140737488351232) (h2 : ∀ x ∈ l0, (Lit.int .i64 x).wf = true) (h3 : (Lit.int .i64 a1).wf = true) : ∃ k, laws_FnExactPairsOf.f k l0 a1 = some true := by
  apply Ev.rounds
  unfold laws_FnExactPairsOf.f
  by_cases h : (l0.length : Int) ≤ 1048576
  · have hl : l0.length ≤ 1048576 := by omega
    have hi := pairsI_ev (v := l0) a1 (by omega); have hs := pairsS_ev (v := l0) a1 (by omega)
    rw [szSg_small h (by omega)]
    simp only [Option.bind_some]
    exact ev_ifn (by omega) (ev_bind _ (toSg_ev hl) (ev_bind _ hs (ev_bind _ (toSg_ev hl) (ev_bind _ hi (ev_ifp rfl (ev_bind _ (toSg_ev hl) (ev_bind _ (eqSg_same (by omega)) (ev_ifp rfl (Ev.now _)))))))))
  · rw [szSg_big h (by omega) (by omega) (by omega)]
    simp only [Option.bind_some]
    exact ev_ifp (by omega) (Ev.now _)
end Go.Proofs.Ytkifakepmomgfaa.Pure
end
section
namespace Go.Proofs.Ytkifakepmomgfaa.E
open Go.ChangeShapes Go.WideShapes Go.ChangeAt Go.RowKit Go.Deep Go.Joins
theorem array1_ {α : Type} {cs : Array α} (h : cs.size = 1) : ∃ c0, cs = #[c0] := by
  obtain ⟨l⟩ := cs
  match l, h with
  | [c0], _ => exact ⟨c0, rfl⟩
theorem open_agg1_ {H : Type} {enc : TypeId × Value → H} {P : Program} {w : World} {base : Nat} {spare : Nat → Bool} {held : Bool} {r : Reach} {b0 : Nat} {t : TypeId} {f0 : Field} {v : Value} {d : DataW H} {p : List MemPlace} (hs : P.underlying t = some (.struct #[f0])) (hone : oneCellFields P #[f0] = true) (hC : P.cellsOf t = 1)
    (hv : Value.okWide P w r b0 t v) (h : DataW.Trod enc P w base spare held t v d p) :
    ∃ (v0 : Value) (y0 : DataW H × List MemPlace) (n : Nat), v = .agg #[v0] ∧ d = .agg [y0.1] ∧ p = y0.2 ∧ DataW.trod enc P w base spare held n f0.type [v0] = some y0 := by
  obtain ⟨cs, rfl, hsz⟩ := okWide_struct hs hv
  obtain ⟨c0, rfl⟩ := array1_ (hsz.trans hC)
  obtain ⟨fuel, hf⟩ := h
  obtain ⟨y0, n, hx, _, h0⟩ := trod_struct1 hs hf
  obtain ⟨o0, k0⟩ := hone_of hone 0 f0 rfl
  simp only [Prod.mk.injEq] at hx
  exact ⟨c0, y0, n, rfl, hx.1, hx.2, by simpa [Value.cells, o0, k0] using h0⟩
theorem sized_agg_ {H : Type} {P : Program} {ts : List TypeId} {ds : List (DataW H)} (h : (DataW.weightsEach P ts ds).all (· ≤ reachBytes) = true) {j : Nat} {t : TypeId} {fs : Array Field} {parts : List (DataW H)} (ht : ts[j]? = some t) (hd : ds[j]? = some (.agg parts)) (hu : P.underlying t = some (.struct fs)) :
    (DataW.weightsEach P (fs.toList.map (·.type)) parts).all (· ≤ reachBytes) = true := by
  refine List.all_eq_true.2 fun n hn => List.all_eq_true.1 h n (DataW.weights_mem_each ht hd n ?_)
  simpa [DataW.weights, hu] using hn
end Go.Proofs.Ytkifakepmomgfaa.E
end
section
namespace Go.Proofs.YtkifakepmomgfaaW.PrintWords
open Go.ChangeShapes Go.WideShapes
theorem sized_ints {H : Type} {enc : TypeId × Value → H} {P : Program} {W : World} {base : Nat} {spare : Nat → Bool} {held : Bool} {t e : TypeId} {k : IntKind} {a : Option Addr} {len cap : Nat} {d : DataW H} {ps : List MemPlace} {ts : List TypeId} {ds : List (DataW H)} {j : Nat}
    (hsz : (DataW.weightsEach P ts ds).all (· ≤ reachBytes) = true) (ht : ts[j]? = some t) (hd : ds[j]? = some d) (hu : P.underlying t = some (.slice e)) (he : P.underlying e = some (.int k)) (hc : P.cellsOf e = 1) {B : Nat} (hB : P.bytesOf e = B)
    (h : DataW.Trod enc P W base spare held t (.slice a len cap) d ps) : len * B ≤ 140737488351232 := by
  obtain ⟨fuel, hf⟩ := h
  rcases open_ints hu he hc hf with ⟨hcs, _⟩ | ⟨x, l, c, zs, hcs, _, hl, _, hz, hx, _, _⟩
  · simp [Value.cells] at hcs
    obtain ⟨rfl, rfl, rfl⟩ := hcs
    simp
  · simp [Value.cells] at hcs
    obtain ⟨rfl, rfl, rfl⟩ := hcs
    obtain ⟨hx, _⟩ := Prod.mk.inj hx
    subst hx
    have z := sized_slice hsz ht hd hu
    rw [hB] at z
    have hl2 : len ≤ zs.length := by
      rw [hz]
      split
      · exact hl
      · exact Nat.le_refl _
    have h1 : (lits (H := H) k (zs.take len)).length + (lits (H := H) k (zs.drop len)).length = zs.length := by
      simp [lits]
      omega
    rw [h1] at z
    exact Nat.le_trans (Nat.mul_le_mul_right _ hl2) z
end Go.Proofs.YtkifakepmomgfaaW.PrintWords
end
