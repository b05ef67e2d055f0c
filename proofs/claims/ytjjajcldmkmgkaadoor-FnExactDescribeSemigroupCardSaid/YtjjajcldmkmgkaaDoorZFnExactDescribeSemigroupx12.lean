-- Bundled by shake.py from this session's printed and written texts; Lean checks it.
import Derived.Below
import Derived.ChangeOld
import Derived.ChangeSlices
import Derived.Deep.Fields
import Derived.Lib.Join
import Derived.Lib.SmallJoins
import Derived.OpenShut
import Derived.ProofKit
import Derived.SizedLaws
import Derived.Test.YtjjajcldmkmgkaaDoorZFnExactDescribeSemigroupx1
import Derived.Test.YtjjajcldmkmgkaaDoorZFnExactDescribeSemigroupx10
import Derived.Test.YtjjajcldmkmgkaaDoorZFnExactDescribeSemigroupx11
import Derived.Test.YtjjajcldmkmgkaaDoorZFnExactDescribeSemigroupx2
import Derived.Test.YtjjajcldmkmgkaaDoorZFnExactDescribeSemigroupx3
import Derived.Test.YtjjajcldmkmgkaaDoorZFnExactDescribeSemigroupx4
import Derived.Test.YtjjajcldmkmgkaaDoorZFnExactDescribeSemigroupx5
import Derived.Test.YtjjajcldmkmgkaaDoorZFnExactDescribeSemigroupx6
import Derived.Test.YtjjajcldmkmgkaaDoorZFnExactDescribeSemigroupx7
import Derived.Test.YtjjajcldmkmgkaaDoorZFnExactDescribeSemigroupx8
import Derived.Test.YtjjajcldmkmgkaaDoorZFnExactDescribeSemigroupx9
import Derived.WalkKit
section
namespace Go.Proofs.YtjjajcldmkmgkaaDoor.E
open Go.RowKit Go.Proofs.YtjjajcldmkmgkaaDoor.PA Go.Proofs.YtjjajcldmkmgkaaDoorW.PrintWords Go.Proofs.YtjjajcldmkmgkaaDoorW.PrintLast Go.Proofs.YtjjajcldmkmgkaaDoorW.PrintMore
set_option linter.unusedVariables false
set_option linter.unusedSimpArgs false
theorem sortS_asc_l {v : List Int} (hl : v.length ≤ 1048576) (ha : Asc v) (d : Nat) : ∀ i : Int, 0 ≤ i → i + d = v.length → Ev (fun k => spec_SortList.l0 k v (v.take i.toNat) i) v := by
 induction d with
 | zero =>
  intro i h0 h1
  refine Ev.step (fun k => by rw [spec_SortList.l0]) ?_
  rw [List.take_of_length_le (by omega)]
  exact ev_ifn (by omega) (Ev.now _)
 | succ d ih =>
  intro i h0 h1
  have tl := take_len (v := v) (i := i) (by omega) (by omega)
  have nx := ih (i + 1) (by omega) (by omega)
  rw [take_rd h0 (by omega)] at nx
  refine Ev.step (fun k => by rw [spec_SortList.l0]) (ev_ifp (by omega) ?_)
  rw [tl]
  refine Ev.step (fun k => by rw [spec_SortList.l1]) ?_
  simp only [Option.bind_some]
  rw [w64 (x := i - 1) (by omega) (by omega), w64 (x := i + 1) (by omega) (by omega), List.drop_of_length_le (l := v.take i.toNat) (by omega), List.take_of_length_le (l := v.take i.toNat) (by omega)]
  have e0 : ([] : List Int).length + ([] : List Int).length < 17592186044416 := by simp
  have e1 : (v.take i.toNat).length < 17592186044416 := by omega
  have e2 : (v.take i.toNat ++ [rd v i]).length + ([] ++ [] : List Int).length < 17592186044416 := by simp; omega
  by_cases c : i > 0
  · have lt : rd (v.take i.toNat) (i - 1) < rd v i := by
     have e : rd (v.take i.toNat) (i - 1) = rd v (i - 1) := by
      rw [rd_lt (by omega) (by omega), rd_lt (by omega) (by omega), List.getElem_take]
     rw [e]; exact ha i c (by omega)
    refine ev_ifp c (ev_ifp (by omega) (ev_ifp (by omega) (ev_ifp h0 (ev_ifp (by omega) (ev_ifn (by omega) (ev_ifn (by omega) (ev_ifp h0 (ev_ifp (by omega) (ev_ifp e0 (ev_ifp e1 (ev_ifp e2 ?_)))))))))))
    simpa using nx
  · refine ev_ifn c (ev_ifp h0 (ev_ifp (by omega) (ev_ifp e0 (ev_ifp h0 (ev_ifp (by omega) (ev_ifp e1 (ev_ifp e2 ?_)))))))
    simpa using nx
theorem sortS_asc {v : List Int} (hl : v.length ≤ 1048576) (ha : Asc v) : Ev (fun k => spec_SortList.f k v) v := by
 unfold spec_SortList.f
 exact sortS_asc_l hl ha v.length 0 (by omega) (by omega)
theorem min_l {v : List Int} (hu : UL v) (d : Nat) : ∀ (i : Int) (out : List Int), 0 ≤ i → i + d = v.length → ((out = v.take i.toNat ∧ ∀ j : Int, 1 ≤ j → j < i → ¬ Su (v.take j.toNat) (rd v j)) ∨ ((out.length : Int) < i ∧ ¬ ∀ j : Int, 1 ≤ j → j < i → ¬ Su (v.take j.toNat) (rd v j))) →
 ∃ r, r.length ≤ 20 ∧ Ev (fun k => spec_l3Minimal.l0 k out v i) r ∧ (r = v ↔ ∀ j : Int, 1 ≤ j → j < v.length → ¬ Su (v.take j.toNat) (rd v j)) := by
 have hlen := hu.1
 induction d with
 | zero =>
  intro i out h0 h1 h2
  obtain rfl : i = v.length := by omega
  have hE : Ev (fun k => spec_l3Minimal.l0 k out v v.length) out := Ev.step (fun k => by rw [spec_l3Minimal.l0]) (ev_ifn (by omega) (Ev.now _))
  rcases h2 with ⟨e, h⟩ | ⟨e, h⟩
  · rw [List.take_of_length_le (by omega)] at e
    exact ⟨out, by rw [e]; omega, hE, fun _ => h, fun _ => e⟩
  · exact ⟨out, by omega, hE, fun e' => by rw [e'] at e; omega, fun h' => absurd h' h⟩
 | succ d ih =>
  intro i out h0 h1 h2
  have hx := hu.2 _ (rd_mem (l := v) h0 (by omega))
  have tl := take_len (v := v) (i := i) (by omega) (by omega)
  have ol : (out.length : Int) ≤ i := by
   rcases h2 with ⟨e, _⟩ | ⟨e, _⟩
   · rw [e, tl]; exact Int.le_refl _
   · omega
  by_cases c0 : i = 0
  · obtain ⟨r, r1, r2, r3⟩ := ih (i + 1) (out ++ [rd v i]) (by omega) (by omega) (by
     rcases h2 with ⟨e, _⟩ | ⟨e, _⟩
     · exact .inl ⟨by rw [take_rd h0 (by omega), e], fun j hj hj' => by omega⟩
     · omega)
    refine ⟨r, r1, Ev.step (fun k => by rw [spec_l3Minimal.l0]) ?_, r3⟩
    rw [w64 (x := i + 1) (by omega) (by omega)]
    exact ev_ifp (by omega) (ev_ifp c0 (ev_ifp h0 (ev_ifp (by omega) r2)))
  · obtain ⟨t, t1, t2, hE⟩ := tabS_ev (v := v.take i.toNat) (by omega) (take_ul hu.2 _) (most := rd v i) (by omega) (by omega)
    have ht := t2 (rd v i) (by omega) (Int.le_refl _)
    by_cases c : Su (v.take i.toNat) (rd v i)
    · obtain ⟨r, r1, r2, r3⟩ := ih (i + 1) out (by omega) (by omega) (.inr ⟨by omega, fun h => h i (by omega) (by omega) c⟩)
      refine ⟨r, r1, Ev.step (fun k => by rw [spec_l3Minimal.l0]) ?_, r3⟩
      rw [w64 (x := i + 1) (by omega) (by omega)]
      exact ev_ifp (by omega) (ev_ifn c0 (ev_ifp h0 (ev_ifp (by omega) (ev_bind _ hE (ev_ifp (by omega) (ev_ifp (by omega) (ev_ifp (ht.2 c) r2)))))))
    · obtain ⟨r, r1, r2, r3⟩ := ih (i + 1) (out ++ [rd v i]) (by omega) (by omega) (by
       rcases h2 with ⟨e, h⟩ | ⟨e, h⟩
       · refine .inl ⟨by rw [take_rd h0 (by omega), e], fun j hj hj' => ?_⟩
         by_cases ej : j = i
         · rw [ej]; exact c
         · exact h j hj (by omega)
       · refine .inr ⟨by simp; omega, fun h' => h fun j hj hj' => h' j hj (by omega)⟩)
      refine ⟨r, r1, Ev.step (fun k => by rw [spec_l3Minimal.l0]) ?_, r3⟩
      rw [w64 (x := i + 1) (by omega) (by omega)]
      exact ev_ifp (by omega) (ev_ifn c0 (ev_ifp h0 (ev_ifp (by omega) (ev_bind _ hE (ev_ifp (by omega) (ev_ifp (by omega) (ev_ifn (fun h => c (ht.1 h)) (ev_ifp (by omega) r2))))))))
theorem same2_l {l m : List Int} (hl : l.length ≤ 1099511627776) (e : l.length = m.length) (d : Nat) : ∀ (i : Int), 0 ≤ i → i + d = l.length → Ev (fun k => spec_l2Same.l0 k l m i) (decide (l.drop i.toNat = m.drop i.toNat)) := by
 induction d with
 | zero =>
  intro i h0 h1
  refine Ev.step (fun k => by rw [spec_l2Same.l0]) ?_
  refine ev_ifn (by omega) (ev_to (Ev.now _) ?_)
  rw [List.drop_of_length_le (by omega), List.drop_of_length_le (by omega)]; simp
 | succ d ih =>
  intro i h0 h1
  refine Ev.step (fun k => by rw [spec_l2Same.l0]) ?_
  rw [w64 (x := i + 1) (by omega) (by omega), drop_rd h0 (by omega), drop_rd (l := m) h0 (by omega)]
  refine ev_ifp (by omega) (ev_ifp h0 (ev_ifp (by omega) ?_))
  by_cases h : rd l i = rd m i
  · refine ev_ifp h (ev_to (ih (i + 1) (by omega) (by omega)) ?_)
    simp [h]
  · refine ev_ifn h (ev_to (Ev.now _) ?_)
    simp [h]
theorem same2_ev {l m : List Int} (hl : l.length ≤ 1099511627776) : Ev (fun k => spec_l2Same.f k l m) (decide (l = m)) := by
 unfold spec_l2Same.f
 by_cases e : l.length = m.length
 · refine ev_ifp (by omega) (ev_to (same2_l hl e l.length 0 (by omega) (by omega)) ?_)
   simp
 · refine ev_ifn (by omega) (ev_to (Ev.now _) ?_)
   simp; intro h; exact e (by rw [h])
theorem endsS_l {v : List Int} (hu : UL v) {t : List Bool} (t1 : (t.length : Int) = 261) (t2 : ∀ j, 0 ≤ j → j ≤ 260 → (rdOf false t j = true ↔ Su v j)) (d : Nat) : ∀ i : Int, 200 ≤ i → i + d = 200 + rd v 0 → ∃ r : Bool, Ev (fun k => spec_l3Ends.l0 k v t i) r ∧ (r = true ↔ ∀ n, i ≤ n → n < 200 + rd v 0 → Su v n) := by
 have f := hu.first
 have hlen := hu.1
 induction d with
 | zero =>
  intro i h0 h1
  refine ⟨true, Ev.step (fun k => by rw [spec_l3Ends.l0]) ?_, fun _ n hn hn' => by omega, fun _ => rfl⟩
  rw [w64 (x := 200 + rd v 0) (by omega) (by omega)]
  exact ev_ifp (by omega) (ev_ifn (by omega) (Ev.now _))
 | succ d ih =>
  intro i h0 h1
  have ht := t2 i (by omega) (by omega)
  by_cases c : Su v i
  · obtain ⟨r, hE, hr⟩ := ih (i + 1) (by omega) (by omega)
    refine ⟨r, Ev.step (fun k => by rw [spec_l3Ends.l0]) ?_, ?_⟩
    · rw [w64 (x := 200 + rd v 0) (by omega) (by omega), w64 (x := i + 1) (by omega) (by omega)]
      exact ev_ifp (by omega) (ev_ifp (by omega) (ev_ifp (by omega) (ev_ifp (by omega) (ev_ifp (ht.2 c) hE))))
    · rw [hr]
      constructor
      · intro h n hn hn'
        by_cases e : n = i
        · rw [e]; exact c
        · exact h n (by omega) hn'
      · intro h n hn hn'; exact h n (by omega) hn'
  · refine ⟨false, Ev.step (fun k => by rw [spec_l3Ends.l0]) ?_, fun h => (by cases h), fun h => absurd (h i (Int.le_refl _) (by omega)) c⟩
    rw [w64 (x := 200 + rd v 0) (by omega) (by omega)]
    exact ev_ifp (by omega) (ev_ifp (by omega) (ev_ifp (by omega) (ev_ifp (by omega) (ev_ifn (fun h => c (ht.1 h)) (Ev.now _)))))
theorem sgS_ev {v : List Int} (hl : v.length ≤ 1099511627776) : Ev (fun k => spec_IsSemigroup.f k v) (decide (SG v)) := by
 unfold spec_IsSemigroup.f
 by_cases hu : UL v
 · refine ev_bind _ (gensS_ev hl) (ev_ifp (by simpa using hu) ?_)
   by_cases c1 : (v.length : Int) ≤ 12
   · refine ev_ifp c1 ?_
     by_cases c3 : Asc v
     · refine ev_bind _ (ascS_ev hl) (ev_ifp (by simpa using c3) (ev_bind _ (gcdListS_ev hl) ?_))
       by_cases c4 : gl v = 1
       · have hlen := hu.1
         obtain ⟨f1, f2, f3⟩ := hu.first
         obtain ⟨r, r1, r2, r3⟩ := min_l hu v.length 0 [] (by omega) (by omega) (.inl ⟨by simp, fun j hj hj' => by omega⟩)
         refine ev_ifp c4 (ev_bind r ?_ (ev_bind _ (same2_ev (l := r) (m := v) (by omega)) ?_))
         · unfold spec_l3Minimal.f
           exact ev_bind _ (sortS_asc (by omega) c3) r2
         · by_cases c5 : r = v
           · obtain ⟨t, t1, t2, hE⟩ := tabS_ev (v := v) (by omega) hu.2 (most := 260) (by omega) (by omega)
             obtain ⟨b, b1, b2⟩ := endsS_l hu (by omega) t2 (rd v 0).toNat 200 (by omega) (by omega)
             refine ev_ifp (by simpa using c5) (ev_bind b ?_ (ev_to (Ev.now _) ?_))
             · unfold spec_l3Ends.f
               exact ev_bind _ hE b1
             · rw [Bool.eq_iff_iff, b2, ← ends_iff f2 (Su.mem f1), decide_eq_true_eq]
               exact ⟨fun h => ⟨hu, c1, c3, c4, r3.1 c5, h⟩, fun h => h.ends⟩
           · exact ev_ifn (by simpa using c5) (ev_to (Ev.now _) (decide_eq_false (fun h => c5 (r3.2 h.min))).symm)
       · exact ev_ifn c4 (ev_to (Ev.now _) (decide_eq_false (fun h => c4 h.gcd)).symm)
     · exact ev_bind _ (ascS_ev hl) (ev_ifn (by simpa using c3) (ev_to (Ev.now _) (decide_eq_false (fun h => c3 h.asc)).symm))
   · exact ev_ifn c1 (ev_to (Ev.now _) (decide_eq_false (fun h => c1 h.len)).symm)
 · exact ev_bind _ (gensS_ev hl) (ev_ifn (by simpa using hu) (ev_to (Ev.now _) (decide_eq_false (fun h => hu h.ul)).symm))
end Go.Proofs.YtjjajcldmkmgkaaDoor.E
end
section
namespace Go.Proofs.YtjjajcldmkmgkaaDoor.E
open Go.RowKit Go.Proofs.YtjjajcldmkmgkaaDoor.PA Go.Proofs.YtjjajcldmkmgkaaDoorW.PrintWords Go.Proofs.YtjjajcldmkmgkaaDoorW.PrintLast Go.Proofs.YtjjajcldmkmgkaaDoorW.PrintMore
set_option linter.unusedVariables false
set_option linter.unusedSimpArgs false
noncomputable def stab (v : List Int) (m : Int) : List Bool := (List.range (m + 1).toNat).map (fun n : Nat => decide (Su v (n : Int)))
theorem stab_len {v : List Int} {m : Int} (h : 0 ≤ m) : ((stab v m).length : Int) = m + 1 := by unfold stab; simp; omega
theorem rdb_lt {l : List Bool} {i : Int} (h0 : 0 ≤ i) (h : i < l.length) : rdOf false l i = l[i.toNat]'(by omega) := by
 unfold rdOf; rw [List.getD_eq_getElem?_getD, List.getElem?_eq_getElem (by omega)]; rfl
theorem rdb_ext {l m : List Bool} (hl : l.length = m.length) (h : ∀ i : Int, 0 ≤ i → i < l.length → rdOf false l i = rdOf false m i) : l = m := by
 refine List.ext_getElem hl fun n h1 h2 => ?_
 have := h n (by omega) (by omega)
 rw [rdb_lt (by omega) (by omega), rdb_lt (by omega) (by omega)] at this
 simpa using this
theorem stab_rd {v : List Int} {m j : Int} (h0 : 0 ≤ j) (h : j ≤ m) : rdOf false (stab v m) j = decide (Su v j) := by
 have := stab_len (v := v) (m := m) (by omega)
 rw [rdb_lt h0 (by omega)]
 unfold stab
 rw [List.getElem_map, List.getElem_range, show ((j.toNat : Nat) : Int) = j from by omega]
theorem stab_iff {v : List Int} {m j : Int} (h0 : 0 ≤ j) (h : j ≤ m) : rdOf false (stab v m) j = true ↔ Su v j := by rw [stab_rd h0 h]; simp
theorem stab_eq {v : List Int} {m : Int} (hm : 0 ≤ m) {t : List Bool} (hl : (t.length : Int) = m + 1) (h : ∀ j, 0 ≤ j → j ≤ m → (rdOf false t j = true ↔ Su v j)) : t = stab v m := by
 have e := stab_len (v := v) hm
 refine rdb_ext (by omega) fun i h0 h1 => ?_
 rw [stab_rd h0 (by omega), Bool.eq_iff_iff, h i h0 (by omega), decide_eq_true_eq]
theorem tabS_st {v : List Int} (hl : v.length ≤ 20) (hv : ∀ x ∈ v, 1 ≤ x ∧ x ≤ 60) {most : Int} (h0 : 0 ≤ most) (hm : most ≤ 1048576) : Ev (fun k => spec_l3Table.f k v most) (stab v most) := by
 obtain ⟨t, a, b, c⟩ := tabS_ev hl hv h0 hm
 rw [stab_eq h0 a b] at c
 exact c
theorem tabI_l {v u : List Int} (hu : UL v) (hg : gl v = 1) (hL : Lst v (rd v 0) 60 u) {most : Int} (hm0 : 0 ≤ most) (hm : most ≤ 1048576) (d : Nat) : ∀ (i : Int) (out : List Bool), 0 ≤ i → i + d = most + 1 → (out.length : Int) = most + 1 → (∀ j, 0 ≤ j → j < i → (rdOf false out j = true ↔ Su v j)) → Ev (fun k => impl_table.l0 k u out (most + 1) i v) (stab v most) := by
 have f := hu.first
 obtain ⟨_, fa, fb⟩ := f
 have f := hu.first
 have hlen := hu.1
 have hll := hL.len
 induction d with
 | zero =>
  intro i out h0 h1 h2 h3
  refine Ev.step (fun k => by rw [impl_table.l0]) ?_
  rw [stab_eq (v := v) (m := most) (t := out) (by omega) h2 (fun j a b => h3 j a (by omega))]
  exact ev_ifn (by omega) (Ev.now _)
 | succ d ih =>
  intro i out h0 h1 h2 h3
  have q0 := Int.emod_nonneg i (b := rd v 0) (by omega)
  have q1 := Int.emod_lt_of_pos i (b := rd v 0) (by omega)
  have p := hL.all f.2.1 hu.2 hg q0 q1
  have s := hL.su f.2.1 (Su.mem f.1) (n := i)
  refine Ev.step (fun k => by rw [impl_table.l0]) ?_
  rw [Int.tmod_eq_emod_of_nonneg h0, w64 (x := i + 1) (by omega) (by omega)]
  refine ev_ifp (by omega) (ev_ifp (by omega) (ev_ifn (by omega) (ev_ifp q0 (ev_ifp (by omega) (ev_ifp h0 (ev_ifp (by omega) (ih (i + 1) _ (by omega) (by omega) (by simpa using h2) fun j hj hj' => ?_)))))))
  rw [rdb_set _ h0 (by omega) hj]
  by_cases e : j = i
  · subst e
    rw [if_pos rfl, decide_eq_true_eq, s]
    exact ⟨fun h => ⟨p, h⟩, fun h => h.2⟩
  · rw [if_neg e]; exact h3 j hj (by omega)
theorem tabI_st {v : List Int} (hu : UL v) (hg : gl v = 1) {most : Int} (h0 : 0 ≤ most) (hm : most ≤ 1048576) : Ev (fun k => impl_table.f k v most) (stab v most) := by
 obtain ⟨f1, f2, f3⟩ := hu.first
 have hlen := hu.1
 obtain ⟨u, hL, hE⟩ := leasts_ev (G := 60) (a := rd v 0) hu.2 (by omega) (by omega) f2 (by omega) (by omega)
 have e0 : ((List.replicate (most + 1).toNat false).length : Int) = most + 1 := by simp; omega
 unfold impl_table.f
 refine ev_ifp (by omega) (ev_bind _ hE ?_)
 rw [w64 (by omega) (by omega)]
 simp only [Option.bind_some]
 refine ev_ifp (by omega) (ev_ifp (by omega) ?_)
 rw [e0]
 exact tabI_l hu hg hL h0 hm (most + 1).toNat 0 _ (by omega) (by omega) e0 (fun j a b => by omega)
end Go.Proofs.YtjjajcldmkmgkaaDoor.E
end
section
namespace Go.Proofs.YtjjajcldmkmgkaaDoor.E
open Go.RowKit Go.Proofs.YtjjajcldmkmgkaaDoor.PA Go.Proofs.YtjjajcldmkmgkaaDoorW.PrintWords Go.Proofs.YtjjajcldmkmgkaaDoorW.PrintLast Go.Proofs.YtjjajcldmkmgkaaDoorW.PrintMore
set_option linter.unusedVariables false
set_option linter.unusedSimpArgs false
def Con (v : List Int) (n : Int) : Prop := 0 ≤ n ∧ SG v ∧ Su v n
noncomputable instance (v : List Int) (n : Int) : Decidable (Con v n) := Classical.propDecidable _
theorem conI_ev {v : List Int} (n : Int) (hl : v.length ≤ 1099511627776) : Ev (fun k => impl_Contains.f k v n) (decide (Con v n)) := by
 unfold impl_Contains.f
 by_cases h0 : n < 0
 · exact ev_ifp h0 (ev_to (Ev.now _) (decide_eq_false (fun h => by have := h.1; omega)).symm)
 refine ev_ifn h0 (ev_bind _ (sgI_ev hl) ?_)
 by_cases h : SG v
 · refine ev_ifp (by simpa using h) ?_
   by_cases h2 : n ≥ 200
   · exact ev_ifp h2 (ev_to (Ev.now _) (decide_eq_true (show Con v n from ⟨by omega, h, h.ends n h2⟩)).symm)
   obtain ⟨f1, f2, f3⟩ := h.ul.first
   have l := h.ul.1
   obtain ⟨u, hL, hE⟩ := leasts_ev (G := 60) (a := rd v 0) h.ul.2 (by omega) (by omega) f2 (by omega) (by omega)
   have e : Int.tmod n (rd v 0) = n % rd v 0 := Int.tmod_eq_emod_of_nonneg (by omega)
   have q0 := Int.emod_nonneg n (b := rd v 0) (by omega)
   have q1 := Int.emod_lt_of_pos n (b := rd v 0) (by omega)
   have hll := hL.len
   have p := hL.all f2 h.ul.2 h.gcd q0 q1
   have s := hL.su f2 (Su.mem f1) (n := n)
   refine ev_ifn h2 (ev_ifp (by omega) (ev_bind _ hE (ev_ifn (by omega) ?_)))
   rw [e]
   refine ev_ifp q0 (ev_ifp (by omega) (ev_to (Ev.now _) ?_))
   rw [decide_eq_decide]
   constructor
   · intro k; exact ⟨by omega, h, s.2 ⟨p, k⟩⟩
   · intro k; exact (s.1 k.2.2).2
 · exact ev_ifn (by simpa using h) (ev_to (Ev.now _) (decide_eq_false (fun k => h k.2.1)).symm)
theorem conS_ev {v : List Int} (n : Int) (hl : v.length ≤ 1099511627776) : Ev (fun k => spec_Contains.f k v n) (decide (Con v n)) := by
 unfold spec_Contains.f
 refine ev_bind _ (sgS_ev hl) ?_
 by_cases h : SG v
 · refine ev_ifp (by simpa using h) (ev_bind _ (show Ev (fun k => spec_l3Has.f k v n) (decide (Con v n)) from ?_) (Ev.now _))
   unfold spec_l3Has.f
   by_cases h0 : n < 0
   · exact ev_ifp h0 (ev_to (Ev.now _) (by rw [decide_eq_decide]; exact ⟨fun k => by omega, fun k => by have := k.1; omega⟩))
   refine ev_ifn h0 ?_
   by_cases h2 : n ≥ 200
   · exact ev_ifp h2 (ev_to (Ev.now _) (by rw [decide_eq_decide]; exact ⟨fun k => ⟨by omega, h, h.ends n h2⟩, fun k => by omega⟩))
   have l := h.ul.1
   have sl := stab_len (v := v) (m := n) (by omega)
   have s := stab_rd (v := v) (m := n) (j := n) (by omega) (Int.le_refl _)
   refine ev_ifn h2 (ev_bind _ (tabS_st (by omega) h.ul.2 (by omega) (by omega)) (ev_ifp (by omega) (ev_ifp (by omega) (ev_to (Ev.now _) ?_))))
   rw [s, decide_eq_decide]
   exact ⟨fun k => ⟨by omega, h, k⟩, fun k => k.2.2⟩
 · exact ev_ifn (by simpa using h) (ev_to (Ev.now _) (decide_eq_false (fun k => h k.2.1)).symm)
end Go.Proofs.YtjjajcldmkmgkaaDoor.E
end
section
namespace Go.Proofs.YtjjajcldmkmgkaaDoor.E
open Go.RowKit Go.Proofs.YtjjajcldmkmgkaaDoorW.PrintWords Go.Proofs.YtjjajcldmkmgkaaDoorW.PrintLast Go.Proofs.YtjjajcldmkmgkaaDoorW.PrintMore
set_option linter.unusedVariables false
set_option linter.unusedSimpArgs false
def fl (p : Int → Bool) (i : Int) : Nat → List Int
 | 0 => []
 | d + 1 => if p i = true then i :: fl p (i + 1) d else fl p (i + 1) d
theorem fl_yes {p : Int → Bool} {i : Int} {d : Nat} (h : p i = true) : fl p i (d + 1) = i :: fl p (i + 1) d := by rw [fl, if_pos h]
theorem fl_no {p : Int → Bool} {i : Int} {d : Nat} (h : ¬ p i = true) : fl p i (d + 1) = fl p (i + 1) d := by rw [fl, if_neg h]
theorem fl_app (p : Int → Bool) (d e : Nat) : ∀ i : Int, fl p i (d + e) = fl p i d ++ fl p (i + d) e := by
 induction d with
 | zero => intro i; simp [fl]
 | succ d ih =>
  intro i
  rw [show d + 1 + e = (d + e) + 1 from by omega, show i + ((d + 1 : Nat) : Int) = i + 1 + d from by omega]
  by_cases h : p i = true
  · rw [fl_yes h, fl_yes h, ih, List.cons_append]
  · rw [fl_no h, fl_no h, ih]
theorem fl_mem {p : Int → Bool} {x : Int} (d : Nat) : ∀ i : Int, x ∈ fl p i d ↔ i ≤ x ∧ x < i + d ∧ p x = true := by
 induction d with
 | zero => intro i; simp [fl]; omega
 | succ d ih =>
  intro i
  by_cases h : p i = true
  · rw [fl_yes h, List.mem_cons, ih]
    constructor
    · rintro (rfl | ⟨a, b, c⟩)
      · exact ⟨Int.le_refl _, by omega, h⟩
      · exact ⟨by omega, by omega, c⟩
    · rintro ⟨a, b, c⟩
      by_cases e : x = i
      · exact .inl e
      · exact .inr ⟨by omega, by omega, c⟩
  · rw [fl_no h, ih]
    constructor
    · rintro ⟨a, b, c⟩; exact ⟨by omega, by omega, c⟩
    · rintro ⟨a, b, c⟩
      by_cases e : x = i
      · subst e; exact absurd c h
      · exact ⟨by omega, by omega, c⟩
theorem fl_len (p : Int → Bool) (d : Nat) : ∀ i : Int, (fl p i d).length ≤ d := by
 induction d with
 | zero => intro i; simp [fl]
 | succ d ih =>
  intro i
  have := ih (i + 1)
  by_cases h : p i = true
  · rw [fl_yes h, List.length_cons]; omega
  · rw [fl_no h]; omega
theorem fl_last {p : Int → Bool} {i : Int} {d : Nat} (h : fl p i d ≠ []) : ∃ x, i ≤ x ∧ x < i + d ∧ p x = true ∧ (∀ y, x < y → y < i + d → ¬ p y = true) ∧ rd (fl p i d) ((fl p i d).length - 1) = x := by
 induction d with
 | zero => exact absurd rfl h
 | succ d ih =>
  rw [show d + 1 = d + 1 from rfl, fl_app p d 1 i] at h ⊢
  by_cases c : p (i + d) = true
  · refine ⟨i + d, by omega, by omega, c, fun y a b => by omega, ?_⟩
    rw [show fl p (i + d) 1 = [i + d] from by rw [show (1 : Nat) = 0 + 1 from rfl, fl_yes c]; rfl]
    rw [rd_append (by simp), if_neg (by simp)]
    simp [rd]
  · have e : fl p (i + d) 1 = [] := by rw [show (1 : Nat) = 0 + 1 from rfl, fl_no c]; rfl
    rw [e, List.append_nil] at h ⊢
    obtain ⟨x, a, b, q, r, s⟩ := ih h
    refine ⟨x, a, by omega, q, fun y hy hy' => ?_, s⟩
    by_cases ey : y = i + d
    · rw [ey]; exact c
    · exact r y hy (by omega)
end Go.Proofs.YtjjajcldmkmgkaaDoor.E
end
section
namespace Go.Proofs.YtjjajcldmkmgkaaDoor.E
open Go.RowKit Go.Proofs.YtjjajcldmkmgkaaDoor.PA Go.Proofs.YtjjajcldmkmgkaaDoorW.PrintWords Go.Proofs.YtjjajcldmkmgkaaDoorW.PrintLast Go.Proofs.YtjjajcldmkmgkaaDoorW.PrintMore
set_option linter.unusedVariables false
set_option linter.unusedSimpArgs false
noncomputable def isgap (v : List Int) (n : Int) : Bool := !decide (Su v n)
noncomputable def gp (v : List Int) : List Int := fl (isgap v) 1 199
theorem isgap_t {v : List Int} {n : Int} : isgap v n = true ↔ ¬ Su v n := by unfold isgap; simp
theorem SG.su200 {v : List Int} (h : SG v) : Su v 200 := h.ends 200 (by omega)
theorem SG.sutab {v : List Int} (h : SG v) {m : Int} (h0 : 0 ≤ m) (hm : m ≤ 1048576) : Ev (fun k => impl_table.f k v m) (stab v m) := tabI_st h.ul h.gcd h0 hm
theorem SG.sutabS {v : List Int} (h : SG v) {m : Int} (h0 : 0 ≤ m) (hm : m ≤ 1048576) : Ev (fun k => spec_l3Table.f k v m) (stab v m) := tabS_st (by have := h.len; omega) h.ul.2 h0 hm
theorem gp_wide {v : List Int} (h : SG v) : fl (isgap v) 0 201 = gp v := by
 have a : ¬ isgap v 0 = true := by rw [isgap_t]; simpa using Su.zero v
 have b : ¬ isgap v 200 = true := by rw [isgap_t]; simpa using h.su200
 rw [show (201 : Nat) = 200 + 1 from rfl, fl_no a, show (200 : Nat) = 199 + 1 from rfl, fl_app, show (0 : Int) + 1 = 1 from rfl, show (1 : Int) + ((199 : Nat) : Int) = 200 from rfl, show (1 : Nat) = 0 + 1 from rfl, fl_no b]
 unfold gp
 rw [show fl (isgap v) (200 + 1) 0 = [] from rfl, List.append_nil]
theorem gp_mem {v : List Int} {x : Int} : x ∈ gp v ↔ 1 ≤ x ∧ x < 200 ∧ ¬ Su v x := by
 unfold gp; rw [fl_mem, isgap_t]; constructor <;> rintro ⟨a, b, c⟩ <;> exact ⟨a, by omega, c⟩
theorem gp_len (v : List Int) : (gp v).length ≤ 199 := fl_len _ _ _
end Go.Proofs.YtjjajcldmkmgkaaDoor.E
end
section
namespace Go.Proofs.YtjjajcldmkmgkaaDoor.E
open Go.RowKit Go.Proofs.YtjjajcldmkmgkaaDoor.PA Go.Proofs.YtjjajcldmkmgkaaDoorW.PrintWords Go.Proofs.YtjjajcldmkmgkaaDoorW.PrintLast Go.Proofs.YtjjajcldmkmgkaaDoorW.PrintMore
set_option linter.unusedVariables false
set_option linter.unusedSimpArgs false
def ApAt (v : List Int) (n r w : Int) : Prop := 0 ≤ w ∧ w < 200 + n ∧ Su v w ∧ w % n = r ∧ ∀ x, 0 ≤ x → x % n = r → Su v x → w ≤ x
theorem ap_down {v : List Int} {n r : Int} (m : Nat) : ∀ w : Int, w.toNat ≤ m → 0 ≤ w → w < 200 + n → Su v w → w % n = r → ∃ w', ApAt v n r w' := by
 induction m with
 | zero =>
  intro w hm h0 h1 h2 h3
  exact ⟨w, h0, h1, h2, h3, fun x hx _ _ => by omega⟩
 | succ m ih =>
  intro w hm h0 h1 h2 h3
  by_cases c : ∃ x, 0 ≤ x ∧ x % n = r ∧ Su v x ∧ x < w
  · obtain ⟨x, a, b, e, f⟩ := c
    exact ih x (by omega) a (by omega) e b
  · exact ⟨w, h0, h1, h2, h3, fun x hx hr hs => Classical.byContradiction fun q => c ⟨x, hx, hr, hs, by omega⟩⟩
theorem ap_ex {v : List Int} (h : SG v) {n r : Int} (hn : 1 ≤ n) (h0 : 0 ≤ r) (h1 : r < n) : ∃ w, ApAt v n r w := by
 have q0 := Int.emod_nonneg (r - 200) (b := n) (by omega)
 have q1 := Int.emod_lt_of_pos (r - 200) (b := n) (by omega)
 have e : (200 + (r - 200) % n) % n = r := by
  rw [Int.add_emod_emod, show 200 + (r - 200) = r from by omega, Int.emod_eq_of_lt h0 h1]
 exact ap_down _ (200 + (r - 200) % n) (Nat.le_refl _) (by omega) (by omega) (h.ends _ (by omega)) e
noncomputable def apw (v : List Int) (n r : Int) : Int := Classical.epsilon (ApAt v n r)
theorem apw_at {v : List Int} (h : SG v) {n r : Int} (hn : 1 ≤ n) (h0 : 0 ≤ r) (h1 : r < n) : ApAt v n r (apw v n r) := Classical.epsilon_spec (ap_ex h hn h0 h1)
noncomputable def apl (v : List Int) (n : Int) : List Int := (List.range n.toNat).map fun r : Nat => apw v n r
theorem apl_len (v : List Int) {n : Int} (h : 0 ≤ n) : ((apl v n).length : Int) = n := by unfold apl; simp; omega
theorem apl_rd {v : List Int} {n r : Int} (h0 : 0 ≤ r) (h1 : r < n) : rd (apl v n) r = apw v n r := by
 have := apl_len v (n := n) (by omega)
 rw [rd_lt h0 (by omega)]
 unfold apl
 rw [List.getElem_map, List.getElem_range, show ((r.toNat : Nat) : Int) = r from by omega]
theorem apI_l1 {v : List Int} (h : SG v) {n r : Int} (hn : 1 ≤ n) (hn' : n ≤ 60) (h0 : 0 ≤ r) (h1 : r < n)
 (H : ∀ out : List Int, (out.length : Int) = n → (∀ j, 0 ≤ j → j < r → rd out j = apw v n j) → (∀ j, r < j → j < n → rd out j = 0) → rd out r = apw v n r → Ev (fun k => impl_AperySet.l0 k n out (stab v (200 + n)) n (wrap64 (r + 1)) ) (apl v n))
 (d : Nat) : ∀ out : List Int, (out.length : Int) = n → (∀ j, 0 ≤ j → j < r → rd out j = apw v n j) → (∀ j, r < j → j < n → rd out j = 0) → 0 ≤ rd out r → rd out r + d = apw v n r → Ev (fun k => impl_AperySet.l1 k n out (stab v (200 + n)) r n r) (apl v n) := by
 obtain ⟨w0, w1, w2, w3, w4⟩ := apw_at h hn h0 h1
 have sl := stab_len (v := v) (m := 200 + n) (by omega)
 induction d with
 | zero =>
  intro out hl ha hb hc hd
  have e : rd out r = apw v n r := by omega
  refine Ev.step (fun k => by rw [impl_AperySet.l1]) ?_
  rw [stab_rd (v := v) (m := 200 + n) hc (by omega)]
  exact ev_ifp h0 (ev_ifp (by omega) (ev_ifp hc (ev_ifp (by omega) (ev_ifp (by rw [e]; simpa using w2) (ev_ifn (by omega) (ev_ifp (by rw [e, Int.tmod_eq_emod_of_nonneg w0]; exact w3) (H out hl ha hb e)))))))
 | succ d ih =>
  intro out hl ha hb hc hd
  refine Ev.step (fun k => by rw [impl_AperySet.l1]) ?_
  have go : Ev (fun k => impl_AperySet.l1 k n (out.set r.toNat (rd out r + 1)) (stab v (200 + n)) r n r) (apl v n) :=
   ih _ (by simpa using hl) (fun j a b => by rw [rd_set _ h0 (by omega) a, if_neg (by omega)]; exact ha j a b) (fun j a b => by rw [rd_set _ h0 (by omega) (by omega), if_neg (by omega)]; exact hb j a b) (by rw [rd_set _ h0 (by omega) h0, if_pos rfl]; omega) (by rw [rd_set _ h0 (by omega) h0, if_pos rfl]; omega)
  rw [stab_rd (v := v) (m := 200 + n) hc (by omega), w64 (x := rd out r + 1) (by omega) (by omega)]
  refine ev_ifp h0 (ev_ifp (by omega) (ev_ifp hc (ev_ifp (by omega) ?_)))
  by_cases c : Su v (rd out r)
  · refine ev_ifp (by simpa using c) (ev_ifn (by omega) (ev_ifn (fun q => ?_) go))
    rw [Int.tmod_eq_emod_of_nonneg hc] at q
    have := w4 _ hc q c
    omega
  · exact ev_ifn (by simpa using c) go
theorem apI_l0 {v : List Int} (h : SG v) {n : Int} (hn : 1 ≤ n) (hn' : n ≤ 60) (d : Nat) : ∀ (r : Int) (out : List Int), 0 ≤ r → r + d = n → (out.length : Int) = n → (∀ j, 0 ≤ j → j < r → rd out j = apw v n j) → (∀ j, r ≤ j → j < n → rd out j = 0) → Ev (fun k => impl_AperySet.l0 k n out (stab v (200 + n)) n r) (apl v n) := by
 have ll := apl_len v (n := n) (by omega)
 induction d with
 | zero =>
  intro r out h0 h1 hl ha hb
  refine Ev.step (fun k => by rw [impl_AperySet.l0]) (ev_ifn (by omega) (ev_to (Ev.now _) ?_))
  exact rd_ext (by omega) fun i a b => by rw [ha i a (by omega), apl_rd a (by omega)]
 | succ d ih =>
  intro r out h0 h1 hl ha hb
  have e := hb r (Int.le_refl _) (by omega)
  have w0 := (apw_at h hn h0 (by omega)).1
  refine Ev.step (fun k => by rw [impl_AperySet.l0]) (ev_ifp (by omega) ?_)
  refine apI_l1 h hn hn' h0 (by omega) (fun o ol oa ob oc => ?_) (apw v n r).toNat out hl ha (fun j a b => hb j (by omega) b) (by omega) (by omega)
  rw [w64 (x := r + 1) (by omega) (by omega)]
  refine ih (r + 1) o (by omega) (by omega) ol (fun j a b => ?_) (fun j a b => ob j (by omega) b)
  by_cases c : j = r
  · rw [c]; exact oc
  · exact oa j a (by omega)
theorem apS_l1 {v : List Int} (h : SG v) {n r : Int} (hn : 1 ≤ n) (hn' : n ≤ 60) (h0 : 0 ≤ r) (h1 : r < n) {out : List Int} (hl : (out.length : Int) = r)
 (H : Ev (fun k => spec_l6Apery.l0 k n (stab v 260) (out ++ [apw v n r]) (wrap64 (r + 1))) (apl v n))
 (d : Nat) : ∀ a : Int, 0 ≤ a → a % n = r → a ≤ apw v n r → apw v n r - a ≤ d → Ev (fun k => spec_l6Apery.l1 k n (stab v 260) out r a) (apl v n) := by
 obtain ⟨w0, w1, w2, w3, w4⟩ := apw_at h hn h0 h1
 have sl := stab_len (v := v) (m := 260) (by omega)
 have base : ∀ a : Int, a = apw v n r → Ev (fun k => spec_l6Apery.l1 k n (stab v 260) out r a) (apl v n) := by
  rintro a rfl
  refine Ev.step (fun k => by rw [spec_l6Apery.l1]) ?_
  rw [stab_rd (v := v) (m := 260) w0 (by omega)]
  exact ev_ifp w0 (ev_ifp (by omega) (ev_ifp (by simpa using w2) (ev_ifp (by omega) H)))
 induction d with
 | zero =>
  intro a a0 a1 a2 a3
  exact base a (by omega)
 | succ d ih =>
  intro a a0 a1 a2 a3
  by_cases c : a = apw v n r
  · exact base a c
  · have hdv : n ∣ apw v n r - a := Int.dvd_of_emod_eq_zero (by rw [Int.sub_emod, w3, a1]; simp)
    have hle := Int.le_of_dvd (by omega) hdv
    refine Ev.step (fun k => by rw [spec_l6Apery.l1]) ?_
    rw [stab_rd (v := v) (m := 260) a0 (by omega), w64 (x := a + n) (by omega) (by omega)]
    refine ev_ifp a0 (ev_ifp (by omega) (ev_ifn (fun q => ?_) (ih (a + n) (by omega) (by rw [Int.add_emod_right]; exact a1) (by omega) (by omega))))
    have := w4 a a0 a1 (by simpa using q)
    omega
theorem apS_l0 {v : List Int} (h : SG v) {n : Int} (hn : 1 ≤ n) (hn' : n ≤ 60) (d : Nat) : ∀ r : Int, 0 ≤ r → r + d = n → Ev (fun k => spec_l6Apery.l0 k n (stab v 260) ((apl v n).take r.toNat) r) (apl v n) := by
 have ll := apl_len v (n := n) (by omega)
 induction d with
 | zero =>
  intro r h0 h1
  refine Ev.step (fun k => by rw [spec_l6Apery.l0]) (ev_ifn (by omega) (ev_to (Ev.now _) ?_))
  exact List.take_of_length_le (by omega)
 | succ d ih =>
  intro r h0 h1
  obtain ⟨w0, w1, w2, w3, w4⟩ := apw_at h hn h0 (show r < n by omega)
  refine Ev.step (fun k => by rw [spec_l6Apery.l0]) (ev_ifp (by omega) ?_)
  have hr : r % n = r := Int.emod_eq_of_lt h0 (by omega)
  have lew : r ≤ apw v n r := by
   have := emod_le_self (n := apw v n r) (x := n) w0 (by omega)
   omega
  refine apS_l1 h hn hn' h0 (by omega) (by rw [List.length_take]; omega) ?_ (apw v n r - r).toNat r h0 hr lew (by omega)
  rw [w64 (x := r + 1) (by omega) (by omega), ← apl_rd h0 (show r < n by omega), ← take_rd h0 (by omega)]
  exact ih (r + 1) (by omega) (by omega)
theorem apI_ev {v : List Int} (h : SG v) : Ev (fun k => impl_AperySet.f k v (rd v 0)) (apl v (rd v 0)) := by
 obtain ⟨f1, f2, f3⟩ := h.ul.first
 have l := h.len
 unfold impl_AperySet.f
 rw [within_eq]
 refine ev_bind _ (Ev.now _) (ev_ifp (by simp; omega) (ev_bind _ (conI_ev _ (by omega)) ?_))
 rw [show (!decide (Con v (rd v 0))) = false from by simp; exact ⟨by omega, h, Su.mem f1⟩]
 refine Ev.step (fun k => by rw [impl_AperySet.j0]) (ev_ifn (by simp) (ev_ifp (by omega) (ev_ifp (by omega) ?_)))
 simp only [Option.bind_some]
 rw [w64 (x := 200 + rd v 0) (by omega) (by omega)]
 refine ev_bind _ (h.sutab (by omega) (by omega)) ?_
 rw [show ((List.replicate (rd v 0).toNat (0 : Int)).length : Int) = rd v 0 from by simp; omega]
 exact apI_l0 h f2 f3 (rd v 0).toNat 0 _ (by omega) (by omega) (by simp; omega) (fun j a b => by omega) (fun j a b => rd_rep a (by omega))
theorem apS_ev {v : List Int} (h : SG v) : Ev (fun k => spec_AperySet.f k v (rd v 0)) (apl v (rd v 0)) := by
 obtain ⟨f1, f2, f3⟩ := h.ul.first
 have l := h.len
 unfold spec_AperySet.f
 refine ev_bind _ (conS_ev _ (by omega)) (ev_ifp (by simp; exact ⟨by omega, h, Su.mem f1⟩) ?_)
 rw [l1In_eq]
 refine ev_bind _ (Ev.now _) (ev_ifp (by simp; omega) (ev_bind _ (show Ev (fun k => spec_l6Apery.f k v (rd v 0)) (apl v (rd v 0)) from ?_) (Ev.now _)))
 unfold spec_l6Apery.f
 exact ev_bind _ (h.sutabS (by omega) (by omega)) (apS_l0 h f2 f3 (rd v 0).toNat 0 (by omega) (by omega))
theorem apl_mem {v : List Int} (h : SG v) {n x : Int} (hn : 1 ≤ n) (hn' : n ≤ 60) (hx : x ∈ apl v n) : 0 ≤ x ∧ x < 260 := by
 obtain ⟨i, i0, i1, rfl⟩ := mem_rd hx
 have ll := apl_len v (n := n) (by omega)
 rw [apl_rd i0 (by omega)]
 obtain ⟨w0, w1, _⟩ := apw_at h hn i0 (show i < n by omega)
 exact ⟨w0, by omega⟩
end Go.Proofs.YtjjajcldmkmgkaaDoor.E
end
section
namespace Go.Proofs.YtjjajcldmkmgkaaDoor.E
open Go.RowKit Go.Proofs.YtjjajcldmkmgkaaDoorW.PrintWords Go.Proofs.YtjjajcldmkmgkaaDoorW.PrintLast Go.Proofs.YtjjajcldmkmgkaaDoorW.PrintMore
set_option linter.unusedVariables false
set_option linter.unusedSimpArgs false
noncomputable def gps (v : List Int) : List Int := if SG v then gp v else []
noncomputable def fob (v : List Int) : Int := if (gps v).length = 0 then -1 else rd (gps v) ((gps v).length - 1)
noncomputable def cd (v : List Int) : Int := fob v + 1
theorem gps_len (v : List Int) : (gps v).length ≤ 199 := by
 unfold gps; split
 · exact gp_len v
 · simp
theorem gps_sg {v : List Int} (h : SG v) : gps v = gp v := by unfold gps; rw [if_pos h]
theorem gps_no {v : List Int} (h : ¬ SG v) : gps v = [] := by unfold gps; rw [if_neg h]
theorem fob_some {v : List Int} (h : SG v) (hn : gp v ≠ []) : 1 ≤ fob v ∧ fob v < 200 ∧ ¬ Su v (fob v) ∧ ∀ n, fob v < n → Su v n := by
 obtain ⟨x, a, b, c, e, f⟩ := fl_last (p := isgap v) (i := 1) (d := 199) hn
 have hl : ¬ (gp v).length = 0 := by simpa using hn
 have ex : fob v = x := by
  unfold fob; rw [gps_sg h, if_neg hl]; exact f
 rw [ex]
 refine ⟨a, by omega, isgap_t.1 c, fun n hn => ?_⟩
 by_cases hn' : n < 200
 · have := e n hn (by omega)
   rw [isgap_t] at this
   exact Classical.byContradiction this
 · exact h.ends n (by omega)
theorem fob_none {v : List Int} (h : gps v = []) : fob v = -1 := by unfold fob; rw [h]; rfl
theorem SG.pos {v : List Int} (h : SG v) : ∀ x ∈ v, 1 ≤ x := fun x hx => (h.ul.2 x hx).1
theorem cd_fact {v : List Int} (h : SG v) : 0 ≤ cd v ∧ cd v ≤ 200 ∧ cd v ≠ 1 ∧ (∀ n, cd v ≤ n → Su v n) ∧ ¬ Su v (cd v - 1) := by
 unfold cd
 by_cases hn : gp v = []
 · rw [fob_none (by rw [gps_sg h, hn])]
   refine ⟨by omega, by omega, by omega, fun n hn' => ?_, fun k => by have := k.pos h.pos; omega⟩
   by_cases c : Su v n
   · exact c
   · by_cases e : n = 0
     · rw [e]; exact Su.zero v
     · have : n ∈ gp v := gp_mem.2 ⟨by omega, by
        by_cases c2 : n < 200
        · exact c2
        · exact absurd (h.ends n (by omega)) c, c⟩
       rw [hn] at this; simp at this
 · obtain ⟨a, b, c, e⟩ := fob_some h hn
   exact ⟨by omega, by omega, by omega, fun n hn' => e n (by omega), by rw [show fob v + 1 - 1 = fob v from by omega]; exact c⟩
noncomputable def sml (v : List Int) (m : Int) : List Int := fl (fun n => decide (Su v n)) 0 m.toNat
theorem sml_len (v : List Int) (m : Int) : (sml v m).length ≤ m.toNat := fl_len _ _ _
end Go.Proofs.YtjjajcldmkmgkaaDoor.E
end
section
namespace Go.Proofs.YtjjajcldmkmgkaaDoor.E
open Go.RowKit Go.Proofs.YtjjajcldmkmgkaaDoor.PA Go.Proofs.YtjjajcldmkmgkaaDoorW.PrintWords Go.Proofs.YtjjajcldmkmgkaaDoorW.PrintLast Go.Proofs.YtjjajcldmkmgkaaDoorW.PrintMore
set_option linter.unusedVariables false
set_option linter.unusedSimpArgs false
theorem gapsI_l {v : List Int} (d : Nat) : ∀ (i : Int) (out : List Int), 0 ≤ i → i + d = 201 → (out.length : Int) ≤ i → Ev (fun k => impl_Gaps.l0 k out (stab v 200) 201 i) (out ++ fl (isgap v) i d) := by
 have sl := stab_len (v := v) (m := 200) (by omega)
 induction d with
 | zero =>
  intro i out h0 h1 h2
  refine Ev.step (fun k => by rw [impl_Gaps.l0]) (ev_ifn (by omega) (ev_to (Ev.now _) ?_))
  simp [fl]
 | succ d ih =>
  intro i out h0 h1 h2
  have s := stab_iff (v := v) (m := 200) h0 (by omega)
  refine Ev.step (fun k => by rw [impl_Gaps.l0]) ?_
  rw [w64 (x := i + 1) (by omega) (by omega)]
  by_cases c : Su v i
  · rw [fl_no (by rw [isgap_t]; simpa using c)]
    exact ev_ifp (by omega) (ev_ifp h0 (ev_ifp (by omega) (ev_ifp (s.2 c) (ih (i + 1) out (by omega) (by omega) (by omega)))))
  · rw [fl_yes (isgap_t.2 c)]
    refine ev_ifp (by omega) (ev_ifp h0 (ev_ifp (by omega) (ev_ifn (fun h => c (s.1 h)) (ev_ifp (by omega) (ev_to (ih (i + 1) (out ++ [i]) (by omega) (by omega) (by simp; omega)) ?_)))))
    simp
theorem gapsS_l {v : List Int} (d : Nat) : ∀ (i : Int) (out : List Int), 0 ≤ i → i + d = 200 → (out.length : Int) ≤ i → Ev (fun k => spec_l4Gaps.l0 k out (stab v 200) i) (out ++ fl (isgap v) i d) := by
 have sl := stab_len (v := v) (m := 200) (by omega)
 induction d with
 | zero =>
  intro i out h0 h1 h2
  refine Ev.step (fun k => by rw [spec_l4Gaps.l0]) (ev_ifn (by omega) (ev_to (Ev.now _) ?_))
  simp [fl]
 | succ d ih =>
  intro i out h0 h1 h2
  have s := stab_iff (v := v) (m := 200) h0 (by omega)
  refine Ev.step (fun k => by rw [spec_l4Gaps.l0]) ?_
  rw [w64 (x := i + 1) (by omega) (by omega)]
  by_cases c : Su v i
  · rw [fl_no (by rw [isgap_t]; simpa using c)]
    exact ev_ifp (by omega) (ev_ifp h0 (ev_ifp (by omega) (ev_ifp (s.2 c) (ih (i + 1) out (by omega) (by omega) (by omega)))))
  · rw [fl_yes (isgap_t.2 c)]
    refine ev_ifp (by omega) (ev_ifp h0 (ev_ifp (by omega) (ev_ifn (fun h => c (s.1 h)) (ev_ifp (by omega) (ev_to (ih (i + 1) (out ++ [i]) (by omega) (by omega) (by simp; omega)) ?_)))))
    simp
theorem l4Gaps_ev {v : List Int} (h : SG v) : Ev (fun k => spec_l4Gaps.f k v) (gp v) := by
 unfold spec_l4Gaps.f
 exact ev_bind _ (h.sutabS (by omega) (by omega)) (gapsS_l 199 1 [] (by omega) (by omega) (by simp))
theorem gapsI_ev {v : List Int} (hl : v.length ≤ 1099511627776) : Ev (fun k => impl_Gaps.f k v) (if SG v then gp v else []) := by
 unfold impl_Gaps.f
 refine ev_bind _ (sgI_ev hl) ?_
 by_cases c : SG v
 · rw [if_pos c]
   refine ev_ifp (by simpa using c) (ev_bind _ (c.sutab (by omega) (by omega)) ?_)
   rw [stab_len (by omega), ← gp_wide c]
   exact gapsI_l 201 0 [] (by omega) (by omega) (by simp)
 · rw [if_neg c]; exact ev_ifn (by simpa using c) (Ev.now _)
end Go.Proofs.YtjjajcldmkmgkaaDoor.E
end
section
namespace Go.Proofs.YtjjajcldmkmgkaaDoor.E
open Go.RowKit Go.Proofs.YtjjajcldmkmgkaaDoor.PA Go.Proofs.YtjjajcldmkmgkaaDoorW.PrintWords Go.Proofs.YtjjajcldmkmgkaaDoorW.PrintLast Go.Proofs.YtjjajcldmkmgkaaDoorW.PrintMore
set_option linter.unusedVariables false
set_option linter.unusedSimpArgs false
theorem gapsI_gps {v : List Int} (hl : v.length ≤ 1099511627776) : Ev (fun k => impl_Gaps.f k v) (gps v) := gapsI_ev hl
end Go.Proofs.YtjjajcldmkmgkaaDoor.E
end
section
namespace Go.Proofs.YtjjajcldmkmgkaaDoor.E
open Go.RowKit Go.Proofs.YtjjajcldmkmgkaaDoor.PA Go.Proofs.YtjjajcldmkmgkaaDoorW.PrintWords Go.Proofs.YtjjajcldmkmgkaaDoorW.PrintLast Go.Proofs.YtjjajcldmkmgkaaDoorW.PrintMore
set_option linter.unusedVariables false
set_option linter.unusedSimpArgs false
theorem gapsS_gps {v : List Int} (hl : v.length ≤ 1099511627776) : Ev (fun k => spec_Gaps.f k v) (gps v) := by
 unfold spec_Gaps.f
 refine ev_bind _ (sgS_ev hl) ?_
 by_cases c : SG v
 · rw [gps_sg c]; exact ev_ifp (by simpa using c) (ev_bind _ (l4Gaps_ev c) (Ev.now _))
 · rw [gps_no c]; exact ev_ifn (by simpa using c) (Ev.now _)
theorem frI_ev {v : List Int} (hl : v.length ≤ 1099511627776) : Ev (fun k => impl_FrobeniusOf.f k v) (fob v) := by
 have g := gps_len v
 unfold impl_FrobeniusOf.f fob
 refine ev_bind _ (gapsI_gps hl) ?_
 by_cases c : (gps v).length = 0
 · rw [if_pos c]; exact ev_ifp (by omega) (Ev.now _)
 · rw [if_neg c, w64 (x := ((gps v).length : Int) - 1) (by omega) (by omega)]
   exact ev_ifn (by omega) (ev_ifp (by omega) (ev_ifp (by omega) (Ev.now _)))
theorem frS_ev {v : List Int} (hl : v.length ≤ 1099511627776) : Ev (fun k => spec_FrobeniusOf.f k v) (fob v) := by
 have g := gps_len v
 unfold spec_FrobeniusOf.f fob
 refine ev_bind _ (gapsS_gps hl) ?_
 by_cases c : (gps v).length = 0
 · rw [if_pos c]; exact ev_ifp (by omega) (Ev.now _)
 · rw [if_neg c, w64 (x := ((gps v).length : Int) - 1) (by omega) (by omega)]
   exact ev_ifn (by omega) (ev_ifp (by omega) (ev_ifp (by omega) (Ev.now _)))
theorem fob_small (v : List Int) : -1 ≤ fob v ∧ fob v ≤ 199 := by
 by_cases c : SG v
 · have := cd_fact c; unfold cd at this; omega
 · rw [fob_none (gps_no c)]; omega
end Go.Proofs.YtjjajcldmkmgkaaDoor.E
end
section
namespace Go.Proofs.YtjjajcldmkmgkaaDoor.E
open Go.RowKit Go.Proofs.YtjjajcldmkmgkaaDoor.PA Go.Proofs.YtjjajcldmkmgkaaDoorW.PrintWords Go.Proofs.YtjjajcldmkmgkaaDoorW.PrintLast Go.Proofs.YtjjajcldmkmgkaaDoorW.PrintMore
set_option linter.unusedVariables false
set_option linter.unusedSimpArgs false
theorem genusI_ev {v : List Int} (hl : v.length ≤ 1099511627776) : Ev (fun k => impl_GenusOf.f k v) (if SG v then ((gp v).length : Int) else -1) := by
 unfold impl_GenusOf.f
 refine ev_bind _ (sgI_ev hl) ?_
 by_cases c : SG v
 · rw [if_pos c]
   refine ev_ifp (by simpa using c) (ev_bind _ (gapsI_gps hl) ?_)
   rw [gps_sg c]; exact Ev.now _
 · rw [if_neg c]; exact ev_ifn (by simpa using c) (Ev.now _)
theorem genusS_ev {v : List Int} (hl : v.length ≤ 1099511627776) : Ev (fun k => spec_GenusOf.f k v) (if SG v then ((gp v).length : Int) else -1) := by
 unfold spec_GenusOf.f
 refine ev_bind _ (sgS_ev hl) ?_
 by_cases c : SG v
 · rw [if_pos c]; exact ev_ifp (by simpa using c) (ev_bind _ (l4Gaps_ev c) (Ev.now _))
 · rw [if_neg c]; exact ev_ifn (by simpa using c) (Ev.now _)
end Go.Proofs.YtjjajcldmkmgkaaDoor.E
end
section
namespace Go.Proofs.YtjjajcldmkmgkaaDoor.E
open Go.RowKit Go.Proofs.YtjjajcldmkmgkaaDoor.PA Go.Proofs.YtjjajcldmkmgkaaDoorW.PrintWords Go.Proofs.YtjjajcldmkmgkaaDoorW.PrintLast Go.Proofs.YtjjajcldmkmgkaaDoorW.PrintMore
set_option linter.unusedVariables false
set_option linter.unusedSimpArgs false
theorem has_l {g : List Int} (hl : g.length ≤ 1099511627776) (n : Int) (d : Nat) : ∀ i : Int, 0 ≤ i → i + d = g.length → Ev (fun k => spec_HasNumber.l0 k g n i) (decide (n ∈ g.drop i.toNat)) := by
 induction d with
 | zero =>
  intro i h0 h1
  refine Ev.step (fun k => by rw [spec_HasNumber.l0]) (ev_ifn (by omega) (ev_to (Ev.now _) ?_))
  rw [List.drop_of_length_le (by omega)]; simp
 | succ d ih =>
  intro i h0 h1
  refine Ev.step (fun k => by rw [spec_HasNumber.l0]) ?_
  rw [w64 (x := i + 1) (by omega) (by omega), drop_rd h0 (by omega)]
  refine ev_ifp (by omega) (ev_ifp h0 ?_)
  by_cases c : rd g i = n
  · exact ev_ifp c (ev_to (Ev.now _) (by simp [c]))
  · refine ev_ifn c (ev_to (ih (i + 1) (by omega) (by omega)) ?_)
    simp [Ne.symm c]
theorem has_ev {g : List Int} (hl : g.length ≤ 1099511627776) (n : Int) : Ev (fun k => spec_HasNumber.f k g n) (decide (n ∈ g)) := by
 unfold spec_HasNumber.f
 exact ev_to (has_l hl n g.length 0 (by omega) (by omega)) (by simp)
end Go.Proofs.YtjjajcldmkmgkaaDoor.E
end
section
namespace Go.Proofs.YtjjajcldmkmgkaaDoor.E
open Go.RowKit Go.Proofs.YtjjajcldmkmgkaaDoor.PA Go.Proofs.YtjjajcldmkmgkaaDoorW.PrintWords Go.Proofs.YtjjajcldmkmgkaaDoorW.PrintLast Go.Proofs.YtjjajcldmkmgkaaDoorW.PrintMore
set_option linter.unusedVariables false
set_option linter.unusedSimpArgs false
noncomputable def pfb (v : List Int) (x : Int) (i : Int) : Bool := @decide (∀ j : Int, i ≤ j → j < v.length → Su v (x + rd v j)) (Classical.propDecidable _)
theorem pfb_t {v : List Int} {x i : Int} : pfb v x i = true ↔ ∀ j : Int, i ≤ j → j < v.length → Su v (x + rd v j) := by unfold pfb; exact @decide_eq_true_iff _ (Classical.propDecidable _)
theorem pfb_end {v : List Int} {x i : Int} (h : (v.length : Int) ≤ i) : pfb v x i = true := pfb_t.2 fun j h1 h2 => by omega
theorem pfb_step {v : List Int} {x i : Int} (h : i < v.length) : (decide (Su v (x + rd v i)) && pfb v x (i + 1)) = pfb v x i := by
 rw [Bool.eq_iff_iff, Bool.and_eq_true, decide_eq_true_eq, pfb_t, pfb_t]
 refine ⟨fun k j h1 h2 => ?_, fun k => ⟨k i (Int.le_refl _) h, fun j h1 h2 => k j (by omega) h2⟩⟩
 by_cases c : j = i
 · subst c; exact k.1
 · exact k.2 j (by omega) h2
noncomputable def pff (v : List Int) (g : List Int) : List Int := g.filter fun x => pfb v x 0
theorem pfI_in {v : List Int} (h : SG v) {g : List Int} {i x : Int} {out r : List Int} (hx : 0 ≤ x ∧ x < 200) {c : Bool}
 (H : Ev (fun k => if c = true then (if out.length < 17592186044416 then (impl_PseudoFrobenius.l0 k (out ++ [x]) (stab v 260) g (g.length : Int) (wrap64 (i + 1)) v) else none) else (impl_PseudoFrobenius.l0 k out (stab v 260) g (g.length : Int) (wrap64 (i + 1)) v)) r)
 (d : Nat) : ∀ (j : Int) (b : Bool), 0 ≤ j → j + d = v.length → (b && pfb v x j) = c → Ev (fun k => impl_PseudoFrobenius.l1 k out (stab v 260) x b g (g.length : Int) i v (v.length : Int) j v) r := by
 have sl := stab_len (v := v) (m := 260) (by omega)
 have l := h.len
 induction d with
 | zero =>
  intro j b h0 h1 hb
  rw [pfb_end (by omega), Bool.and_true] at hb
  subst hb
  exact Ev.step (fun k => by rw [impl_PseudoFrobenius.l1]) (ev_ifn (by omega) H)
 | succ d ih =>
  intro j b h0 h1 hb
  have m := h.ul.2 _ (rd_mem (l := v) h0 (by omega))
  refine Ev.step (fun k => by rw [impl_PseudoFrobenius.l1]) ?_
  rw [w64 (x := j + 1) (by omega) (by omega), w64 (x := x + rd v j) (by omega) (by omega), stab_rd (v := v) (m := 260) (j := x + rd v j) (by omega) (by omega)]
  refine ev_ifp (by omega) (ev_ifp h0 (ev_ifp (by omega) ?_))
  cases b with
  | true => exact ev_ifp rfl (ev_ifp (by omega) (ev_ifp (by omega) (ih (j + 1) _ (by omega) (by omega) (by rw [pfb_step (by omega)]; simpa using hb))))
  | false => exact ev_ifn (by simp) (ih (j + 1) _ (by omega) (by omega) (by simpa using hb))
theorem pfI_l0 {v : List Int} (h : SG v) {g : List Int} (hg : ∀ x ∈ g, 0 ≤ x ∧ x < 200) (hl : g.length ≤ 1000) (d : Nat) : ∀ (i : Int) (out : List Int), 0 ≤ i → i + d = g.length → (out.length : Int) ≤ i → Ev (fun k => impl_PseudoFrobenius.l0 k out (stab v 260) g (g.length : Int) i v) (out ++ pff v (g.drop i.toNat)) := by
 induction d with
 | zero =>
  intro i out h0 h1 h2
  refine Ev.step (fun k => by rw [impl_PseudoFrobenius.l0]) (ev_ifn (by omega) (ev_to (Ev.now _) ?_))
  rw [List.drop_of_length_le (by omega)]; simp [pff]
 | succ d ih =>
  intro i out h0 h1 h2
  have m := hg _ (rd_mem (l := g) h0 (by omega))
  refine Ev.step (fun k => by rw [impl_PseudoFrobenius.l0]) (ev_ifp (by omega) (ev_ifp h0 (ev_ifp (by omega) ?_)))
  refine pfI_in h m (c := pfb v (rd g i) 0) ?_ v.length 0 true (by omega) (by omega) (by simp)
  rw [w64 (x := i + 1) (by omega) (by omega), drop_rd h0 (by omega)]
  by_cases c : pfb v (rd g i) 0 = true
  · refine ev_ifp c (ev_ifp (by omega) (ev_to (ih (i + 1) (out ++ [rd g i]) (by omega) (by omega) (by simp; omega)) ?_))
    unfold pff
    rw [List.filter_cons_of_pos (by simpa using c)]; simp
  · refine ev_ifn c (ev_to (ih (i + 1) out (by omega) (by omega) (by omega)) ?_)
    unfold pff
    rw [List.filter_cons_of_neg (by simpa using c)]
theorem pfS_in {v : List Int} (h : SG v) {i : Int} {out r : List Int} (hi : 0 ≤ i ∧ i < (gp v).length) {c : Bool}
 (H : Ev (fun k => if c = true then (if 0 ≤ i then (if i < ((gp v).length : Int) then (if out.length < 17592186044416 then (spec_PseudoFrobenius.l0 k (out ++ [rd (gp v) i]) (gp v) (wrap64 (i + 1)) v) else none) else none) else none) else (spec_PseudoFrobenius.l0 k out (gp v) (wrap64 (i + 1)) v)) r)
 (d : Nat) : ∀ (j : Int) (b : Bool), 0 ≤ j → j + d = v.length → (b && pfb v (rd (gp v) i) j) = c → Ev (fun k => spec_PseudoFrobenius.l1 k out (gp v) i b j v) r := by
 have l := h.len
 have gl := gp_len v
 have gm := gp_mem.1 (rd_mem (l := gp v) hi.1 hi.2)
 induction d with
 | zero =>
  intro j b h0 h1 hb
  rw [pfb_end (by omega), Bool.and_true] at hb
  subst hb
  exact Ev.step (fun k => by rw [spec_PseudoFrobenius.l1]) (ev_ifn (by omega) H)
 | succ d ih =>
  intro j b h0 h1 hb
  have m := h.ul.2 _ (rd_mem (l := v) h0 (by omega))
  refine Ev.step (fun k => by rw [spec_PseudoFrobenius.l1]) ?_
  rw [w64 (x := j + 1) (by omega) (by omega), w64 (x := rd (gp v) i + rd v j) (by omega) (by omega)]
  refine ev_ifp (by omega) ?_
  cases b with
  | true =>
   refine ev_ifp rfl (ev_ifp hi.1 (ev_ifp hi.2 (ev_ifp h0 (ev_bind _ (has_ev (by omega) _) (ih (j + 1) _ (by omega) (by omega) ?_)))))
   rw [show (!decide (rd (gp v) i + rd v j ∈ gp v)) = decide (Su v (rd (gp v) i + rd v j)) from ?_, pfb_step (by omega)]
   · simpa using hb
   · rw [← decide_not, decide_eq_decide, gp_mem]
     refine ⟨fun k => Classical.byContradiction fun q => k ⟨by omega, ?_, q⟩, fun k q => q.2.2 k⟩
     exact Classical.byContradiction fun z => q (h.ends _ (by omega))
  | false => exact ev_ifn (by simp) (ih (j + 1) _ (by omega) (by omega) (by simpa using hb))
theorem pfS_l0 {v : List Int} (h : SG v) (d : Nat) : ∀ (i : Int) (out : List Int), 0 ≤ i → i + d = (gp v).length → (out.length : Int) ≤ i → Ev (fun k => spec_PseudoFrobenius.l0 k out (gp v) i v) (out ++ pff v ((gp v).drop i.toNat)) := by
 have gl := gp_len v
 induction d with
 | zero =>
  intro i out h0 h1 h2
  refine Ev.step (fun k => by rw [spec_PseudoFrobenius.l0]) (ev_ifn (by omega) (ev_to (Ev.now _) ?_))
  rw [List.drop_of_length_le (by omega)]; simp [pff]
 | succ d ih =>
  intro i out h0 h1 h2
  refine Ev.step (fun k => by rw [spec_PseudoFrobenius.l0]) (ev_ifp (by omega) ?_)
  refine pfS_in h ⟨h0, by omega⟩ (c := pfb v (rd (gp v) i) 0) ?_ v.length 0 true (by omega) (by omega) (by simp)
  rw [w64 (x := i + 1) (by omega) (by omega), drop_rd h0 (by omega)]
  by_cases c : pfb v (rd (gp v) i) 0 = true
  · refine ev_ifp c (ev_ifp h0 (ev_ifp (by omega) (ev_ifp (by omega) (ev_to (ih (i + 1) (out ++ [rd (gp v) i]) (by omega) (by omega) (by simp; omega)) ?_))))
    unfold pff
    rw [List.filter_cons_of_pos (by simpa using c)]; simp
  · refine ev_ifn c (ev_to (ih (i + 1) out (by omega) (by omega) (by omega)) ?_)
    unfold pff
    rw [List.filter_cons_of_neg (by simpa using c)]
theorem pfI_ev {v : List Int} (h : SG v) : Ev (fun k => impl_PseudoFrobenius.f k v) (pff v (gp v)) := by
 have l := h.len
 have gl := gp_len v
 unfold impl_PseudoFrobenius.f
 refine ev_bind _ (sgI_ev (by omega)) (ev_ifp (by simpa using h) (ev_bind _ (h.sutab (by omega) (by omega)) (ev_bind _ (ev_to (gapsI_ev (by omega)) (if_pos h)) ?_)))
 exact pfI_l0 h (fun x hx => by have := gp_mem.1 hx; omega) (by omega) (gp v).length 0 [] (by omega) (by omega) (by simp)
theorem pfS_ev {v : List Int} (h : SG v) : Ev (fun k => spec_PseudoFrobenius.f k v) (pff v (gp v)) := by
 have l := h.len
 unfold spec_PseudoFrobenius.f
 refine ev_bind _ (ev_to (gapsS_gps (by omega)) (gps_sg h)) ?_
 exact pfS_l0 h (gp v).length 0 [] (by omega) (by omega) (by simp)
noncomputable def typ (v : List Int) : Int := if (gp v).length = 0 then 1 else ((pff v (gp v)).length : Int)
theorem pff_len (v : List Int) : (pff v (gp v)).length ≤ 199 := Nat.le_trans (List.length_filter_le ..) (gp_len v)
theorem pff_pos {v : List Int} (h : SG v) (hn : (gp v).length ≠ 0) : 1 ≤ (pff v (gp v)).length := by
 have hn' : gp v ≠ [] := by simpa using hn
 obtain ⟨a, b, c, e⟩ := fob_some h hn'
 refine List.length_pos_of_mem (a := fob v) (List.mem_filter.2 ⟨gp_mem.2 ⟨a, b, c⟩, pfb_t.2 fun j h1 h2 => e _ ?_⟩)
 have := (h.ul.2 _ (rd_mem (l := v) h1 h2)).1
 omega
theorem typI_ev {v : List Int} (h : SG v) : Ev (fun k => impl_TypeOf.f k v) (typ v) := by
 have l := h.len
 unfold impl_TypeOf.f typ
 refine ev_bind _ (sgI_ev (by omega)) (ev_ifp (by simpa using h) (ev_bind _ (ev_to (genusI_ev (by omega)) (if_pos h)) ?_))
 by_cases c : (gp v).length = 0
 · rw [if_pos c]; exact ev_ifp (by omega) (Ev.now _)
 · rw [if_neg c]; exact ev_ifn (by omega) (ev_bind _ (pfI_ev h) (Ev.now _))
theorem typS_ev {v : List Int} (h : SG v) : Ev (fun k => spec_TypeOf.f k v) (typ v) := by
 have l := h.len
 unfold spec_TypeOf.f typ
 refine ev_bind _ (sgS_ev (by omega)) (ev_ifp (by simpa using h) (ev_bind _ (pfS_ev h) (ev_bind _ (ev_eq (r := if (gp v).length = 0 then (1 : Int) else ((pff v (gp v)).length : Int)) ?_) (Ev.now _))))
 unfold spec_l1Max.f
 by_cases c : (gp v).length = 0
 · have : gp v = [] := by simpa using c
   rw [if_pos c, this]; rfl
 · have := pff_pos h c
   rw [if_neg c]
   split
   · congr 1; omega
   · rfl
end Go.Proofs.YtjjajcldmkmgkaaDoor.E
end
section
namespace Go.Proofs.YtjjajcldmkmgkaaDoor.E
open Go.RowKit Go.Proofs.YtjjajcldmkmgkaaDoor.PA Go.Proofs.YtjjajcldmkmgkaaDoorW.PrintWords Go.Proofs.YtjjajcldmkmgkaaDoorW.PrintLast Go.Proofs.YtjjajcldmkmgkaaDoorW.PrintMore
set_option linter.unusedVariables false
set_option linter.unusedSimpArgs false
theorem cdI_ev {v : List Int} (hl : v.length ≤ 1099511627776) : Ev (fun k => impl_ConductorOf.f k v) (cd v) := by
 have := fob_small v
 unfold impl_ConductorOf.f cd
 refine ev_bind _ (frI_ev hl) ?_
 rw [w64 (by omega) (by omega)]; exact Ev.now _
theorem cdS_ev {v : List Int} (hl : v.length ≤ 1099511627776) : Ev (fun k => spec_ConductorOf.f k v) (cd v) := by
 have := fob_small v
 unfold spec_ConductorOf.f cd
 refine ev_bind _ (frS_ev hl) ?_
 rw [w64 (by omega) (by omega)]; exact Ev.now _
end Go.Proofs.YtjjajcldmkmgkaaDoor.E
end
section
namespace Go.Proofs.YtjjajcldmkmgkaaDoor.E
open Go.RowKit Go.Proofs.YtjjajcldmkmgkaaDoor.PA Go.Proofs.YtjjajcldmkmgkaaDoorW.PrintWords Go.Proofs.YtjjajcldmkmgkaaDoorW.PrintLast Go.Proofs.YtjjajcldmkmgkaaDoorW.PrintMore
set_option linter.unusedVariables false
set_option linter.unusedSimpArgs false
theorem smI_l {v : List Int} {c : Int} (hc : c ≤ 200) (d : Nat) : ∀ (i : Int) (out : List Int), 0 ≤ i → i + d = c → (out.length : Int) ≤ i → Ev (fun k => impl_SmallElements.l0 k out (stab v 200) c i) (out ++ fl (fun n => decide (Su v n)) i d) := by
 have sl := stab_len (v := v) (m := 200) (by omega)
 induction d with
 | zero =>
  intro i out h0 h1 h2
  refine Ev.step (fun k => by rw [impl_SmallElements.l0]) (ev_ifn (by omega) (ev_to (Ev.now _) ?_))
  simp [fl]
 | succ d ih =>
  intro i out h0 h1 h2
  have s := stab_iff (v := v) (m := 200) h0 (by omega)
  refine Ev.step (fun k => by rw [impl_SmallElements.l0]) ?_
  rw [w64 (x := i + 1) (by omega) (by omega)]
  by_cases c : Su v i
  · rw [fl_yes (by simpa using c)]
    refine ev_ifp (by omega) (ev_ifp h0 (ev_ifp (by omega) (ev_ifp (s.2 c) (ev_ifp (by omega) (ev_to (ih (i + 1) (out ++ [i]) (by omega) (by omega) (by simp; omega)) ?_)))))
    simp
  · rw [fl_no (by simpa using c)]
    exact ev_ifp (by omega) (ev_ifp h0 (ev_ifp (by omega) (ev_ifn (fun h => c (s.1 h)) (ih (i + 1) out (by omega) (by omega) (by omega)))))
theorem smS_l {v : List Int} {c : Int} (hc : c ≤ 1000) (hc0 : 0 ≤ c) (d : Nat) : ∀ (i : Int) (out : List Int), 0 ≤ i → i + d = c → (out.length : Int) ≤ i → Ev (fun k => spec_l4Small.l0 k c out (stab v c) i) (out ++ fl (fun n => decide (Su v n)) i d) := by
 have sl := stab_len (v := v) (m := c) hc0
 induction d with
 | zero =>
  intro i out h0 h1 h2
  refine Ev.step (fun k => by rw [spec_l4Small.l0]) (ev_ifn (by omega) (ev_to (Ev.now _) ?_))
  simp [fl]
 | succ d ih =>
  intro i out h0 h1 h2
  have s := stab_iff (v := v) (m := c) h0 (by omega)
  refine Ev.step (fun k => by rw [spec_l4Small.l0]) ?_
  rw [w64 (x := i + 1) (by omega) (by omega)]
  by_cases c : Su v i
  · rw [fl_yes (by simpa using c)]
    refine ev_ifp (by omega) (ev_ifp h0 (ev_ifp (by omega) (ev_ifp (s.2 c) (ev_ifp (by omega) (ev_to (ih (i + 1) (out ++ [i]) (by omega) (by omega) (by simp; omega)) ?_)))))
    simp
  · rw [fl_no (by simpa using c)]
    exact ev_ifp (by omega) (ev_ifp h0 (ev_ifp (by omega) (ev_ifn (fun h => c (s.1 h)) (ih (i + 1) out (by omega) (by omega) (by omega)))))
theorem l4Small_ev {v : List Int} (h : SG v) {c : Int} (hc : c ≤ 1000) : Ev (fun k => spec_l4Small.f k v c) (sml v c) := by
 unfold spec_l4Small.f sml
 simp only [Option.bind_some]
 by_cases e : c < 1
 · rw [show c.toNat = 0 from by omega]; exact ev_ifp e (Ev.now _)
 · exact ev_ifn e (ev_bind _ (h.sutabS (by omega) (by omega)) (smS_l hc (by omega) c.toNat 0 [] (by omega) (by omega) (by simp)))
noncomputable def sme (v : List Int) : List Int := if SG v then sml v (cd v) else []
theorem sme_len (v : List Int) : (sme v).length ≤ 200 := by
 unfold sme; split
 · rename_i c
   have := sml_len v (cd v); have := cd_fact c; omega
 · simp
theorem smI_ev {v : List Int} (hl : v.length ≤ 1099511627776) : Ev (fun k => impl_SmallElements.f k v) (sme v) := by
 unfold impl_SmallElements.f sme
 refine ev_bind _ (sgI_ev hl) ?_
 by_cases c : SG v
 · have f := cd_fact c
   rw [if_pos c]
   exact ev_ifp (by simpa using c) (ev_bind _ (c.sutab (by omega) (by omega)) (ev_bind _ (cdI_ev hl) (smI_l f.2.1 (cd v).toNat 0 [] (by omega) (by omega) (by simp))))
 · rw [if_neg c]; exact ev_ifn (by simpa using c) (Ev.now _)
theorem smS_ev {v : List Int} (hl : v.length ≤ 1099511627776) : Ev (fun k => spec_SmallElements.f k v) (sme v) := by
 unfold spec_SmallElements.f sme
 refine ev_bind _ (sgS_ev hl) ?_
 by_cases c : SG v
 · have f := cd_fact c
   rw [if_pos c]
   exact ev_ifp (by simpa using c) (ev_bind _ (cdS_ev hl) (ev_bind _ (l4Small_ev c (by omega)) (Ev.now _)))
 · rw [if_neg c]; exact ev_ifn (by simpa using c) (Ev.now _)
end Go.Proofs.YtjjajcldmkmgkaaDoor.E
end
section
namespace Go.Proofs.YtjjajcldmkmgkaaDoor.E
open Go.RowKit Go.Proofs.YtjjajcldmkmgkaaDoor.PA Go.Proofs.YtjjajcldmkmgkaaDoorW.PrintWords Go.Proofs.YtjjajcldmkmgkaaDoorW.PrintLast Go.Proofs.YtjjajcldmkmgkaaDoorW.PrintMore
set_option linter.unusedVariables false
set_option linter.unusedSimpArgs false
noncomputable def mir (v : List Int) (f but x : Int) : Bool := @decide (∀ y, x ≤ y → y ≤ f → y ≠ but → ¬ (Su v y ↔ Su v (f - y))) (Classical.propDecidable _)
theorem mir_t {v : List Int} {f but x : Int} : mir v f but x = true ↔ ∀ y, x ≤ y → y ≤ f → y ≠ but → ¬ (Su v y ↔ Su v (f - y)) := by unfold mir; exact @decide_eq_true_iff _ (Classical.propDecidable _)
theorem mir_end {v : List Int} {f but x : Int} (h : f < x) : true = mir v f but x := (mir_t.2 fun y h1 h2 _ => by omega).symm
theorem mir_skip {v : List Int} {f but x : Int} (h : x = but) : mir v f but (x + 1) = mir v f but x := by
 rw [Bool.eq_iff_iff, mir_t, mir_t]
 exact ⟨fun k y h1 h2 h3 => k y (by omega) h2 h3, fun k y h1 h2 h3 => k y (by omega) h2 h3⟩
theorem mir_no {v : List Int} {f but x : Int} (hx : x ≤ f) (h : x ≠ but) (e : Su v x ↔ Su v (f - x)) : false = mir v f but x := by
 symm
 rw [Bool.eq_false_iff]
 exact fun k => mir_t.1 k x (Int.le_refl _) hx h e
theorem mir_yes {v : List Int} {f but x : Int} (e : ¬ (Su v x ↔ Su v (f - x))) : mir v f but (x + 1) = mir v f but x := by
 rw [Bool.eq_iff_iff, mir_t, mir_t]
 refine ⟨fun k y h1 h2 h3 => ?_, fun k y h1 h2 h3 => k y (by omega) h2 h3⟩
 by_cases c : y = x
 · subst c; exact e
 · exact k y (by omega) h2 h3
theorem same_su {v : List Int} {a b : Int} : ((decide (Su v a) == decide (Su v b)) = true) ↔ (Su v a ↔ Su v b) := by rw [beq_iff_eq, decide_eq_decide]
theorem halved_l {v : List Int} {f but : Int} (hf : f ≤ 199) (d : Nat) : ∀ x : Int, 0 ≤ x → x + d = f + 1 → Ev (fun k => impl_halved.l0 k but f (stab v 200) x) (mir v f but x) := by
 have sl := stab_len (v := v) (m := 200) (by omega)
 induction d with
 | zero =>
  intro x h0 h1
  exact Ev.step (fun k => by rw [impl_halved.l0]) (ev_ifn (by omega) (ev_to (Ev.now _) (mir_end (by omega))))
 | succ d ih =>
  intro x h0 h1
  refine Ev.step (fun k => by rw [impl_halved.l0]) ?_
  rw [w64 (x := x + 1) (by omega) (by omega), w64 (x := f - x) (by omega) (by omega), stab_rd (v := v) (m := 200) h0 (by omega), stab_rd (v := v) (m := 200) (j := f - x) (by omega) (by omega)]
  refine ev_ifp (by omega) ?_
  by_cases c : x = but
  · exact ev_ifp c (ev_to (ih (x + 1) (by omega) (by omega)) (mir_skip c))
  · refine ev_ifn c (ev_ifp h0 (ev_ifp (by omega) (ev_ifp (by omega) (ev_ifp (by omega) ?_))))
    by_cases e : (Su v x ↔ Su v (f - x))
    · exact ev_ifp (same_su.2 e) (ev_to (Ev.now _) (mir_no (by omega) c e))
    · exact ev_ifn (fun k => e (same_su.1 k)) (ev_to (ih (x + 1) (by omega) (by omega)) (mir_yes e))
theorem halved_ev {v : List Int} (h : SG v) (but : Int) : Ev (fun k => impl_halved.f k v but) (mir v (fob v) but 0) := by
 have fs := fob_small v
 have l := h.len
 unfold impl_halved.f
 exact ev_bind _ (frI_ev (by omega)) (ev_bind _ (h.sutab (by omega) (by omega)) (halved_l fs.2 (fob v + 1).toNat 0 (by omega) (by omega)))
theorem has3_ev {v : List Int} (h : SG v) (a : Int) : Ev (fun k => spec_l3Has.f k v a) (decide (Su v a)) := by
 unfold spec_l3Has.f
 by_cases h0 : a < 0
 · refine ev_ifp h0 (ev_to (Ev.now _) ?_)
   rw [decide_eq_decide]
   exact ⟨fun k => by omega, fun k => by have := k.pos h.pos; omega⟩
 refine ev_ifn h0 ?_
 by_cases h2 : a ≥ 200
 · refine ev_ifp h2 (ev_to (Ev.now _) ?_)
   rw [decide_eq_decide]
   exact ⟨fun _ => h.ends a h2, fun _ => by omega⟩
 have sl := stab_len (v := v) (m := a) (by omega)
 exact ev_ifn h2 (ev_bind _ (h.sutabS (by omega) (by omega)) (ev_ifp (by omega) (ev_ifp (by omega) (ev_to (Ev.now _) (stab_rd (by omega) (Int.le_refl _))))))
theorem mirror_l {v : List Int} (h : SG v) {f but : Int} {m : Bool} (hf : f ≤ 199) (hm : ∀ y, 0 ≤ y → y ≤ f → (y = but ↔ m = true ∧ 2 * y = f)) (d : Nat) : ∀ x : Int, 0 ≤ x → x + d = f + 1 → Ev (fun k => spec_l9Mirror.l0 k m f x v) (mir v f but x) := by
 induction d with
 | zero =>
  intro x h0 h1
  exact Ev.step (fun k => by rw [spec_l9Mirror.l0]) (ev_ifn (by omega) (ev_to (Ev.now _) (mir_end (by omega))))
 | succ d ih =>
  intro x h0 h1
  have hj : ∀ b : Bool, (b = true ↔ x = but) → Ev (fun k => spec_l9Mirror.j1 k m f x b v) (mir v f but x) := fun b hb => by
   refine Ev.step (fun k => by rw [spec_l9Mirror.j1]) ?_
   rw [w64 (x := x + 1) (by omega) (by omega), w64 (x := f - x) (by omega) (by omega)]
   by_cases c : x = but
   · exact ev_ifp (hb.2 c) (ev_to (ih (x + 1) (by omega) (by omega)) (mir_skip c))
   · refine ev_ifn (fun k => c (hb.1 k)) (ev_bind _ (has3_ev h x) (ev_bind _ (has3_ev h (f - x)) ?_))
     by_cases e : (Su v x ↔ Su v (f - x))
     · exact ev_ifp (same_su.2 e) (ev_to (Ev.now _) (mir_no (by omega) c e))
     · exact ev_ifn (fun k => e (same_su.1 k)) (ev_to (ih (x + 1) (by omega) (by omega)) (mir_yes e))
  refine Ev.step (fun k => by rw [spec_l9Mirror.l0]) (ev_ifp (by omega) ?_)
  have q := hm x h0 (by omega)
  cases m with
  | true => exact ev_ifp rfl (hj _ (by rw [w64 (by omega) (by omega), beq_iff_eq, q]; simp))
  | false => exact ev_ifn (by simp) (hj _ (by rw [q]; simp))
theorem mirror_ev {v : List Int} (h : SG v) {but : Int} {m : Bool} (hm : ∀ y, 0 ≤ y → y ≤ fob v → (y = but ↔ m = true ∧ 2 * y = fob v)) : Ev (fun k => spec_l9Mirror.f k v m) (mir v (fob v) but 0) := by
 have fs := fob_small v
 have l := h.len
 unfold spec_l9Mirror.f
 exact ev_bind _ (frS_ev (by omega)) (mirror_l h fs.2 hm (fob v + 1).toNat 0 (by omega) (by omega))
theorem symI_ev {v : List Int} (h : SG v) : Ev (fun k => impl_IsSymmetric.f k v) (mir v (fob v) (-1) 0) := by
 have l := h.len
 unfold impl_IsSymmetric.f
 exact ev_bind _ (sgI_ev (by omega)) (ev_ifp (by simpa using h) (ev_bind _ (halved_ev h (-1)) (Ev.now _)))
theorem symS_ev {v : List Int} (h : SG v) : Ev (fun k => spec_IsSymmetric.f k v) (mir v (fob v) (-1) 0) := by
 have l := h.len
 unfold spec_IsSymmetric.f
 exact ev_bind _ (sgS_ev (by omega)) (ev_ifp (by simpa using h) (ev_bind _ (mirror_ev h fun y h0 h1 => ⟨fun e => by omega, fun e => by simp at e⟩) (Ev.now _)))
noncomputable def psy (v : List Int) : Bool := if 0 < fob v ∧ fob v % 2 = 0 then mir v (fob v) (fob v / 2) 0 else false
theorem psyI_ev {v : List Int} (h : SG v) : Ev (fun k => impl_IsPseudoSymmetric.f k v) (psy v) := by
 have l := h.len
 have fs := fob_small v
 have nz : fob v ≠ 0 := fun e => by have := cd_fact h; unfold cd at this; omega
 unfold impl_IsPseudoSymmetric.f psy
 refine ev_bind _ (frI_ev (by omega)) (ev_bind _ (sgI_ev (by omega)) (ev_ifp (by simpa using h) ?_))
 by_cases c : fob v ≥ 0
 · refine ev_ifp c ?_
   rw [Int.tmod_eq_emod_of_nonneg c, Int.tdiv_eq_ediv_of_nonneg c, w64 (by omega) (by omega)]
   by_cases e : fob v % 2 = 0
   · rw [if_pos ⟨by omega, e⟩]; exact ev_ifp e (ev_bind _ (halved_ev h _) (Ev.now _))
   · rw [if_neg (fun k => e k.2)]; exact ev_ifn e (Ev.now _)
 · rw [if_neg (fun k => c (by omega))]; exact ev_ifn c (Ev.now _)
theorem psyS_ev {v : List Int} (h : SG v) : Ev (fun k => spec_IsPseudoSymmetric.f k v) (psy v) := by
 have l := h.len
 have fs := fob_small v
 unfold spec_IsPseudoSymmetric.f psy
 refine ev_bind _ (frS_ev (by omega)) ?_
 by_cases c : fob v > 0
 · refine ev_ifp c ?_
   rw [Int.tmod_eq_emod_of_nonneg (by omega)]
   by_cases e : fob v % 2 = 0
   · rw [if_pos ⟨by omega, e⟩]
     exact ev_ifp e (ev_bind _ (mirror_ev h fun y h0 h1 => ⟨fun q => ⟨rfl, by omega⟩, fun q => by omega⟩) (Ev.now _))
   · rw [if_neg (fun k => e k.2)]; exact ev_ifn e (Ev.now _)
 · rw [if_neg (fun k => c (by omega))]; exact ev_ifn c (Ev.now _)
end Go.Proofs.YtjjajcldmkmgkaaDoor.E
end
section
namespace Go.Proofs.YtjjajcldmkmgkaaDoor.E
open Go.RowKit Go.Proofs.YtjjajcldmkmgkaaDoor.PA Go.Proofs.YtjjajcldmkmgkaaDoorW.PrintWords Go.Proofs.YtjjajcldmkmgkaaDoorW.PrintLast Go.Proofs.YtjjajcldmkmgkaaDoorW.PrintMore
set_option linter.unusedVariables false
set_option linter.unusedSimpArgs false
def ba (l : List UInt8) : ByteArray := ⟨l.toArray⟩
def tn (l : List UInt8) : List Int := l.map fun b => (b.toNat : Int)
theorem ba_app (a b : List UInt8) : ba a ++ ba b = ba (a ++ b) := ByteArray.ext (by simp [ba])
theorem ba_size (l : List UInt8) : (ba l).size = l.length := by simp [ba, ByteArray.size]
theorem ba_list (l : List UInt8) : (ba l).data.toList = l := by simp [ba]
theorem tn_app (a b : List UInt8) : tn (a ++ b) = tn a ++ tn b := by simp [tn]
theorem tn_len (a : List UInt8) : (tn a).length = a.length := by simp [tn]
theorem bytes_ba (l : List UInt8) : bytesOf (ba l) = tn l := by simp [bytesOf, ba, tn]
theorem nums_ba (l : List UInt8) : strOfNums (tn l) = ba l := by
 unfold strOfNums ba tn
 rw [List.map_map]
 congr 2
 conv => rhs; rw [← List.map_id l]
 exact List.map_congr_left fun b _ => by simp
theorem digit_ba (u : Nat) (h : u < 10) : strOfNums [wrap64 (48 + (u : Int)) % 256] = ba [UInt8.ofNat (48 + u)] := by
 rw [w64 (by omega) (by omega), Int.emod_eq_of_lt (by omega) (by omega)]
 unfold strOfNums ba
 simp only [List.map_cons, List.map_nil]
 rw [show ((48 : Int) + (u : Int)).toNat = 48 + u from by omega]
def fmts (n : Int) : List UInt8 := if n < 0 then 45 :: digs_ 17 n.natAbs else digs_ 17 n.toNat
theorem digs_len : ∀ f u, (digs_ f u).length ≤ f + 1
 | 0, u => by simp [digs_]
 | f + 1, u => by
  have := digs_len f (u / 10)
  unfold digs_
  split
  · simp
  · simp; omega
theorem fmts_len (n : Int) : (fmts n).length ≤ 19 := by
 unfold fmts
 split
 · have := digs_len 17 n.natAbs; simp; omega
 · have := digs_len 17 n.toNat; omega
theorem fmtI_eq {n : Int} (h0 : -1000000 < n) (h1 : n < 1000000) (k : Nat) : impl_FormatI.f k n = some (ba (fmts n)) := by
 unfold impl_FormatI.f
 rw [if_pos ⟨by omega, by omega⟩]
 rfl
theorem fmtS_l (f : Nat) : ∀ (u : Nat) (x : Int) (b : Bool) (out : List UInt8), 1 ≤ u → u < 10 ^ (f + 1) → (x = u ∨ x = -(u : Int)) → u ≤ 1000000000 → out.length + f ≤ 1000 → Ev (fun k => spec_FormatInt.l0 k x b (ba out)) (ba ((if b = true then [45] else []) ++ (digs_ f u ++ out))) := by
 have fin : ∀ (b : Bool) (s : List UInt8), s.length ≤ 1002 → Ev (fun k => spec_FormatInt.l0 k 0 b (ba s)) (ba ((if b = true then [45] else []) ++ s)) := fun b s hs => by
  refine Ev.step (fun k => by rw [spec_FormatInt.l0]) (ev_ifp rfl ?_)
  cases b with
  | true =>
   refine ev_ifp rfl (ev_ifp (by rw [ba_size]; omega) (ev_to (Ev.now _) ?_))
   rw [show (⟨#[45]⟩ : ByteArray) = ba [45] from rfl, ba_app]; simp
  | false => exact ev_ifn (by simp) (ev_to (Ev.now _) (by simp))
 have main : ∀ (f : Nat) (u : Nat) (x : Int) (b : Bool) (out : List UInt8), 1 ≤ u → (x = u ∨ x = -(u : Int)) → u ≤ 1000000000 → out.length + f ≤ 1000 → ∀ r, (∀ x' : Int, (x' = ((u / 10 : Nat) : Int) ∨ x' = -((u / 10 : Nat) : Int)) → Ev (fun k => spec_FormatInt.l0 k x' b (ba (UInt8.ofNat (48 + u % 10) :: out))) r) → Ev (fun k => spec_FormatInt.l0 k x b (ba out)) r := by
  intro f u x b out h1 hx hu ho r go
  have dg := digit_ba (u % 10) (by omega)
  have ap : ba [UInt8.ofNat (48 + u % 10)] ++ ba out = ba (UInt8.ofNat (48 + u % 10) :: out) := by rw [ba_app]; rfl
  have sz : (ba [UInt8.ofNat (48 + u % 10)]).size + (ba out).size ≤ 9223372036854775807 := by rw [ba_size, ba_size]; simp; omega
  refine Ev.step (fun k => by rw [spec_FormatInt.l0]) (ev_ifn (by omega) ?_)
  rcases hx with rfl | rfl
  · have t : Int.tmod (u : Int) 10 = ((u % 10 : Nat) : Int) := by rw [Int.tmod_eq_emod_of_nonneg (by omega)]; omega
    have q : Int.tdiv (u : Int) 10 = ((u / 10 : Nat) : Int) := by rw [Int.tdiv_eq_ediv_of_nonneg (by omega)]; omega
    rw [t, q]
    refine ev_ifn (by omega) ?_
    simp only [Option.bind_some]
    rw [dg]
    refine ev_ifp sz ?_
    rw [w64 (x := ((u / 10 : Nat) : Int)) (by omega) (by omega), ap]
    exact go _ (.inl rfl)
  · have t : Int.tmod (-(u : Int)) 10 = -((u % 10 : Nat) : Int) := by rw [Int.neg_tmod, Int.tmod_eq_emod_of_nonneg (by omega)]; omega
    have q : Int.tdiv (-(u : Int)) 10 = -((u / 10 : Nat) : Int) := by rw [Int.neg_tdiv, Int.tdiv_eq_ediv_of_nonneg (by omega)]; omega
    rw [t, q]
    by_cases c : u % 10 = 0
    · refine ev_ifn (by omega) ?_
      simp only [Option.bind_some]
      rw [show (48 : Int) + -((u % 10 : Nat) : Int) = 48 + ((u % 10 : Nat) : Int) from by omega, dg]
      refine ev_ifp sz ?_
      rw [w64 (x := -((u / 10 : Nat) : Int)) (by omega) (by omega), ap]
      exact go _ (.inr rfl)
    · refine ev_ifp (by omega) ?_
      simp only [Option.bind_some]
      rw [w64 (x := - -((u % 10 : Nat) : Int)) (by omega) (by omega), show - -((u % 10 : Nat) : Int) = ((u % 10 : Nat) : Int) from by omega, dg]
      refine ev_ifp sz ?_
      rw [w64 (x := -((u / 10 : Nat) : Int)) (by omega) (by omega), ap]
      exact go _ (.inr rfl)
 have one : ∀ (u : Nat) (x : Int) (b : Bool) (out : List UInt8), 1 ≤ u → u < 10 → (x = u ∨ x = -(u : Int)) → out.length ≤ 1000 → Ev (fun k => spec_FormatInt.l0 k x b (ba out)) (ba ((if b = true then [45] else []) ++ ([UInt8.ofNat (48 + u)] ++ out))) := by
  intro u x b out h1 h2 hx ho
  refine main 0 u x b out h1 hx (by omega) ho _ fun x' hx' => ?_
  have e : x' = 0 := by omega
  rw [e, show u % 10 = u from by omega]
  exact fin b _ (by simp; omega)
 induction f with
 | zero =>
  intro u x b out h1 h2 hx hu ho
  exact one u x b out h1 (by omega) hx (by omega)
 | succ f ih =>
  intro u x b out h1 h2 hx hu ho
  unfold digs_
  by_cases c : u < 10
  · rw [if_pos c]; exact one u x b out h1 c hx (by omega)
  · rw [if_neg c]
    refine main (f + 1) u x b out h1 hx hu ho _ fun x' hx' => ?_
    have := ih (u / 10) x' b (UInt8.ofNat (48 + u % 10) :: out) (by omega) (by rw [Nat.pow_succ] at h2; omega) hx' (by omega) (by simp; omega)
    rw [List.append_assoc (digs_ f (u / 10))]
    exact this
theorem fmtS_ev {n : Int} (h0 : -1000000 < n) (h1 : n < 1000000) : Ev (fun k => spec_FormatInt.f k n) (ba (fmts n)) := by
 unfold spec_FormatInt.f
 by_cases c : n = 0
 · subst c
   exact ev_ifp rfl (ev_to (Ev.now _) rfl)
 · refine ev_ifn c (ev_to (fmtS_l 17 n.natAbs n _ [] (by omega) (by omega) (by omega) (by omega) (by simp)) ?_)
   unfold fmts
   by_cases e : n < 0
   · rw [if_pos e, if_pos (by simpa using e), List.append_nil]; rfl
   · rw [if_neg e, if_neg (by simpa using e), List.append_nil, show n.toNat = n.natAbs from by omega]; rfl
theorem rd_ba {L : List (List UInt8)} {i : Int} (h0 : 0 ≤ i) (h1 : i < L.length) : rdOf ByteArray.empty (L.map ba) i = ba (L[i.toNat]'(by omega)) := by
 unfold rdOf
 rw [List.getD_eq_getElem?_getD, List.getElem?_map, List.getElem?_eq_getElem (by omega)]
 rfl
theorem tail_cons (sep x : List UInt8) (r : List (List UInt8)) : Lib.joinTail sep (x :: r) = sep ++ x ++ Lib.joinTail sep r := by simp [Lib.joinTail]
theorem tail_len {sep : List UInt8} (hs : sep.length ≤ 10) : ∀ {r : List (List UInt8)}, (∀ x ∈ r, x.length ≤ 10000) → (Lib.joinTail sep r).length ≤ r.length * 10010
 | [], _ => by simp [Lib.joinTail]
 | x :: r, h => by
  have a := h x (by simp)
  have b := tail_len hs (r := r) fun y hy => h y (by simp [hy])
  rw [tail_cons]
  simp only [List.length_append, List.length_cons]
  omega
theorem join_len {sep : List UInt8} (hs : sep.length ≤ 10) {L : List (List UInt8)} (h : ∀ x ∈ L, x.length ≤ 10000) : (Lib.join L sep).length ≤ L.length * 10010 := by
 cases L with
 | nil => simp [Lib.join_nil]
 | cons x r =>
  have a := h x (by simp)
  have b := tail_len hs (r := r) fun y hy => h y (by simp [hy])
  rw [Lib.join_cons]
  simp only [List.length_append, List.length_cons]
  omega
theorem joinS_l {L : List (List UInt8)} {sep : List UInt8} (hs : sep.length ≤ 10) (hL : ∀ x ∈ L, x.length ≤ 10000) (hl : L.length ≤ 1000) (d : Nat) : ∀ (i : Int) (A : List UInt8), 1 ≤ i → i + d = L.length → (A.length : Int) ≤ i * 10010 → Ev (fun k => spec_Join.l0 k (L.map ba) (ba sep) (tn A) i) (ba (A ++ Lib.joinTail sep (L.drop i.toNat))) := by
 induction d with
 | zero =>
  intro i A h0 h1 h2
  refine Ev.step (fun k => by rw [spec_Join.l0]) (ev_ifn (by simp; omega) (ev_to (Ev.now _) ?_))
  rw [nums_ba, List.drop_of_length_le (by omega)]; simp [Lib.joinTail]
 | succ d ih =>
  intro i A h0 h1 h2
  have hx := hL _ (List.getElem_mem (l := L) (n := i.toNat) (by omega))
  refine Ev.step (fun k => by rw [spec_Join.l0]) (ev_ifp (by simp; omega) (ev_ifp (by omega) (ev_ifp (by rw [tn_len, ba_size]; omega) ?_)))
  simp only [Option.bind_some]
  rw [rd_ba (by omega) (by omega), bytes_ba, bytes_ba, ← tn_app, ← tn_app, w64 (x := i + 1) (by omega) (by omega)]
  refine ev_ifp (by omega) (ev_ifp (by rw [tn_len, ba_size, List.length_append]; omega) (ev_to (ih (i + 1) _ (by omega) (by omega) (by rw [List.length_append, List.length_append]; omega)) ?_))
  rw [List.drop_eq_getElem_cons (i := i.toNat) (by omega), tail_cons, show (i + 1).toNat = i.toNat + 1 from by omega]
  simp
theorem joinS_ev {L : List (List UInt8)} {sep : List UInt8} (hs : sep.length ≤ 10) (hL : ∀ x ∈ L, x.length ≤ 10000) (hl : L.length ≤ 1000) : Ev (fun k => spec_Join.f k (L.map ba) (ba sep)) (ba (Lib.join L sep)) := by
 unfold spec_Join.f
 cases L with
 | nil =>
  refine Ev.step (fun k => by rw [spec_Join.l0]) ?_
  exact ev_ifn (by simp) (ev_to (Ev.now _) rfl)
 | cons x r =>
  have hx := hL x (by simp)
  refine Ev.step (fun k => by rw [spec_Join.l0]) (ev_ifp (by simp) (ev_ifn (by omega) ?_))
  rw [rd_ba (by omega) (by simp), bytes_ba, List.nil_append, w64 (x := (0 : Int) + 1) (by omega) (by omega), Lib.join_cons]
  refine ev_ifp (by omega) (ev_ifp (by rw [ba_size]; simp; omega) ?_)
  exact joinS_l hs hL hl r.length 1 x (by omega) (by simp; omega) (by omega)
theorem joinI_eq {L : List (List UInt8)} {sep : List UInt8} (hs : sep.length ≤ 10) (hL : ∀ x ∈ L, x.length ≤ 10000) (hl : L.length ≤ 1000) (k : Nat) : impl_Join.f k (L.map ba) (ba sep) = some (ba (Lib.join L sep)) := by
 have e : (L.map ba).map (fun s => s.data.toList) = L := by
  rw [List.map_map]
  conv => rhs; rw [← List.map_id L]
  exact List.map_congr_left fun x _ => by simp [ba]
 have b := join_len hs hL
 unfold impl_Join.f
 rw [e, ba_list, if_pos ⟨by simp; omega, by omega⟩]
 rfl
def ltx (l : List Int) : List UInt8 := if l.length = 0 then [110, 111, 110, 101] else Lib.join (l.map fmts) [44]
theorem fms_le (l : List Int) : ∀ x ∈ l.map fmts, x.length ≤ 10000 := fun x hx => by
 obtain ⟨n, _, rfl⟩ := List.mem_map.1 hx
 have := fmts_len n
 omega
theorem ltI_l {l : List Int} (hl : l.length ≤ 1000) (hb : ∀ x ∈ l, -1000000 < x ∧ x < 1000000) (d : Nat) : ∀ i : Int, 0 ≤ i → i + d = l.length → Ev (fun k => impl_ListText.l0 k (((l.take i.toNat).map fmts).map ba) l (l.length : Int) i) (ba (Lib.join (l.map fmts) [44])) := by
 induction d with
 | zero =>
  intro i h0 h1
  refine Ev.step (fun k => by rw [impl_ListText.l0]) (ev_ifn (by omega) ?_)
  rw [List.take_of_length_le (by omega)]
  exact ev_bind _ ⟨0, fun k _ => joinI_eq (sep := [44]) (by simp) (fms_le l) (by simpa using hl) k⟩ (Ev.now _)
 | succ d ih =>
  intro i h0 h1
  have m := hb _ (rd_mem (l := l) h0 (by omega))
  refine Ev.step (fun k => by rw [impl_ListText.l0]) (ev_ifp (by omega) (ev_ifp h0 (ev_ifp (by omega) (ev_bind _ ⟨0, fun k _ => fmtI_eq m.1 m.2 k⟩ ?_))))
  refine ev_ifp (by rw [List.length_map, List.length_map, List.length_take]; omega) ?_
  rw [w64 (x := i + 1) (by omega) (by omega)]
  have := ih (i + 1) (by omega) (by omega)
  rw [take_rd h0 (by omega), List.map_append, List.map_append] at this
  exact this
theorem ltI_ev {l : List Int} (hl : l.length ≤ 1000) (hb : ∀ x ∈ l, -1000000 < x ∧ x < 1000000) : Ev (fun k => impl_ListText.f k l) (ba (ltx l)) := by
 unfold impl_ListText.f ltx
 by_cases c : l.length = 0
 · rw [if_pos c]; exact ev_ifp (by omega) (ev_to (Ev.now _) rfl)
 · rw [if_neg c]; exact ev_ifn (by omega) (ltI_l hl hb l.length 0 (by omega) (by omega))
theorem ltS_l {l : List Int} (hl : l.length ≤ 1000) (hb : ∀ x ∈ l, -1000000 < x ∧ x < 1000000) (d : Nat) : ∀ i : Int, 0 ≤ i → i + d = l.length → Ev (fun k => spec_ListText.l0 k l (((l.take i.toNat).map fmts).map ba) i) (ba (Lib.join (l.map fmts) [44])) := by
 induction d with
 | zero =>
  intro i h0 h1
  refine Ev.step (fun k => by rw [spec_ListText.l0]) (ev_ifn (by omega) ?_)
  rw [List.take_of_length_le (by omega)]
  exact ev_bind _ (joinS_ev (sep := [44]) (by simp) (fms_le l) (by simpa using hl)) (Ev.now _)
 | succ d ih =>
  intro i h0 h1
  have m := hb _ (rd_mem (l := l) h0 (by omega))
  refine Ev.step (fun k => by rw [spec_ListText.l0]) (ev_ifp (by omega) (ev_ifp h0 (ev_bind _ (fmtS_ev m.1 m.2) ?_)))
  refine ev_ifp (by rw [List.length_map, List.length_map, List.length_take]; omega) ?_
  rw [w64 (x := i + 1) (by omega) (by omega)]
  have := ih (i + 1) (by omega) (by omega)
  rw [take_rd h0 (by omega), List.map_append, List.map_append] at this
  exact this
theorem ltS_ev {l : List Int} (hl : l.length ≤ 1000) (hb : ∀ x ∈ l, -1000000 < x ∧ x < 1000000) : Ev (fun k => spec_ListText.f k l) (ba (ltx l)) := by
 unfold spec_ListText.f ltx
 by_cases c : l.length = 0
 · rw [if_pos c]; exact ev_ifp (by omega) (ev_to (Ev.now _) rfl)
 · rw [if_neg c]; exact ev_ifn (by omega) (ltS_l hl hb l.length 0 (by omega) (by omega))
theorem gp_small (v : List Int) : ∀ x ∈ gp v, -1000000 < x ∧ x < 1000000 := fun x hx => by have := gp_mem.1 hx; omega
theorem gtI_ev {v : List Int} (h : SG v) : Ev (fun k => impl_GapText.f k v) (ba (ltx (gp v))) := by
 have l := h.len
 have g := gp_len v
 unfold impl_GapText.f
 exact ev_bind _ (sgI_ev (by omega)) (ev_ifp (by simpa using h) (ev_bind _ (ev_to (gapsI_ev (by omega)) (if_pos h)) (ev_bind _ (ltI_ev (by omega) (gp_small v)) (Ev.now _))))
theorem gtS_ev {v : List Int} (h : SG v) : Ev (fun k => spec_GapText.f k v) (ba (ltx (gp v))) := by
 have l := h.len
 have g := gp_len v
 unfold spec_GapText.f
 exact ev_bind _ (sgS_ev (by omega)) (ev_ifp (by simpa using h) (ev_bind _ (ev_to (gapsS_gps (by omega)) (gps_sg h)) (ev_bind _ (ltS_ev (by omega) (gp_small v)) (Ev.now _))))
end Go.Proofs.YtjjajcldmkmgkaaDoor.E
end
section
namespace Go.Proofs.YtjjajcldmkmgkaaDoor.E
open Go.RowKit Go.Proofs.YtjjajcldmkmgkaaDoor.PA Go.Proofs.YtjjajcldmkmgkaaDoorW.PrintWords Go.Proofs.YtjjajcldmkmgkaaDoorW.PrintLast Go.Proofs.YtjjajcldmkmgkaaDoorW.PrintMore
set_option linter.unusedVariables false
set_option linter.unusedSimpArgs false
noncomputable def lc (v : List Int) : Int := if SG v then ((sme v).length : Int) else -1
theorem lc_sg {v : List Int} (h : SG v) : lc v = (sme v).length := by unfold lc; rw [if_pos h]
theorem lcI_ev {v : List Int} (hl : v.length ≤ 1099511627776) : Ev (fun k => impl_LeftCount.f k v) (lc v) := by
 unfold impl_LeftCount.f lc
 refine ev_bind _ (sgI_ev hl) ?_
 by_cases c : SG v
 · rw [if_pos c]; exact ev_ifp (by simpa using c) (ev_bind _ (smI_ev hl) (Ev.now _))
 · rw [if_neg c]; exact ev_ifn (by simpa using c) (Ev.now _)
theorem lcS_ev {v : List Int} (hl : v.length ≤ 1099511627776) : Ev (fun k => spec_LeftCount.f k v) (lc v) := by
 unfold spec_LeftCount.f lc
 refine ev_bind _ (sgS_ev hl) ?_
 by_cases c : SG v
 · rw [if_pos c]; exact ev_ifp (by simpa using c) (ev_bind _ (smS_ev hl) (Ev.now _))
 · rw [if_neg c]; exact ev_ifn (by simpa using c) (Ev.now _)
noncomputable def wilf (v : List Int) : Int := if SG v then wrap64 (wrap64 ((v.length : Int) * lc v) - cd v) else -1
theorem wilfI_ev {v : List Int} (hl : v.length ≤ 1099511627776) : Ev (fun k => impl_WilfNumber.f k v) (wilf v) := by
 unfold impl_WilfNumber.f wilf
 refine ev_bind _ (sgI_ev hl) ?_
 by_cases c : SG v
 · rw [if_pos c]; exact ev_ifp (by simpa using c) (ev_bind _ (lcI_ev hl) (ev_bind _ (cdI_ev hl) (Ev.now _)))
 · rw [if_neg c]; exact ev_ifn (by simpa using c) (Ev.now _)
theorem wilfS_ev {v : List Int} (hl : v.length ≤ 1099511627776) : Ev (fun k => spec_WilfNumber.f k v) (wilf v) := by
 unfold spec_WilfNumber.f wilf
 refine ev_bind _ (sgS_ev hl) ?_
 by_cases c : SG v
 · rw [if_pos c]; exact ev_ifp (by simpa using c) (ev_bind _ (lcS_ev hl) (ev_bind _ (cdS_ev hl) (Ev.now _)))
 · rw [if_neg c]; exact ev_ifn (by simpa using c) (Ev.now _)
end Go.Proofs.YtjjajcldmkmgkaaDoor.E
end
section
namespace Go.Proofs.YtjjajcldmkmgkaaDoor.E
open Go.RowKit Go.Proofs.YtjjajcldmkmgkaaDoor.PA Go.Proofs.YtjjajcldmkmgkaaDoorW.PrintWords Go.Proofs.YtjjajcldmkmgkaaDoorW.PrintLast Go.Proofs.YtjjajcldmkmgkaaDoorW.PrintMore
set_option linter.unusedVariables false
set_option linter.unusedSimpArgs false
noncomputable def knd (v : List Int) : List UInt8 := if mir v (fob v) (-1) 0 = true then [115, 121, 109, 109, 101, 116, 114, 105, 99] else if psy v = true then [112, 115, 101, 117, 100, 111, 45, 115, 121, 109, 109, 101, 116, 114, 105, 99] else [114, 101, 100, 117, 99, 105, 98, 108, 101]
theorem knd_len (v : List Int) : (knd v).length ≤ 16 := by
 unfold knd; split
 · simp
 · split <;> simp
noncomputable def words (v : List Int) : List (List UInt8) :=
 [[102, 114, 111, 98, 101, 110, 105, 117, 115], fmts (fob v), [103, 101, 110, 117, 115], fmts ((gp v).length : Int), [116, 121, 112, 101], fmts (typ v), knd v, [103, 97, 112, 115], ltx (gp v), [108, 101, 97, 115, 116], ltx (apl v (rd v 0)), [119, 105, 108, 102], fmts (wilf v)]
noncomputable def desc (v : List Int) : List UInt8 := if SG v then Lib.join (words v) [32] else []
theorem lt_len2 {l : List Int} (hl : l.length ≤ 300) : (ltx l).length ≤ 10000 := by
 unfold ltx
 split
 · simp
 · have : ∀ m : List Int, (Lib.joinTail [44] (m.map fmts)).length ≤ m.length * 20 := fun m => by
    induction m with
    | nil => simp [Lib.joinTail]
    | cons x r ih =>
     have := fmts_len x
     rw [List.map_cons, tail_cons]
     simp only [List.length_append, List.length_cons, List.length_nil]
     omega
   cases l with
   | nil => simp [Lib.join_nil]
   | cons x r =>
    have a := fmts_len x
    have b := this r
    rw [List.map_cons, Lib.join_cons, List.length_append]
    simp only [List.length_cons] at hl
    omega
theorem typ_le (v : List Int) : 0 ≤ typ v ∧ typ v ≤ 199 := by
 have := pff_len v
 unfold typ; split <;> omega
theorem wilf_le {v : List Int} (h : SG v) : -1000000 < wilf v ∧ wilf v < 1000000 := by
 have l := h.len
 have a := sme_len v
 have c := cd_fact h
 have p : 0 ≤ (v.length : Int) * ((sme v).length : Int) := Int.mul_nonneg (by omega) (by omega)
 have q : (v.length : Int) * ((sme v).length : Int) ≤ 12 * 200 := Int.mul_le_mul (by omega) (by omega) (by omega) (by omega)
 unfold wilf
 rw [if_pos h, lc_sg h, w64 (x := (v.length : Int) * ((sme v).length : Int)) (by omega) (by omega), w64 (by omega) (by omega)]
 omega
theorem fmtI_ev {n : Int} (h0 : -1000000 < n) (h1 : n < 1000000) : Ev (fun k => impl_FormatI.f k n) (ba (fmts n)) := ⟨0, fun k _ => fmtI_eq h0 h1 k⟩
set_option maxHeartbeats 4000000 in
set_option maxRecDepth 10000 in
theorem descI_ev {v : List Int} (hl : v.length ≤ 1099511627776) : Ev (fun k => impl_DescribeSemigroup.f k v) (ba (desc v)) := by
 unfold impl_DescribeSemigroup.f desc
 refine ev_bind _ (sgI_ev hl) ?_
 by_cases h : SG v
 · rw [if_pos h]
   obtain ⟨g, hg⟩ : ∃ g : Int, g = ((gp v).length : Int) := ⟨_, rfl⟩
   have hG : Ev (fun k => impl_GenusOf.f k v) g := by rw [hg]; exact ev_to (genusI_ev hl) (if_pos h)
   obtain ⟨f1, f2, f3⟩ := h.ul.first
   have fs := fob_small v
   have gl := gp_len v
   have ul := h.ul.1
   have al := apl_len v (n := rd v 0) (by omega)
   have ty := typ_le v
   have wl := wilf_le h
   have hj : ∀ s : ByteArray, s = ba (knd v) → Ev (fun k => impl_DescribeSemigroup.j0 k s v) (ba (Lib.join (words v) [32])) := by
    rintro s rfl
    refine Ev.step (fun k => by rw [impl_DescribeSemigroup.j0]) (ev_bind _ (frI_ev hl) (ev_bind _ (fmtI_ev (n := fob v) (by omega) (by omega)) (ev_bind _ hG (ev_bind _ (fmtI_ev (n := g) (by omega) (by omega)) (ev_bind _ (typI_ev h) (ev_bind _ (fmtI_ev (n := typ v) (by omega) (by omega)) (ev_bind _ (gtI_ev h) ?_)))))))
    refine ev_ifp (by omega) (ev_bind _ (apI_ev h) (ev_bind _ (ltI_ev (by omega) fun x hx => by have := apl_mem h f2 f3 hx; omega) (ev_bind _ (wilfI_ev hl) (ev_bind _ (fmtI_ev wl.1 wl.2) (ev_bind _ ⟨0, fun k _ => ?_⟩ (Ev.now _))))))
    subst hg
    refine joinI_eq (L := words v) (sep := [32]) (by simp) (fun x hx => ?_) (by simp [words]) k
    unfold words at hx
    have k1 := fmts_len (fob v)
    have k2 := fmts_len ((gp v).length : Int)
    have k3 := fmts_len (typ v)
    have k4 := fmts_len (wilf v)
    have k5 := knd_len v
    have k6 := lt_len2 (l := gp v) (by omega)
    have k7 := lt_len2 (l := apl v (rd v 0)) (by omega)
    simp only [List.mem_cons, List.not_mem_nil, or_false] at hx
    rcases hx with rfl | rfl | rfl | rfl | rfl | rfl | rfl | rfl | rfl | rfl | rfl | rfl | rfl <;> first | omega | (simp; done) | (simp; omega)
   refine ev_ifp (by simpa using h) (ev_bind _ (symI_ev h) ?_)
   by_cases c : mir v (fob v) (-1) 0 = true
   · exact ev_ifp c (hj _ (by unfold knd; rw [if_pos c]; rfl))
   · refine ev_ifn c (ev_bind _ (psyI_ev h) ?_)
     by_cases e : psy v = true
     · exact ev_ifp e (hj _ (by unfold knd; rw [if_neg c, if_pos e]; rfl))
     · exact ev_ifn e (hj _ (by unfold knd; rw [if_neg c, if_neg e]; rfl))
 · rw [if_neg h]; exact ev_ifn (by simpa using h) (ev_to (Ev.now _) rfl)
theorem kndS_ev {v : List Int} (h : SG v) : Ev (fun k => spec_l29Kind.f k v) (ba (knd v)) := by
 unfold spec_l29Kind.f
 refine ev_bind _ (symS_ev h) ?_
 by_cases c : mir v (fob v) (-1) 0 = true
 · exact ev_ifp c (ev_to (Ev.now _) (by unfold knd; rw [if_pos c]; rfl))
 · refine ev_ifn c (ev_bind _ (psyS_ev h) ?_)
   by_cases e : psy v = true
   · exact ev_ifp e (ev_to (Ev.now _) (by unfold knd; rw [if_neg c, if_pos e]; rfl))
   · exact ev_ifn e (ev_to (Ev.now _) (by unfold knd; rw [if_neg c, if_neg e]; rfl))
theorem lit_ba (l : List UInt8) : (⟨l.toArray⟩ : ByteArray) = ba l := rfl
theorem lit_sz (l : List UInt8) : (⟨l.toArray⟩ : ByteArray).size = l.length := ba_size l
set_option maxHeartbeats 4000000 in
set_option maxRecDepth 10000 in
theorem descS_ev {v : List Int} (hl : v.length ≤ 1099511627776) : Ev (fun k => spec_DescribeSemigroup.f k v) (ba (desc v)) := by
 unfold spec_DescribeSemigroup.f desc
 refine ev_bind _ (sgS_ev hl) ?_
 by_cases h : SG v
 · rw [if_pos h]
   obtain ⟨g, hg⟩ : ∃ g : Int, g = ((gp v).length : Int) := ⟨_, rfl⟩
   have hG : Ev (fun k => spec_GenusOf.f k v) g := by rw [hg]; exact ev_to (genusS_ev hl) (if_pos h)
   obtain ⟨f1, f2, f3⟩ := h.ul.first
   have fs := fob_small v
   have gl := gp_len v
   have ul := h.ul.1
   have al := apl_len v (n := rd v 0) (by omega)
   have ty := typ_le v
   have wl := wilf_le h
   have k1 := fmts_len (fob v)
   have k2 := fmts_len g
   have k3 := fmts_len (typ v)
   have k4 := fmts_len (wilf v)
   have k5 := knd_len v
   have k6 := lt_len2 (l := gp v) (by omega)
   have k7 := lt_len2 (l := apl v (rd v 0)) (by omega)
   refine ev_ifp (by simpa using h) (ev_bind _ (frS_ev hl) (ev_bind _ (fmtS_ev (n := fob v) (by omega) (by omega)) ?_))
   refine ev_ifp (by simp only [ByteArray.size_append, ba_size, lit_sz, List.length_cons, List.length_nil]; omega) (ev_ifp (by simp only [ByteArray.size_append, ba_size, lit_sz, List.length_cons, List.length_nil]; omega) (ev_bind _ hG (ev_bind _ (fmtS_ev (n := g) (by omega) (by omega)) ?_)))
   refine ev_ifp (by simp only [ByteArray.size_append, ba_size, lit_sz, List.length_cons, List.length_nil]; omega) (ev_ifp (by simp only [ByteArray.size_append, ba_size, lit_sz, List.length_cons, List.length_nil]; omega) (ev_bind _ (typS_ev h) (ev_bind _ (fmtS_ev (n := typ v) (by omega) (by omega)) ?_)))
   refine ev_ifp (by simp only [ByteArray.size_append, ba_size, lit_sz, List.length_cons, List.length_nil]; omega) (ev_ifp (by simp only [ByteArray.size_append, ba_size, lit_sz, List.length_cons, List.length_nil]; omega) (ev_bind _ (kndS_ev h) ?_))
   refine ev_ifp (by simp only [ByteArray.size_append, ba_size, lit_sz, List.length_cons, List.length_nil]; omega) (ev_ifp (by simp only [ByteArray.size_append, ba_size, lit_sz, List.length_cons, List.length_nil]; omega) (ev_bind _ (gtS_ev h) ?_))
   refine ev_ifp (by simp only [ByteArray.size_append, ba_size, lit_sz, List.length_cons, List.length_nil]; omega) (ev_ifp (by simp only [ByteArray.size_append, ba_size, lit_sz, List.length_cons, List.length_nil]; omega) (ev_ifp (by omega) (ev_bind _ (apS_ev h) (ev_bind _ (ltS_ev (l := apl v (rd v 0)) (by omega) fun x hx => by have := apl_mem h f2 f3 hx; omega) ?_))))
   refine ev_ifp (by simp only [ByteArray.size_append, ba_size, lit_sz, List.length_cons, List.length_nil]; omega) (ev_ifp (by simp only [ByteArray.size_append, ba_size, lit_sz, List.length_cons, List.length_nil]; omega) (ev_bind _ (wilfS_ev hl) (ev_bind _ (fmtS_ev wl.1 wl.2) ?_)))
   refine ev_ifp (by simp only [ByteArray.size_append, ba_size, lit_sz, List.length_cons, List.length_nil]; omega) (ev_to (Ev.now _) ?_)
   simp only [lit_ba, ba_app]
   refine congrArg ba ?_
   subst hg
   unfold words
   rw [Lib.join_cons]
   simp only [tail_cons, show Lib.joinTail [32] [] = [] from rfl, List.append_assoc, List.cons_append, List.nil_append, List.append_nil]
 · rw [if_neg h]; exact ev_ifn (by simpa using h) (ev_to (Ev.now _) rfl)
end Go.Proofs.YtjjajcldmkmgkaaDoor.E
end
section
namespace Go.Proofs.YtjjajcldmkmgkaaDoor.E
open Go.RowKit Go.Proofs.YtjjajcldmkmgkaaDoor.PA Go.Proofs.YtjjajcldmkmgkaaDoorW.PrintWords Go.Proofs.YtjjajcldmkmgkaaDoorW.PrintLast Go.Proofs.YtjjajcldmkmgkaaDoorW.PrintMore
set_option linter.unusedVariables false
set_option linter.unusedSimpArgs false
theorem eqIntS_l {l m : List Int} (hl : l.length ≤ 1099511627776) (e : l.length = m.length) (d : Nat) : ∀ (i : Int), 0 ≤ i → i + d = l.length → Ev (fun k => laws_eqIntS.l0 k l m i) (decide (l.drop i.toNat = m.drop i.toNat)) := by
 induction d with
 | zero =>
  intro i h0 h1
  refine Ev.step (fun k => by rw [laws_eqIntS.l0]) ?_
  simp (disch := omega) only [if_neg]
  refine ev_to (Ev.now _) ?_
  rw [List.drop_of_length_le (by omega), List.drop_of_length_le (by omega)]; simp
 | succ d ih =>
  intro i h0 h1
  refine Ev.step (fun k => by rw [laws_eqIntS.l0]) ?_
  simp (disch := omega) only [if_pos, w64]
  rw [drop_rd h0 (by omega), drop_rd (l := m) h0 (by omega)]
  by_cases h : rd l i = rd m i
  · refine ev_ifp h (ev_to (ih (i + 1) (by omega) (by omega)) ?_)
    simp [h]
  · refine ev_ifn h (ev_to (Ev.now _) ?_)
    simp [h]
theorem eqIntS_ev {l m : List Int} (hl : l.length ≤ 1099511627776) : Ev (fun k => laws_eqIntS.f k l m) (decide (l = m)) := by
 unfold laws_eqIntS.f
 by_cases e : l.length = m.length
 · refine ev_ifp (by omega) (ev_to (eqIntS_l hl e l.length 0 (by omega) (by omega)) ?_)
   simp
 · refine ev_ifn (by omega) (ev_to (Ev.now _) ?_)
   simp; intro h; exact e (by rw [h])
end Go.Proofs.YtjjajcldmkmgkaaDoor.E
end
section
namespace Go.Proofs.YtjjajcldmkmgkaaDoor.E
open Go.RowKit Go.Proofs.YtjjajcldmkmgkaaDoor.PA Go.Proofs.YtjjajcldmkmgkaaDoorW.PrintWords Go.Proofs.YtjjajcldmkmgkaaDoorW.PrintLast Go.Proofs.YtjjajcldmkmgkaaDoorW.PrintMore
set_option linter.unusedVariables false
set_option linter.unusedSimpArgs false
theorem toIntS_l {l : List Int} (hl : l.length ≤ 1048576) (d : Nat) : ∀ (i : Int) (out : List Int), 0 ≤ i → i + d = l.length → out.length = l.length → out.take i.toNat = l.take i.toNat → Ev (fun k => laws_toIntS.l0 k l out i) l := by
 induction d with
 | zero =>
  intro i out h0 h1 h2 h3
  refine Ev.step (fun k => by rw [laws_toIntS.l0]) ?_
  simp (disch := omega) only [if_neg]
  rw [List.take_of_length_le (by omega), List.take_of_length_le (by omega)] at h3
  subst h3
  exact Ev.now _
 | succ d ih =>
  intro i out h0 h1 h2 h3
  refine Ev.step (fun k => by rw [laws_toIntS.l0]) ?_
  simp (disch := omega) only [if_pos, w64]
  refine ih _ _ (by omega) (by omega) (by simpa using h2) ?_
  rw [take_rd h0 (by simp; omega), take_rd h0 (by omega), rd_set _ h0 (by omega) h0, if_pos rfl, ← h3]
  congr 1
  rw [List.take_set_of_le (Nat.le_refl _)]
theorem toIntS_ev {l : List Int} (hl : l.length ≤ 1048576) : Ev (fun k => laws_toIntS.f k l) l := by
 unfold laws_toIntS.f
 simp (disch := omega) only [if_pos]
 exact toIntS_l hl l.length _ _ (by omega) (by omega) (by simp) (by simp)
end Go.Proofs.YtjjajcldmkmgkaaDoor.E
end
section
namespace Go.Proofs.YtjjajcldmkmgkaaDoor.E
open Go.RowKit Go.Proofs.YtjjajcldmkmgkaaDoor.PA Go.Proofs.YtjjajcldmkmgkaaDoorW.PrintWords Go.Proofs.YtjjajcldmkmgkaaDoorW.PrintLast Go.Proofs.YtjjajcldmkmgkaaDoorW.PrintMore
set_option linter.unusedVariables false
set_option linter.unusedSimpArgs false
theorem szSg_small {l : List Int} {a : Int} (h : (l.length : Int) ≤ a) (ha : a ≤ 1048576) : laws_szSemigroup.f l a = some (a - l.length) := by
 unfold laws_szSemigroup.f laws_szIntS.f
 rw [w64 (x := a - l.length) (by omega) (by omega), if_neg (by omega)]
 simp only [Option.bind_some]
 rw [if_neg (by omega)]
theorem szSg_big {l : List Int} {a : Int} (h : ¬ (l.length : Int) ≤ a) (h0 : 0 ≤ a) (ha : a ≤ 1048576) (hl : l.length ≤ 1152921504606846976) : laws_szSemigroup.f l a = some (-1) := by
 unfold laws_szSemigroup.f laws_szIntS.f
 rw [w64 (x := a - l.length) (by omega) (by omega), if_pos (by omega)]
 rfl
theorem toSg_ev {l : List Int} (hl : l.length ≤ 1048576) : Ev (fun k => laws_toSemigroup.f k l) l := by
 unfold laws_toSemigroup.f
 exact ev_bind _ (toIntS_ev hl) (Ev.now _)
theorem eqSg_ev {l m : List Int} (hl : l.length ≤ 1099511627776) : Ev (fun k => laws_eqSemigroup.f k l m) (decide (l = m)) := by
 unfold laws_eqSemigroup.f
 refine ev_bind _ (eqIntS_ev hl) ?_
 by_cases e : l = m
 · exact ev_ifp (by simpa using e) (ev_to (Ev.now _) (by simp [e]))
 · exact ev_ifn (by simpa using e) (ev_to (Ev.now _) (by simp [e]))
theorem eqSg_same {l : List Int} (hl : l.length ≤ 1099511627776) : Ev (fun k => laws_eqSemigroup.f k l l) true := ev_to (eqSg_ev hl) (by simp)
end Go.Proofs.YtjjajcldmkmgkaaDoor.E
end
section
namespace Go.Proofs.YtjjajcldmkmgkaaDoor.Pure
open Go.RowKit Go.Proofs.YtjjajcldmkmgkaaDoor.PA Go.Proofs.YtjjajcldmkmgkaaDoor.E Go.Proofs.YtjjajcldmkmgkaaDoorW.PrintWords Go.Proofs.YtjjajcldmkmgkaaDoorW.PrintLast Go.Proofs.YtjjajcldmkmgkaaDoorW.PrintMore
set_option linter.unusedVariables false
set_option linter.unusedSimpArgs false
theorem FnExactDescribeSemigroup (l0 : List Int) (h0 : l0.length ≤ maxLen) (h1 : l0.length * 8 ≤ 140737488351232) (h2 : ∀ x ∈ l0, (Lit.int .i64 x).wf = true) : ∃ k, laws_FnExactDescribeSemigroup.f k l0 = some true := by
 apply Ev.rounds
 unfold laws_FnExactDescribeSemigroup.f
 by_cases h : (l0.length : Int) ≤ 1048576
 · have hl : l0.length ≤ 1048576 := by omega
   have hl' : l0.length ≤ 1099511627776 := by omega
   have hi := descI_ev hl'; have hs := descS_ev hl'
   rw [szSg_small h (by omega)]
   simp only [Option.bind_some]
   exact ev_ifn (by omega) (ev_bind _ (toSg_ev hl) (ev_bind _ hs (ev_bind _ (toSg_ev hl) (ev_bind _ hi (ev_ifp rfl (ev_bind _ (toSg_ev hl) (ev_bind _ (eqSg_same (by omega)) (ev_ifp rfl (Ev.now _)))))))))
 · rw [szSg_big h (by omega) (by omega) (by omega)]
   simp only [Option.bind_some]
   exact ev_ifp (by omega) (Ev.now _)
end Go.Proofs.YtjjajcldmkmgkaaDoor.Pure
end
section
namespace Go.Proofs.YtjjajcldmkmgkaaDoor.E
open Go.ChangeShapes Go.WideShapes Go.ChangeAt Go.RowKit Go.Deep Go.Joins
theorem array1_ {α : Type} {cs : Array α} (h : cs.size = 1) : ∃ c0, cs = #[c0] := by
 obtain ⟨l⟩ := cs
 match l, h with
 | [c0], _ => exact ⟨c0, rfl⟩
theorem open_agg1_ {H : Type} {enc : TypeId × Value → H} {P : Program} {w : World} {base : Nat} {spare : Nat → Bool} {held : Bool} {r : Reach} {b0 : Nat} {t : TypeId} {f0 : Field} {v : Value} {d : DataW H} {p : List MemPlace} (hs : P.underlying t = some (.struct #[f0])) (hone : oneCellFields P #[f0] = true) (hC : P.cellsOf t = 1)
 (hv : Value.okWide P w r b0 t v) (h : DataW.Trod enc P w base spare held t v d p) :
 ∃ (v0 : Value) (y0 : DataW H × List MemPlace) (n : Nat), v = .agg #[v0] ∧ d = .agg [y0.1] ∧ p = y0.2 ∧ DataW.trod enc P w base spare held n f0.type [v0] = some y0 := by
 obtain ⟨cs, rfl, hsz⟩ := okWide_struct hs hv
 obtain ⟨c0, rfl⟩ := array1_ (hsz.trans hC)
 obtain ⟨fuel, hf⟩ := h
 obtain ⟨y0, n, hx, _, h0⟩ := trod_struct1 hs hf
 obtain ⟨o0, k0⟩ := hone_of hone 0 f0 rfl
 simp only [Prod.mk.injEq] at hx
 exact ⟨c0, y0, n, rfl, hx.1, hx.2, by simpa [Value.cells, o0, k0] using h0⟩
theorem sized_agg_ {H : Type} {P : Program} {ts : List TypeId} {ds : List (DataW H)} (h : (DataW.weightsEach P ts ds).all (· ≤ reachBytes) = true) {j : Nat} {t : TypeId} {fs : Array Field} {parts : List (DataW H)} (ht : ts[j]? = some t) (hd : ds[j]? = some (.agg parts)) (hu : P.underlying t = some (.struct fs)) :
 (DataW.weightsEach P (fs.toList.map (·.type)) parts).all (· ≤ reachBytes) = true := by
 refine List.all_eq_true.2 fun n hn => List.all_eq_true.1 h n (DataW.weights_mem_each ht hd n ?_)
 simpa [DataW.weights, hu] using hn
end Go.Proofs.YtjjajcldmkmgkaaDoor.E
end
section
namespace Go.Proofs.YtjjajcldmkmgkaaDoorW.PrintWords
open Go.ChangeShapes Go.WideShapes
theorem sized_ints {H : Type} {enc : TypeId × Value → H} {P : Program} {W : World} {base : Nat} {spare : Nat → Bool} {held : Bool} {t e : TypeId} {k : IntKind} {a : Option Addr} {len cap : Nat} {d : DataW H} {ps : List MemPlace} {ts : List TypeId} {ds : List (DataW H)} {j : Nat}
 (hsz : (DataW.weightsEach P ts ds).all (· ≤ reachBytes) = true) (ht : ts[j]? = some t) (hd : ds[j]? = some d) (hu : P.underlying t = some (.slice e)) (he : P.underlying e = some (.int k)) (hc : P.cellsOf e = 1) {B : Nat} (hB : P.bytesOf e = B)
 (h : DataW.Trod enc P W base spare held t (.slice a len cap) d ps) : len * B ≤ 140737488351232 := by
 obtain ⟨fuel, hf⟩ := h
 rcases open_ints hu he hc hf with ⟨hcs, _⟩ | ⟨x, l, c, zs, hcs, _, hl, _, hz, hx, _, _⟩
 · simp [Value.cells] at hcs
   obtain ⟨rfl, rfl, rfl⟩ := hcs
   simp
 · simp [Value.cells] at hcs
   obtain ⟨rfl, rfl, rfl⟩ := hcs
   obtain ⟨hx, _⟩ := Prod.mk.inj hx
   subst hx
   have z := sized_slice hsz ht hd hu
   rw [hB] at z
   have hl2 : len ≤ zs.length := by
    rw [hz]
    split
    · exact hl
    · exact Nat.le_refl _
   have h1 : (lits (H := H) k (zs.take len)).length + (lits (H := H) k (zs.drop len)).length = zs.length := by
    simp [lits]
    omega
   rw [h1] at z
   exact Nat.le_trans (Nat.mul_le_mul_right _ hl2) z
end Go.Proofs.YtjjajcldmkmgkaaDoorW.PrintWords
end
