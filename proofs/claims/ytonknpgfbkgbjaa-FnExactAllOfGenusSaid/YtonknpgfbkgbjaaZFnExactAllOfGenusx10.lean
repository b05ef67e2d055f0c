-- Bundled by shake.py from this session's printed and written texts; Lean checks it.
import Derived.Lib.SlicesCompact
import Derived.Test.YtonknpgfbkgbjaaZFnExactAllOfGenusx1
import Derived.Test.YtonknpgfbkgbjaaZFnExactAllOfGenusx2
import Derived.Test.YtonknpgfbkgbjaaZFnExactAllOfGenusx3
import Derived.Test.YtonknpgfbkgbjaaZFnExactAllOfGenusx4
import Derived.Test.YtonknpgfbkgbjaaZFnExactAllOfGenusx5
import Derived.Test.YtonknpgfbkgbjaaZFnExactAllOfGenusx6
import Derived.Test.YtonknpgfbkgbjaaZFnExactAllOfGenusx7
import Derived.Test.YtonknpgfbkgbjaaZFnExactAllOfGenusx8
import Derived.Test.YtonknpgfbkgbjaaZFnExactAllOfGenusx9
section
namespace Go.Proofs.Ytonknpgfbkgbjaa.E
open Go.RowKit Go.Proofs.Ytonknpgfbkgbjaa.PC Go.Proofs.YtonknpgfbkgbjaaW.PrintWords Go.Proofs.YtonknpgfbkgbjaaW.PrintLast Go.Proofs.YtonknpgfbkgbjaaW.PrintMore
set_option linter.unusedVariables false
set_option linter.unusedSimpArgs false
theorem sortS_asc_l {v : List Int} (hl : v.length ≤ 1048576) (ha : Asc v) (d : Nat) : ∀ i : Int, 0 ≤ i → i + d = v.length → Ev (fun k => spec_SortList.l0 k v (v.take i.toNat) i) v := by
 induction d with
 | zero =>
  intro i h0 h1
  refine Ev.step (fun k => by rw [spec_SortList.l0]) ?_
  rw [List.take_of_length_le (by omega)]
  exact ev_ifn (by omega) (Ev.now _)
 | succ d ih =>
  intro i h0 h1
  have tl := take_len (v := v) (i := i) (by omega) (by omega)
  have nx := ih (i + 1) (by omega) (by omega)
  rw [take_rd h0 (by omega)] at nx
  refine Ev.step (fun k => by rw [spec_SortList.l0]) (ev_ifp (by omega) ?_)
  rw [tl]
  refine Ev.step (fun k => by rw [spec_SortList.l1]) ?_
  simp only [Option.bind_some]
  rw [w64 (x := i - 1) (by omega) (by omega), w64 (x := i + 1) (by omega) (by omega), List.drop_of_length_le (l := v.take i.toNat) (by omega), List.take_of_length_le (l := v.take i.toNat) (by omega)]
  have e0 : ([] : List Int).length + ([] : List Int).length < 17592186044416 := by simp
  have e1 : (v.take i.toNat).length < 17592186044416 := by omega
  have e2 : (v.take i.toNat ++ [rd v i]).length + ([] ++ [] : List Int).length < 17592186044416 := by simp; omega
  by_cases c : i > 0
  · have lt : rd (v.take i.toNat) (i - 1) < rd v i := by
     have e : rd (v.take i.toNat) (i - 1) = rd v (i - 1) := by
      rw [rd_lt (by omega) (by omega), rd_lt (by omega) (by omega), List.getElem_take]
     rw [e]; exact ha i c (by omega)
    refine ev_ifp c (ev_ifp (by omega) (ev_ifp (by omega) (ev_ifp h0 (ev_ifp (by omega) (ev_ifn (by omega) (ev_ifn (by omega) (ev_ifp h0 (ev_ifp (by omega) (ev_ifp e0 (ev_ifp e1 (ev_ifp e2 ?_)))))))))))
    simpa using nx
  · refine ev_ifn c (ev_ifp h0 (ev_ifp (by omega) (ev_ifp e0 (ev_ifp h0 (ev_ifp (by omega) (ev_ifp e1 (ev_ifp e2 ?_)))))))
    simpa using nx
theorem sortS_asc {v : List Int} (hl : v.length ≤ 1048576) (ha : Asc v) : Ev (fun k => spec_SortList.f k v) v := by
 unfold spec_SortList.f
 exact sortS_asc_l hl ha v.length 0 (by omega) (by omega)
theorem min_l {v : List Int} (hu : UL v) (d : Nat) : ∀ (i : Int) (out : List Int), 0 ≤ i → i + d = v.length → ((out = v.take i.toNat ∧ ∀ j : Int, 1 ≤ j → j < i → ¬ Su (v.take j.toNat) (rd v j)) ∨ ((out.length : Int) < i ∧ ¬ ∀ j : Int, 1 ≤ j → j < i → ¬ Su (v.take j.toNat) (rd v j))) →
 ∃ r, r.length ≤ 20 ∧ Ev (fun k => spec_l3Minimal.l0 k out v i) r ∧ (r = v ↔ ∀ j : Int, 1 ≤ j → j < v.length → ¬ Su (v.take j.toNat) (rd v j)) := by
 have hlen := hu.1
 induction d with
 | zero =>
  intro i out h0 h1 h2
  obtain rfl : i = v.length := by omega
  have hE : Ev (fun k => spec_l3Minimal.l0 k out v v.length) out := Ev.step (fun k => by rw [spec_l3Minimal.l0]) (ev_ifn (by omega) (Ev.now _))
  rcases h2 with ⟨e, h⟩ | ⟨e, h⟩
  · rw [List.take_of_length_le (by omega)] at e
    exact ⟨out, by rw [e]; omega, hE, fun _ => h, fun _ => e⟩
  · exact ⟨out, by omega, hE, fun e' => by rw [e'] at e; omega, fun h' => absurd h' h⟩
 | succ d ih =>
  intro i out h0 h1 h2
  have hx := hu.2 _ (rd_mem (l := v) h0 (by omega))
  have tl := take_len (v := v) (i := i) (by omega) (by omega)
  have ol : (out.length : Int) ≤ i := by
   rcases h2 with ⟨e, _⟩ | ⟨e, _⟩
   · rw [e, tl]; exact Int.le_refl _
   · omega
  by_cases c0 : i = 0
  · obtain ⟨r, r1, r2, r3⟩ := ih (i + 1) (out ++ [rd v i]) (by omega) (by omega) (by
     rcases h2 with ⟨e, _⟩ | ⟨e, _⟩
     · exact .inl ⟨by rw [take_rd h0 (by omega), e], fun j hj hj' => by omega⟩
     · omega)
    refine ⟨r, r1, Ev.step (fun k => by rw [spec_l3Minimal.l0]) ?_, r3⟩
    rw [w64 (x := i + 1) (by omega) (by omega)]
    exact ev_ifp (by omega) (ev_ifp c0 (ev_ifp h0 (ev_ifp (by omega) r2)))
  · obtain ⟨t, t1, t2, hE⟩ := tabS_ev (v := v.take i.toNat) (by omega) (take_ul hu.2 _) (most := rd v i) (by omega) (by omega)
    have ht := t2 (rd v i) (by omega) (Int.le_refl _)
    by_cases c : Su (v.take i.toNat) (rd v i)
    · obtain ⟨r, r1, r2, r3⟩ := ih (i + 1) out (by omega) (by omega) (.inr ⟨by omega, fun h => h i (by omega) (by omega) c⟩)
      refine ⟨r, r1, Ev.step (fun k => by rw [spec_l3Minimal.l0]) ?_, r3⟩
      rw [w64 (x := i + 1) (by omega) (by omega)]
      exact ev_ifp (by omega) (ev_ifn c0 (ev_ifp h0 (ev_ifp (by omega) (ev_bind _ hE (ev_ifp (by omega) (ev_ifp (by omega) (ev_ifp (ht.2 c) r2)))))))
    · obtain ⟨r, r1, r2, r3⟩ := ih (i + 1) (out ++ [rd v i]) (by omega) (by omega) (by
       rcases h2 with ⟨e, h⟩ | ⟨e, h⟩
       · refine .inl ⟨by rw [take_rd h0 (by omega), e], fun j hj hj' => ?_⟩
         by_cases ej : j = i
         · rw [ej]; exact c
         · exact h j hj (by omega)
       · refine .inr ⟨by simp; omega, fun h' => h fun j hj hj' => h' j hj (by omega)⟩)
      refine ⟨r, r1, Ev.step (fun k => by rw [spec_l3Minimal.l0]) ?_, r3⟩
      rw [w64 (x := i + 1) (by omega) (by omega)]
      exact ev_ifp (by omega) (ev_ifn c0 (ev_ifp h0 (ev_ifp (by omega) (ev_bind _ hE (ev_ifp (by omega) (ev_ifp (by omega) (ev_ifn (fun h => c (ht.1 h)) (ev_ifp (by omega) r2))))))))
theorem same2_l {l m : List Int} (hl : l.length ≤ 1099511627776) (e : l.length = m.length) (d : Nat) : ∀ (i : Int), 0 ≤ i → i + d = l.length → Ev (fun k => spec_l2Same.l0 k l m i) (decide (l.drop i.toNat = m.drop i.toNat)) := by
 induction d with
 | zero =>
  intro i h0 h1
  refine Ev.step (fun k => by rw [spec_l2Same.l0]) ?_
  refine ev_ifn (by omega) (ev_to (Ev.now _) ?_)
  rw [List.drop_of_length_le (by omega), List.drop_of_length_le (by omega)]; simp
 | succ d ih =>
  intro i h0 h1
  refine Ev.step (fun k => by rw [spec_l2Same.l0]) ?_
  rw [w64 (x := i + 1) (by omega) (by omega), drop_rd h0 (by omega), drop_rd (l := m) h0 (by omega)]
  refine ev_ifp (by omega) (ev_ifp h0 (ev_ifp (by omega) ?_))
  by_cases h : rd l i = rd m i
  · refine ev_ifp h (ev_to (ih (i + 1) (by omega) (by omega)) ?_)
    simp [h]
  · refine ev_ifn h (ev_to (Ev.now _) ?_)
    simp [h]
theorem same2_ev {l m : List Int} (hl : l.length ≤ 1099511627776) : Ev (fun k => spec_l2Same.f k l m) (decide (l = m)) := by
 unfold spec_l2Same.f
 by_cases e : l.length = m.length
 · refine ev_ifp (by omega) (ev_to (same2_l hl e l.length 0 (by omega) (by omega)) ?_)
   simp
 · refine ev_ifn (by omega) (ev_to (Ev.now _) ?_)
   simp; intro h; exact e (by rw [h])
theorem endsS_l {v : List Int} (hu : UL v) {t : List Bool} (t1 : (t.length : Int) = 261) (t2 : ∀ j, 0 ≤ j → j ≤ 260 → (rdOf false t j = true ↔ Su v j)) (d : Nat) : ∀ i : Int, 200 ≤ i → i + d = 200 + rd v 0 → ∃ r : Bool, Ev (fun k => spec_l3Ends.l0 k v t i) r ∧ (r = true ↔ ∀ n, i ≤ n → n < 200 + rd v 0 → Su v n) := by
 have f := hu.first
 have hlen := hu.1
 induction d with
 | zero =>
  intro i h0 h1
  refine ⟨true, Ev.step (fun k => by rw [spec_l3Ends.l0]) ?_, fun _ n hn hn' => by omega, fun _ => rfl⟩
  rw [w64 (x := 200 + rd v 0) (by omega) (by omega)]
  exact ev_ifp (by omega) (ev_ifn (by omega) (Ev.now _))
 | succ d ih =>
  intro i h0 h1
  have ht := t2 i (by omega) (by omega)
  by_cases c : Su v i
  · obtain ⟨r, hE, hr⟩ := ih (i + 1) (by omega) (by omega)
    refine ⟨r, Ev.step (fun k => by rw [spec_l3Ends.l0]) ?_, ?_⟩
    · rw [w64 (x := 200 + rd v 0) (by omega) (by omega), w64 (x := i + 1) (by omega) (by omega)]
      exact ev_ifp (by omega) (ev_ifp (by omega) (ev_ifp (by omega) (ev_ifp (by omega) (ev_ifp (ht.2 c) hE))))
    · rw [hr]
      constructor
      · intro h n hn hn'
        by_cases e : n = i
        · rw [e]; exact c
        · exact h n (by omega) hn'
      · intro h n hn hn'; exact h n (by omega) hn'
  · refine ⟨false, Ev.step (fun k => by rw [spec_l3Ends.l0]) ?_, fun h => (by cases h), fun h => absurd (h i (Int.le_refl _) (by omega)) c⟩
    rw [w64 (x := 200 + rd v 0) (by omega) (by omega)]
    exact ev_ifp (by omega) (ev_ifp (by omega) (ev_ifp (by omega) (ev_ifp (by omega) (ev_ifn (fun h => c (ht.1 h)) (Ev.now _)))))
theorem sgS_ev {v : List Int} (hl : v.length ≤ 1099511627776) : Ev (fun k => spec_IsSemigroup.f k v) (decide (SG v)) := by
 unfold spec_IsSemigroup.f
 by_cases hu : UL v
 · refine ev_bind _ (gensS_ev hl) (ev_ifp (by simpa using hu) ?_)
   by_cases c1 : (v.length : Int) ≤ 12
   · refine ev_ifp c1 ?_
     by_cases c3 : Asc v
     · refine ev_bind _ (ascS_ev hl) (ev_ifp (by simpa using c3) (ev_bind _ (gcdListS_ev hl) ?_))
       by_cases c4 : gl v = 1
       · have hlen := hu.1
         obtain ⟨f1, f2, f3⟩ := hu.first
         obtain ⟨r, r1, r2, r3⟩ := min_l hu v.length 0 [] (by omega) (by omega) (.inl ⟨by simp, fun j hj hj' => by omega⟩)
         refine ev_ifp c4 (ev_bind r ?_ (ev_bind _ (same2_ev (l := r) (m := v) (by omega)) ?_))
         · unfold spec_l3Minimal.f
           exact ev_bind _ (sortS_asc (by omega) c3) r2
         · by_cases c5 : r = v
           · obtain ⟨t, t1, t2, hE⟩ := tabS_ev (v := v) (by omega) hu.2 (most := 260) (by omega) (by omega)
             obtain ⟨b, b1, b2⟩ := endsS_l hu (by omega) t2 (rd v 0).toNat 200 (by omega) (by omega)
             refine ev_ifp (by simpa using c5) (ev_bind b ?_ (ev_to (Ev.now _) ?_))
             · unfold spec_l3Ends.f
               exact ev_bind _ hE b1
             · rw [Bool.eq_iff_iff, b2, ← ends_iff f2 (Su.mem f1), decide_eq_true_eq]
               exact ⟨fun h => ⟨hu, c1, c3, c4, r3.1 c5, h⟩, fun h => h.ends⟩
           · exact ev_ifn (by simpa using c5) (ev_to (Ev.now _) (decide_eq_false (fun h => c5 (r3.2 h.min))).symm)
       · exact ev_ifn c4 (ev_to (Ev.now _) (decide_eq_false (fun h => c4 h.gcd)).symm)
     · exact ev_bind _ (ascS_ev hl) (ev_ifn (by simpa using c3) (ev_to (Ev.now _) (decide_eq_false (fun h => c3 h.asc)).symm))
   · exact ev_ifn c1 (ev_to (Ev.now _) (decide_eq_false (fun h => c1 h.len)).symm)
 · exact ev_bind _ (gensS_ev hl) (ev_ifn (by simpa using hu) (ev_to (Ev.now _) (decide_eq_false (fun h => hu h.ul)).symm))
theorem sliceEq_l {l m : List Int} (hl : l.length ≤ 1099511627776) (e : l.length = m.length) (d : Nat) : ∀ (i : Int), 0 ≤ i → i + d = l.length → Ev (fun k => slices_Equal_int_int.l0 k l m l.length i) (decide (l.drop i.toNat = m.drop i.toNat)) := by
 induction d with
 | zero =>
  intro i h0 h1
  refine Ev.step (fun k => by rw [slices_Equal_int_int.l0]) ?_
  refine ev_ifn (by omega) (ev_to (Ev.now _) ?_)
  rw [List.drop_of_length_le (by omega), List.drop_of_length_le (by omega)]; simp
 | succ d ih =>
  intro i h0 h1
  refine Ev.step (fun k => by rw [slices_Equal_int_int.l0]) ?_
  rw [w64 (x := i + 1) (by omega) (by omega), drop_rd h0 (by omega), drop_rd (l := m) h0 (by omega)]
  refine ev_ifp (by omega) (ev_ifp h0 (ev_ifp (by omega) (ev_ifp (by omega) ?_)))
  by_cases h : rd l i = rd m i
  · refine ev_ifp h (ev_to (ih (i + 1) (by omega) (by omega)) ?_)
    simp [h]
  · refine ev_ifn h (ev_to (Ev.now _) ?_)
    simp [h]
theorem sliceEq_ev {l m : List Int} (hl : l.length ≤ 1099511627776) : Ev (fun k => slices_Equal_int_int.f k l m) (decide (l = m)) := by
 unfold slices_Equal_int_int.f
 by_cases e : l.length = m.length
 · refine ev_ifp (by omega) (ev_to (sliceEq_l hl e l.length 0 (by omega) (by omega)) ?_)
   simp
 · refine ev_ifn (by omega) (ev_to (Ev.now _) ?_)
   simp; intro h; exact e (by rw [h])
theorem gcS_l0 {g : List Int} (h : VG g) {r : Int × Int × Bool} (R : ∀ t, GA g (2 * topg g) t → Ev (fun k => spec_GapClash.l1 k (topg g) t 1) r → True) (d : Nat) : ∀ (i : Int) (t : List Bool), 0 ≤ i → i + d = g.length → ((t.length : Int) = 2 * topg g + 1 ∧ ∀ j, 0 ≤ j → j ≤ 2 * topg g → (rdOf false t j = true ↔ ∃ q, 0 ≤ q ∧ q < i ∧ rd g q = j)) → ∃ t', GA g (2 * topg g) t' ∧ ∀ r, Ev (fun k => spec_GapClash.l1 k (topg g) t' 1) r → Ev (fun k => spec_GapClash.l0 k g (topg g) t i) r := by
 have hlen := h.len
 obtain ⟨t0, t1, t2⟩ := h.top
 induction d with
 | zero =>
  intro i t h0 h1 h2
  rw [show i = (g.length : Int) from by omega] at h2
  exact ⟨t, ga_end h2, fun r e => Ev.step (fun k => by rw [spec_GapClash.l0]) (ev_ifn (by omega) e)⟩
 | succ d ih =>
  intro i t h0 h1 h2
  have m := rd_mem (l := g) h0 (by omega)
  have b := h.2 _ m
  have b' := t2 _ m
  obtain ⟨t', e1, e2⟩ := ih (i + 1) (t.set (rd g i).toNat true) (by omega) (by omega) (ga_step h0 (by omega) ⟨by omega, by omega⟩ h2)
  refine ⟨t', e1, fun r e => Ev.step (fun k => by rw [spec_GapClash.l0]) ?_⟩
  rw [w64 (x := i + 1) (by omega) (by omega)]
  exact ev_ifp (by omega) (ev_ifp h0 (ev_ifp (by omega) (ev_ifp (by have := h2.1; omega) (e2 r e))))
theorem gcS_ev {g : List Int} (hl : g.length ≤ 1099511627776) : ∃ x y c, Ev (fun k => spec_GapClash.f k g) (x, y, c) ∧ (c = true ↔ VG g ∧ ¬ CF g) := by
 unfold spec_GapClash.f
 by_cases h : VG g
 · have hlen := h.len
   obtain ⟨t0, t1, t2⟩ := h.top
   by_cases z : g.length = 0
   · refine ⟨0, 0, false, ev_bind _ (l8_ev hl) (ev_ifp (by simpa using h) (Ev.step (fun k => by rw [spec_GapClash.j0]) (ev_ifp (by simpa using z) (Ev.now _)))), fun k => by simp at k, fun k => absurd (fun a b _ _ _ _ q => ?_) k.2⟩
     rw [show g = [] from by simpa using z] at q
     simp at q
   · have e : topg g = rd g ((g.length : Int) - 1) := by unfold topg; rw [if_neg z]
     have w := w64 (x := (g.length : Int) - 1) (by omega) (by omega)
     obtain ⟨t', a1, a2⟩ := gcS_l0 h (r := (0, 0, false)) (fun _ _ _ => trivial) g.length 0 (List.replicate (2 * topg g + 1).toNat false) (by omega) (by omega) (ga_start g (by omega))
     obtain ⟨x, y, c, b1, b2⟩ := clS_l1 (m := 2 * topg g) (top := topg g) a1 (by omega) (by omega) (max 1 (topg g + 1) - 1).toNat 1 (by omega) (by omega)
     refine ⟨x, y, c, ev_bind _ (l8_ev hl) (ev_ifp (by simpa using h) (Ev.step (fun k => by rw [spec_GapClash.j0]) ?_)), by rw [b2]; exact ⟨fun k => ⟨h, fun q => (cf_iff h).1 q k⟩, fun k => Classical.byContradiction fun q => k.2 ((cf_iff h).2 q)⟩⟩
     rw [w, ← e, w64 (x := 2 * topg g) (by omega) (by omega), w64 (x := 2 * topg g + 1) (by omega) (by omega)]
     exact ev_ifn (by simpa using z) (ev_ifp (by omega) (ev_ifp (by omega) (ev_ifp (by omega) (ev_ifp (by omega) (a2 _ b1)))))
 · exact ⟨0, 0, false, ev_bind _ (l8_ev hl) (ev_ifn (by simpa using h) (Ev.step (fun k => by rw [spec_GapClash.j0]) (ev_ifp rfl (Ev.now _)))), fun k => by simp at k, fun k => absurd k.1 h⟩
theorem gcI_l0 {g : List Int} (h : VG g) (hz : g.length ≠ 0) (d : Nat) : ∀ (i : Int) (t : List Bool), 0 ≤ i → i + d = g.length → ((t.length : Int) = 200 + 1 ∧ ∀ j, 0 ≤ j → j ≤ 200 → (rdOf false t j = true ↔ ∃ q, 0 ≤ q ∧ q < i ∧ rd g q = j)) → ∃ t', GA g 200 t' ∧ ∀ r, Ev (fun k => impl_GapClash.l1 k t' (topg g) 1) r → Ev (fun k => impl_GapClash.l0 k g t g g.length i) r := by
 have hlen := h.len
 have e : topg g = rd g ((g.length : Int) - 1) := by unfold topg; rw [if_neg hz]
 induction d with
 | zero =>
  intro i t h0 h1 h2
  rw [show i = (g.length : Int) from by omega] at h2
  refine ⟨t, ga_end h2, fun r q => Ev.step (fun k => by rw [impl_GapClash.l0]) ?_⟩
  rw [w64 (x := (g.length : Int) - 1) (by omega) (by omega), ← e]
  exact ev_ifn (by omega) (ev_ifp (by omega) (ev_ifp (by omega) q))
 | succ d ih =>
  intro i t h0 h1 h2
  have b := h.2 _ (rd_mem (l := g) h0 (by omega))
  obtain ⟨t', e1, e2⟩ := ih (i + 1) (t.set (rd g i).toNat true) (by omega) (by omega) (ga_step h0 (by omega) ⟨by omega, by omega⟩ h2)
  refine ⟨t', e1, fun r q => Ev.step (fun k => by rw [impl_GapClash.l0]) ?_⟩
  rw [w64 (x := i + 1) (by omega) (by omega)]
  exact ev_ifp (by omega) (ev_ifp h0 (ev_ifp (by omega) (ev_ifp (by omega) (ev_ifp (by have := h2.1; omega) (e2 r q)))))
theorem gcI_ev {g : List Int} (hl : g.length ≤ 1099511627776) : ∃ x y c, Ev (fun k => impl_GapClash.f k g) (x, y, c) ∧ (c = true ↔ VG g ∧ ¬ CF g) := by
 unfold impl_GapClash.f
 by_cases h : VG g
 · have hlen := h.len
   obtain ⟨t0, t1, t2⟩ := h.top
   by_cases z : g.length = 0
   · refine ⟨0, 0, false, ev_bind _ (gl_ev hl) (ev_ifp (by simpa using h) (Ev.step (fun k => by rw [impl_GapClash.j0]) (ev_ifp (by simpa using z) (Ev.now _)))), fun k => by simp at k, fun k => absurd (fun a b _ _ _ _ q => ?_) k.2⟩
     rw [show g = [] from by simpa using z] at q
     simp at q
   · obtain ⟨t', a1, a2⟩ := gcI_l0 h z g.length 0 (List.replicate 201 false) (by omega) (by omega) (ga_start g (m := 200) (by omega))
     obtain ⟨x, y, c, b1, b2⟩ := clI_l1 (m := 200) (top := topg g) a1 (by omega) (by omega) (max 1 (topg g + 1) - 1).toNat 1 (by omega) (by omega)
     refine ⟨x, y, c, ev_bind _ (gl_ev hl) (ev_ifp (by simpa using h) (Ev.step (fun k => by rw [impl_GapClash.j0]) ?_)), by rw [b2]; exact ⟨fun k => ⟨h, fun q => (cf_iff h).1 q k⟩, fun k => Classical.byContradiction fun q => k.2 ((cf_iff h).2 q)⟩⟩
     exact ev_ifn (by simpa using z) (ev_ifp (by omega) (a2 _ b1))
 · exact ⟨0, 0, false, ev_bind _ (gl_ev hl) (ev_ifn (by simpa using h) (Ev.step (fun k => by rw [impl_GapClash.j0]) (ev_ifp rfl (Ev.now _)))), fun k => by simp at k, fun k => absurd k.1 h⟩
def FG (g : List Int) : Prop := VG g ∧ CF g ∧ SG (mg g)
noncomputable instance (g : List Int) : Decidable (FG g) := Classical.propDecidable _
noncomputable def fgr (g : List Int) : List Int × Bool := if FG g then (mg g, true) else ([], false)
theorem mg_len (g : List Int) : (mg g).length ≤ 400 := fl_len _ _ _
theorem fgS_l0 {g : List Int} (h : VG g) (hc : CF g) (d : Nat) : ∀ n : Nat, n + d = 2 * (topg g).toNat + 2 → Ev (fun k => spec_FromGaps.l0 k g (fl (isMin g) 1 n) (topg g) ((n : Int) + 1)) (fgr g) := by
 have hlen := h.len
 obtain ⟨t0, t1, t2⟩ := h.top
 have w := w64 (x := 2 * topg g) (by omega) (by omega)
 have w' := w64 (x := 2 * topg g + 2) (by omega) (by omega)
 induction d with
 | zero =>
  intro n hn
  have ml := mg_len g
  rw [mg_cut h (by omega) (by omega)]
  refine Ev.step (fun k => by rw [spec_FromGaps.l0]) ?_
  rw [w, w']
  refine ev_ifn (by omega) (ev_bind _ (sgS_ev (by omega)) ?_)
  by_cases s : SG (mg g)
  · exact ev_ifp (by simpa using s) (ev_to (Ev.now _) (by unfold fgr; rw [if_pos ⟨h, hc, s⟩]))
  · exact ev_ifn (by simpa using s) (ev_to (Ev.now _) (by unfold fgr; rw [if_neg (fun k => s k.2.2)]))
 | succ d ih =>
  intro n hn
  have fll := fl_len (isMin g) n 1
  have nx := ih (n + 1) (by omega)
  rw [show (((n + 1 : Nat)) : Int) + 1 = (n : Int) + 1 + 1 from by omega, fl_app (isMin g) n 1 1, show (1 : Int) + (n : Int) = (n : Int) + 1 from by omega, show (1 : Nat) = 0 + 1 from rfl] at nx
  refine Ev.step (fun k => by rw [spec_FromGaps.l0]) ?_
  rw [w, w', w64 (x := (n : Int) + 1 + 1) (by omega) (by omega)]
  refine ev_ifp (by omega) (ev_bind _ (has_ev (by omega) _) ?_)
  by_cases m : ((n : Int) + 1) ∈ g
  · have nm : ¬ isMin g ((n : Int) + 1) = true := fun k => (isMin_t.1 k).1 m
    rw [fl_no nm, show ∀ j, fl (isMin g) j 0 = [] from fun _ => rfl, List.append_nil] at nx
    exact ev_ifp (by simpa using m) nx
  · refine ev_ifn (by simpa using m) ?_
    have sn := su_new hc m
    by_cases z : fl (isMin g) 1 n = []
    · have mn : isMin g ((n : Int) + 1) = true := Classical.byContradiction fun k => by
       have := sn.2 k
       rw [z] at this
       obtain ⟨x, hx, _⟩ := (Su.last (by omega)).1 this
       simp at hx
      rw [fl_yes mn, show ∀ j, fl (isMin g) j 0 = [] from fun _ => rfl] at nx
      exact ev_ifn (by rw [z]; simp) (ev_ifp (by omega) nx)
    · have zl : (fl (isMin g) 1 n).length ≠ 0 := by simpa using z
      obtain ⟨t, a1, a2, a3⟩ := tabG_ev (v := fl (isMin g) 1 n) (by omega) (fun x hx => by have := (fl_mem _ _).1 hx; omega) (most := (n : Int) + 1) (by omega) (by omega)
      have ht := a2 ((n : Int) + 1) (by omega) (Int.le_refl _)
      refine ev_ifp (by omega) (ev_bind _ a3 (ev_ifp (by omega) (ev_ifp (by omega) ?_)))
      by_cases mn : isMin g ((n : Int) + 1) = true
      · rw [fl_yes mn, show ∀ j, fl (isMin g) j 0 = [] from fun _ => rfl] at nx
        exact ev_ifn (fun k => sn.1 (ht.1 k) mn) (ev_ifp (by omega) nx)
      · rw [fl_no mn, show ∀ j, fl (isMin g) j 0 = [] from fun _ => rfl, List.append_nil] at nx
        exact ev_ifp (ht.2 (sn.2 mn)) nx
theorem fromGapsS_ev {g : List Int} (hl : g.length ≤ 1099511627776) : Ev (fun k => spec_FromGaps.f k g) (fgr g) := by
 obtain ⟨x, y, c, e1, e2⟩ := gcS_ev hl
 unfold spec_FromGaps.f
 refine ev_bind _ e1 (ev_bind _ (l8_ev hl) ?_)
 by_cases h : VG g
 · refine ev_ifp (by simpa using h) ?_
   by_cases hc : CF g
   · have cf : c = false := Bool.eq_false_iff.mpr (fun k => (e2.1 k).2 hc)
     subst cf
     have hlen := h.len
     have r := fgS_l0 h hc (2 * (topg g).toNat + 2) 0 (by omega)
     rw [show ((0 : Nat) : Int) + 1 = 1 from rfl, show fl (isMin g) 1 0 = [] from rfl] at r
     refine Ev.step (fun k => by rw [spec_FromGaps.j0]) (ev_ifn (by simp) ?_)
     simp only [Option.bind_some]
     by_cases z : g.length = 0
     · have e : topg g = 0 := by unfold topg; rw [if_pos z]
       rw [e] at r
       exact ev_ifn (by omega) (Ev.step (fun k => by rw [spec_FromGaps.j1]) r)
     · have e : topg g = rd g ((g.length : Int) - 1) := by unfold topg; rw [if_neg z]
       rw [w64 (x := (g.length : Int) - 1) (by omega) (by omega), ← e]
       exact ev_ifp (by omega) (ev_ifp (by omega) (ev_ifp (by omega) (Ev.step (fun k => by rw [spec_FromGaps.j1]) r)))
   · have ct : c = true := e2.2 ⟨h, hc⟩
     subst ct
     exact Ev.step (fun k => by rw [spec_FromGaps.j0]) (ev_ifp rfl (ev_to (Ev.now _) (by unfold fgr; rw [if_neg (fun k => hc k.2.1)])))
 · exact ev_ifn (by simpa using h) (Ev.step (fun k => by rw [spec_FromGaps.j0]) (ev_ifp rfl (ev_to (Ev.now _) (by unfold fgr; rw [if_neg (fun k => h k.1)]))))
theorem fgI_l2 {g : List Int} {t : List Bool} (h : GA g 400 t) {n : Int} (h1 : 1 ≤ n) (h2 : n ≤ 400) {u : List Int} (hu : (u.length : Int) ≤ 400) {r : List Int × Bool} (d : Nat) : ∀ (a : Int) (s : Bool), 1 ≤ a → a + d = n / 2 + 1 →
 ((s = true ∨ ∃ x, a ≤ x ∧ 2 * x ≤ n ∧ x ∉ g ∧ n - x ∉ g) → Ev (fun k => impl_FromGaps.l1 k g t (n + 1) u) r) → (¬ (s = true ∨ ∃ x, a ≤ x ∧ 2 * x ≤ n ∧ x ∉ g ∧ n - x ∉ g) → Ev (fun k => impl_FromGaps.l1 k g t (n + 1) (u ++ [n])) r) → Ev (fun k => impl_FromGaps.l2 k g t n s a u) r := by
 have hl := h.1
 induction d with
 | zero =>
  intro a s a1 a2 y no
  refine Ev.step (fun k => by rw [impl_FromGaps.l2]) ?_
  rw [w64 (x := 2 * a) (by omega) (by omega), w64 (x := n + 1) (by omega) (by omega)]
  refine ev_ifn (by omega) ?_
  by_cases c : s = true
  · exact ev_ifp c (y (.inl c))
  · exact ev_ifn c (ev_ifp (by omega) (no (fun k => k.elim c (fun ⟨x, x0, x1, _⟩ => by omega))))
 | succ d ih =>
  intro a s a1 a2 y no
  refine Ev.step (fun k => by rw [impl_FromGaps.l2]) ?_
  rw [w64 (x := 2 * a) (by omega) (by omega), w64 (x := n + 1) (by omega) (by omega), w64 (x := a + 1) (by omega) (by omega), w64 (x := n - a) (by omega) (by omega)]
  refine ev_ifp (by omega) ?_
  by_cases c : s = true
  · exact ev_ifp c (y (.inl c))
  · refine ev_ifn c (ev_ifp (by omega) (ev_ifp (by omega) ?_))
    have ha := h.2 a (by omega) (by omega)
    have hb := h.2 (n - a) (by omega) (by omega)
    by_cases q : a ∈ g
    · refine ev_ifp (ha.2 q) (ih (a + 1) false (by omega) (by omega) (fun k => y (k.elim (fun k => by simp at k) fun ⟨x, x0, x1⟩ => .inr ⟨x, by omega, x1⟩)) (fun k => no fun k' => k (k'.elim (fun k' => absurd k' c) fun ⟨x, x0, x1, x2, x3⟩ => .inr ⟨x, ?_, x1, x2, x3⟩)))
      by_cases e : x = a
      · rw [e] at x2; exact absurd q x2
      · omega
    · refine ev_ifn (fun k => q (ha.1 k)) (ev_ifp (by omega) (ev_ifp (by omega) (ih (a + 1) _ (by omega) (by omega) (fun k => y ?_) (fun k => no fun k' => k ?_))))
      · rcases k with k | ⟨x, x0, x1⟩
        · exact .inr ⟨a, Int.le_refl _, by omega, q, fun m => by rw [hb.2 m] at k; simp at k⟩
        · exact .inr ⟨x, by omega, x1⟩
      · rcases k' with k' | ⟨x, x0, x1, x2, x3⟩
        · exact absurd k' c
        · by_cases e : x = a
          · subst e
            exact .inl (by rw [Bool.eq_false_iff.mpr (fun k => x3 (hb.1 k))]; rfl)
          · exact .inr ⟨x, by omega, x1, x2, x3⟩
theorem fgI_l1 {g : List Int} (hv : VG g) (hc : CF g) {t : List Bool} (h : GA g 400 t) (d : Nat) : ∀ n : Nat, n + d = 400 → Ev (fun k => impl_FromGaps.l1 k g t ((n : Int) + 1) (fl (isMin g) 1 n)) (fgr g) := by
 have hl := h.1
 induction d with
 | zero =>
  intro n hn
  have ml := mg_len g
  have vl := hv.len
  rw [show n = 400 from by omega]
  change Ev (fun k => impl_FromGaps.l1 k g t ((400 : Nat) + 1 : Int) (mg g)) (fgr g)
  refine Ev.step (fun k => by rw [impl_FromGaps.l1]) (ev_ifn (by omega) (ev_bind _ (sgI_ev (by omega)) ?_))
  by_cases s : SG (mg g)
  · have gg := gapsI_gps (v := mg g) (by omega)
    rw [gps_sg s, gp_mg hv hc] at gg
    exact ev_ifp (by simpa using s) (ev_bind _ gg (ev_bind _ (sliceEq_ev (by omega)) (ev_ifp (by simp) (ev_to (Ev.now _) (by unfold fgr; rw [if_pos ⟨hv, hc, s⟩])))))
  · exact ev_ifn (by simpa using s) (ev_to (Ev.now _) (by unfold fgr; rw [if_neg (fun k => s k.2.2)]))
 | succ d ih =>
  intro n hn
  have fll := fl_len (isMin g) n 1
  have nx := ih (n + 1) (by omega)
  rw [show (((n + 1 : Nat)) : Int) + 1 = (n : Int) + 1 + 1 from by omega, fl_app (isMin g) n 1 1, show (1 : Int) + (n : Int) = (n : Int) + 1 from by omega, show (1 : Nat) = 0 + 1 from rfl] at nx
  have key : ((rdOf false t ((n : Int) + 1) = true ∨ ∃ x, 1 ≤ x ∧ 2 * x ≤ (n : Int) + 1 ∧ x ∉ g ∧ (n : Int) + 1 - x ∉ g) ↔ ¬ isMin g ((n : Int) + 1) = true) := by
   rw [h.2 _ (by omega) (by omega), isMin_t]
   constructor
   · rintro (k | ⟨x, x0, x1, x2, x3⟩) q
     · exact q.1 k
     · exact q.2 x ((n : Int) + 1 - x) x0 (by omega) x2 x3 (by omega)
   · intro k
     by_cases m : ((n : Int) + 1) ∈ g
     · exact .inl m
     · right
       have : ∃ a b : Int, 1 ≤ a ∧ 1 ≤ b ∧ a ∉ g ∧ b ∉ g ∧ a + b = (n : Int) + 1 := Classical.byContradiction fun q => k ⟨m, fun a b a1 b1 a2 b2 e => q ⟨a, b, a1, b1, a2, b2, e⟩⟩
       obtain ⟨a, b, a1, b1, a2, b2, e⟩ := this
       by_cases le : a ≤ b
       · exact ⟨a, a1, by omega, a2, by rw [show (n : Int) + 1 - a = b from by omega]; exact b2⟩
       · exact ⟨b, b1, by omega, b2, by rw [show (n : Int) + 1 - b = a from by omega]; exact a2⟩
  refine Ev.step (fun k => by rw [impl_FromGaps.l1]) (ev_ifp (by omega) (ev_ifp (by omega) (fgI_l2 h (by omega) (by omega) (by omega) (((n : Int) + 1) / 2).toNat 1 _ (by omega) (by omega) (fun k => ?_) (fun k => ?_))))
  · rw [fl_no (key.1 k), show ∀ j, fl (isMin g) j 0 = [] from fun _ => rfl, List.append_nil] at nx
    exact nx
  · rw [fl_yes (Classical.byContradiction fun q => k (key.2 q)), show ∀ j, fl (isMin g) j 0 = [] from fun _ => rfl] at nx
    exact nx
theorem fgI_l0 {g : List Int} (h : VG g) (hc : CF g) (d : Nat) : ∀ (i : Int) (t : List Bool), 0 ≤ i → i + d = g.length → ((t.length : Int) = 400 + 1 ∧ ∀ j, 0 ≤ j → j ≤ 400 → (rdOf false t j = true ↔ ∃ q, 0 ≤ q ∧ q < i ∧ rd g q = j)) → Ev (fun k => impl_FromGaps.l0 k g t g g.length i) (fgr g) := by
 have hlen := h.len
 induction d with
 | zero =>
  intro i t h0 h1 h2
  rw [show i = (g.length : Int) from by omega] at h2
  have r := fgI_l1 h hc (ga_end h2) 400 0 (by omega)
  rw [show ((0 : Nat) : Int) + 1 = 1 from rfl, show fl (isMin g) 1 0 = [] from rfl] at r
  exact Ev.step (fun k => by rw [impl_FromGaps.l0]) (ev_ifn (by omega) r)
 | succ d ih =>
  intro i t h0 h1 h2
  have b := h.2 _ (rd_mem (l := g) h0 (by omega))
  have e2 := ih (i + 1) (t.set (rd g i).toNat true) (by omega) (by omega) (ga_step h0 (by omega) ⟨by omega, by omega⟩ h2)
  refine Ev.step (fun k => by rw [impl_FromGaps.l0]) ?_
  rw [w64 (x := i + 1) (by omega) (by omega)]
  exact ev_ifp (by omega) (ev_ifp h0 (ev_ifp (by omega) (ev_ifp (by omega) (ev_ifp (by have := h2.1; omega) e2))))
theorem fromGapsI_ev {g : List Int} (hl : g.length ≤ 1099511627776) : Ev (fun k => impl_FromGaps.f k g) (fgr g) := by
 obtain ⟨x, y, c, e1, e2⟩ := gcI_ev hl
 unfold impl_FromGaps.f
 refine ev_bind _ e1 ?_
 by_cases ct : c = true
 · have := e2.1 ct
   exact ev_ifp ct (Ev.step (fun k => by rw [impl_FromGaps.j0]) (ev_ifp rfl (ev_to (Ev.now _) (by unfold fgr; rw [if_neg (fun k => this.2 k.2.1)]))))
 · refine ev_ifn ct (ev_bind _ (gl_ev hl) (Ev.step (fun k => by rw [impl_FromGaps.j0]) ?_))
   by_cases h : VG g
   · have hc : CF g := Classical.byContradiction fun k => ct (e2.2 ⟨h, k⟩)
     exact ev_ifn (nd_f h) (ev_ifp (by omega) (fgI_l0 h hc g.length 0 (List.replicate 401 false) (by omega) (by omega) (ga_start g (m := 400) (by omega))))
   · exact ev_ifp (nd_t h) (ev_to (Ev.now _) (by unfold fgr; rw [if_neg (fun k => h k.1)]))
theorem gapsS_gps {v : List Int} (hl : v.length ≤ 1099511627776) : Ev (fun k => spec_Gaps.f k v) (gps v) := by
 unfold spec_Gaps.f
 refine ev_bind _ (sgS_ev hl) ?_
 by_cases c : SG v
 · rw [gps_sg c]; exact ev_ifp (by simpa using c) (ev_bind _ (l4Gaps_ev c) (Ev.now _))
 · rw [gps_no c]; exact ev_ifn (by simpa using c) (Ev.now _)
theorem frI_ev {v : List Int} (hl : v.length ≤ 1099511627776) : Ev (fun k => impl_FrobeniusOf.f k v) (fob v) := by
 have g := gps_len v
 unfold impl_FrobeniusOf.f fob
 refine ev_bind _ (gapsI_gps hl) ?_
 by_cases c : (gps v).length = 0
 · rw [if_pos c]; exact ev_ifp (by omega) (Ev.now _)
 · rw [if_neg c, w64 (x := ((gps v).length : Int) - 1) (by omega) (by omega)]
   exact ev_ifn (by omega) (ev_ifp (by omega) (ev_ifp (by omega) (Ev.now _)))
theorem frS_ev {v : List Int} (hl : v.length ≤ 1099511627776) : Ev (fun k => spec_FrobeniusOf.f k v) (fob v) := by
 have g := gps_len v
 unfold spec_FrobeniusOf.f fob
 refine ev_bind _ (gapsS_gps hl) ?_
 by_cases c : (gps v).length = 0
 · rw [if_pos c]; exact ev_ifp (by omega) (Ev.now _)
 · rw [if_neg c, w64 (x := ((gps v).length : Int) - 1) (by omega) (by omega)]
   exact ev_ifn (by omega) (ev_ifp (by omega) (ev_ifp (by omega) (Ev.now _)))
def pw (l : List Int) : Prop := l.Pairwise (· < ·)
theorem pw_asc {l : List Int} (h : pw l) : Asc l := by
 induction l with
 | nil => intro i h0 h1; simp at h1; omega
 | cons x l ih => exact asc_cons (List.pairwise_cons.1 h).1 (ih (List.pairwise_cons.1 h).2)
theorem pw_eq : ∀ {a b : List Int}, pw a → pw b → (∀ z, z ∈ a ↔ z ∈ b) → a = b
 | [], [], _, _, _ => rfl
 | [], y :: b, _, _, h => absurd ((h y).2 (List.mem_cons_self ..)) (by simp)
 | x :: a, [], _, _, h => absurd ((h x).1 (List.mem_cons_self ..)) (by simp)
 | x :: a, y :: b, ha, hb, h => by
  have ha' := List.pairwise_cons.1 ha
  have hb' := List.pairwise_cons.1 hb
  have e : x = y := by
   rcases List.mem_cons.1 ((h x).1 (List.mem_cons_self ..)) with k | k
   · exact k
   · rcases List.mem_cons.1 ((h y).2 (List.mem_cons_self ..)) with q | q
     · exact q.symm
     · have := ha'.1 y q; have := hb'.1 x k; omega
  subst e
  refine congrArg (x :: ·) (pw_eq ha'.2 hb'.2 fun z => ⟨fun k => ?_, fun k => ?_⟩)
  · rcases List.mem_cons.1 ((h z).1 (List.mem_cons_of_mem _ k)) with q | q
    · have := ha'.1 z k; omega
    · exact q
  · rcases List.mem_cons.1 ((h z).2 (List.mem_cons_of_mem _ k)) with q | q
    · have := hb'.1 z k; omega
    · exact q
def ins1 (x : Int) : List Int → List Int
 | [] => [x]
 | y :: l => if x < y then x :: y :: l else if x = y then y :: l else y :: ins1 x l
theorem ins1_mem {x z : Int} : ∀ {l : List Int}, z ∈ ins1 x l ↔ z = x ∨ z ∈ l
 | [] => by simp [ins1]
 | y :: l => by
  unfold ins1
  split
  · simp
  · split
    · rename_i e; subst e; simp
    · rw [List.mem_cons, ins1_mem, List.mem_cons]; constructor
      · rintro (a | a | a)
        · exact .inr (.inl a)
        · exact .inl a
        · exact .inr (.inr a)
      · rintro (a | a | a)
        · exact .inr (.inl a)
        · exact .inl a
        · exact .inr (.inr a)
theorem ins1_pw {x : Int} : ∀ {l : List Int}, pw l → pw (ins1 x l)
 | [], _ => by simp [ins1, pw]
 | y :: l, h => by
  have h' := List.pairwise_cons.1 h
  unfold ins1
  split
  · rename_i c
    refine List.pairwise_cons.2 ⟨fun z hz => ?_, h⟩
    rcases List.mem_cons.1 hz with rfl | k
    · exact c
    · have := h'.1 z k; omega
  · split
    · exact h
    · rename_i c e
      refine List.pairwise_cons.2 ⟨fun z hz => ?_, ins1_pw h'.2⟩
      rcases ins1_mem.1 hz with rfl | k
      · omega
      · exact h'.1 z k
def srt (l : List Int) : List Int := l.foldr ins1 []
theorem srt_mem {z : Int} : ∀ {l : List Int}, z ∈ srt l ↔ z ∈ l
 | [] => by simp [srt]
 | x :: l => by
  have := srt_mem (z := z) (l := l)
  unfold srt at this ⊢
  rw [List.foldr_cons, ins1_mem, this, List.mem_cons]
theorem srt_pw : ∀ l : List Int, pw (srt l)
 | [] => by simp [srt, pw]
 | x :: l => by have := srt_pw l; unfold srt at this ⊢; rw [List.foldr_cons]; exact ins1_pw this
theorem ins1_len {x : Int} : ∀ {l : List Int}, (ins1 x l).length ≤ l.length + 1
 | [] => by simp [ins1]
 | y :: l => by
  have := ins1_len (x := x) (l := l)
  unfold ins1
  split
  · simp
  · split <;> simp <;> omega
theorem srt_len : ∀ l : List Int, (srt l).length ≤ l.length
 | [] => by simp [srt]
 | x :: l => by
  have := srt_len l
  have h := ins1_len (x := x) (l := srt l)
  unfold srt at this h ⊢
  rw [List.foldr_cons, List.length_cons]; omega
theorem pw_put {l : List Int} {x : Int} {p : Nat} (h : pw l) (lo : ∀ z ∈ l.take p, z < x) (hi : ∀ z ∈ l.drop p, x < z) : pw (l.take p ++ [x] ++ l.drop p) := by
 unfold pw at h ⊢
 rw [List.append_assoc]
 refine List.pairwise_append.2 ⟨h.sublist (List.take_sublist ..), List.pairwise_append.2 ⟨by simp, h.sublist (List.drop_sublist ..), fun a ha b hb => ?_⟩, fun a ha b hb => ?_⟩
 · rw [List.mem_singleton] at ha; subst ha; exact hi b hb
 · rcases List.mem_append.1 hb with q | q
   · rw [List.mem_singleton] at q; subst q; exact lo a ha
   · have := lo a ha; have := hi b q; omega
theorem srt_l1 {l : List Int} (hl : l.length ≤ 1048576) {i : Int} (h0 : 0 ≤ i) (hi : i < l.length) {x3 : List Int} (h3 : pw x3) (hn : (x3.length : Int) ≤ i) {r : List Int} (N : ∀ y, pw y → (y.length : Int) ≤ i + 1 → (∀ z, z ∈ y ↔ z ∈ x3 ∨ z = rd l i) → Ev (fun k => spec_SortList.l0 k l y (i + 1)) r) (d : Nat) : ∀ p : Int, p = d → p ≤ x3.length → (∀ z ∈ x3.drop p.toNat, rd l i < z) → Ev (fun k => spec_SortList.l1 k l x3 i p) r := by
 have put : ∀ p : Int, 0 ≤ p → p ≤ x3.length → (∀ z ∈ x3.take p.toNat, z < rd l i) → (∀ z ∈ x3.drop p.toNat, rd l i < z) → Ev (fun k => spec_SortList.l0 k l (x3.take p.toNat ++ [rd l i] ++ ([] ++ x3.drop p.toNat)) (i + 1)) r := fun p p0 p1 a b => by
  rw [List.nil_append]
  refine N _ (pw_put h3 a b) ?_ fun z => ?_
  · have := take_len p0 p1
    rw [List.length_append, List.length_append, List.length_singleton, List.length_drop]; omega
  · have e := List.take_append_drop p.toNat x3
    constructor
    · intro k
      rcases List.mem_append.1 k with k | k
      · rcases List.mem_append.1 k with k | k
        · exact .inl (List.mem_of_mem_take k)
        · exact .inr (List.mem_singleton.1 k)
      · exact .inl (List.mem_of_mem_drop k)
    · rintro (k | k)
      · rw [← e] at k
        rcases List.mem_append.1 k with k | k
        · exact List.mem_append_left _ (List.mem_append_left _ k)
        · exact List.mem_append_right _ k
      · exact List.mem_append_left _ (List.mem_append_right _ (List.mem_singleton.2 k))
 have w1 := w64 (x := i + 1) (by omega) (by omega)
 induction d with
 | zero =>
  intro p hp hp' hh
  have pt := put p (by omega) hp' (fun z hz => by rw [show p.toNat = 0 from by omega] at hz; simp at hz) hh
  have tl := take_len (v := x3) (i := p) (by omega) hp'
  refine Ev.step (fun k => by rw [spec_SortList.l1]) (ev_ifn (by omega) ?_)
  simp only [Option.bind_some]
  rw [w1]
  have dl : (x3.drop p.toNat).length ≤ x3.length := by rw [List.length_drop]; omega
  refine ev_ifp (by omega) (ev_ifp (by omega) (ev_ifp (by simp only [List.length_nil]; omega) (ev_ifp (by omega) (ev_ifp (by omega) (ev_ifp (by omega) (ev_ifp (by simp only [List.length_append, List.length_nil, List.length_singleton]; omega) pt))))))
 | succ d ih =>
  intro p hp hp' hh
  have dr := drop_rd (l := x3) (i := p - 1) (by omega) (by omega)
  rw [show p - 1 + 1 = p from by omega] at dr
  have tl := take_len (v := x3) (i := p) (by omega) hp'
  have dl : (x3.drop p.toNat).length ≤ x3.length := by rw [List.length_drop]; omega
  refine Ev.step (fun k => by rw [spec_SortList.l1]) (ev_ifp (by omega) ?_)
  rw [w64 (x := p - 1) (by omega) (by omega), w1]
  refine ev_ifp (by omega) (ev_ifp (by omega) (ev_ifp (by omega) (ev_ifp (by omega) ?_)))
  by_cases c : rd x3 (p - 1) > rd l i
  · exact ev_ifp c (ih (p - 1) (by omega) (by omega) (fun z hz => by
     rw [dr] at hz
     rcases List.mem_cons.1 hz with rfl | k
     · exact c
     · exact hh z k))
  · refine ev_ifn c ?_
    by_cases e : rd x3 (p - 1) = rd l i
    · refine ev_ifp e (N x3 h3 (by omega) fun z => ⟨fun k => .inl k, fun k => ?_⟩)
      rcases k with k | k
      · exact k
      · rw [k, ← e]; exact rd_mem (by omega) (by omega)
    · have pt := put p (by omega) hp' (fun z hz => by
       obtain ⟨j, j0, j1, j2⟩ := mem_rd hz
       rw [tl] at j1
       rw [← j2, rd_lt j0 (by rw [tl]; exact j1), List.getElem_take]
       rw [show x3[j.toNat]'(by omega) = rd x3 j from (rd_lt j0 (by omega)).symm]
       by_cases q : j = p - 1
       · rw [q]; omega
       · have := asc_lt (pw_asc h3) (p - 1 - j - 1).toNat j (p - 1) j0 (by omega) (by omega)
         omega) hh
      refine ev_ifn e ?_
      simp only [Option.bind_some]
      refine ev_ifp (by omega) (ev_ifp (by omega) (ev_ifp (by simp only [List.length_nil]; omega) (ev_ifp (by omega) (ev_ifp (by simp only [List.length_append, List.length_nil, List.length_singleton]; omega) pt))))
theorem srt_l0 {l : List Int} (hl : l.length ≤ 1048576) (d : Nat) : ∀ (i : Int) (x3 : List Int), 0 ≤ i → i + d = l.length → pw x3 → (x3.length : Int) ≤ i → (∀ z, z ∈ x3 ↔ z ∈ l.take i.toNat) → Ev (fun k => spec_SortList.l0 k l x3 i) (srt l) := by
 induction d with
 | zero =>
  intro i x3 h0 h1 h3 h4 h5
  refine Ev.step (fun k => by rw [spec_SortList.l0]) (ev_ifn (by omega) (ev_to (Ev.now _) ?_))
  rw [show i.toNat = l.length from by omega, List.take_length] at h5
  exact pw_eq h3 (srt_pw l) fun z => by rw [h5, srt_mem]
 | succ d ih =>
  intro i x3 h0 h1 h3 h4 h5
  refine Ev.step (fun k => by rw [spec_SortList.l0]) (ev_ifp (by omega) (srt_l1 hl h0 (by omega) h3 h4 (fun y y1 y2 y3 => ih (i + 1) y (by omega) (by omega) y1 y2 fun z => ?_) x3.length x3.length rfl (Int.le_refl _) (fun z hz => by simp at hz)))
  rw [y3, h5, take_rd h0 (by omega), List.mem_append, List.mem_singleton]
theorem sortS_srt {l : List Int} (hl : l.length ≤ 1048576) : Ev (fun k => spec_SortList.f k l) (srt l) :=
 srt_l0 hl l.length 0 [] (by omega) (by omega) (by simp [pw]) (by simp) (fun z => by simp)
end Go.Proofs.Ytonknpgfbkgbjaa.E
end
section
namespace Go.Proofs.Ytonknpgfbkgbjaa.E
open Go.RowKit Go.Proofs.YtonknpgfbkgbjaaW.PrintWords Go.Proofs.YtonknpgfbkgbjaaW.PrintLast Go.Proofs.YtonknpgfbkgbjaaW.PrintMore
set_option linter.unusedVariables false
set_option linter.unusedSimpArgs false
theorem cmp_l (d : Array Int) (hs : ∀ i j : Nat, i ≤ j → j < d.size → d[i]! ≤ d[j]!) (m : Nat) : m ≤ d.size → pw (Go.Lib.compactUpTo d m) ∧ (∀ z, z ∈ Go.Lib.compactUpTo d m ↔ ∃ j, j < m ∧ d[j]! = z) := by
 induction m with
 | zero => intro _; exact ⟨by simp [Go.Lib.compactUpTo, pw], fun z => by simp [Go.Lib.compactUpTo]⟩
 | succ m ih =>
  intro hm
  obtain ⟨h1, h2⟩ := ih (by omega)
  rw [Go.Lib.compactUpTo_succ]
  by_cases c : Go.Lib.keeps d m = true
  · rw [if_pos c]
    have k : m = 0 ∨ d[m]! ≠ d[m - 1]! := by unfold Go.Lib.keeps at c; simpa using c
    refine ⟨List.pairwise_append.2 ⟨h1, by simp, fun a ha b hb => ?_⟩, fun z => ?_⟩
    · rw [List.mem_singleton] at hb
      obtain ⟨j, j0, j1⟩ := (h2 a).1 ha
      have a1 := hs j (m - 1) (by omega) (by omega)
      have a2 := hs (m - 1) m (by omega) (by omega)
      rcases k with k | k
      · omega
      · rw [hb, ← j1]; omega
    · rw [List.mem_append, List.mem_singleton, h2]
      constructor
      · rintro (⟨j, j0, j1⟩ | e)
        · exact ⟨j, by omega, j1⟩
        · exact ⟨m, by omega, e.symm⟩
      · rintro ⟨j, j0, j1⟩
        by_cases e : j = m
        · right; rw [← j1, e]
        · exact .inl ⟨j, by omega, j1⟩
  · rw [if_neg c, List.append_nil]
    have k : m ≠ 0 ∧ d[m]! = d[m - 1]! := by
     unfold Go.Lib.keeps at c
     simp only [decide_eq_true_eq, not_or, Classical.not_not] at c
     exact c
    refine ⟨h1, fun z => ?_⟩
    rw [h2]
    constructor
    · rintro ⟨j, j0, j1⟩; exact ⟨j, by omega, j1⟩
    · rintro ⟨j, j0, j1⟩
      by_cases e : j = m
      · exact ⟨m - 1, by omega, by rw [← k.2, ← e]; exact j1⟩
      · exact ⟨j, by omega, j1⟩
theorem compact_srt (l : List Int) : Go.Lib.compact (l.mergeSort fun x y => decide (x ≤ y)) = srt l := by
 have sorted : (l.mergeSort fun x y => decide (x ≤ y)).Pairwise (fun x y => decide (x ≤ y) = true) := List.pairwise_mergeSort (fun a b c h k => by simp at *; omega) (fun a b => by simp; omega) l
 have perm := List.mergeSort_perm l (fun x y => decide (x ≤ y))
 generalize (l.mergeSort fun x y => decide (x ≤ y)) = s at sorted perm
 have get : ∀ i : Nat, ∀ h : i < s.length, s.toArray[i]! = s[i] := fun i h => by simp [h]
 obtain ⟨h1, h2⟩ := cmp_l s.toArray (fun i j hij hj => by
  have hj' : j < s.length := by simpa using hj
  rw [get i (by omega), get j hj']
  by_cases e : i = j
  · subst e; exact Int.le_refl _
  · have := List.pairwise_iff_getElem.1 sorted i j (by omega) hj' (by omega)
    simpa using this) s.length (by simp)
 refine pw_eq h1 (srt_pw l) fun z => ?_
 show z ∈ Go.Lib.compactUpTo s.toArray s.length ↔ _
 rw [h2, srt_mem, ← perm.mem_iff]
 constructor
 · rintro ⟨j, j0, j1⟩; rw [← j1, get j j0]; exact List.getElem_mem _
 · intro k
   obtain ⟨j, j0, j1⟩ := List.getElem_of_mem k
   exact ⟨j, j0, by rw [get j j0]; exact j1⟩
end Go.Proofs.Ytonknpgfbkgbjaa.E
end
section
namespace Go.Proofs.Ytonknpgfbkgbjaa.E
open Go.RowKit Go.Proofs.Ytonknpgfbkgbjaa.PC Go.Proofs.YtonknpgfbkgbjaaW.PrintWords Go.Proofs.YtonknpgfbkgbjaaW.PrintLast Go.Proofs.YtonknpgfbkgbjaaW.PrintMore
set_option linter.unusedVariables false
set_option linter.unusedSimpArgs false
theorem sortI_srt {l : List Int} (hl : l.length ≤ 1048576) : Ev (fun k => impl_SortList.f k l) (srt l) := by
 unfold impl_SortList.f
 exact ev_ifp (by omega) (ev_to (Ev.now _) (compact_srt l))
noncomputable def rmg (v : List Int) (x : Int) : List Int × Bool := fgr (srt (gp v ++ [x]))
theorem rmS_ev {v : List Int} (h : SG v) {x : Int} (hx : x ∈ v) : Ev (fun k => spec_RemoveGenerator.f k v x) (rmg v x) := by
 have hl := h.len
 have g := gp_len v
 unfold spec_RemoveGenerator.f
 refine ev_bind _ (sgS_ev (by omega)) ?_
 refine ev_ifp (by simpa using h) ?_
 refine ev_bind _ (has_ev (by omega) x) ?_
 rw [show (!decide (x ∈ v)) = false from by simp [hx]]
 refine Ev.step (fun k => by rw [spec_RemoveGenerator.j0]) ?_
 refine ev_ifn (by simp) ?_
 refine ev_bind _ (l4Gaps_ev h) ?_
 refine ev_ifp (by omega) ?_
 have e : (gp v ++ [x]).length = (gp v).length + 1 := by simp
 have s := srt_len (gp v ++ [x])
 refine ev_bind _ (sortS_srt (by omega)) ?_
 exact ev_bind _ (fromGapsS_ev (by omega)) (Ev.now _)
theorem idx_l {l : List Int} (hl : l.length ≤ 1099511627776) {x : Int} (d : Nat) : ∀ i : Int, 0 ≤ i → i + d = l.length → ∃ r : Int, Ev (fun k => slices_Index_int_int.l0 k l x l.length i) r ∧ (0 ≤ r ↔ x ∈ l.drop i.toNat) := by
 induction d with
 | zero =>
  intro i h0 h1
  refine ⟨-1, Ev.step (fun k => by rw [slices_Index_int_int.l0]) (ev_ifn (by omega) (Ev.now _)), ?_⟩
  rw [List.drop_of_length_le (by omega)]
  simp
 | succ d ih =>
  intro i h0 h1
  rw [drop_rd h0 (by omega)]
  by_cases c : x = rd l i
  · refine ⟨i, Ev.step (fun k => by rw [slices_Index_int_int.l0]) (ev_ifp (by omega) (ev_ifp h0 (ev_ifp (by omega) (ev_ifp c (Ev.now _))))), ?_⟩
    simp [c, h0]
  · obtain ⟨r, r1, r2⟩ := ih (i + 1) (by omega) (by omega)
    refine ⟨r, Ev.step (fun k => by rw [slices_Index_int_int.l0]) (ev_ifp (by omega) (ev_ifp h0 (ev_ifp (by omega) (ev_ifn c ?_)))), ?_⟩
    · rw [w64 (x := i + 1) (by omega) (by omega)]; exact r1
    · rw [r2, List.mem_cons]
      exact ⟨fun q => .inr q, fun q => q.resolve_left c⟩
theorem cont_ev {l : List Int} (hl : l.length ≤ 1099511627776) (x : Int) : Ev (fun k => slices_Contains_int_int.f k l x) (decide (x ∈ l)) := by
 obtain ⟨r, r1, r2⟩ := idx_l hl (x := x) l.length 0 (by omega) (by omega)
 unfold slices_Contains_int_int.f slices_Index_int_int.f
 refine ev_bind _ r1 (ev_to (Ev.now _) ?_)
 have : (0 ≤ r) = (x ∈ l) := by rw [r2]; rfl
 simp only [ge_iff_le, this]
theorem rmI_ev {v : List Int} (h : SG v) {x : Int} (hx : x ∈ v) : Ev (fun k => impl_RemoveGenerator.f k v x) (rmg v x) := by
 have hl := h.len
 have g := gp_len v
 unfold impl_RemoveGenerator.f
 refine ev_bind _ (sgI_ev (by omega)) ?_
 refine ev_ifp (by simpa using h) ?_
 refine ev_bind _ (cont_ev (by omega) x) ?_
 rw [show (!decide (x ∈ v)) = false from by simp [hx]]
 refine Ev.step (fun k => by rw [impl_RemoveGenerator.j0]) ?_
 refine ev_ifn (by simp) ?_
 have ge := gapsI_gps (v := v) (by omega)
 rw [gps_sg h] at ge
 refine ev_bind _ ge ?_
 refine ev_ifp (by omega) ?_
 have e : (gp v ++ [x]).length = (gp v).length + 1 := by simp
 have s := srt_len (gp v ++ [x])
 refine ev_bind _ (sortI_srt (by omega)) ?_
 exact ev_bind _ (fromGapsI_ev (by omega)) (Ev.now _)
noncomputable def kgo (v : List Int) (acc : List S26) : List Int → List S26 × Bool
 | [] => (acc, true)
 | x :: r => if x ≤ fob v then kgo v acc r else if (rmg v x).2 = true then kgo v (acc ++ [⟨(rmg v x).1⟩]) r else ([], false)
noncomputable def kids (v : List Int) : List S26 × Bool := if SG v then kgo v [] v else ([], false)
theorem kgo_len (v : List Int) : ∀ (l : List Int) (acc : List S26), (kgo v acc l).1.length ≤ acc.length + l.length
 | [], acc => Nat.le_refl _
 | x :: r, acc => by
  unfold kgo
  split
  · have := kgo_len v r acc; simp only [List.length_cons]; omega
  · split
    · have := kgo_len v r (acc ++ [⟨(rmg v x).1⟩])
      simp only [List.length_append, List.length_cons, List.length_nil] at this ⊢; omega
    · simp
theorem kids_len (v : List Int) : (kids v).1.length ≤ 12 := by
 unfold kids
 split
 · rename_i h
   have := kgo_len v v []
   have := h.len
   simp only [List.length_nil] at *; omega
 · simp
theorem kgo_is (v : List Int) : ∀ (l : List Int) (acc : List S26), kgo v acc l = ([], false) ∨ (kgo v acc l = (acc ++ (l.filter fun x => !decide (x ≤ fob v)).map (fun x => ⟨(rmg v x).1⟩), true) ∧ ∀ x ∈ l, ¬ x ≤ fob v → (rmg v x).2 = true)
 | [], acc => .inr ⟨by simp [kgo], fun x hx => by cases hx⟩
 | x :: r, acc => by
  unfold kgo
  by_cases c : x ≤ fob v
  · rw [if_pos c]
    rcases kgo_is v r acc with h | ⟨h, k⟩
    · exact .inl h
    · refine .inr ⟨?_, fun y hy hn => ?_⟩
      · rw [h, List.filter_cons_of_neg (by simp [c])]
      · rcases List.mem_cons.1 hy with e | hy
        · rw [e] at hn; exact absurd c hn
        · exact k y hy hn
  · rw [if_neg c]
    by_cases b : (rmg v x).2 = true
    · rw [if_pos b]
      rcases kgo_is v r (acc ++ [⟨(rmg v x).1⟩]) with h | ⟨h, k⟩
      · exact .inl h
      · refine .inr ⟨?_, fun y hy hn => ?_⟩
        · rw [h, List.filter_cons_of_pos (by simp [c]), List.map_cons, List.append_assoc]; rfl
        · rcases List.mem_cons.1 hy with e | hy
          · rw [e]; exact b
          · exact k y hy hn
    · rw [if_neg b]; exact .inl rfl
theorem kidS_l {v : List Int} (h : SG v) (d : Nat) : ∀ (i : Int) (acc : List S26), 0 ≤ i → i + d = v.length → (acc.length : Int) ≤ i → Ev (fun k => spec_ChildrenOf.l0 k acc (fob v) i v) (kgo v acc (v.drop i.toNat)) := by
 have hl := h.len
 induction d with
 | zero =>
  intro i acc h0 h1 h2
  rw [List.drop_of_length_le (by omega), kgo]
  exact Ev.step (fun k => by rw [spec_ChildrenOf.l0]) (ev_ifn (by omega) (Ev.now _))
 | succ d ih =>
  intro i acc h0 h1 h2
  rw [drop_rd h0 (by omega), kgo]
  refine Ev.step (fun k => by rw [spec_ChildrenOf.l0]) (ev_ifp (by omega) (ev_ifp h0 ?_))
  rw [w64 (x := i + 1) (by omega) (by omega)]
  by_cases c : rd v i ≤ fob v
  · rw [if_pos c]
    exact ev_ifp c (ih (i + 1) acc (by omega) (by omega) (by omega))
  · rw [if_neg c]
    refine ev_ifn c (ev_bind _ (rmS_ev h (rd_mem h0 (by omega))) ?_)
    by_cases b : (rmg v (rd v i)).2 = true
    · rw [if_pos b]
      refine ev_ifp b (ev_ifp (by omega) ?_)
      exact ih (i + 1) _ (by omega) (by omega) (by simp only [List.length_append, List.length_singleton]; omega)
    · rw [if_neg b]
      exact ev_ifn b (Ev.now _)
theorem kidS_ev {v : List Int} (hv : v.length ≤ 1099511627776) : Ev (fun k => spec_ChildrenOf.f k v) (kids v) := by
 unfold spec_ChildrenOf.f kids
 refine ev_bind _ (sgS_ev hv) ?_
 by_cases h : SG v
 · rw [if_pos h]
   exact ev_ifp (by simpa using h) (ev_bind _ (frS_ev hv) (kidS_l h v.length 0 [] (by omega) (by omega) (by simp)))
 · rw [if_neg h]
   exact ev_ifn (by simpa using h) (Ev.now _)
theorem kidI_l {v : List Int} (h : SG v) (d : Nat) : ∀ (i : Int) (acc : List S26), 0 ≤ i → i + d = v.length → (acc.length : Int) ≤ i → Ev (fun k => impl_ChildrenOf.l0 k (fob v) acc v v.length i v) (kgo v acc (v.drop i.toNat)) := by
 have hl := h.len
 induction d with
 | zero =>
  intro i acc h0 h1 h2
  rw [List.drop_of_length_le (by omega), kgo]
  exact Ev.step (fun k => by rw [impl_ChildrenOf.l0]) (ev_ifn (by omega) (Ev.now _))
 | succ d ih =>
  intro i acc h0 h1 h2
  rw [drop_rd h0 (by omega), kgo]
  refine Ev.step (fun k => by rw [impl_ChildrenOf.l0]) (ev_ifp (by omega) (ev_ifp h0 (ev_ifp (by omega) ?_)))
  rw [w64 (x := i + 1) (by omega) (by omega)]
  by_cases c : rd v i ≤ fob v
  · rw [if_pos c]
    exact ev_ifp c (ih (i + 1) acc (by omega) (by omega) (by omega))
  · rw [if_neg c]
    refine ev_ifn c (ev_bind _ (rmI_ev h (rd_mem h0 (by omega))) ?_)
    by_cases b : (rmg v (rd v i)).2 = true
    · rw [if_pos b]
      refine ev_ifp b (ev_ifp (by omega) ?_)
      exact ih (i + 1) _ (by omega) (by omega) (by simp only [List.length_append, List.length_singleton]; omega)
    · rw [if_neg b]
      exact ev_ifn b (Ev.now _)
theorem kidI_ev {v : List Int} (hv : v.length ≤ 1099511627776) : Ev (fun k => impl_ChildrenOf.f k v) (kids v) := by
 unfold impl_ChildrenOf.f kids
 refine ev_bind _ (sgI_ev hv) ?_
 by_cases h : SG v
 · rw [if_pos h]
   exact ev_ifp (by simpa using h) (ev_bind _ (frI_ev hv) (kidI_l h v.length 0 [] (by omega) (by omega) (by simp)))
 · rw [if_neg h]
   exact ev_ifn (by simpa using h) (Ev.now _)
theorem ev_mono {α : Type} {g : Nat → Option α} (m : ∀ k, LeO (g k) (g (k + 1))) {n : Nat} {r : α} (h : g n = some r) : Ev g r := ⟨n, fun k hk => by
 obtain ⟨d, rfl⟩ := Nat.le.dest hk
 induction d with
 | zero => exact h
 | succ d ih => exact m (n + d) r (ih (Nat.le_add_right _ _))⟩
theorem asc_pw {l : List Int} (h : Asc l) : pw l := by
 unfold pw
 rw [List.pairwise_iff_getElem]
 intro i j hi hj hij
 have := asc_lt h (j - i - 1) (i : Int) (j : Int) (by omega) (by omega) (by omega)
 rwa [rd_lt (by omega) (by omega), rd_lt (by omega) (by omega)] at this
def lx : List Int → List Int → Bool
 | a :: r, b :: s => if a = b then lx r s else decide (a < b)
 | _, _ => false
def bef (a b : List Int) : Bool := if a.length = b.length then lx a b else decide (a.length < b.length)
theorem bef_l {a b : List Int} (hl : a.length ≤ 1099511627776) (e : a.length = b.length) (d : Nat) : ∀ i : Int, 0 ≤ i → i + d = a.length → Ev (fun k => spec_l19Before.l0 k a b i) (lx (a.drop i.toNat) (b.drop i.toNat)) := by
 induction d with
 | zero =>
  intro i h0 h1
  rw [List.drop_of_length_le (by omega), lx]
  · exact Ev.step (fun k => by rw [spec_l19Before.l0]) (ev_ifn (by omega) (Ev.now _))
  · intro _ _ _ _ h; cases h
 | succ d ih =>
  intro i h0 h1
  rw [drop_rd h0 (by omega), drop_rd (l := b) h0 (by omega), lx]
  refine Ev.step (fun k => by rw [spec_l19Before.l0]) (ev_ifp (by omega) (ev_ifp h0 (ev_ifp (by omega) ?_)))
  rw [w64 (x := i + 1) (by omega) (by omega)]
  by_cases c : rd a i = rd b i
  · rw [if_pos c]; exact ev_ifp c (ih (i + 1) (by omega) (by omega))
  · rw [if_neg c]; exact ev_ifn c (Ev.now _)
theorem bef_ev {a b : List Int} (hl : a.length ≤ 1099511627776) : Ev (fun k => spec_l19Before.f k a b) (bef a b) := by
 unfold spec_l19Before.f bef
 by_cases c : a.length = b.length
 · rw [if_pos c]; exact ev_ifp (by omega) (bef_l hl c a.length 0 (by omega) (by omega))
 · rw [if_neg c]
   refine ev_ifn (by omega) (ev_to (Ev.now _) ?_)
   by_cases k : a.length < b.length
   · rw [decide_eq_true k, decide_eq_true (show (a.length : Int) < (b.length : Int) by omega)]
   · rw [decide_eq_false k, decide_eq_false (show ¬ (a.length : Int) < (b.length : Int) by omega)]
def cmpl : List Int → List Int → Int
 | [], [] => 0
 | [], _ :: _ => -1
 | _ :: _, [] => 1
 | a :: r, b :: s => if a < b then -1 else if b < a then 1 else cmpl r s
theorem cmp1_eq (a b : Int) : cmp_Compare_int.f a b = some (if a < b then -1 else if b < a then 1 else 0) := by
 unfold cmp_Compare_int.f cmp_isNaN_int.f
 simp only [Option.bind_some, bne_self_eq_false, Bool.false_eq_true, if_false, gt_iff_lt]
 split
 · rfl
 · split <;> rfl
theorem cmpl_l {a b : List Int} (hl : a.length ≤ 1099511627776) (d : Nat) : ∀ i : Int, 0 ≤ i → i + d = a.length → i ≤ b.length → Ev (fun k => slices_Compare_int_int.l0 k a b a a.length i) (cmpl (a.drop i.toNat) (b.drop i.toNat)) := by
 induction d with
 | zero =>
  intro i h0 h1 h2
  rw [List.drop_of_length_le (l := a) (by omega)]
  refine Ev.step (fun k => by rw [slices_Compare_int_int.l0]) (ev_ifn (by omega) ?_)
  by_cases c : (a.length : Int) < b.length
  · rw [drop_rd (l := b) h0 (by omega), cmpl]
    exact ev_ifp c (Ev.now _)
  · rw [List.drop_of_length_le (l := b) (by omega), cmpl]
    exact ev_ifn c (Ev.now _)
 | succ d ih =>
  intro i h0 h1 h2
  rw [drop_rd h0 (by omega)]
  refine Ev.step (fun k => by rw [slices_Compare_int_int.l0]) (ev_ifp (by omega) (ev_ifp h0 (ev_ifp (by omega) ?_)))
  by_cases c : i ≥ (b.length : Int)
  · rw [List.drop_of_length_le (l := b) (by omega), cmpl]
    exact ev_ifp c (Ev.now _)
  · rw [drop_rd (l := b) h0 (by omega), cmpl]
    refine ev_ifn c (ev_ifp (by omega) ?_)
    rw [cmp1_eq]
    simp only [Option.bind_some]
    rw [w64 (x := i + 1) (by omega) (by omega)]
    by_cases p : rd a i < rd b i
    · simp only [if_pos p]; exact ev_ifn (by decide) (Ev.now _)
    · by_cases q : rd b i < rd a i
      · simp only [if_neg p, if_pos q]; exact ev_ifn (by decide) (Ev.now _)
      · simp only [if_neg p, if_neg q]; exact ev_ifp trivial (ih (i + 1) (by omega) (by omega) (by omega))
theorem cmpl_ev {a b : List Int} (hl : a.length ≤ 1099511627776) : Ev (fun k => slices_Compare_int_int.f k a b) (cmpl a b) := cmpl_l hl a.length 0 (by omega) (by omega) (by omega)
theorem cmpl_swap : ∀ a b : List Int, cmpl b a = - cmpl a b
 | [], [] => rfl
 | [], _ :: _ => rfl
 | _ :: _, [] => rfl
 | a :: r, b :: s => by
  unfold cmpl
  by_cases p : a < b
  · simp only [if_pos p, if_neg (show ¬ b < a by omega)]; rfl
  · by_cases q : b < a
    · simp only [if_neg p, if_pos q]
    · simp only [if_neg p, if_neg q]; exact cmpl_swap r s
theorem cmpl_le : ∀ a b c : List Int, cmpl a b ≤ 0 → cmpl b c ≤ 0 → cmpl a c ≤ 0
 | [], _, [], _, _ => Int.le_refl _
 | [], _, _ :: _, _, _ => by unfold cmpl; decide
 | _ :: _, [], _, h, _ => by unfold cmpl at h; exact absurd h (by decide)
 | _ :: _, _ :: _, [], _, h => by unfold cmpl at h; exact absurd h (by decide)
 | a :: r, b :: s, c :: t, h, k => by
  unfold cmpl at h k ⊢
  by_cases p : a < b
  · by_cases q : b < c
    · rw [if_pos (show a < c by omega)]; decide
    · rw [if_neg q] at k
      by_cases w : c < b
      · rw [if_pos w] at k; exact absurd k (by decide)
      · rw [if_pos (show a < c by omega)]; decide
  · rw [if_neg p] at h
    by_cases p' : b < a
    · rw [if_pos p'] at h; exact absurd h (by decide)
    · rw [if_neg p'] at h
      by_cases q : b < c
      · rw [if_pos (show a < c by omega)]; decide
      · rw [if_neg q] at k
        by_cases w : c < b
        · rw [if_pos w] at k; exact absurd k (by decide)
        · rw [if_neg w] at k
          rw [if_neg (show ¬ a < c by omega), if_neg (show ¬ c < a by omega)]
          exact cmpl_le r s t h k
theorem lx_cmpl : ∀ a b : List Int, lx a b = true → cmpl a b < 0
 | [], _, h => by simp [lx] at h
 | _ :: _, [], h => by simp [lx] at h
 | a :: r, b :: s, h => by
  unfold lx at h
  unfold cmpl
  by_cases c : a = b
  · rw [if_pos c] at h
    rw [if_neg (by omega), if_neg (by omega)]
    exact lx_cmpl r s h
  · rw [if_neg c] at h
    rw [if_pos (of_decide_eq_true h)]; decide
theorem lx_app : ∀ a b c d : List Int, a.length = b.length → lx a b = true → lx (a ++ c) (b ++ d) = true
 | [], _, _, _, _, h => by simp [lx] at h
 | _ :: _, [], _, _, _, h => by simp [lx] at h
 | a :: r, b :: s, c, d, e, h => by
  unfold lx at h
  rw [List.cons_append, List.cons_append]
  unfold lx
  by_cases q : a = b
  · rw [if_pos q] at h ⊢
    exact lx_app r s c d (by simpa using e) h
  · rw [if_neg q] at h ⊢
    exact h
theorem lx_snoc : ∀ (g : List Int) (x y : Int), x < y → lx (g ++ [x]) (g ++ [y]) = true
 | [], x, y, h => by
  show lx [x] [y] = true
  unfold lx
  rw [if_neg (by omega)]
  exact decide_eq_true h
 | a :: r, x, y, h => by
  rw [List.cons_append, List.cons_append]
  unfold lx
  rw [if_pos rfl]
  exact lx_snoc r x y h
noncomputable def gnI (v : List Int) : Int := if SG v then ((gp v).length : Int) else -1
theorem gnI_ev {v : List Int} (hv : v.length ≤ 1099511627776) : Ev (fun k => impl_GenusOf.f k v) (gnI v) := by
 unfold impl_GenusOf.f gnI
 refine ev_bind _ (sgI_ev hv) ?_
 by_cases h : SG v
 · rw [if_pos h]
   have g := gapsI_gps hv
   rw [gps_sg h] at g
   exact ev_ifp (by simpa using h) (ev_bind _ g (Ev.now _))
 · rw [if_neg h]
   exact ev_ifn (by simpa using h) (Ev.now _)
theorem gnI_le (v : List Int) : -1 ≤ gnI v ∧ gnI v ≤ 199 := by
 unfold gnI
 have := gp_len v
 split <;> omega
noncomputable def kc (v u : List Int) : Int := if gnI v - gnI u = 0 then cmpl (gps v) (gps u) else gnI v - gnI u
theorem kc_ev {v u : List Int} (hv : v.length ≤ 1099511627776) (hu : u.length ≤ 1099511627776) : Ev (fun k => impl_inOrderCmp.f k v u) (kc v u) := by
 have a := gnI_le v
 have b := gnI_le u
 have g := gps_len v
 unfold impl_inOrderCmp.f kc
 refine ev_bind _ (gnI_ev hv) (ev_bind _ (gnI_ev hu) ?_)
 rw [w64 (x := gnI v - gnI u) (by omega) (by omega)]
 by_cases c : gnI v - gnI u = 0
 · rw [if_pos c]
   exact ev_ifp c (ev_bind _ (gapsI_gps hv) (ev_bind _ (gapsI_gps hu) (ev_bind _ (cmpl_ev (by omega)) (Ev.now _))))
 · rw [if_neg c]
   exact ev_ifn c (Ev.now _)
theorem kc_swap (v u : List Int) : kc u v = - kc v u := by
 unfold kc
 by_cases c : gnI v - gnI u = 0
 · rw [if_pos c, if_pos (show gnI u - gnI v = 0 by omega)]; exact cmpl_swap _ _
 · rw [if_neg c, if_neg (show ¬ gnI u - gnI v = 0 by omega)]; omega
theorem kc_le {a b c : List Int} (h : kc a b ≤ 0) (k : kc b c ≤ 0) : kc a c ≤ 0 := by
 unfold kc at h k ⊢
 by_cases p : gnI a - gnI b = 0
 · rw [if_pos p] at h
   by_cases q : gnI b - gnI c = 0
   · rw [if_pos q] at k
     rw [if_pos (by omega)]
     exact cmpl_le _ _ _ h k
   · rw [if_neg q] at k
     rw [if_neg (by omega)]; omega
 · rw [if_neg p] at h
   by_cases q : gnI b - gnI c = 0
   · rw [if_neg (by omega)]; omega
   · rw [if_neg q] at k
     rw [if_neg (by omega)]; omega
theorem kc_swo : Go.Sort.SWO (Go.Proofs.ltOf kc) := by
 have lt : ∀ x y, Go.Proofs.ltOf kc x y = true ↔ kc x y < 0 := fun x y => by unfold Go.Proofs.ltOf; exact decide_eq_true_iff
 have nl : ∀ x y, Go.Proofs.ltOf kc x y = false ↔ kc y x ≤ 0 := fun x y => by
  rw [kc_swap x y]; unfold Go.Proofs.ltOf; rw [decide_eq_false_iff_not]; omega
 refine ⟨fun x => ?_, fun x y z h k => ?_, fun x y z h k => ?_⟩
 · have := kc_swap x x
   rw [nl]; omega
 · rw [lt] at h k ⊢
   have h1 := kc_le (show kc x y ≤ 0 by omega) (show kc y z ≤ 0 by omega)
   by_cases c : kc x z < 0
   · exact c
   · have h2 : kc z x ≤ 0 := by rw [kc_swap x z]; omega
     have h3 := kc_le h2 (show kc x y ≤ 0 by omega)
     rw [kc_swap y z] at h3
     omega
 · rw [nl] at h k ⊢
   exact kc_le k h
theorem gp_fob {v : List Int} (h : SG v) {y : Int} (hy : y ∈ gp v) : y ≤ fob v := by
 have := (fob_some h (fun e => by rw [e] at hy; cases hy)).2.2.2 y
 have n := (gp_mem.1 hy).2.2
 exact Int.not_lt.1 fun c => n (this c)
theorem kid_fact {v : List Int} (h : SG v) {x : Int} (c : ¬ x ≤ fob v) (b : (rmg v x).2 = true) : SG (rmg v x).1 ∧ gp (rmg v x).1 = gp v ++ [x] := by
 have p : pw (gp v ++ [x]) := by
  unfold pw
  rw [List.pairwise_append]
  refine ⟨asc_pw (fl_asc _ _ _), List.pairwise_singleton _ _, fun y hy z hz => ?_⟩
  rw [List.mem_singleton.1 hz]
  have := gp_fob h hy
  omega
 have e : srt (gp v ++ [x]) = gp v ++ [x] := pw_eq (srt_pw _) p (fun z => srt_mem)
 unfold rmg at b ⊢
 rw [e] at b ⊢
 unfold fgr at b ⊢
 by_cases f : FG (gp v ++ [x])
 · rw [if_pos f]
   exact ⟨f.2.2, gp_mg f.1 f.2.1⟩
 · rw [if_neg f] at b; cases b
theorem kids_mem {v : List Int} {s : S26} (hs : s ∈ (kids v).1) : SG v ∧ ∃ x ∈ v, ¬ x ≤ fob v ∧ (rmg v x).2 = true ∧ s = ⟨(rmg v x).1⟩ := by
 unfold kids at hs
 by_cases h : SG v
 · rw [if_pos h] at hs
   refine ⟨h, ?_⟩
   rcases kgo_is v v [] with e | ⟨e, k⟩
   · rw [e] at hs; cases hs
   · rw [e, List.nil_append] at hs
     obtain ⟨x, hx, rfl⟩ := List.mem_map.1 hs
     obtain ⟨hx, hc⟩ := List.mem_filter.1 hx
     have hc : ¬ x ≤ fob v := by simpa using hc
     exact ⟨x, hx, hc, k x hx hc, rfl⟩
 · rw [if_neg h] at hs; cases hs
def ord (a b : S26) : Prop := lx (gp a.f0) (gp b.f0) = true
theorem kids_pw (v : List Int) : (kids v).1.Pairwise ord := by
 unfold kids
 by_cases h : SG v
 · rw [if_pos h]
   rcases kgo_is v v [] with e | ⟨e, k⟩
   · rw [e]; exact List.Pairwise.nil
   · rw [e, List.nil_append]
     show List.Pairwise ord _
     rw [List.pairwise_map]
     have p : (v.filter fun x => !decide (x ≤ fob v)).Pairwise (· < ·) := (asc_pw h.asc).filter _
     refine List.Pairwise.imp_of_mem (fun {a b} ha hb hab => ?_) p
     obtain ⟨ha, ca⟩ := List.mem_filter.1 ha
     obtain ⟨hb, cb⟩ := List.mem_filter.1 hb
     have ca : ¬ a ≤ fob v := by simpa using ca
     have cb : ¬ b ≤ fob v := by simpa using cb
     show lx _ _ = true
     rw [(kid_fact h ca (k a ha ca)).2, (kid_fact h cb (k b hb cb)).2]
     exact lx_snoc _ _ _ hab
 · rw [if_neg h]; exact List.Pairwise.nil
noncomputable def nxt (L : List S26) : List S26 := L.flatMap fun s => (kids s.f0).1
noncomputable def lay : Nat → List S26
 | 0 => [⟨[1]⟩]
 | n + 1 => nxt (lay n)
theorem nxt_len : ∀ L : List S26, (nxt L).length ≤ 12 * L.length
 | [] => Nat.le_refl _
 | s :: r => by
  have h := nxt_len r
  have k := kids_len s.f0
  show ((s :: r).flatMap fun s => (kids s.f0).1).length ≤ _
  rw [List.flatMap_cons, List.length_append, List.length_cons]
  show _ + (nxt r).length ≤ _
  omega
theorem lay_len : ∀ n : Nat, n ≤ 8 → (lay n).length ≤ 12 ^ n
 | 0, _ => Nat.le_refl _
 | n + 1, h => by
  have := nxt_len (lay n)
  have k := lay_len n (by omega)
  show (nxt (lay n)).length ≤ _
  rw [Nat.pow_succ]; omega
theorem lay_small {n : Nat} (h : n ≤ 8) : (lay n).length ≤ 429981696 := by
 have a := lay_len n h
 have b : 12 ^ n ≤ 12 ^ 8 := Nat.pow_le_pow_right (by decide) h
 have c : (12 : Nat) ^ 8 = 429981696 := by decide
 omega
structure Good (n : Nat) (L : List S26) : Prop where
 sg : ∀ s ∈ L, SG s.f0 ∧ (gp s.f0).length = n
 pw : L.Pairwise ord
theorem Good.next {n : Nat} {L : List S26} (h : Good n L) : Good (n + 1) (nxt L) := by
 refine ⟨fun s hs => ?_, ?_⟩
 · obtain ⟨p, hp, hs⟩ := List.mem_flatMap.1 hs
   obtain ⟨g, x, hx, c, b, rfl⟩ := kids_mem hs
   obtain ⟨f1, f2⟩ := kid_fact g c b
   refine ⟨f1, ?_⟩
   show (gp (rmg p.f0 x).1).length = n + 1
   rw [f2, List.length_append, (h.sg p hp).2]; rfl
 · unfold nxt
   rw [List.pairwise_flatMap]
   refine ⟨fun a _ => kids_pw a.f0, ?_⟩
   refine List.Pairwise.imp_of_mem (fun {a b} ha hb hab x hx y hy => ?_) h.pw
   obtain ⟨ga, u, _, cu, bu, rfl⟩ := kids_mem hx
   obtain ⟨gb, w, _, cw, bw, rfl⟩ := kids_mem hy
   show lx _ _ = true
   rw [(kid_fact ga cu bu).2, (kid_fact gb cw bw).2]
   exact lx_app _ _ _ _ (by rw [(h.sg a ha).2, (h.sg b hb).2]) hab
theorem one_fg : Ev (fun k => spec_FromGens.f k [1]) ([1], true) := ev_mono (n := 3000) (fun k => spec_FromGens.mono _ k) (by kernel_rfl)
theorem one_sg : SG [1] := by
 have a : Ev (fun k => spec_IsSemigroup.f k [1]) true := ev_mono (n := 3000) (fun k => spec_IsSemigroup.mono _ k) (by kernel_rfl)
 exact of_decide_eq_true (ev_one (sgS_ev (v := [1]) (by decide)) a)
theorem one_gp : gp [1] = [] := by
 have a : Ev (fun k => spec_l4Gaps.f k [1]) [] := ev_mono (n := 3000) (fun k => spec_l4Gaps.mono _ k) (by kernel_rfl)
 exact ev_one (l4Gaps_ev one_sg) a
theorem lay_good : ∀ n : Nat, Good n (lay n)
 | 0 => ⟨fun s hs => by rw [List.mem_singleton.1 hs]; exact ⟨one_sg, by rw [one_gp]; rfl⟩, List.pairwise_singleton _ _⟩
 | n + 1 => (lay_good n).next
theorem get26 {K : List S26} {i : Nat} (h : i < K.length) : rd_T26 K (i : Int) = K[i] := by
 unfold rd_T26
 rw [List.getD_eq_getElem?_getD, Int.toNat_natCast, List.getElem?_eq_getElem h]; rfl
theorem put_l {X : List S26} {g : List Int} (hX : ∀ e ∈ X, SG e.f0 ∧ bef (gp e.f0) g = true) (hl : X.length ≤ 1000000000) (d : Nat) : ∀ i : Nat, i + d = X.length → Ev (fun k => spec_l19Put.l0 k X g (i : Int)) (X.length : Int) := by
 induction d with
 | zero =>
  intro i h
  refine Ev.step (fun k => by rw [spec_l19Put.l0]) (ev_ifn (by omega) (ev_ifp (by omega) (ev_ifp (by omega) (ev_ifp ?_ (ev_to (Ev.now _) (by omega))))))
  rw [List.length_drop, List.length_nil]; omega
 | succ d ih =>
  intro i h
  have hi : i < X.length := by omega
  have m := hX _ (List.getElem_mem hi)
  have gl := gp_len (X[i]).f0
  refine Ev.step (fun k => by rw [spec_l19Put.l0]) (ev_ifp (by omega) (ev_ifp (by omega) ?_))
  rw [get26 hi]
  refine ev_bind _ (l4Gaps_ev m.1) (ev_bind _ (bef_ev (by omega)) (ev_ifp m.2 ?_))
  rw [w64 (x := (i : Int) + 1) (by omega) (by omega)]
  exact ih (i + 1) (by omega)
theorem put_ev {X : List S26} {c : List Int} (hc : SG c) (hX : ∀ e ∈ X, SG e.f0 ∧ bef (gp e.f0) (gp c) = true) (hl : X.length ≤ 1000000000) : Ev (fun k => spec_l19Put.f k X c) (X.length : Int) := by
 unfold spec_l19Put.f
 exact ev_bind _ (l4Gaps_ev hc) (put_l hX hl X.length 0 (by omega))
theorem copy_eq {l : List Int} (h : l.length ≤ 1048576) : spec_l3Copy.f l = some l := by
 unfold spec_l3Copy.f
 simp only [Option.bind_some, List.nil_append, List.length_nil]
 exact if_pos (by omega)
theorem agS_l2 {n : Nat} {x0 x6 : Int} {x5 pre K : List S26} {x8 : Int} (hg : Good n (pre ++ K)) (hl : (pre ++ K).length ≤ 1000000000) {r : List S26} (N : Ev (fun k => spec_AllOfGenus.l1 k x0 x5 x6 (pre ++ K) (wrap64 (x8 + 1))) r) (d : Nat) : ∀ i : Nat, i + d = K.length → Ev (fun k => spec_AllOfGenus.l2 k x0 x5 x6 (pre ++ K.take i) x8 K (i : Int)) r := by
 have hla : (pre ++ K).length = pre.length + K.length := List.length_append
 induction d with
 | zero =>
  intro i h
  rw [List.take_of_length_le (by omega)]
  exact Ev.step (fun k => by rw [spec_AllOfGenus.l2]) (ev_ifn (by omega) N)
 | succ d ih =>
  intro i h
  have hi : i < K.length := by omega
  have mi : K[i] ∈ pre ++ K := List.mem_append_right _ (List.getElem_mem hi)
  have gi := hg.sg _ mi
  have li := gi.1.len
  have hp : (pre ++ K.take i).length = pre.length + i := by rw [List.length_append, List.length_take]; omega
  refine Ev.step (fun k => by rw [spec_AllOfGenus.l2]) (ev_ifp (by omega) (ev_ifp (by omega) ?_))
  rw [get26 hi, copy_eq (by omega)]
  simp only [Option.bind_some]
  refine ev_bind _ (put_ev gi.1 (fun e he => ?_) (by omega)) ?_
  · have hs : (pre ++ K.take i) ++ (K[i] :: K.drop (i + 1)) = pre ++ K := by
     rw [List.append_assoc]; congr 1
     rw [← List.drop_eq_getElem_cons hi, List.take_append_drop]
    have p := hg.pw
    rw [← hs, List.pairwise_append] at p
    have o := p.2.2 e he _ (List.mem_cons_self ..)
    have ge := hg.sg e (by rw [← hs]; exact List.mem_append_left _ he)
    refine ⟨ge.1, ?_⟩
    unfold bef
    rw [if_pos (by rw [ge.2, gi.2])]
    exact o
  · refine ev_ifp rfl (ev_ifp (by omega) ?_)
    rw [w64 (x := (i : Int) + 1) (by omega) (by omega)]
    have e : (pre ++ K.take i) ++ [(⟨(K[i]).f0⟩ : S26)] = pre ++ K.take (i + 1) := by
     rw [List.append_assoc, List.take_succ_eq_append_getElem hi]
    rw [e]
    exact ih (i + 1) (by omega)
theorem nxt_take {L : List S26} {i : Nat} (h : i < L.length) : nxt (L.take (i + 1)) = nxt (L.take i) ++ (kids (L[i]).f0).1 := by
 unfold nxt
 rw [List.take_succ_eq_append_getElem h, List.flatMap_append]
 simp
theorem good_pre {n : Nat} {A B : List S26} (h : Good n (A ++ B)) : Good n A := ⟨fun s hs => h.sg s (List.mem_append_left _ hs), (List.pairwise_append.1 h.pw).1⟩
theorem good_take {n : Nat} {L : List S26} (h : Good n L) (i : Nat) : Good n (L.take i) := good_pre (B := L.drop i) (by rw [List.take_append_drop]; exact h)
theorem agS_l1 {n : Nat} {x0 x6 : Int} {L : List S26} (hg : Good n L) (hl : L.length ≤ 35831808) {r : List S26} (N : Ev (fun k => spec_AllOfGenus.l0 k x0 (nxt L) (wrap64 (x6 + 1))) r) (d : Nat) : ∀ i : Nat, i + d = L.length → Ev (fun k => spec_AllOfGenus.l1 k x0 L x6 (nxt (L.take i)) (i : Int)) r := by
 induction d with
 | zero =>
  intro i h
  rw [List.take_of_length_le (by omega)]
  exact Ev.step (fun k => by rw [spec_AllOfGenus.l1]) (ev_ifn (by omega) N)
 | succ d ih =>
  intro i h
  have hi : i < L.length := by omega
  have gi := hg.sg _ (List.getElem_mem hi)
  have li := gi.1.len
  refine Ev.step (fun k => by rw [spec_AllOfGenus.l1]) (ev_ifp (by omega) (ev_ifp (by omega) ?_))
  rw [get26 hi]
  refine ev_bind _ (kidS_ev (by omega)) ?_
  have g2 := (good_take hg (i + 1)).next
  rw [nxt_take hi] at g2
  have l2 := nxt_len (L.take (i + 1))
  rw [nxt_take hi, List.length_take] at l2
  have := agS_l2 (x0 := x0) (x5 := L) (x6 := x6) (x8 := (i : Int)) g2 (by omega) (r := r) (by
   rw [w64 (x := (i : Int) + 1) (by omega) (by omega), ← nxt_take hi]
   exact ih (i + 1) (by omega)) _ 0 (Nat.zero_add _)
  rw [List.take_zero, List.append_nil] at this
  exact this
theorem agS_l0 {g : Nat} (hg : g ≤ 8) (d : Nat) : ∀ m : Nat, m + d = g → Ev (fun k => spec_AllOfGenus.l0 k (g : Int) (lay m) (m : Int)) (lay g) := by
 induction d with
 | zero =>
  intro m h
  rw [show m = g by omega]
  exact Ev.step (fun k => by rw [spec_AllOfGenus.l0]) (ev_ifn (by omega) (Ev.now _))
 | succ d ih =>
  intro m h
  refine Ev.step (fun k => by rw [spec_AllOfGenus.l0]) (ev_ifp (by omega) ?_)
  have a := lay_len m (by omega)
  have b : 12 ^ m ≤ 12 ^ 7 := Nat.pow_le_pow_right (by decide) (by omega)
  have c : (12 : Nat) ^ 7 = 35831808 := by decide
  have := agS_l1 (x0 := (g : Int)) (x6 := (m : Int)) (lay_good m) (by omega) (r := lay g) (by
   rw [w64 (x := (m : Int) + 1) (by omega) (by omega)]
   exact ih (m + 1) (by omega)) _ 0 (Nat.zero_add _)
  exact this
theorem agS_ev {g : Nat} (hg : g ≤ 8) : Ev (fun k => spec_AllOfGenus.f k (g : Int)) (lay g) := by
 unfold spec_AllOfGenus.f
 rw [l1In_eq]
 simp only [Option.bind_some]
 exact ev_ifp (decide_eq_true ⟨by omega, by omega⟩) (ev_bind _ one_fg (agS_l0 hg g 0 (by omega)))
theorem agI_l1 {L : List S26} {n : Nat} (hg : Good n L) (hl : L.length ≤ 35831808) {x15 x16 : Int} {r : List S26} (N : Ev (fun k => impl_AllOfGenus.l0 k (nxt L) x15 (wrap64 (x16 + 1))) r) (d : Nat) : ∀ i : Nat, i + d = L.length → Ev (fun k => impl_AllOfGenus.l1 k (nxt (L.take i)) x15 x16 L L.length (i : Int)) r := by
 induction d with
 | zero =>
  intro i h
  rw [List.take_of_length_le (by omega)]
  exact Ev.step (fun k => by rw [impl_AllOfGenus.l1]) (ev_ifn (by omega) N)
 | succ d ih =>
  intro i h
  have hi : i < L.length := by omega
  have gi := hg.sg _ (List.getElem_mem hi)
  have li := gi.1.len
  refine Ev.step (fun k => by rw [impl_AllOfGenus.l1]) (ev_ifp (by omega) (ev_ifp (by omega) (ev_ifp (by omega) ?_)))
  rw [get26 hi]
  refine ev_bind _ (kidI_ev (by omega)) ?_
  have l1 := nxt_len (L.take i)
  rw [List.length_take] at l1
  have l2 := kids_len (L[i]).f0
  refine ev_ifp (by omega) ?_
  rw [w64 (x := (i : Int) + 1) (by omega) (by omega), ← nxt_take hi]
  exact ih (i + 1) (by omega)
theorem lay_ord {g : Nat} (hg : g ≤ 8) : InOrd (lay g) := by
 have hl := lay_small hg
 have hG := lay_good g
 have sm : ∀ a ∈ ([] : List Int) :: (lay g).map (·.f0), a.length ≤ 1099511627776 := fun a ha => by
  rcases List.mem_cons.1 ha with e | ha
  · rw [e]; simp
  · obtain ⟨s, hs, rfl⟩ := List.mem_map.1 ha
    have := (hG.sg s hs).1.len
    omega
 refine ⟨by omega, kc, kc_swo, fun a ha b hb => (kc_ev (sm a ha) (sm b hb)).rounds, ?_⟩
 refine List.Pairwise.imp_of_mem (fun {a b} ha hb hab => ?_) hG.pw
 have ga := hG.sg a ha
 have gb := hG.sg b hb
 unfold kc gnI
 rw [if_pos ga.1, if_pos gb.1, if_pos (by omega), gps_sg ga.1, gps_sg gb.1]
 exact lx_cmpl _ _ hab
theorem agI_l0 {g : Nat} (hg : g ≤ 8) (d : Nat) : ∀ m : Nat, m + d = g → Ev (fun k => impl_AllOfGenus.l0 k (lay m) (g : Int) (m : Int)) (lay g) := by
 induction d with
 | zero =>
  intro m h
  rw [show m = g by omega]
  refine Ev.step (fun k => by rw [impl_AllOfGenus.l0]) (ev_ifn (by omega) ?_)
  rw [impl_inOrder.yes (lay_ord hg)]
  exact Ev.now _
 | succ d ih =>
  intro m h
  refine Ev.step (fun k => by rw [impl_AllOfGenus.l0]) (ev_ifp (by omega) ?_)
  have a := lay_len m (by omega)
  have b : 12 ^ m ≤ 12 ^ 7 := Nat.pow_le_pow_right (by decide) (by omega)
  have c : (12 : Nat) ^ 7 = 35831808 := by decide
  have := agI_l1 (x15 := (g : Int)) (x16 := (m : Int)) (lay_good m) (by omega) (r := lay g) (by
   rw [w64 (x := (m : Int) + 1) (by omega) (by omega)]
   exact ih (m + 1) (by omega)) _ 0 (Nat.zero_add _)
  exact this
theorem agI_ev {g : Nat} (hg : g ≤ 8) : Ev (fun k => impl_AllOfGenus.f k (g : Int)) (lay g) := by
 unfold impl_AllOfGenus.f
 rw [within_eq]
 simp only [Option.bind_some]
 exact ev_ifp (decide_eq_true ⟨by omega, by omega⟩) (agI_l0 hg g 0 (by omega))
end Go.Proofs.Ytonknpgfbkgbjaa.E
end
section
namespace Go.Proofs.Ytonknpgfbkgbjaa.Pure
open Go.RowKit Go.Proofs.Ytonknpgfbkgbjaa.PC Go.Proofs.Ytonknpgfbkgbjaa.E Go.Proofs.YtonknpgfbkgbjaaW.PrintWords Go.Proofs.YtonknpgfbkgbjaaW.PrintLast Go.Proofs.YtonknpgfbkgbjaaW.PrintMore
set_option linter.unusedVariables false
set_option linter.unusedSimpArgs false
theorem FnExactAllOfGenus (a0 : Int) (h : (Lit.int .i64 a0).wf = true) : ∃ k, laws_FnExactAllOfGenus.f k a0 = some true := by
 apply Ev.rounds
 unfold laws_FnExactAllOfGenus.f
 obtain ⟨L, hs, hi, h1, h2⟩ : ∃ L : List S26, Ev (fun k => spec_AllOfGenus.f k a0) L ∧ Ev (fun k => impl_AllOfGenus.f k a0) L ∧ L.length ≤ 1073741824 ∧ ∀ s ∈ L, s.f0.length ≤ 1048576 := by
  by_cases c : 0 ≤ a0 ∧ a0 ≤ 8
  · obtain ⟨g, rfl⟩ : ∃ g : Nat, a0 = (g : Int) := ⟨a0.toNat, by omega⟩
    have hg : g ≤ 8 := by omega
    have l := lay_small hg
    refine ⟨lay g, agS_ev hg, agI_ev hg, by omega, fun s hs => ?_⟩
    have := ((lay_good g).sg s hs).1.len
    omega
  · refine ⟨[], ?_, ?_, by simp, fun s hs => by cases hs⟩
    · unfold spec_AllOfGenus.f
      rw [l1In_eq]
      simp only [Option.bind_some]
      exact ev_ifn (by simpa using c) (Ev.now _)
    · unfold impl_AllOfGenus.f
      rw [within_eq]
      simp only [Option.bind_some]
      exact ev_ifn (by simpa using c) (Ev.now _)
 have t := tot_le L 1 (by omega)
 refine ev_bind _ hs (ev_bind _ hi (ev_bind _ (eqS_ev (by omega) h2) (ev_ifp rfl ?_)))
 refine ev_bind _ (markT_ev h2 h1) ?_
 refine ev_bind _ (heldT_ev h2 h1) ?_
 exact ev_ifn (by omega) (ev_ifp rfl (Ev.now _))
end Go.Proofs.Ytonknpgfbkgbjaa.Pure
end
