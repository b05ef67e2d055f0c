-- Bundled by shake.py from this session's printed and written texts; Lean checks it.
import Derived.ChangeSlices
import Derived.SizedLaws
import Derived.Test.YtapdhljbhekcdaaZFnBoundsx10
import Derived.Test.YtapdhljbhekcdaaZFnBoundsx11
import Derived.Test.YtapdhljbhekcdaaZFnBoundsx12
import Derived.Test.YtapdhljbhekcdaaZFnBoundsx4
import Derived.Test.YtapdhljbhekcdaaZFnBoundsx5
import Derived.Test.YtapdhljbhekcdaaZFnBoundsx7
import Derived.Test.YtapdhljbhekcdaaZFnBoundsx8
import Derived.Test.YtapdhljbhekcdaaZFnBoundsx9
section
namespace Go.Proofs.Ytapdhljbhekcdaa.E
open Go.RowKit Go.Proofs.Ytapdhljbhekcdaa.PB Go.Proofs.YtapdhljbhekcdaaW.PrintWords Go.Proofs.YtapdhljbhekcdaaW.PrintLast Go.Proofs.YtapdhljbhekcdaaW.PrintMore
set_option linter.unusedVariables false
set_option linter.unusedSimpArgs false
theorem once_ok {b : List Int} {i : Int} (h : Int) (c : Cu b i) {n : Int} (hn : 0 < n) : ∃ x j g, spec_l1Once.f b i h n = some (x, j, g) ∧ Cu b j := by
 obtain ⟨x, j, g, e, _, cj⟩ := below_ok h c hn
 exact ⟨_, j, g, by unfold spec_l1Once.f; rw [e]; rfl, cj⟩
theorem list_ok {b : List Int} {i : Int} (h : Int) (c : Cu b i) : ∃ l j g, spec_l3List.f b i h = some (l, j, g) ∧ l ∈ L8 ∧ Cu b j := by
 obtain ⟨x, j, g, e, hx, cj⟩ := below_ok h c (n := 8) (by omega)
 unfold spec_l3List.f
 rw [e]
 simp only [Option.bind_some]
 by_cases c0 : x = 0
 · exact ⟨_, j, g, by rw [if_pos c0], by simp [L8], cj⟩
 rw [if_neg c0]
 by_cases c1 : x = 1
 · exact ⟨_, j, g, by rw [if_pos c1], by simp [L8], cj⟩
 rw [if_neg c1]
 by_cases c2 : x = 2
 · exact ⟨_, j, g, by rw [if_pos c2], by simp [L8], cj⟩
 rw [if_neg c2]
 by_cases c3 : x = 3
 · exact ⟨_, j, g, by rw [if_pos c3], by simp [L8], cj⟩
 rw [if_neg c3]
 by_cases c4 : x = 4
 · exact ⟨_, j, g, by rw [if_pos c4], by simp [L8], cj⟩
 rw [if_neg c4]
 by_cases c5 : x = 5
 · exact ⟨_, j, g, by rw [if_pos c5], by simp [L8], cj⟩
 rw [if_neg c5]
 by_cases c6 : x = 6
 · exact ⟨_, j, g, by rw [if_pos c6], by simp [L8], cj⟩
 exact ⟨_, j, g, by rw [if_neg c6], by simp [L8], cj⟩
theorem l3Draw_l1 {b : List Int} {x5 m : Int} (hm : m ≤ 4) (hx : 0 ≤ x5 ∧ x5 < 4) (N : ∀ j h, Cu b j → ∃ s j' h', SG s ∧ Cu b j' ∧ Ev (fun k => spec_l3Draw.l0 k (x5 + 1) b j h) (s, j', h')) (d : Nat) : ∀ (i j h : Int) (out : List Int), 0 ≤ i → i + d = max i m → (out.length : Int) = i + 1 → i ≤ 4 → Cu b j → ∃ s j' h', SG s ∧ Cu b j' ∧ Ev (fun k => spec_l3Draw.l1 k x5 out m i b j h) (s, j', h') := by
 induction d with
 | zero =>
  intro i j h out i0 hi ho i4 cj
  by_cases f : FN out
  · refine ⟨mns out, j, h, f.2, cj, Ev.step (fun k => by rw [spec_l3Draw.l1]) (ev_ifn (by omega) (ev_bind _ (fromGensS_ev (by omega)) ?_))⟩
    rw [show fns out = (mns out, true) from if_pos f]
    exact ev_ifp rfl (Ev.now _)
  · obtain ⟨s, j', h', s1, s2, s3⟩ := N j h cj
    refine ⟨s, j', h', s1, s2, Ev.step (fun k => by rw [spec_l3Draw.l1]) (ev_ifn (by omega) (ev_bind _ (fromGensS_ev (by omega)) ?_))⟩
    rw [show fns out = ([], false) from if_neg f, w64 (x := x5 + 1) (by omega) (by omega)]
    exact ev_ifn (by simp) s3
 | succ d ih =>
  intro i j h out i0 hi ho i4 cj
  obtain ⟨x, j1, g1, e, _, c1⟩ := below_ok h cj (n := 12) (by omega)
  obtain ⟨s, j', h', s1, s2, s3⟩ := ih (i + 1) j1 g1 (out ++ [wrap64 ((wrap64 ((rd out 0) + 1)) + x)]) (by omega) (by omega) (by rw [List.length_append, List.length_singleton]; omega) (by omega) c1
  refine ⟨s, j', h', s1, s2, Ev.step (fun k => by rw [spec_l3Draw.l1]) ?_⟩
  rw [e, w64 (x := i + 1) (by omega) (by omega)]
  simp only [Option.bind_some]
  exact ev_ifp (by omega) (ev_ifp (by omega) (ev_ifp (by omega) s3))
theorem l3Draw_l0 {b : List Int} (d : Nat) : ∀ (x5 j h : Int), 0 ≤ x5 → x5 + d = 4 → Cu b j → ∃ s j' h', SG s ∧ Cu b j' ∧ Ev (fun k => spec_l3Draw.l0 k x5 b j h) (s, j', h') := by
 induction d with
 | zero =>
  intro x5 j h x0 hx cj
  obtain ⟨l, j1, g1, e, hl, c1⟩ := list_ok h cj
  refine ⟨l, j1, g1, sg_L8 hl, c1, Ev.step (fun k => by rw [spec_l3Draw.l0]) ?_⟩
  rw [e]
  simp only [Option.bind_some]
  exact ev_ifn (by omega) (ev_bind _ (fg_L8 hl) (Ev.now _))
 | succ d ih =>
  intro x5 j h x0 hx cj
  obtain ⟨x, j1, g1, e1, hx1, c1⟩ := below_ok h cj (n := 8) (by omega)
  obtain ⟨y, j2, g2, e2, hx2, c2⟩ := below_ok g1 c1 (n := 4) (by omega)
  obtain ⟨s, j', h', s1, s2, s3⟩ := l3Draw_l1 (b := b) (x5 := x5) (m := 1 + y) (by omega) ⟨x0, by omega⟩ (fun j h c => ih (x5 + 1) j h (by omega) (by omega) c) (1 + y).toNat 0 j2 g2 [wrap64 (2 + x)] (Int.le_refl _) (by omega) (by simp) (by omega) c2
  refine ⟨s, j', h', s1, s2, Ev.step (fun k => by rw [spec_l3Draw.l0]) ?_⟩
  rw [e1]
  simp only [Option.bind_some]
  rw [e2]
  simp only [Option.bind_some]
  rw [w64 (x := 1 + y) (by omega) (by omega)]
  exact ev_ifp (by omega) s3
theorem l3Draw_ev {b : List Int} {j : Int} (h : Int) (c : Cu b j) : ∃ s j' h', SG s ∧ Cu b j' ∧ Ev (fun k => spec_l3Draw.f k b j h) (s, j', h') := by
 obtain ⟨x, j1, g1, e, c1⟩ := once_ok h c (n := 4) (by omega)
 by_cases hx : x = true
 · obtain ⟨l, j2, g2, e2, hl, c2⟩ := list_ok g1 c1
   refine ⟨l, j2, g2, sg_L8 hl, c2, ?_⟩
   unfold spec_l3Draw.f
   rw [e]
   simp only [Option.bind_some]
   rw [e2]
   simp only [Option.bind_some]
   exact ev_ifp hx (ev_bind _ (fg_L8 hl) (Ev.now _))
 · obtain ⟨s, j', h', s1, s2, s3⟩ := l3Draw_l0 4 0 j1 g1 (Int.le_refl _) (by omega) c1
   refine ⟨s, j', h', s1, s2, ?_⟩
   unfold spec_l3Draw.f
   rw [e]
   simp only [Option.bind_some]
   exact ev_ifn hx s3
theorem l3Bent_ev {b : List Int} {j : Int} (h : Int) (c : Cu b j) : ∃ s j' h', s.length ≤ 13 ∧ Cu b j' ∧ Ev (fun k => spec_l3Bent.f k b j h) (s, j', h') := by
 obtain ⟨s, j1, g1, s1, c1, s3⟩ := l3Draw_ev h c
 obtain ⟨x, j2, g2, e2, hx, c2⟩ := below_ok g1 c1 (n := 12) (by omega)
 have hl := s1.len
 have hu := s1.ul.1
 by_cases x0 : x = 0
 · obtain ⟨y, j3, g3, e3, hy, c3⟩ := pick_ok g2 c2 (l := [0, 61, 12, (-3), 60]) (by simp)
   refine ⟨s ++ [y], j3, g3, by rw [List.length_append, List.length_singleton]; omega, c3, ?_⟩
   unfold spec_l3Bent.f
   refine ev_bind _ s3 ?_
   rw [e2]
   simp only [Option.bind_some]
   rw [e3]
   simp only [Option.bind_some]
   exact ev_ifp x0 (ev_ifp (by omega) (Ev.now _))
 · by_cases x1 : x = 1
   · refine ⟨s.drop (1 : Int).toNat, j2, g2, by rw [List.length_drop]; omega, c2, ?_⟩
     unfold spec_l3Bent.f
     refine ev_bind _ s3 ?_
     rw [e2]
     simp only [Option.bind_some]
     exact ev_ifn x0 (ev_ifp x1 (ev_ifp (by omega) (Ev.now _)))
   · by_cases x2 : x = 2
     · obtain ⟨y, j3, g3, e3, hy, c3⟩ := pick_ok g2 c2 (l := [0, 59, 4]) (by simp)
       refine ⟨[y, 60], j3, g3, by simp, c3, ?_⟩
       unfold spec_l3Bent.f
       refine ev_bind _ s3 ?_
       rw [e2]
       simp only [Option.bind_some]
       rw [e3]
       simp only [Option.bind_some]
       exact ev_ifn x0 (ev_ifn x1 (ev_ifp x2 (Ev.now _)))
     · refine ⟨s, j2, g2, by omega, c2, ?_⟩
       unfold spec_l3Bent.f
       refine ev_bind _ s3 ?_
       rw [e2]
       simp only [Option.bind_some]
       exact ev_ifn x0 (ev_ifn x1 (ev_ifn x2 (Ev.now _)))
end Go.Proofs.Ytapdhljbhekcdaa.E
end
section
namespace Go.Proofs.Ytapdhljbhekcdaa.E
open Go.RowKit Go.Proofs.Ytapdhljbhekcdaa.PB Go.Proofs.YtapdhljbhekcdaaW.PrintWords Go.Proofs.YtapdhljbhekcdaaW.PrintLast Go.Proofs.YtapdhljbhekcdaaW.PrintMore
set_option linter.unusedVariables false
set_option linter.unusedSimpArgs false
theorem drawOrd_ev {b : List Int} (hb : (b.length : Int) ≤ 1099511627776) : ∃ s n, s.length ≤ 13 ∧ Ev (fun k => spec_DrawOrderBound.f k b) (s, n) := by
 obtain ⟨g, e, c⟩ := new_ev hb
 obtain ⟨s, j1, g1, s1, c1, s3⟩ := l3Bent_ev g c
 obtain ⟨x, j2, g2, e2, _, c2⟩ := below_ok g1 c1 (n := 60) (by omega)
 obtain ⟨y, j3, g3, e3, _, c3⟩ := below_ok g2 c2 (n := 60) (by omega)
 obtain ⟨z, j4, g4, e4, _, c4⟩ := pick_ok g3 c3 (l := [x, y, (-1), 501, 120]) (by simp)
 refine ⟨s, z, s1, ?_⟩
 unfold spec_DrawOrderBound.f
 refine ev_bind _ e (ev_bind _ s3 ?_)
 simp only [e2, e3, e4, Option.bind_some]
 exact Ev.now _
theorem drawPairs_ev {b : List Int} (hb : (b.length : Int) ≤ 1099511627776) : ∃ s n, s.length ≤ 13 ∧ Ev (fun k => spec_DrawPairsOf.f k b) (s, n) := by
 obtain ⟨g, e, c⟩ := new_ev hb
 obtain ⟨s, j1, g1, s1, c1, s3⟩ := l3Bent_ev g c
 obtain ⟨x, j2, g2, e2, _, c2⟩ := below_ok g1 c1 (n := 60) (by omega)
 obtain ⟨y, j3, g3, e3, _, c3⟩ := below_ok g2 c2 (n := 60) (by omega)
 obtain ⟨z, j4, g4, e4, _, c4⟩ := pick_ok g3 c3 (l := [x, y, (-1), 1001, 300]) (by simp)
 refine ⟨s, z, s1, ?_⟩
 unfold spec_DrawPairsOf.f
 refine ev_bind _ e (ev_bind _ s3 ?_)
 simp only [e2, e3, e4, Option.bind_some]
 exact Ev.now _
end Go.Proofs.Ytapdhljbhekcdaa.E
end
section
namespace Go.Proofs.Ytapdhljbhekcdaa.E
open Go.RowKit Go.Proofs.Ytapdhljbhekcdaa.PB Go.Proofs.YtapdhljbhekcdaaW.PrintWords Go.Proofs.YtapdhljbhekcdaaW.PrintLast Go.Proofs.YtapdhljbhekcdaaW.PrintMore
set_option linter.unusedVariables false
set_option linter.unusedSimpArgs false
noncomputable def lin (v : List Int) (n : Int) : Int := if SG v ∧ 0 ≤ n ∧ n ≤ 500 then max 0 (n + 1 - 2 * (gp v).length) else 0
theorem lin_ev {v : List Int} (n : Int) (hl : v.length ≤ 1099511627776) : Ev (fun k => impl_LinearBound.f k v n) (lin v n) ∧ Ev (fun k => spec_LinearBound.f k v n) (lin v n) := by
 unfold impl_LinearBound.f spec_LinearBound.f
 simp only [within_eq, l1In_eq, Option.bind_some]
 by_cases c : SG v
 · by_cases h : 0 ≤ n ∧ n ≤ 500
   · have gi := genusI_ev hl
     have gs := genusS_ev hl
     have gl := gp_len v
     rw [if_pos c] at gi gs
     have e : mx 0 (wrap64 (wrap64 (n + 1) - wrap64 (2 * ((gp v).length : Int)))) = lin v n := by
      rw [w64 (x := n + 1) (by omega) (by omega), w64 (x := 2 * ((gp v).length : Int)) (by omega) (by omega), w64 (by omega) (by omega), mx_eq]
      unfold lin
      rw [if_pos ⟨c, h.1, h.2⟩]
     refine ⟨ev_bind _ (sgI_ev hl) (ev_ifp (by simpa using c) (ev_ifp (by simpa using h) (ev_bind _ gi (ev_to (Ev.now _) e)))), ev_bind _ (sgS_ev hl) (ev_ifp (by simpa using c) ?_)⟩
     refine Ev.step (fun k => by rw [spec_LinearBound.j0]) (ev_ifn (nd_f h) (ev_bind _ gs ?_))
     simp only [l1Max_eq, Option.bind_some]
     exact ev_to (Ev.now _) (by rw [← e, mx_eq])
   · have e : lin v n = 0 := if_neg fun k => h ⟨k.2.1, k.2.2⟩
     rw [e]
     refine ⟨ev_bind _ (sgI_ev hl) (ev_ifp (by simpa using c) (ev_ifn (by simpa using h) (Ev.now _))), ev_bind _ (sgS_ev hl) (ev_ifp (by simpa using c) ?_)⟩
     exact Ev.step (fun k => by rw [spec_LinearBound.j0]) (ev_ifp (nd_t h) (Ev.now _))
 · have e : lin v n = 0 := if_neg fun k => c k.1
   rw [e]
   refine ⟨ev_bind _ (sgI_ev hl) (ev_ifn (by simpa using c) (Ev.now _)), ev_bind _ (sgS_ev hl) (ev_ifn (by simpa using c) ?_)⟩
   exact Ev.step (fun k => by rw [spec_LinearBound.j0]) (ev_ifp rfl (Ev.now _))
end Go.Proofs.Ytapdhljbhekcdaa.E
end
section
namespace Go.Proofs.Ytapdhljbhekcdaa.E
open Go.RowKit Go.Proofs.Ytapdhljbhekcdaa.PB Go.Proofs.YtapdhljbhekcdaaW.PrintWords Go.Proofs.YtapdhljbhekcdaaW.PrintLast Go.Proofs.YtapdhljbhekcdaaW.PrintMore
set_option linter.unusedVariables false
set_option linter.unusedSimpArgs false
theorem l1Bit_eq (b : Bool) : spec_l1Bit.f b = some (if b = true then 1 else 0) := by
 unfold spec_l1Bit.f; cases b <;> rfl
end Go.Proofs.Ytapdhljbhekcdaa.E
end
section
namespace Go.Proofs.Ytapdhljbhekcdaa.E
open Go.RowKit Go.Proofs.Ytapdhljbhekcdaa.PB Go.Proofs.YtapdhljbhekcdaaW.PrintWords Go.Proofs.YtapdhljbhekcdaaW.PrintLast Go.Proofs.YtapdhljbhekcdaaW.PrintMore
set_option linter.unusedVariables false
set_option linter.unusedSimpArgs false
structure LeastPairs (v : List Int) (n m r : Int) : Prop where
 is : ∃ i, n ≤ i ∧ i ≤ m ∧ Su v i ∧ r = prs v i
 le : ∀ i, n ≤ i → i ≤ m → Su v i → r ≤ prs v i
theorem orderI_l {v : List Int} (h : SG v) (hl : v.length ≤ 1099511627776) {n m : Int} (hn : 0 ≤ n) (hm : m = max n (2 * cd v)) (hm' : m ≤ 100000) (d : Nat) : ∀ i a : Int, n ≤ i → i + d = m + 1 → (a = -1 ∧ ∀ j, n ≤ j → j < i → ¬ Su v j) ∨ (0 ≤ a ∧ LeastPairs v n (i - 1) a) → ∃ r, Ev (fun k => impl_OrderBound.l0 k (some (stab v 200)) v n a i) r ∧ ((r = -1 ∧ ∀ j, n ≤ j → j ≤ m → ¬ Su v j) ∨ LeastPairs v n m r) := by
 have f := cd_fact h
 have w := w64 (x := 2 * cd v) (by omega) (by omega)
 induction d with
 | zero =>
  intro i a h0 h1 h2
  refine ⟨a, Ev.step (fun k => by rw [impl_OrderBound.l0]) ?_, ?_⟩
  · refine ev_bind _ (cdI_ev hl) ?_
    rw [w, mx_eq]
    exact ev_ifn (by omega) (Ev.now _)
  · rcases h2 with ⟨e, k⟩ | ⟨e, k⟩
    · exact .inl ⟨e, fun j j0 j1 => k j j0 (by omega)⟩
    · rw [show i - 1 = m from by omega] at k; exact .inr k
 | succ d ih =>
  intro i a h0 h1 h2
  have head : ∀ r, (¬ (Su v i ∧ (a < 0 ∨ prs v i < a)) → Ev (fun k => impl_OrderBound.l0 k (some (stab v 200)) v n a (i + 1)) r) → ((Su v i ∧ (a < 0 ∨ prs v i < a)) → Ev (fun k => impl_OrderBound.l0 k (some (stab v 200)) v n (prs v i) (i + 1)) r) → Ev (fun k => impl_OrderBound.l0 k (some (stab v 200)) v n a i) r := fun r k1 k2 => by
   refine Ev.step (fun k => by rw [impl_OrderBound.l0]) ?_
   refine ev_bind _ (cdI_ev hl) ?_
   rw [w, mx_eq, inOf_sub h]
   refine ev_ifp (by omega) (ev_ifp (by omega) ?_)
   by_cases c : Su v i ∧ (a < 0 ∨ prs v i < a)
   · exact ev_ifp ⟨by unfold sub; simpa using c.1, c.2⟩ (k2 c)
   · exact ev_ifn (fun k => c ⟨by have := k.1; unfold sub at this; simpa using this, k.2⟩) (k1 c)
  have pb := prs_bd v (n := i) (by omega)
  by_cases c : Su v i ∧ (a < 0 ∨ prs v i < a)
  · obtain ⟨r, hE, hr⟩ := ih (i + 1) (prs v i) (by omega) (by omega) (.inr ⟨pb.1, ⟨i, by omega, by omega, c.1, rfl⟩, fun j j0 j1 js => by
     by_cases e : j = i
     · rw [e]; exact Int.le_refl _
     · rcases h2 with ⟨_, k⟩ | ⟨q, k⟩
       · exact absurd js (k j j0 (by omega))
       · have := k.le j j0 (by omega) js
         have := c.2
         omega⟩)
    exact ⟨r, head r (fun k => absurd c k) (fun _ => hE), hr⟩
  · obtain ⟨r, hE, hr⟩ := ih (i + 1) a (by omega) (by omega) (by
     rcases h2 with ⟨e, k⟩ | ⟨q, k⟩
     · refine .inl ⟨e, fun j j0 j1 js => ?_⟩
       by_cases ej : j = i
       · exact c ⟨ej ▸ js, .inl (by omega)⟩
       · exact k j j0 (by omega) js
     · refine .inr ⟨q, ?_, fun j j0 j1 js => ?_⟩
       · obtain ⟨x, x1, x2, x3, x4⟩ := k.is
         exact ⟨x, x1, by omega, x3, x4⟩
       · by_cases ej : j = i
         · have : ¬ prs v i < a := fun t => c ⟨ej ▸ js, .inr t⟩
           rw [ej]; omega
         · exact k.le j j0 (by omega) js)
    exact ⟨r, head r (fun _ => hE) (fun k => absurd k c), hr⟩
theorem l28_l {v : List Int} {m n : Int} (hn : n ≤ m) (hm : m ≤ 100000) (d : Nat) : ∀ i a : Int, 0 ≤ i → i + d = n + 1 → 0 ≤ a → a ≤ i → Ev (fun k => spec_l28Pairs.l0 k (stab v m) n a i) (a + cnt (sub v) n i d) := by
 induction d with
 | zero =>
  intro i a h0 h1 h2 h3
  refine Ev.step (fun k => by rw [spec_l28Pairs.l0]) (ev_ifn (by omega) (ev_to (Ev.now _) ?_))
  simp [cnt]
 | succ d ih =>
  intro i a h0 h1 h2 h3
  have sl := stab_len (v := v) (m := m) (by omega)
  have r1 := stab_rd (v := v) (m := m) h0 (by omega)
  have r2 := stab_rd (v := v) (m := m) (j := n - i) (by omega) (by omega)
  refine Ev.step (fun k => by rw [spec_l28Pairs.l0]) ?_
  simp only [l1Bit_eq, Option.bind_some]
  rw [w64 (x := i + 1) (by omega) (by omega), w64 (x := n - i) (by omega) (by omega), cnt, r1, r2]
  refine ev_ifp (by omega) (ev_ifp h0 (ev_ifp (by omega) ?_))
  change Ev _ (a + ((if sub v i = true ∧ sub v (n - i) = true then 1 else 0) + cnt (sub v) n (i + 1) d))
  by_cases c : sub v i = true
  · refine ev_ifp c (ev_ifp (by omega) (ev_ifp (by omega) ?_))
    by_cases e : sub v (n - i) = true
    · rw [if_pos (show decide (Su v (n - i)) = true from e), if_pos (show sub v i = true ∧ sub v (n - i) = true from ⟨c, e⟩), w64 (x := a + 1) (by omega) (by omega)]
      exact ev_to (ih (i + 1) (a + 1) (by omega) (by omega) (by omega) (by omega)) (by omega)
    · rw [if_neg (show ¬ decide (Su v (n - i)) = true from e), if_neg (show ¬ (sub v i = true ∧ sub v (n - i) = true) from fun k => e k.2), w64 (x := a + 0) (by omega) (by omega)]
      exact ev_to (ih (i + 1) (a + 0) (by omega) (by omega) (by omega) (by omega)) (by omega)
  · rw [if_neg (show ¬ false = true by simp), if_neg (show ¬ (sub v i = true ∧ sub v (n - i) = true) from fun k => c k.1), w64 (x := a + 0) (by omega) (by omega)]
    exact ev_ifn c (ev_to (ih (i + 1) (a + 0) (by omega) (by omega) (by omega) (by omega)) (by omega))
theorem l28_ev {v : List Int} {m n : Int} (h0 : 0 ≤ n) (hn : n ≤ m) (hm : m ≤ 100000) : Ev (fun k => spec_l28Pairs.f k (stab v m) n) (prs v n) := by
 unfold spec_l28Pairs.f
 refine ev_to (l28_l hn hm (n + 1).toNat 0 0 (by omega) (by omega) (by omega) (by omega)) ?_
 unfold prs; omega
theorem l1Min_eq (a b : Int) : spec_l1Min.f a b = some (min a b) := by
 unfold spec_l1Min.f
 by_cases h : a < b
 · rw [if_pos h, Int.min_eq_left (by omega)]
 · rw [if_neg h, Int.min_eq_right (by omega)]
theorem orderS_l {v : List Int} {m n : Int} (hn : 0 ≤ n) (hm : m ≤ 100000) (d : Nat) : ∀ i a : Int, n ≤ i → i + d = m + 1 → (∀ j, n ≤ j → j < i → Su v j → a ≤ prs v j) → a = m + 1 ∨ (∃ j, n ≤ j ∧ j < i ∧ Su v j ∧ a = prs v j) → ∃ r, Ev (fun k => spec_OrderBound.l0 k m (stab v m) a i) r ∧ (∀ j, n ≤ j → j ≤ m → Su v j → r ≤ prs v j) ∧ (r = m + 1 ∨ ∃ j, n ≤ j ∧ j ≤ m ∧ Su v j ∧ r = prs v j) := by
 induction d with
 | zero =>
  intro i a h0 h1 h2 h3
  refine ⟨a, Ev.step (fun k => by rw [spec_OrderBound.l0]) (ev_ifn (by omega) (Ev.now _)), fun j j0 j1 js => h2 j j0 (by omega) js, ?_⟩
  rcases h3 with e | ⟨j, a1, a2, a3, a4⟩
  · exact .inl e
  · exact .inr ⟨j, a1, by omega, a3, a4⟩
 | succ d ih =>
  intro i a h0 h1 h2 h3
  have sl := stab_len (v := v) (m := m) (by omega)
  have s := stab_iff (v := v) (m := m) (j := i) (by omega) (by omega)
  by_cases c : Su v i
  · obtain ⟨r, hE, r1, r2⟩ := ih (i + 1) (min a (prs v i)) (by omega) (by omega) (fun j j0 j1 js => by
     by_cases e : j = i
     · rw [e]; exact Int.min_le_right _ _
     · exact Int.le_trans (Int.min_le_left _ _) (h2 j j0 (by omega) js)) (by
     by_cases e : a ≤ prs v i
     · rw [Int.min_eq_left e]
       rcases h3 with q | ⟨j, a1, a2, a3, a4⟩
       · exact .inl q
       · exact .inr ⟨j, a1, by omega, a3, a4⟩
     · rw [Int.min_eq_right (by omega)]; exact .inr ⟨i, h0, by omega, c, rfl⟩)
    refine ⟨r, Ev.step (fun k => by rw [spec_OrderBound.l0]) ?_, r1, r2⟩
    simp only [l1Min_eq, Option.bind_some]
    rw [w64 (x := i + 1) (by omega) (by omega)]
    exact ev_ifp (by omega) (ev_ifp (by omega) (ev_ifp (by omega) (ev_ifp (s.2 c) (ev_bind _ (l28_ev (by omega) (by omega) hm) hE))))
  · obtain ⟨r, hE, r1, r2⟩ := ih (i + 1) a (by omega) (by omega) (fun j j0 j1 js => by
     by_cases e : j = i
     · exact absurd (e ▸ js) c
     · exact h2 j j0 (by omega) js) (by
     rcases h3 with q | ⟨j, a1, a2, a3, a4⟩
     · exact .inl q
     · exact .inr ⟨j, a1, by omega, a3, a4⟩)
    refine ⟨r, Ev.step (fun k => by rw [spec_OrderBound.l0]) ?_, r1, r2⟩
    rw [w64 (x := i + 1) (by omega) (by omega)]
    exact ev_ifp (by omega) (ev_ifp (by omega) (ev_ifp (by omega) (ev_ifn (fun k => c (s.1 k)) hE)))
theorem order_ev {v : List Int} (n : Int) (hl : v.length ≤ 1099511627776) : ∃ r, Ev (fun k => impl_OrderBound.f k v n) r ∧ Ev (fun k => spec_OrderBound.f k v n) r ∧ (SG v → 0 ≤ n → n ≤ 500 → LeastPairs v n (max n (2 * cd v)) r) ∧ (¬ (SG v ∧ 0 ≤ n ∧ n ≤ 500) → r = 0) := by
 unfold impl_OrderBound.f spec_OrderBound.f
 simp only [within_eq, l1In_eq, Option.bind_some]
 by_cases c : SG v
 · by_cases h : 0 ≤ n ∧ n ≤ 500
   · have f := cd_fact c
     have fi := c.ul.first
     obtain ⟨_, fa, fb⟩ := fi
     have hlen := c.ul.1
     have r := reach_ev hl
     rw [rch_sg c] at r
     have hM : Su v (max n (2 * cd v)) := f.2.2.2.1 _ (by omega)
     obtain ⟨a, hI, ha⟩ := orderI_l c hl h.1 rfl (by omega) ((max n (2 * cd v)) + 1 - n).toNat n (-1) (by omega) (by omega) (.inl ⟨rfl, fun j _ _ => by omega⟩)
     have L : LeastPairs v n (max n (2 * cd v)) a := by
      rcases ha with ⟨_, k⟩ | k
      · exact absurd hM (k _ (by omega) (by omega))
      · exact k
     obtain ⟨b, hS, b1, b2⟩ := orderS_l (v := v) (m := max n (2 * cd v) + rd v 0) h.1 (by omega) (max n (2 * cd v) + rd v 0 + 1 - n).toNat n (max n (2 * cd v) + rd v 0 + 1) (by omega) (by omega) (fun j _ _ => by omega) (.inl rfl)
     have e : a = b := by
      obtain ⟨x, x1, x2, x3, x4⟩ := L.is
      have h1 : b ≤ a := by rw [x4]; exact b1 x x1 (by omega) x3
      have h2 : a ≤ b := by
       have hMle := L.le _ (by omega) (by omega) hM
       have hMe := prs_eq c (n := max n (2 * cd v)) (by omega)
       rcases b2 with e | ⟨j, j1, j2, j3, j4⟩
       · have := prs_bd v (n := max n (2 * cd v)) (by omega)
         omega
       · by_cases q : j ≤ max n (2 * cd v)
         · rw [j4]; exact L.le j j1 q j3
         · have := prs_eq c (n := j) (by omega)
           omega
      omega
     subst e
     refine ⟨a, ev_bind _ (sgI_ev hl) (ev_ifp (by simpa using c) (ev_ifp (by simpa using h) (ev_bind _ r hI))), ev_bind _ (sgS_ev hl) (ev_ifp (by simpa using c) ?_), fun _ _ _ => L, fun k => absurd ⟨c, h⟩ k⟩
     refine Ev.step (fun k => by rw [spec_OrderBound.j0]) (ev_ifn (nd_f h) ?_)
     simp only [l1Max_eq, Option.bind_some]
     refine ev_bind _ (cdS_ev hl) ?_
     rw [w64 (x := 2 * cd v) (by omega) (by omega), w64 (x := max n (2 * cd v) + rd v 0) (by omega) (by omega), w64 (x := max n (2 * cd v) + rd v 0 + 1) (by omega) (by omega)]
     exact ev_ifp (by omega) (ev_bind _ (c.sutabS (by omega) (by omega)) hS)
   · exact ⟨0, ev_bind _ (sgI_ev hl) (ev_ifp (by simpa using c) (ev_ifn (by simpa using h) (Ev.now _))), ev_bind _ (sgS_ev hl) (ev_ifp (by simpa using c) (Ev.step (fun k => by rw [spec_OrderBound.j0]) (ev_ifp (nd_t h) (Ev.now _)))), fun _ a b => absurd ⟨a, b⟩ h, fun _ => rfl⟩
 · exact ⟨0, ev_bind _ (sgI_ev hl) (ev_ifn (by simpa using c) (Ev.now _)), ev_bind _ (sgS_ev hl) (ev_ifn (by simpa using c) (Ev.step (fun k => by rw [spec_OrderBound.j0]) (ev_ifp rfl (Ev.now _)))), fun a => absurd a c, fun _ => rfl⟩
end Go.Proofs.Ytapdhljbhekcdaa.E
end
section
namespace Go.Proofs.Ytapdhljbhekcdaa.E
open Go.RowKit Go.Proofs.Ytapdhljbhekcdaa.PB Go.Proofs.YtapdhljbhekcdaaW.PrintWords Go.Proofs.YtapdhljbhekcdaaW.PrintLast Go.Proofs.YtapdhljbhekcdaaW.PrintMore
set_option linter.unusedVariables false
set_option linter.unusedSimpArgs false
noncomputable def pof (v : List Int) (n : Int) : Int := if SG v ∧ 0 ≤ n ∧ n ≤ 1000 then prs v n else 0
theorem pairsI_ev {v : List Int} (n : Int) (hl : v.length ≤ 1099511627776) : Ev (fun k => impl_PairsOf.f k v n) (pof v n) := by
 unfold impl_PairsOf.f pof
 simp only [within_eq, Option.bind_some]
 refine ev_bind _ (sgI_ev hl) ?_
 by_cases c : SG v
 · refine ev_ifp (by simpa using c) ?_
   by_cases h : 0 ≤ n ∧ n ≤ 1000
   · have r := reach_ev hl
     rw [rch_sg c] at r
     refine ev_ifp (by simpa using h) (ev_bind _ r (ev_ifp (by omega) (ev_to (Ev.now _) ?_)))
     rw [if_pos ⟨c, h⟩, inOf_sub c]; rfl
   · rw [if_neg (fun k => h k.2)]; exact ev_ifn (by simpa using h) (Ev.now _)
 · rw [if_neg (fun k => c k.1)]; exact ev_ifn (by simpa using c) (Ev.now _)
theorem pairsS_l {v : List Int} (h : SG v) {n : Int} (hn : n ≤ 1000) (d : Nat) : ∀ i m : Int, 0 ≤ i → i + d = n + 1 → 0 ≤ m → m ≤ i → Ev (fun k => spec_PairsOf.l0 k n m i v) (m + cnt (sub v) n i d) := by
 induction d with
 | zero =>
  intro i m h0 h1 h2 h3
  refine Ev.step (fun k => by rw [spec_PairsOf.l0]) (ev_ifn (by omega) (ev_to (Ev.now _) ?_))
  simp [cnt]
 | succ d ih =>
  intro i m h0 h1 h2 h3
  refine Ev.step (fun k => by rw [spec_PairsOf.l0]) ?_
  simp only [l1Bit_eq, Option.bind_some]
  rw [w64 (x := i + 1) (by omega) (by omega), w64 (x := n - i) (by omega) (by omega), cnt]
  refine ev_ifp (by omega) (ev_bind _ (l15Has_su h i) ?_)
  by_cases c : sub v i = true
  · refine ev_ifp c (ev_bind _ (l15Has_su h (n - i)) ?_)
    by_cases e : sub v (n - i) = true
    · rw [if_pos e, if_pos ⟨c, e⟩, w64 (x := m + 1) (by omega) (by omega)]
      exact ev_to (ih (i + 1) (m + 1) (by omega) (by omega) (by omega) (by omega)) (by omega)
    · rw [if_neg e, if_neg (fun k => e k.2), w64 (x := m + 0) (by omega) (by omega)]
      exact ev_to (ih (i + 1) (m + 0) (by omega) (by omega) (by omega) (by omega)) (by omega)
  · rw [if_neg (show ¬ false = true by simp), if_neg (fun k => c k.1), w64 (x := m + 0) (by omega) (by omega)]
    exact ev_ifn c (ev_to (ih (i + 1) (m + 0) (by omega) (by omega) (by omega) (by omega)) (by omega))
theorem pairsS_ev {v : List Int} (n : Int) (hl : v.length ≤ 1099511627776) : Ev (fun k => spec_PairsOf.f k v n) (pof v n) := by
 unfold spec_PairsOf.f pof
 simp only [l1In_eq, Option.bind_some]
 refine ev_bind _ (sgS_ev hl) ?_
 by_cases c : SG v
 · refine ev_ifp (by simpa using c) (Ev.step (fun k => by rw [spec_PairsOf.j0]) ?_)
   by_cases h : 0 ≤ n ∧ n ≤ 1000
   · rw [if_pos ⟨c, h⟩]
     refine ev_ifn (nd_f h) (ev_to (pairsS_l c h.2 (n + 1).toNat 0 0 (by omega) (by omega) (by omega) (by omega)) ?_)
     unfold prs; omega
   · rw [if_neg (fun k => h k.2)]; exact ev_ifp (nd_t h) (Ev.now _)
 · rw [if_neg (fun k => c k.1)]; exact ev_ifn (by simpa using c) (Ev.step (fun k => by rw [spec_PairsOf.j0]) (ev_ifp rfl (Ev.now _)))
end Go.Proofs.Ytapdhljbhekcdaa.E
end
section
namespace Go.Proofs.Ytapdhljbhekcdaa.Pure
open Go.RowKit Go.Proofs.Ytapdhljbhekcdaa.PB Go.Proofs.Ytapdhljbhekcdaa.E Go.Proofs.YtapdhljbhekcdaaW.PrintWords Go.Proofs.YtapdhljbhekcdaaW.PrintLast Go.Proofs.YtapdhljbhekcdaaW.PrintMore
set_option linter.unusedVariables false
set_option linter.unusedSimpArgs false
theorem pof_ge (v : List Int) (n : Int) : 0 ≤ pof v n := by
 unfold pof
 split
 · rename_i h; exact (prs_bd v h.2.1).1
 · exact Int.le_refl 0
theorem bd_lin {v : List Int} (h : SG v) {n b : Int} (h0 : 0 ≤ n) (L : LeastPairs v n (max n (2 * cd v)) b) : lin v n ≤ b ∧ 1 ≤ b := by
 obtain ⟨i, i0, i1, i2, i3⟩ := L.is
 have a1 := prs_ge h (n := i) (by omega)
 have a2 := prs_pos (n := i) (by omega) i2
 unfold lin
 split <;> omega
theorem bd_up {v : List Int} (h : SG v) {n b b' : Int} (h0 : 0 ≤ n) (L : LeastPairs v n (max n (2 * cd v)) b) (L' : LeastPairs v (n + 1) (max (n + 1) (2 * cd v)) b') : b ≤ b' := by
 obtain ⟨i, i0, i1, i2, i3⟩ := L'.is
 have f := cd_fact h
 by_cases c : i ≤ max n (2 * cd v)
 · rw [i3]; exact L.le i (by omega) c i2
 · have e1 := prs_eq h (n := i) (by omega)
   have e2 := prs_eq h (n := n) (by omega)
   have := L.le n (Int.le_refl _) (by omega) (f.2.2.2.1 n (by omega))
   omega
theorem FnBounds (l0 : List Int) (h0 : l0.length ≤ maxLen) (h1 : l0.length * 1 ≤ 140737488351232) (h2 : ∀ x ∈ l0, (Lit.int .u8 x).wf = true) : ∃ k, laws_FnBounds.f k l0 = some true := by
 apply Ev.rounds
 unfold laws_FnBounds.f laws_big.f
 simp only [Option.bind_some]
 by_cases big : (l0.length : Int) > 1048576
 · exact ev_ifp (d_t big) (Ev.now _)
 refine ev_ifn (d_f big) ?_
 obtain ⟨s, n, sl, ds⟩ := drawOrd_ev (b := l0) (by omega)
 obtain ⟨a, m, al, da⟩ := drawPairs_ev (b := l0) (by omega)
 obtain ⟨b, bi, bs, bL, _⟩ := order_ev (v := s) n (by omega)
 have hs : s.length ≤ 1099511627776 := by omega
 have lv := lin_ev (v := s) n hs
 have dl : Ev (fun k => spec_DrawLinearBound.f k l0) (s, n) := by
  unfold spec_DrawLinearBound.f
  exact ev_bind _ ds (Ev.now _)
 refine ev_bind _ ds ?_
 refine ev_bind _ bi ?_
 refine ev_bind _ da ?_
 refine ev_bind _ (pairsI_ev (v := a) m (by omega)) ?_
 refine ev_bind _ dl ?_
 refine ev_bind _ bs ?_
 refine ev_ifp rfl ?_
 refine ev_bind _ (pairsS_ev (v := a) m (by omega)) ?_
 refine ev_ifp rfl ?_
 refine ev_bind _ lv.1 ?_
 refine ev_bind _ lv.2 ?_
 refine Ev.step (fun k => by rw [laws_FnBounds.j0]) (ev_ifn (by simp) ?_)
 refine ev_bind _ (sgS_ev hs) ?_
 have out : ∀ x, x = true → Ev (fun k => laws_FnBounds.j1 k n b x s) true := fun x hx => Ev.step (fun k => by rw [laws_FnBounds.j1]) (ev_ifp hx (Ev.now _))
 by_cases g : SG s
 · refine ev_ifp (by simpa using g) ?_
   by_cases n0 : n < 0
   · exact ev_ifp n0 (out _ rfl)
   refine ev_ifn n0 ?_
   by_cases n1 : n > 499
   · exact out _ (d_t n1)
   have f := cd_fact g
   have gl := gp_len s
   have L := bL g (by omega) (by omega)
   have bl := bd_lin g (by omega) L
   obtain ⟨b', bi', _, bL', _⟩ := order_ev (v := s) (n + 1) hs
   have up := bd_up g (by omega) L (bL' g (by omega) (by omega))
   have gs := genusS_ev hs
   rw [if_pos g] at gs
   refine Ev.step (fun k => by rw [laws_FnBounds.j1]) (ev_ifn (d_f n1) ?_)
   refine ev_bind _ (cdS_ev hs) ?_
   refine ev_bind _ lv.1 ?_
   refine ev_ifp bl.1 ?_
   rw [w64 (x := n + 1) (by omega) (by omega), w64 (x := 2 * cd s) (by omega) (by omega), w64 (x := 2 * cd s + n) (by omega) (by omega)]
   refine ev_bind _ bi' ?_
   refine ev_ifp up ?_
   refine ev_ifp bl.2 ?_
   have fin : Ev (fun k => (impl_PairsOf.f k s n).bind fun t => some (decide (t ≥ 0))) true := ev_bind _ (pairsI_ev (v := s) n hs) (ev_to (Ev.now _) (d_t (pof_ge s n)))
   by_cases far : 2 * cd s + n > 1000
   · exact ev_ifp far fin
   refine ev_ifn far ?_
   refine ev_bind _ (pairsI_ev (v := s) (2 * cd s + n) hs) ?_
   refine ev_bind _ gs ?_
   rw [w64 (x := 2 * cd s + n + 1) (by omega) (by omega), w64 (x := 2 * ((gp s).length : Int)) (by omega) (by omega), w64 (by omega) (by omega)]
   refine ev_ifp ?_ fin
   unfold pof
   rw [if_pos ⟨g, by omega, by omega⟩]
   exact prs_eq g (by omega)
 · exact ev_ifn (by simpa using g) (out _ rfl)
end Go.Proofs.Ytapdhljbhekcdaa.Pure
end
section
namespace Go.Proofs.YtapdhljbhekcdaaW.PrintWords
open Go.ChangeShapes Go.WideShapes
theorem sized_ints {H : Type} {enc : TypeId × Value → H} {P : Program} {W : World} {base : Nat} {spare : Nat → Bool} {held : Bool} {t e : TypeId} {k : IntKind} {a : Option Addr} {len cap : Nat} {d : DataW H} {ps : List MemPlace} {ts : List TypeId} {ds : List (DataW H)} {j : Nat}
 (hsz : (DataW.weightsEach P ts ds).all (· ≤ reachBytes) = true) (ht : ts[j]? = some t) (hd : ds[j]? = some d) (hu : P.underlying t = some (.slice e)) (he : P.underlying e = some (.int k)) (hc : P.cellsOf e = 1) {B : Nat} (hB : P.bytesOf e = B)
 (h : DataW.Trod enc P W base spare held t (.slice a len cap) d ps) : len * B ≤ 140737488351232 := by
 obtain ⟨fuel, hf⟩ := h
 rcases open_ints hu he hc hf with ⟨hcs, _⟩ | ⟨x, l, c, zs, hcs, _, hl, _, hz, hx, _, _⟩
 · simp [Value.cells] at hcs
   obtain ⟨rfl, rfl, rfl⟩ := hcs
   simp
 · simp [Value.cells] at hcs
   obtain ⟨rfl, rfl, rfl⟩ := hcs
   obtain ⟨hx, _⟩ := Prod.mk.inj hx
   subst hx
   have z := sized_slice hsz ht hd hu
   rw [hB] at z
   have hl2 : len ≤ zs.length := by
    rw [hz]
    split
    · exact hl
    · exact Nat.le_refl _
   have h1 : (lits (H := H) k (zs.take len)).length + (lits (H := H) k (zs.drop len)).length = zs.length := by
    simp [lits]
    omega
   rw [h1] at z
   exact Nat.le_trans (Nat.mul_le_mul_right _ hl2) z
end Go.Proofs.YtapdhljbhekcdaaW.PrintWords
end
