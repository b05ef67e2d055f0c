-- Bundled by shake.py from this session's printed and written texts; Lean checks it.
import Derived.ChangeSlices
import Derived.SizedLaws
import Derived.Test.YtapdhljbhekcdaaZFnWilfx10
import Derived.Test.YtapdhljbhekcdaaZFnWilfx11
import Derived.Test.YtapdhljbhekcdaaZFnWilfx12
import Derived.Test.YtapdhljbhekcdaaZFnWilfx13
import Derived.Test.YtapdhljbhekcdaaZFnWilfx6
import Derived.Test.YtapdhljbhekcdaaZFnWilfx7
import Derived.Test.YtapdhljbhekcdaaZFnWilfx8
import Derived.Test.YtapdhljbhekcdaaZFnWilfx9
section
namespace Go.Proofs.Ytapdhljbhekcdaa.E
open Go.RowKit Go.Proofs.Ytapdhljbhekcdaa.PD Go.Proofs.YtapdhljbhekcdaaW.PrintWords Go.Proofs.YtapdhljbhekcdaaW.PrintLast Go.Proofs.YtapdhljbhekcdaaW.PrintMore
set_option linter.unusedVariables false
set_option linter.unusedSimpArgs false
def Wo (o : List Int) : Prop := 0 < (o.length : Int) ∧ (2 ≤ rd o 0 ∧ rd o 0 ≤ 9) ∧ ∀ x ∈ o, rd o 0 ≤ x ∧ x ≤ rd o 0 + 12
theorem Wo.win {o : List Int} (w : Wo o) (hl : o.length ≤ 5) : Win (mns o) := ⟨by have := mns_len (l := o); omega, rd o 0, w.2.1, fun x hx => w.2.2 x (mns_mem x hx)⟩
theorem Wo.more {o : List Int} (w : Wo o) {x : Int} (h : 0 ≤ x ∧ x < 12) : Wo (o ++ [wrap64 ((wrap64 ((rd o 0) + 1)) + x)]) := by
 obtain ⟨w1, w2, w3⟩ := w
 have e : rd (o ++ [wrap64 ((wrap64 ((rd o 0) + 1)) + x)]) 0 = rd o 0 := by rw [rd_append (by omega), if_pos w1]
 rw [w64 (x := rd o 0 + 1) (by omega) (by omega), w64 (x := rd o 0 + 1 + x) (by omega) (by omega)] at e ⊢
 unfold Wo
 rw [e]
 refine ⟨by simp only [List.length_append, List.length_singleton]; omega, w2, fun z hz => ?_⟩
 rcases List.mem_append.1 hz with k | k
 · exact w3 z k
 · rw [List.mem_singleton] at k; omega
theorem wo_start {x : Int} (h : 0 ≤ x ∧ x < 8) : Wo [wrap64 (2 + x)] := by
 rw [w64 (x := 2 + x) (by omega) (by omega)]
 have e : rd [2 + x] 0 = 2 + x := rfl
 refine ⟨by simp, by omega, fun z hz => ?_⟩
 rw [List.mem_singleton] at hz
 omega
theorem l3DrawW_l1 {b : List Int} {x5 m : Int} (hm : m ≤ 4) (hx : 0 ≤ x5 ∧ x5 < 4) (N : ∀ j h, Cu b j → ∃ s j' h', Dr s ∧ Cu b j' ∧ Ev (fun k => spec_l3Draw.l0 k (x5 + 1) b j h) (s, j', h')) (d : Nat) : ∀ (i j h : Int) (out : List Int), 0 ≤ i → i + d = max i m → (out.length : Int) = i + 1 → i ≤ 4 → Cu b j → Wo out → ∃ s j' h', Dr s ∧ Cu b j' ∧ Ev (fun k => spec_l3Draw.l1 k x5 out m i b j h) (s, j', h') := by
 induction d with
 | zero =>
  intro i j h out i0 hi ho i4 cj wo
  by_cases f : FN out
  · refine ⟨mns out, j, h, ⟨f.2, .inr (wo.win (by omega))⟩, cj, Ev.step (fun k => by rw [spec_l3Draw.l1]) (ev_ifn (by omega) (ev_bind _ (fromGensS_ev (by omega)) ?_))⟩
    rw [show fns out = (mns out, true) from if_pos f]
    exact ev_ifp rfl (Ev.now _)
  · obtain ⟨s, j', h', s1, s2, s3⟩ := N j h cj
    refine ⟨s, j', h', s1, s2, Ev.step (fun k => by rw [spec_l3Draw.l1]) (ev_ifn (by omega) (ev_bind _ (fromGensS_ev (by omega)) ?_))⟩
    rw [show fns out = ([], false) from if_neg f, w64 (x := x5 + 1) (by omega) (by omega)]
    exact ev_ifn (by simp) s3
 | succ d ih =>
  intro i j h out i0 hi ho i4 cj wo
  obtain ⟨x, j1, g1, e, hx12, c1⟩ := below_ok h cj (n := 12) (by omega)
  obtain ⟨s, j', h', s1, s2, s3⟩ := ih (i + 1) j1 g1 (out ++ [wrap64 ((wrap64 ((rd out 0) + 1)) + x)]) (by omega) (by omega) (by rw [List.length_append, List.length_singleton]; omega) (by omega) c1 (wo.more hx12)
  refine ⟨s, j', h', s1, s2, Ev.step (fun k => by rw [spec_l3Draw.l1]) ?_⟩
  rw [e, w64 (x := i + 1) (by omega) (by omega)]
  simp only [Option.bind_some]
  exact ev_ifp (by omega) (ev_ifp (by omega) (ev_ifp (by omega) s3))
theorem l3DrawW_l0 {b : List Int} (d : Nat) : ∀ (x5 j h : Int), 0 ≤ x5 → x5 + d = 4 → Cu b j → ∃ s j' h', Dr s ∧ Cu b j' ∧ Ev (fun k => spec_l3Draw.l0 k x5 b j h) (s, j', h') := by
 induction d with
 | zero =>
  intro x5 j h x0 hx cj
  obtain ⟨l, j1, g1, e, hl, c1⟩ := list_ok h cj
  refine ⟨l, j1, g1, ⟨sg_L8 hl, .inl hl⟩, c1, Ev.step (fun k => by rw [spec_l3Draw.l0]) ?_⟩
  rw [e]
  simp only [Option.bind_some]
  exact ev_ifn (by omega) (ev_bind _ (fg_L8 hl) (Ev.now _))
 | succ d ih =>
  intro x5 j h x0 hx cj
  obtain ⟨x, j1, g1, e1, hx1, c1⟩ := below_ok h cj (n := 8) (by omega)
  obtain ⟨y, j2, g2, e2, hx2, c2⟩ := below_ok g1 c1 (n := 4) (by omega)
  obtain ⟨s, j', h', s1, s2, s3⟩ := l3DrawW_l1 (b := b) (x5 := x5) (m := 1 + y) (by omega) ⟨x0, by omega⟩ (fun j h c => ih (x5 + 1) j h (by omega) (by omega) c) (1 + y).toNat 0 j2 g2 [wrap64 (2 + x)] (Int.le_refl _) (by omega) (by simp) (by omega) c2 (wo_start hx1)
  refine ⟨s, j', h', s1, s2, Ev.step (fun k => by rw [spec_l3Draw.l0]) ?_⟩
  rw [e1]
  simp only [Option.bind_some]
  rw [e2]
  simp only [Option.bind_some]
  rw [w64 (x := 1 + y) (by omega) (by omega)]
  exact ev_ifp (by omega) s3
theorem l3DrawW_ev {b : List Int} {j : Int} (h : Int) (c : Cu b j) : ∃ s j' h', Dr s ∧ Cu b j' ∧ Ev (fun k => spec_l3Draw.f k b j h) (s, j', h') := by
 obtain ⟨x, j1, g1, e, c1⟩ := once_ok h c (n := 4) (by omega)
 by_cases hx : x = true
 · obtain ⟨l, j2, g2, e2, hl, c2⟩ := list_ok g1 c1
   refine ⟨l, j2, g2, ⟨sg_L8 hl, .inl hl⟩, c2, ?_⟩
   unfold spec_l3Draw.f
   rw [e]
   simp only [Option.bind_some]
   rw [e2]
   simp only [Option.bind_some]
   exact ev_ifp hx (ev_bind _ (fg_L8 hl) (Ev.now _))
 · obtain ⟨s, j', h', s1, s2, s3⟩ := l3DrawW_l0 4 0 j1 g1 (Int.le_refl _) (by omega) c1
   refine ⟨s, j', h', s1, s2, ?_⟩
   unfold spec_l3Draw.f
   rw [e]
   simp only [Option.bind_some]
   exact ev_ifn hx s3
theorem l3BentW_ev {b : List Int} {j : Int} (h : Int) (c : Cu b j) : ∃ s j' h', Bn s ∧ Cu b j' ∧ Ev (fun k => spec_l3Bent.f k b j h) (s, j', h') := by
 obtain ⟨s, j1, g1, s1, c1, s3⟩ := l3DrawW_ev h c
 obtain ⟨x, j2, g2, e2, hx, c2⟩ := below_ok g1 c1 (n := 12) (by omega)
 have hl := s1.1.len
 have hu := s1.1.ul.1
 by_cases x0 : x = 0
 · obtain ⟨y, j3, g3, e3, hy, c3⟩ := pick_ok g2 c2 (l := [0, 61, 12, (-3), 60]) (by simp)
   refine ⟨s ++ [y], j3, g3, ⟨s, s1, .inr (.inr (.inl ⟨y, hy, rfl⟩))⟩, c3, ?_⟩
   unfold spec_l3Bent.f
   refine ev_bind _ s3 ?_
   rw [e2]
   simp only [Option.bind_some]
   rw [e3]
   simp only [Option.bind_some]
   exact ev_ifp x0 (ev_ifp (by omega) (Ev.now _))
 · by_cases x1 : x = 1
   · refine ⟨s.drop (1 : Int).toNat, j2, g2, ⟨s, s1, .inr (.inl rfl)⟩, c2, ?_⟩
     unfold spec_l3Bent.f
     refine ev_bind _ s3 ?_
     rw [e2]
     simp only [Option.bind_some]
     exact ev_ifn x0 (ev_ifp x1 (ev_ifp (by omega) (Ev.now _)))
   · by_cases x2 : x = 2
     · obtain ⟨y, j3, g3, e3, hy, c3⟩ := pick_ok g2 c2 (l := [0, 59, 4]) (by simp)
       refine ⟨[y, 60], j3, g3, ⟨s, s1, .inr (.inr (.inr ⟨y, hy, rfl⟩))⟩, c3, ?_⟩
       unfold spec_l3Bent.f
       refine ev_bind _ s3 ?_
       rw [e2]
       simp only [Option.bind_some]
       rw [e3]
       simp only [Option.bind_some]
       exact ev_ifn x0 (ev_ifn x1 (ev_ifp x2 (Ev.now _)))
     · refine ⟨s, j2, g2, ⟨s, s1, .inl rfl⟩, c2, ?_⟩
       unfold spec_l3Bent.f
       refine ev_bind _ s3 ?_
       rw [e2]
       simp only [Option.bind_some]
       exact ev_ifn x0 (ev_ifn x1 (ev_ifn x2 (Ev.now _)))
end Go.Proofs.Ytapdhljbhekcdaa.E
end
section
namespace Go.Proofs.Ytapdhljbhekcdaa.E
open Go.RowKit Go.Proofs.Ytapdhljbhekcdaa.PD Go.Proofs.YtapdhljbhekcdaaW.PrintWords Go.Proofs.YtapdhljbhekcdaaW.PrintLast Go.Proofs.YtapdhljbhekcdaaW.PrintMore
set_option linter.unusedVariables false
set_option linter.unusedSimpArgs false
theorem genusI_ev {v : List Int} (hl : v.length ≤ 1099511627776) : Ev (fun k => impl_GenusOf.f k v) (if SG v then ((gp v).length : Int) else -1) := by
 unfold impl_GenusOf.f
 refine ev_bind _ (sgI_ev hl) ?_
 by_cases c : SG v
 · rw [if_pos c]
   refine ev_ifp (by simpa using c) (ev_bind _ (gapsI_gps hl) ?_)
   rw [gps_sg c]; exact Ev.now _
 · rw [if_neg c]; exact ev_ifn (by simpa using c) (Ev.now _)
theorem genusS_ev {v : List Int} (hl : v.length ≤ 1099511627776) : Ev (fun k => spec_GenusOf.f k v) (if SG v then ((gp v).length : Int) else -1) := by
 unfold spec_GenusOf.f
 refine ev_bind _ (sgS_ev hl) ?_
 by_cases c : SG v
 · rw [if_pos c]; exact ev_ifp (by simpa using c) (ev_bind _ (l4Gaps_ev c) (Ev.now _))
 · rw [if_neg c]; exact ev_ifn (by simpa using c) (Ev.now _)
end Go.Proofs.Ytapdhljbhekcdaa.E
end
section
namespace Go.Proofs.Ytapdhljbhekcdaa.E
open Go.RowKit Go.Proofs.Ytapdhljbhekcdaa.PD Go.Proofs.YtapdhljbhekcdaaW.PrintWords Go.Proofs.YtapdhljbhekcdaaW.PrintLast Go.Proofs.YtapdhljbhekcdaaW.PrintMore
set_option linter.unusedVariables false
set_option linter.unusedSimpArgs false
theorem l1Bit_eq (b : Bool) : spec_l1Bit.f b = some (if b = true then 1 else 0) := by
 unfold spec_l1Bit.f; cases b <;> rfl
end Go.Proofs.Ytapdhljbhekcdaa.E
end
section
namespace Go.Proofs.Ytapdhljbhekcdaa.E
open Go.RowKit Go.Proofs.Ytapdhljbhekcdaa.PD Go.Proofs.YtapdhljbhekcdaaW.PrintWords Go.Proofs.YtapdhljbhekcdaaW.PrintLast Go.Proofs.YtapdhljbhekcdaaW.PrintMore
set_option linter.unusedVariables false
set_option linter.unusedSimpArgs false
noncomputable def below (v : List Int) (l : List Int) : Int := ((l.filter fun g => decide (g < cd v)).length : Int)
theorem primI_l {v : List Int} (hl : v.length ≤ 1099511627776) (d : Nat) : ∀ (i n : Int), 0 ≤ i → i + d = v.length → 0 ≤ n → n ≤ i → Ev (fun k => impl_PrimitiveBelow.l0 k n v v.length i v) (n + below v (v.drop i.toNat)) := by
 induction d with
 | zero =>
  intro i n h0 h1 h2 h3
  refine Ev.step (fun k => by rw [impl_PrimitiveBelow.l0]) (ev_ifn (by omega) (ev_to (Ev.now _) ?_))
  rw [List.drop_of_length_le (by omega)]; simp [below]
 | succ d ih =>
  intro i n h0 h1 h2 h3
  refine Ev.step (fun k => by rw [impl_PrimitiveBelow.l0]) ?_
  rw [w64 (x := i + 1) (by omega) (by omega), w64 (x := n + 1) (by omega) (by omega), drop_rd h0 (by omega)]
  refine ev_ifp (by omega) (ev_ifp h0 (ev_ifp (by omega) (ev_bind _ (cdI_ev hl) ?_)))
  by_cases c : rd v i < cd v
  · refine ev_ifp c (ev_to (ih (i + 1) (n + 1) (by omega) (by omega) (by omega) (by omega)) ?_)
    simp [below, c]; omega
  · refine ev_ifn c (ev_to (ih (i + 1) n (by omega) (by omega) (by omega) (by omega)) ?_)
    simp [below, c]
theorem primS_l {v : List Int} (hl : v.length ≤ 1099511627776) (d : Nat) : ∀ (i n : Int), 0 ≤ i → i + d = v.length → 0 ≤ n → n ≤ i → Ev (fun k => spec_PrimitiveBelow.l0 k n i v) (n + below v (v.drop i.toNat)) := by
 induction d with
 | zero =>
  intro i n h0 h1 h2 h3
  refine Ev.step (fun k => by rw [spec_PrimitiveBelow.l0]) (ev_ifn (by omega) (ev_to (Ev.now _) ?_))
  rw [List.drop_of_length_le (by omega)]; simp [below]
 | succ d ih =>
  intro i n h0 h1 h2 h3
  refine Ev.step (fun k => by rw [spec_PrimitiveBelow.l0]) ?_
  simp only [l1Bit_eq, Option.bind_some]
  rw [w64 (x := i + 1) (by omega) (by omega), drop_rd h0 (by omega)]
  refine ev_ifp (by omega) (ev_ifp h0 (ev_bind _ (cdS_ev hl) ?_))
  by_cases c : rd v i < cd v
  · rw [if_pos (by simpa using c), w64 (x := n + 1) (by omega) (by omega)]
    refine (ev_to (ih (i + 1) (n + 1) (by omega) (by omega) (by omega) (by omega)) ?_)
    simp [below, c]; omega
  · rw [if_neg (by simpa using c), w64 (x := n + 0) (by omega) (by omega)]
    refine (ev_to (ih (i + 1) (n + 0) (by omega) (by omega) (by omega) (by omega)) ?_)
    simp [below, c]
noncomputable def prim (v : List Int) : Int := if SG v then below v v else -1
theorem primI_ev {v : List Int} (hl : v.length ≤ 1099511627776) : Ev (fun k => impl_PrimitiveBelow.f k v) (prim v) := by
 unfold impl_PrimitiveBelow.f prim
 refine ev_bind _ (sgI_ev hl) ?_
 by_cases c : SG v
 · rw [if_pos c]
   refine ev_ifp (by simpa using c) (ev_to (primI_l hl v.length 0 0 (by omega) (by omega) (by omega) (by omega)) ?_)
   simp
 · rw [if_neg c]; exact ev_ifn (by simpa using c) (Ev.now _)
theorem primS_ev {v : List Int} (hl : v.length ≤ 1099511627776) : Ev (fun k => spec_PrimitiveBelow.f k v) (prim v) := by
 unfold spec_PrimitiveBelow.f prim
 refine ev_bind _ (sgS_ev hl) ?_
 by_cases c : SG v
 · rw [if_pos c]
   refine ev_ifp (by simpa using c) (ev_to (primS_l hl v.length 0 0 (by omega) (by omega) (by omega) (by omega)) ?_)
   simp
 · rw [if_neg c]; exact ev_ifn (by simpa using c) (Ev.now _)
end Go.Proofs.Ytapdhljbhekcdaa.E
end
section
namespace Go.Proofs.Ytapdhljbhekcdaa.E
open Go.RowKit Go.Proofs.Ytapdhljbhekcdaa.PD Go.Proofs.YtapdhljbhekcdaaW.PrintWords Go.Proofs.YtapdhljbhekcdaaW.PrintLast Go.Proofs.YtapdhljbhekcdaaW.PrintMore
set_option linter.unusedVariables false
set_option linter.unusedSimpArgs false
theorem spor_ev {v : List Int} (hl : v.length ≤ 1099511627776) : ∃ r, Ev (fun k => impl_SporadicDensity.f k v) r ∧ Ev (fun k => spec_SporadicDensity.f k v) r := by
 unfold impl_SporadicDensity.f spec_SporadicDensity.f impl_lowest.f
 by_cases c : SG v
 · have f := cd_fact c
   have gi := genusI_ev hl
   rw [if_pos c] at gi
   by_cases z : cd v = 0
   · have z' := (cd_zero c).1 z
     exact ⟨_, ev_bind _ (sgI_ev hl) (ev_ifp (by simpa using c) (ev_bind _ gi (ev_ifp (by omega) (Ev.now _)))), ev_bind _ (sgS_ev hl) (ev_ifp (by simpa using c) (ev_bind _ (cdS_ev hl) (ev_ifp z (Ev.now _))))⟩
   · have z' : ¬ (gp v).length = 0 := fun h => z ((cd_zero c).2 h)
     have g : gcdOf (lc v) (cd v) ≠ 0 := by
      have := sme_len v
      have e := lc_sg c
      unfold gcdOf
      rw [if_pos ⟨⟨by omega, by omega⟩, by omega, by omega⟩]
      have := Int.gcd_pos_of_ne_zero_right (lc v) z
      omega
     exact ⟨_, ev_bind _ (sgI_ev hl) (ev_ifp (by simpa using c) (ev_bind _ gi (ev_ifn (by omega) (ev_bind _ (lcI_ev hl) (ev_bind _ (cdI_ev hl) (ev_bind _ (ev_bind _ (gcdI_ev _ _) (ev_ifn g (Ev.now _))) (Ev.now _))))))), ev_bind _ (sgS_ev hl) (ev_ifp (by simpa using c) (ev_bind _ (cdS_ev hl) (ev_ifn z (ev_bind _ (lcS_ev hl) (ev_bind _ (gcdS_ev _ _) (ev_bind _ (lcS_ev hl) (ev_ifn g (Ev.now _))))))))⟩
 · exact ⟨_, ev_bind _ (sgI_ev hl) (ev_ifn (by simpa using c) (Ev.now _)), ev_bind _ (sgS_ev hl) (ev_ifn (by simpa using c) (Ev.now _))⟩
end Go.Proofs.Ytapdhljbhekcdaa.E
end
section
namespace Go.Proofs.Ytapdhljbhekcdaa.Pure
open Go.RowKit Go.Proofs.Ytapdhljbhekcdaa.PD Go.Proofs.Ytapdhljbhekcdaa.E Go.Proofs.YtapdhljbhekcdaaW.PrintWords Go.Proofs.YtapdhljbhekcdaaW.PrintLast Go.Proofs.YtapdhljbhekcdaaW.PrintMore
set_option linter.unusedVariables false
set_option linter.unusedSimpArgs false
theorem ens_ok : ens 20 = true := by kernel_rfl
theorem L8_ok : L8ok = true := by kernel_rfl
theorem YS_ok : YSok = true := by kernel_rfl
theorem drawW_ev {b : List Int} (hb : (b.length : Int) ≤ 1099511627776) : ∃ s, s.length ≤ 13 ∧ Bn s ∧ Ev (fun k => spec_DrawWilfNumber.f k b) s := by
 obtain ⟨g, e, c⟩ := new_ev hb
 obtain ⟨s, j1, g1, s1, c1, s3⟩ := l3BentW_ev g c
 refine ⟨s, ?_, s1, ?_⟩
 · obtain ⟨u, ⟨u1, _⟩, q⟩ := s1
   have := u1.len
   rcases q with rfl | rfl | ⟨y, _, rfl⟩ | ⟨y, _, rfl⟩
   · omega
   · rw [List.length_drop]; omega
   · rw [List.length_append, List.length_singleton]; omega
   · simp
 · unfold spec_DrawWilfNumber.f
   exact ev_bind _ e (ev_bind _ s3 (Ev.now _))
theorem fl_both (p : Int → Bool) (d : Nat) : ∀ i : Int, (fl p i d).length + (fl (fun n => !p n) i d).length = d := by
 induction d with
 | zero => intro i; simp [fl]
 | succ d ih =>
  intro i
  have := ih (i + 1)
  by_cases c : p i = true
  · rw [fl_yes c, fl_no (by simp [c]), List.length_cons]; omega
  · rw [fl_no c, fl_yes (p := fun n => !p n) (by simpa using c), List.length_cons]; omega
theorem fl_none (p : Int → Bool) (d : Nat) : ∀ i : Int, (∀ n, i ≤ n → ¬ p n = true) → fl p i d = [] := by
 induction d with
 | zero => intro i _; rfl
 | succ d ih => intro i h; rw [fl_no (h i (Int.le_refl _))]; exact ih (i + 1) fun n hn => h n (by omega)
theorem lc_gp {v : List Int} (h : SG v) : lc v + (gp v).length = cd v := by
 have f := cd_fact h
 have a := fl_both (fun n => decide (Su v n)) (cd v).toNat 0
 have w := gp_wide h
 have far : fl (isgap v) (0 + ((cd v).toNat : Int)) (201 - (cd v).toNat) = [] := fl_none _ _ _ fun n hn => by
  rw [isgap_t]
  exact fun k => k (f.2.2.2.1 n (by omega))
 rw [show (201 : Nat) = (cd v).toNat + (201 - (cd v).toNat) from by omega, fl_app, far, List.append_nil] at w
 rw [lc_sg h]
 unfold sme
 rw [if_pos h]
 unfold sml
 rw [← w]
 have e : fl (isgap v) 0 (cd v).toNat = fl (fun n => !(decide (Su v n))) 0 (cd v).toNat := rfl
 rw [e]
 omega
theorem prim_le (v : List Int) (h : SG v) : prim v ≤ v.length := by
 unfold prim
 rw [if_pos h]
 unfold below
 have := List.length_filter_le (fun g => decide (g < cd v)) v
 omega
theorem FnWilf (l0 : List Int) (h0 : l0.length ≤ maxLen) (h1 : l0.length * 1 ≤ 140737488351232) (h2 : ∀ x ∈ l0, (Lit.int .u8 x).wf = true) : ∃ k, laws_FnWilf.f k l0 = some true := by
 apply Ev.rounds
 unfold laws_FnWilf.f laws_big.f
 simp only [Option.bind_some]
 by_cases big : (l0.length : Int) > 1048576
 · exact ev_ifp (d_t big) (Ev.now _)
 refine ev_ifn (d_f big) ?_
 obtain ⟨s, sl, sb, ds⟩ := drawW_ev (b := l0) (by omega)
 have hs : s.length ≤ 1099511627776 := by omega
 obtain ⟨q, q1, q2⟩ := spor_ev hs
 obtain ⟨d, d1, d2⟩ := depth_ev hs
 refine ev_bind _ ds ?_
 refine ev_bind _ (wilfI_ev hs) ?_
 refine ev_bind _ (lcI_ev hs) ?_
 refine ev_bind _ q1 ?_
 refine ev_bind _ q2 ?_
 refine ev_bind _ (wilfS_ev hs) ?_
 refine ev_ifp rfl ?_
 refine ev_bind _ (lcS_ev hs) ?_
 refine ev_ifp rfl ?_
 refine ev_bind _ d1 ?_
 refine ev_bind _ d2 ?_
 refine ev_ifp rfl ?_
 refine ev_ifp rfl ?_
 refine ev_ifp rfl ?_
 refine ev_bind _ (primI_ev hs) ?_
 refine ev_bind _ (primS_ev hs) ?_
 refine Ev.step (fun k => by rw [laws_FnWilf.j0]) (ev_ifn (by simp) ?_)
 refine ev_bind _ (sgS_ev hs) ?_
 by_cases g : SG s
 · refine ev_ifp (by simpa using g) ?_
   obtain ⟨w0, w2⟩ := wilf_bent ens_ok L8_ok YS_ok sb g
   have f := cd_fact g
   have e := lc_gp g
   have gs := genusS_ev hs
   rw [if_pos g] at gs
   have gl := gp_len s
   have pl := prim_le s g
   have u := g.ul.1
   have dm : Ev (fun k => spec_DimensionOf.f k s) (s.length : Int) := by
    unfold spec_DimensionOf.f
    exact ev_bind _ (sgS_ev hs) (ev_ifp (by simpa using g) (Ev.now _))
   have last : Ev (fun k => (impl_PrimitiveBelow.f k s).bind fun t => (spec_DimensionOf.f k s).bind fun t' => some (decide (t ≤ t'))) true := ev_bind _ (primI_ev hs) (ev_bind _ dm (ev_to (Ev.now _) (d_t pl)))
   have out : ∀ x, x = false → Ev (fun k => laws_FnWilf.j1 k (wilf s) (lc s) x s) true := fun x hx => by
    refine Ev.step (fun k => by rw [laws_FnWilf.j1]) (ev_ifn (by simp [hx]) ?_)
    refine ev_bind _ gs ?_
    refine ev_bind _ (cdS_ev hs) ?_
    refine ev_ifp (by rw [w64 (by omega) (by omega)]; exact e) ?_
    refine ev_bind _ dm ?_
    by_cases t : (s.length : Int) = 2
    · exact ev_ifp t (ev_ifp (w2 t) last)
    · exact ev_ifn t last
   refine ev_bind (rd s 0) (by unfold spec_MultiplicityOf.f; exact ev_bind _ (sgS_ev hs) (ev_ifp (by simpa using g) (ev_ifp (by omega) (Ev.now _)))) ?_
   by_cases m : rd s 0 ≤ 12
   · exact ev_ifp m (out _ (by simp; omega))
   · exact ev_ifn m (out _ rfl)
 · refine ev_ifn (by simpa using g) ?_
   have a : wilf s = -1 := by unfold wilf; rw [if_neg g]
   have b : lc s = -1 := by unfold lc; rw [if_neg g]
   rw [a, b]
   exact ev_ifp rfl (Ev.now _)
end Go.Proofs.Ytapdhljbhekcdaa.Pure
end
section
namespace Go.Proofs.YtapdhljbhekcdaaW.PrintWords
open Go.ChangeShapes Go.WideShapes
theorem sized_ints {H : Type} {enc : TypeId × Value → H} {P : Program} {W : World} {base : Nat} {spare : Nat → Bool} {held : Bool} {t e : TypeId} {k : IntKind} {a : Option Addr} {len cap : Nat} {d : DataW H} {ps : List MemPlace} {ts : List TypeId} {ds : List (DataW H)} {j : Nat}
 (hsz : (DataW.weightsEach P ts ds).all (· ≤ reachBytes) = true) (ht : ts[j]? = some t) (hd : ds[j]? = some d) (hu : P.underlying t = some (.slice e)) (he : P.underlying e = some (.int k)) (hc : P.cellsOf e = 1) {B : Nat} (hB : P.bytesOf e = B)
 (h : DataW.Trod enc P W base spare held t (.slice a len cap) d ps) : len * B ≤ 140737488351232 := by
 obtain ⟨fuel, hf⟩ := h
 rcases open_ints hu he hc hf with ⟨hcs, _⟩ | ⟨x, l, c, zs, hcs, _, hl, _, hz, hx, _, _⟩
 · simp [Value.cells] at hcs
   obtain ⟨rfl, rfl, rfl⟩ := hcs
   simp
 · simp [Value.cells] at hcs
   obtain ⟨rfl, rfl, rfl⟩ := hcs
   obtain ⟨hx, _⟩ := Prod.mk.inj hx
   subst hx
   have z := sized_slice hsz ht hd hu
   rw [hB] at z
   have hl2 : len ≤ zs.length := by
    rw [hz]
    split
    · exact hl
    · exact Nat.le_refl _
   have h1 : (lits (H := H) k (zs.take len)).length + (lits (H := H) k (zs.drop len)).length = zs.length := by
    simp [lits]
    omega
   rw [h1] at z
   exact Nat.le_trans (Nat.mul_le_mul_right _ hl2) z
end Go.Proofs.YtapdhljbhekcdaaW.PrintWords
end
