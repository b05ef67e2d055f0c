-- Bundled by shake.py from this session's printed and written texts; Lean checks it.
import Derived.ChangeSlices
import Derived.SizedLaws
import Derived.Test.YtppkokbhgkeknaaZFnArfx1
import Derived.Test.YtppkokbhgkeknaaZFnArfx10
import Derived.Test.YtppkokbhgkeknaaZFnArfx11
import Derived.Test.YtppkokbhgkeknaaZFnArfx12
import Derived.Test.YtppkokbhgkeknaaZFnArfx13
import Derived.Test.YtppkokbhgkeknaaZFnArfx3
import Derived.Test.YtppkokbhgkeknaaZFnArfx4
import Derived.Test.YtppkokbhgkeknaaZFnArfx5
import Derived.Test.YtppkokbhgkeknaaZFnArfx6
section
namespace Go.Proofs.Ytppkokbhgkeknaa.E
open Go.RowKit Go.Proofs.Ytppkokbhgkeknaa.PA Go.Proofs.YtppkokbhgkeknaaW.PrintWords Go.Proofs.YtppkokbhgkeknaaW.PrintLast Go.Proofs.YtppkokbhgkeknaaW.PrintMore
set_option linter.unusedVariables false
set_option linter.unusedSimpArgs false
theorem fg0 : spec_FromGens.f 3000 [1] = some ([1], true) := by kernel_rfl
theorem fg1 : spec_FromGens.f 3000 [3, 5] = some ([3, 5], true) := by kernel_rfl
theorem fg2 : spec_FromGens.f 3000 [4, 6, 9] = some ([4, 6, 9], true) := by kernel_rfl
theorem fg3 : spec_FromGens.f 3000 [3, 4, 5] = some ([3, 4, 5], true) := by kernel_rfl
theorem fg4 : spec_FromGens.f 3000 [6, 9, 20] = some ([6, 9, 20], true) := by kernel_rfl
theorem fg5 : spec_FromGens.f 3000 [5, 7, 9, 11] = some ([5, 7, 9, 11], true) := by kernel_rfl
theorem fg6 : spec_FromGens.f 3000 [2, 3] = some ([2, 3], true) := by kernel_rfl
theorem fg7 : spec_FromGens.f 3000 [4, 5, 11] = some ([4, 5, 11], true) := by kernel_rfl
def L8 : List (List Int) := [[1], [3, 5], [4, 6, 9], [3, 4, 5], [6, 9, 20], [5, 7, 9, 11], [2, 3], [4, 5, 11]]
theorem fg_L8 {l : List Int} (h : l ∈ L8) : Ev (fun k => spec_FromGens.f k l) (l, true) := by
 simp only [L8, List.mem_cons, List.not_mem_nil, or_false] at h
 rcases h with rfl | rfl | rfl | rfl | rfl | rfl | rfl | rfl
 · exact Ev.of (spec_FromGens.mono _) fg0
 · exact Ev.of (spec_FromGens.mono _) fg1
 · exact Ev.of (spec_FromGens.mono _) fg2
 · exact Ev.of (spec_FromGens.mono _) fg3
 · exact Ev.of (spec_FromGens.mono _) fg4
 · exact Ev.of (spec_FromGens.mono _) fg5
 · exact Ev.of (spec_FromGens.mono _) fg6
 · exact Ev.of (spec_FromGens.mono _) fg7
theorem sg_L8 {l : List Int} (h : l ∈ L8) : SG l := by
 have hl : l.length ≤ 1099511627776 := by
  simp only [L8, List.mem_cons, List.not_mem_nil, or_false] at h
  rcases h with rfl | rfl | rfl | rfl | rfl | rfl | rfl | rfl <;> simp
 have e := ev_one (fromGensS_ev hl) (fg_L8 h)
 unfold fns at e
 split at e
 · rename_i f
   rw [Prod.mk.injEq] at e
   exact e.1 ▸ f.2
 · simp at e
theorem once_ok {b : List Int} {i : Int} (h : Int) (c : Cu b i) {n : Int} (hn : 0 < n) : ∃ x j g, spec_l1Once.f b i h n = some (x, j, g) ∧ Cu b j := by
 obtain ⟨x, j, g, e, _, cj⟩ := below_ok h c hn
 exact ⟨_, j, g, by unfold spec_l1Once.f; rw [e]; rfl, cj⟩
theorem list_ok {b : List Int} {i : Int} (h : Int) (c : Cu b i) : ∃ l j g, spec_l3List.f b i h = some (l, j, g) ∧ l ∈ L8 ∧ Cu b j := by
 obtain ⟨x, j, g, e, hx, cj⟩ := below_ok h c (n := 8) (by omega)
 unfold spec_l3List.f
 rw [e]
 simp only [Option.bind_some]
 by_cases c0 : x = 0
 · exact ⟨_, j, g, by rw [if_pos c0], by simp [L8], cj⟩
 rw [if_neg c0]
 by_cases c1 : x = 1
 · exact ⟨_, j, g, by rw [if_pos c1], by simp [L8], cj⟩
 rw [if_neg c1]
 by_cases c2 : x = 2
 · exact ⟨_, j, g, by rw [if_pos c2], by simp [L8], cj⟩
 rw [if_neg c2]
 by_cases c3 : x = 3
 · exact ⟨_, j, g, by rw [if_pos c3], by simp [L8], cj⟩
 rw [if_neg c3]
 by_cases c4 : x = 4
 · exact ⟨_, j, g, by rw [if_pos c4], by simp [L8], cj⟩
 rw [if_neg c4]
 by_cases c5 : x = 5
 · exact ⟨_, j, g, by rw [if_pos c5], by simp [L8], cj⟩
 rw [if_neg c5]
 by_cases c6 : x = 6
 · exact ⟨_, j, g, by rw [if_pos c6], by simp [L8], cj⟩
 exact ⟨_, j, g, by rw [if_neg c6], by simp [L8], cj⟩
theorem l3Draw_l1 {b : List Int} {x5 m : Int} (hm : m ≤ 4) (hx : 0 ≤ x5 ∧ x5 < 4) (N : ∀ j h, Cu b j → ∃ s j' h', SG s ∧ Cu b j' ∧ Ev (fun k => spec_l3Draw.l0 k (x5 + 1) b j h) (s, j', h')) (d : Nat) : ∀ (i j h : Int) (out : List Int), 0 ≤ i → i + d = max i m → (out.length : Int) = i + 1 → i ≤ 4 → Cu b j → ∃ s j' h', SG s ∧ Cu b j' ∧ Ev (fun k => spec_l3Draw.l1 k x5 out m i b j h) (s, j', h') := by
 induction d with
 | zero =>
  intro i j h out i0 hi ho i4 cj
  by_cases f : FN out
  · refine ⟨mns out, j, h, f.2, cj, Ev.step (fun k => by rw [spec_l3Draw.l1]) (ev_ifn (by omega) (ev_bind _ (fromGensS_ev (by omega)) ?_))⟩
    rw [show fns out = (mns out, true) from if_pos f]
    exact ev_ifp rfl (Ev.now _)
  · obtain ⟨s, j', h', s1, s2, s3⟩ := N j h cj
    refine ⟨s, j', h', s1, s2, Ev.step (fun k => by rw [spec_l3Draw.l1]) (ev_ifn (by omega) (ev_bind _ (fromGensS_ev (by omega)) ?_))⟩
    rw [show fns out = ([], false) from if_neg f, w64 (x := x5 + 1) (by omega) (by omega)]
    exact ev_ifn (by simp) s3
 | succ d ih =>
  intro i j h out i0 hi ho i4 cj
  obtain ⟨x, j1, g1, e, _, c1⟩ := below_ok h cj (n := 12) (by omega)
  obtain ⟨s, j', h', s1, s2, s3⟩ := ih (i + 1) j1 g1 (out ++ [wrap64 ((wrap64 ((rd out 0) + 1)) + x)]) (by omega) (by omega) (by rw [List.length_append, List.length_singleton]; omega) (by omega) c1
  refine ⟨s, j', h', s1, s2, Ev.step (fun k => by rw [spec_l3Draw.l1]) ?_⟩
  rw [e, w64 (x := i + 1) (by omega) (by omega)]
  simp only [Option.bind_some]
  exact ev_ifp (by omega) (ev_ifp (by omega) (ev_ifp (by omega) s3))
theorem l3Draw_l0 {b : List Int} (d : Nat) : ∀ (x5 j h : Int), 0 ≤ x5 → x5 + d = 4 → Cu b j → ∃ s j' h', SG s ∧ Cu b j' ∧ Ev (fun k => spec_l3Draw.l0 k x5 b j h) (s, j', h') := by
 induction d with
 | zero =>
  intro x5 j h x0 hx cj
  obtain ⟨l, j1, g1, e, hl, c1⟩ := list_ok h cj
  refine ⟨l, j1, g1, sg_L8 hl, c1, Ev.step (fun k => by rw [spec_l3Draw.l0]) ?_⟩
  rw [e]
  simp only [Option.bind_some]
  exact ev_ifn (by omega) (ev_bind _ (fg_L8 hl) (Ev.now _))
 | succ d ih =>
  intro x5 j h x0 hx cj
  obtain ⟨x, j1, g1, e1, hx1, c1⟩ := below_ok h cj (n := 8) (by omega)
  obtain ⟨y, j2, g2, e2, hx2, c2⟩ := below_ok g1 c1 (n := 4) (by omega)
  obtain ⟨s, j', h', s1, s2, s3⟩ := l3Draw_l1 (b := b) (x5 := x5) (m := 1 + y) (by omega) ⟨x0, by omega⟩ (fun j h c => ih (x5 + 1) j h (by omega) (by omega) c) (1 + y).toNat 0 j2 g2 [wrap64 (2 + x)] (Int.le_refl _) (by omega) (by simp) (by omega) c2
  refine ⟨s, j', h', s1, s2, Ev.step (fun k => by rw [spec_l3Draw.l0]) ?_⟩
  rw [e1]
  simp only [Option.bind_some]
  rw [e2]
  simp only [Option.bind_some]
  rw [w64 (x := 1 + y) (by omega) (by omega)]
  exact ev_ifp (by omega) s3
theorem l3Draw_ev {b : List Int} {j : Int} (h : Int) (c : Cu b j) : ∃ s j' h', SG s ∧ Cu b j' ∧ Ev (fun k => spec_l3Draw.f k b j h) (s, j', h') := by
 obtain ⟨x, j1, g1, e, c1⟩ := once_ok h c (n := 4) (by omega)
 by_cases hx : x = true
 · obtain ⟨l, j2, g2, e2, hl, c2⟩ := list_ok g1 c1
   refine ⟨l, j2, g2, sg_L8 hl, c2, ?_⟩
   unfold spec_l3Draw.f
   rw [e]
   simp only [Option.bind_some]
   rw [e2]
   simp only [Option.bind_some]
   exact ev_ifp hx (ev_bind _ (fg_L8 hl) (Ev.now _))
 · obtain ⟨s, j', h', s1, s2, s3⟩ := l3Draw_l0 4 0 j1 g1 (Int.le_refl _) (by omega) c1
   refine ⟨s, j', h', s1, s2, ?_⟩
   unfold spec_l3Draw.f
   rw [e]
   simp only [Option.bind_some]
   exact ev_ifn hx s3
theorem l3Bent_ev {b : List Int} {j : Int} (h : Int) (c : Cu b j) : ∃ s j' h', s.length ≤ 13 ∧ Cu b j' ∧ Ev (fun k => spec_l3Bent.f k b j h) (s, j', h') := by
 obtain ⟨s, j1, g1, s1, c1, s3⟩ := l3Draw_ev h c
 obtain ⟨x, j2, g2, e2, hx, c2⟩ := below_ok g1 c1 (n := 12) (by omega)
 have hl := s1.len
 have hu := s1.ul.1
 by_cases x0 : x = 0
 · obtain ⟨y, j3, g3, e3, hy, c3⟩ := pick_ok g2 c2 (l := [0, 61, 12, (-3), 60]) (by simp)
   refine ⟨s ++ [y], j3, g3, by rw [List.length_append, List.length_singleton]; omega, c3, ?_⟩
   unfold spec_l3Bent.f
   refine ev_bind _ s3 ?_
   rw [e2]
   simp only [Option.bind_some]
   rw [e3]
   simp only [Option.bind_some]
   exact ev_ifp x0 (ev_ifp (by omega) (Ev.now _))
 · by_cases x1 : x = 1
   · refine ⟨s.drop (1 : Int).toNat, j2, g2, by rw [List.length_drop]; omega, c2, ?_⟩
     unfold spec_l3Bent.f
     refine ev_bind _ s3 ?_
     rw [e2]
     simp only [Option.bind_some]
     exact ev_ifn x0 (ev_ifp x1 (ev_ifp (by omega) (Ev.now _)))
   · by_cases x2 : x = 2
     · obtain ⟨y, j3, g3, e3, hy, c3⟩ := pick_ok g2 c2 (l := [0, 59, 4]) (by simp)
       refine ⟨[y, 60], j3, g3, by simp, c3, ?_⟩
       unfold spec_l3Bent.f
       refine ev_bind _ s3 ?_
       rw [e2]
       simp only [Option.bind_some]
       rw [e3]
       simp only [Option.bind_some]
       exact ev_ifn x0 (ev_ifn x1 (ev_ifp x2 (Ev.now _)))
     · refine ⟨s, j2, g2, by omega, c2, ?_⟩
       unfold spec_l3Bent.f
       refine ev_bind _ s3 ?_
       rw [e2]
       simp only [Option.bind_some]
       exact ev_ifn x0 (ev_ifn x1 (ev_ifn x2 (Ev.now _)))
theorem ms_arf (n : Nat) : ∀ (v p : List Int), SG v → (gp v).length < n → p.length + n ≤ 1000 → ∃ r, Ev (fun k => impl_MultiplicitySequence.l0 k (p ++ [rd v 0]) v) r ∧ Ev (fun k => spec_MultiplicitySequence.l0 k p v) r ∧ r.1.length ≤ 1000 ∧ (r.2 = true → ∃ s, r.1 = p ++ s ∧ s.length ≤ n ∧ (ArfU (Su v) → ∀ i : Nat, i < s.length → Nth v (i + 1) (psum (i + 1) s))) := by
 induction n with
 | zero => intro v p _ h; omega
 | succ n ih =>
  intro v p h hg hp
  have l := h.ul.1
  obtain ⟨f1, f2, f3⟩ := h.ul.first
  have hl : v.length ≤ 1099511627776 := by omega
  have pl : (p ++ [rd v 0]).length = p.length + 1 := by simp
  by_cases one : rd v 0 = 1
  · refine ⟨(p ++ [rd v 0], true), Ev.step (fun k => by rw [impl_MultiplicitySequence.l0]) ?_, Ev.step (fun k => by rw [spec_MultiplicitySequence.l0]) ?_, by simp only; omega, fun _ => ⟨[rd v 0], rfl, by simp, fun ha i hi => ?_⟩⟩
    · exact ev_ifp (by omega) (ev_ifn (by omega) (Ev.now _))
    · exact ev_bind _ (sgS_ev hl) (ev_ifp (by simpa using h) (ev_ifp (by omega) (ev_ifp (by omega) (ev_bind (p ++ [rd v 0]) (Ev.now _) (ev_ifp one (Ev.now _))))))
    · obtain rfl : i = 0 := by simpa using hi
      exact nth_up h ha (u := bls v) (fun _ => Iff.rfl) (nth_zero _)
  · have bu : bup v = fns (bls v) := if_pos h
    by_cases f : FN (bls v)
    · have e : bup v = (mns (bls v), true) := by rw [bu]; exact if_pos f
      have gf := gaps_fall h one f
      have tl := f.2.ul.1
      obtain ⟨r, r1, r2, r3, r4⟩ := ih (mns (bls v)) (p ++ [rd v 0]) f.2 (by omega) (by omega)
      refine ⟨r, Ev.step (fun k => by rw [impl_MultiplicitySequence.l0]) ?_, Ev.step (fun k => by rw [spec_MultiplicitySequence.l0]) ?_, r3, fun ht => ?_⟩
      · exact ev_ifp (by omega) (ev_ifp (by omega) (ev_bind _ (buI_ev hl) (by rw [e]; exact ev_ifp rfl (ev_ifp (by simp only; omega) (ev_ifp (by omega) r1)))))
      · exact ev_bind _ (sgS_ev hl) (ev_ifp (by simpa using h) (ev_ifp (by omega) (ev_ifp (by omega) (ev_bind (p ++ [rd v 0]) (Ev.now _) (ev_ifn one (ev_bind _ (buS_ev hl) (by rw [e]; exact r2)))))))
      · obtain ⟨s, s1, sl, s2⟩ := r4 ht
        refine ⟨rd v 0 :: s, by rw [s1, List.append_assoc]; rfl, by rw [List.length_cons]; omega, fun ha i hi => ?_⟩
        have same : ∀ n, Su (mns (bls v)) n ↔ Su (bls v) n := fun n => mns_su
        have au : ArfU (Su (mns (bls v))) := fun a b c ka kb kc ca cb => (same _).2 (bls_arfU h ha a b c ((same _).1 ka) ((same _).1 kb) ((same _).1 kc) ca cb)
        cases i with
        | zero => exact nth_up h ha same (nth_zero _)
        | succ i =>
         have := nth_up h ha same (s2 au i (by simpa using hi))
         exact this
    · have e : bup v = ([], false) := by rw [bu]; exact if_neg f
      have none : ¬ SG [] := fun k => by have := k.ul.1; simp at this
      have nil : Ev (fun n => spec_MultiplicitySequence.l0 n (p ++ [rd v 0]) []) (([] : List Int), false) := by
       refine Ev.step (fun k => by rw [spec_MultiplicitySequence.l0]) ?_
       refine ev_bind _ (sgS_ev (v := []) (by simp)) ?_
       refine ev_ifn (by simpa using none) ?_
       exact Ev.now _
      refine ⟨([], false), Ev.step (fun k => by rw [impl_MultiplicitySequence.l0]) ?_, Ev.step (fun k => by rw [spec_MultiplicitySequence.l0]) ?_, by simp, fun ht => by simp at ht⟩
      · exact ev_ifp (by omega) (ev_ifp (by omega) (ev_bind _ (buI_ev hl) (by rw [e]; exact ev_ifn (by simp) (Ev.now _))))
      · exact ev_bind _ (sgS_ev hl) (ev_ifp (by simpa using h) (ev_ifp (by omega) (ev_ifp (by omega) (ev_bind (p ++ [rd v 0]) (Ev.now _) (ev_ifn one (ev_bind _ (buS_ev hl) (by rw [e]; exact nil)))))))
end Go.Proofs.Ytppkokbhgkeknaa.E
end
section
namespace Go.Proofs.Ytppkokbhgkeknaa.Pure
open Go.RowKit Go.Proofs.Ytppkokbhgkeknaa.PA Go.Proofs.Ytppkokbhgkeknaa.E Go.Proofs.YtppkokbhgkeknaaW.PrintWords Go.Proofs.YtppkokbhgkeknaaW.PrintLast Go.Proofs.YtppkokbhgkeknaaW.PrintMore
set_option linter.unusedVariables false
set_option linter.unusedSimpArgs false
theorem eqs_ev {l : List Int} (hl : l.length ≤ 1099511627776) : Ev (fun k => spec_EqualSemigroup.f k l l) true := by
 unfold spec_EqualSemigroup.f
 exact ev_bind _ (ev_to (same2_ev hl) (by simp)) (Ev.now _)
theorem same_l {l : List Int} (hl : l.length ≤ 1099511627776) (d : Nat) : ∀ i : Int, 0 ≤ i → i + d = l.length → Ev (fun k => laws_sameInts.l0 k l l i) true := by
 induction d with
 | zero => intro i h0 h1; exact Ev.step (fun k => by rw [laws_sameInts.l0]) (ev_ifn (by omega) (Ev.now _))
 | succ d ih =>
  intro i h0 h1
  refine Ev.step (fun k => by rw [laws_sameInts.l0]) ?_
  rw [w64 (by omega) (by omega)]
  exact ev_ifp (by omega) (ev_ifp h0 (ev_ifp (by omega) (ev_ifp rfl (ih (i + 1) (by omega) (by omega)))))
theorem same_ev {l : List Int} (hl : l.length ≤ 1099511627776) : Ev (fun k => laws_sameInts.f k l l) true := by
 unfold laws_sameInts.f
 exact ev_ifp rfl (same_l hl l.length 0 (by omega) (by omega))
theorem psum_up (i : Nat) : ∀ l : List Int, psum (i + 1) l = psum i l + rd l i := by
 induction i with
 | zero => intro l; simp [psum]
 | succ i ih =>
  intro l
  have e : ((i + 1 : Nat) : Int) = (i : Int) + 1 := by omega
  have a : psum (i + 1 + 1) l = rd l 0 + psum (i + 1) (l.drop 1) := rfl
  have b : psum (i + 1) l = rd l 0 + psum i (l.drop 1) := rfl
  rw [a, b, ih (l.drop 1), rd_drop1 (by omega), e]
  omega
theorem mulx_ev {v : List Int} (hl : v.length ≤ 1099511627776) : ∃ r, Ev (fun k => impl_MultiplicitySequence.f k v) r ∧ Ev (fun k => spec_MultiplicitySequence.f k v) r ∧ r.1.length ≤ 1000 ∧ (SG v → ArfU (Su v) → r.2 = true → r.1.length ≤ 200 ∧ ∀ i : Nat, i < r.1.length → Nth v (i + 1) (psum (i + 1) r.1)) := by
 unfold impl_MultiplicitySequence.f spec_MultiplicitySequence.f
 by_cases c : SG v
 · have l := c.ul.1
   have g := gp_len v
   obtain ⟨r, r1, r2, r3, r4⟩ := ms_arf 200 v [] c (by omega) (by simp)
   rw [List.nil_append] at r1
   refine ⟨r, ev_bind _ (sgI_ev hl) (ev_ifp (by simpa using c) (ev_ifp (by omega) r1)), r2, r3, fun _ au t => ?_⟩
   obtain ⟨s, s1, s2, s3⟩ := r4 t
   rw [List.nil_append] at s1
   rw [s1]
   exact ⟨s2, s3 au⟩
 · refine ⟨([], false), ev_bind _ (sgI_ev hl) (ev_ifn (by simpa using c) (Ev.now _)), ?_, by simp, fun k => absurd k c⟩
   refine Ev.step (fun k => by rw [spec_MultiplicitySequence.l0]) ?_
   refine ev_bind _ (sgS_ev hl) ?_
   refine ev_ifn (by simpa using c) ?_
   exact Ev.now _
theorem arf_loop {v s : List Int} (h : SG v) (hs : s.length ≤ 200) (N : ∀ i : Nat, i < s.length → Nth v (i + 1) (psum (i + 1) s)) (d : Nat) : ∀ i : Nat, i + d = s.length → Ev (fun k => laws_FnArf.l0 k true s true (psum i s) i v) true := by
 induction d with
 | zero =>
  intro i e
  exact Ev.step (fun k => by rw [laws_FnArf.l0]) (ev_ifn (by omega) (Ev.step (fun k => by rw [laws_FnArf.j4]) (ev_ifn (by simp) (Ev.now _))))
 | succ d ih =>
  intro i e
  have n := N i (by omega)
  have b := nth_bound h n
  have b0 := n.1
  have up := psum_up i s
  have c : ((i + 1 : Nat) : Int) = (i : Int) + 1 := by omega
  have hn := elemAt_ev h (k := i + 1) (by omega) n
  have nx := ih (i + 1) (by omega)
  rw [c] at hn nx
  refine Ev.step (fun k => by rw [laws_FnArf.l0]) (ev_ifp (by omega) (ev_ifp rfl (Ev.step (fun k => by rw [laws_FnArf.j4]) (ev_ifp rfl (ev_ifp (by omega) (ev_ifp (by omega) ?_))))))
  rw [← up, w64 (x := psum (i + 1) s) (by omega) (by omega), w64 (x := (i : Int) + 1) (by omega) (by omega)]
  exact ev_bind _ hn (ev_ifp rfl nx)
theorem arf_fin {v s : List Int} {a f : Bool} (h : a = true → f = true → SG v ∧ s.length ≤ 200 ∧ ∀ i : Nat, i < s.length → Nth v (i + 1) (psum (i + 1) s)) : Ev (fun k => laws_FnArf.j2 k a s f v) true := by
 refine Ev.step (fun k => by rw [laws_FnArf.j2]) ?_
 by_cases c : a = true
 · by_cases e : f = true
   · subst c e
     obtain ⟨h1, h2, h3⟩ := h rfl rfl
     exact arf_loop h1 h2 h3 s.length 0 (by omega)
   · have e : f = false := by simpa using e
     subst c e
     have out : Ev (fun k => laws_FnArf.j4 k true s false 0 0 false v) true := Ev.step (fun k => by rw [laws_FnArf.j4]) (ev_ifn (by simp) (Ev.now _))
     refine Ev.step (fun k => by rw [laws_FnArf.l0]) ?_
     by_cases q : (0 : Int) < (s.length : Int)
     · exact ev_ifp q (ev_ifp rfl out)
     · exact ev_ifn q out
 · have c : a = false := by simpa using c
   subst c
   have out : Ev (fun k => laws_FnArf.j4 k false s f 0 0 false v) true := Ev.step (fun k => by rw [laws_FnArf.j4]) (ev_ifn (by simp) (Ev.now _))
   refine Ev.step (fun k => by rw [laws_FnArf.l0]) ?_
   by_cases q : (0 : Int) < (s.length : Int)
   · exact ev_ifp q (ev_ifn (by simp) out)
   · exact ev_ifn q out
theorem acl_sg {v : List Int} (ok : (acl v).2 = true) : SG v := Classical.byContradiction fun c => by
 unfold acl at ok
 rw [if_neg c] at ok
 cases ok
theorem drawAc_ev {b : List Int} (hb : (b.length : Int) ≤ 1099511627776) : ∃ s, s.length ≤ 400 ∧ Ev (fun k => spec_DrawArfClosure.f k b) s := by
 obtain ⟨g, e, c⟩ := new_ev hb
 obtain ⟨s, j1, g1, s1, c1, s3⟩ := l3Bent_ev g c
 refine ⟨s, by omega, ?_⟩
 unfold spec_DrawArfClosure.f
 exact ev_bind _ e (ev_bind _ s3 (Ev.now _))
theorem drawArf_ev {b : List Int} (hb : (b.length : Int) ≤ 1099511627776) : ∃ s, s.length ≤ 400 ∧ Ev (fun k => spec_DrawIsArf.f k b) s := by
 obtain ⟨g, e, c⟩ := new_ev hb
 obtain ⟨s, j1, g1, s1, c1, s3⟩ := l3Bent_ev g c
 obtain ⟨x, j2, g2, e2, c2⟩ := once_ok g1 c1 (n := 2) (by omega)
 have al := acl_len s
 have key : ∃ r, r.length ≤ 400 ∧ Ev (fun k => if x = true then (spec_ArfClosure.f k s).bind fun t => (if t.2 = true then some t.1 else some s) else some s) r := by
  by_cases q : x = true
  · by_cases o : (acl s).2 = true
    · exact ⟨(acl s).1, al, ev_ifp q (ev_bind _ (acS_ev (by omega)) (ev_ifp o (Ev.now _)))⟩
    · exact ⟨s, by omega, ev_ifp q (ev_bind _ (acS_ev (by omega)) (ev_ifn o (Ev.now _)))⟩
  · exact ⟨s, by omega, ev_ifn q (Ev.now _)⟩
 obtain ⟨r, r1, r2⟩ := key
 refine ⟨r, r1, ?_⟩
 unfold spec_DrawIsArf.f
 refine ev_bind _ e (ev_bind _ s3 ?_)
 rw [e2]
 exact r2
theorem FnArf (l0 : List Int) (h0 : l0.length ≤ maxLen) (h1 : l0.length * 1 ≤ 140737488351232) (h2 : ∀ x ∈ l0, (Lit.int .u8 x).wf = true) : ∃ k, laws_FnArf.f k l0 = some true := by
 apply Ev.rounds
 unfold laws_FnArf.f laws_big.f
 simp only [Option.bind_some]
 by_cases big : (l0.length : Int) > 1048576
 · exact ev_ifp (d_t big) (Ev.now _)
 refine ev_ifn (d_f big) ?_
 obtain ⟨s, sl, ds⟩ := drawAc_ev (b := l0) (by omega)
 obtain ⟨a, al, da⟩ := drawArf_ev (b := l0) (by omega)
 have hs : s.length ≤ 1099511627776 := by omega
 have ha : a.length ≤ 1099511627776 := by omega
 have cl := acl_len s
 have bl := bup_len a
 obtain ⟨f, f1, f2, f3, f4, f5, f6, f7⟩ := arfx_ev a ha
 obtain ⟨m, m1, m2, m3, m4⟩ := mulx_ev (v := a) ha
 refine ev_bind _ ds (ev_bind _ (acI_ev hs) (ev_bind _ (acS_ev hs) (ev_bind _ da (ev_bind _ f3 (ev_bind _ f1 (ev_bind _ f2 (ev_bind _ (buI_ev ha) (ev_bind _ (buS_ev ha) (ev_bind _ m1 (ev_bind _ m2 ?_))))))))))
 refine ev_ifn (by simp) (ev_bind _ (eqs_ev (l := (acl s).1) (by omega)) (ev_ifp rfl (ev_bind _ f4 (ev_ifn (by simp) (ev_ifp rfl (ev_ifp rfl (ev_ifp rfl (ev_ifn (by simp) (ev_ifn (by simp) (ev_bind _ (eqs_ev (l := (bup a).1) (by omega)) (ev_ifp rfl (ev_ifn (by simp) (ev_bind _ (same_ev (l := m.1) (by omega)) ?_)))))))))))))
 refine Ev.step (fun k => by rw [laws_FnArf.j0]) (ev_ifn (by simp) ?_)
 have last : Ev (fun k => laws_FnArf.j2 k (decide (SG a) && !f.2.2.2) m.1 m.2 a) true := arf_fin fun c e => by
  have c : SG a ∧ f.2.2.2 = false := by simpa using c
  have q := m4 c.1 (f7 c.1 c.2) e
  exact ⟨c.1, q.1, q.2⟩
 have next : Ev (fun k => laws_FnArf.j1 k (acl s).2 (decide (SG a) && !f.2.2.2) m.1 m.2 false s (acl s).1 a) true := by
  refine Ev.step (fun k => by rw [laws_FnArf.j1]) (ev_ifn (by simp) ?_)
  by_cases ok : (acl s).2 = true
  · have g := acl_sg ok
    have fa := acl_fact g ok
    obtain ⟨r, _, _, r3, _, _, r6, _⟩ := arfx_ev (acl s).1 (by omega)
    have wi := within_ev g fa.1 fun x hx => (fa.2 x).2 (.base (Su.mem hx))
    have ai := acI_ev (v := (acl s).1) (by omega)
    rw [acl_idem g ok] at ai
    exact ev_ifp ok (ev_bind _ ai (ev_bind _ r3 (ev_ifp (by simp [fa.1, r6 fa.1 (acl_arfU g ok)]) (ev_bind _ wi (ev_ifp rfl (ev_ifp rfl (ev_bind _ (eqs_ev (l := (acl s).1) (by omega)) (ev_ifp rfl last))))))))
  · exact ev_ifn ok last
 by_cases b : f.2.2.2 = true
 · have k := f5 b
   exact ev_ifp b (ev_ifn (by simp [b]) (ev_bind _ (conS_ev _ ha) (by rw [decide_eq_false k.2]; exact next)))
 · exact ev_ifn b next
end Go.Proofs.Ytppkokbhgkeknaa.Pure
end
section
namespace Go.Proofs.YtppkokbhgkeknaaW.PrintWords
open Go.ChangeShapes Go.WideShapes
theorem sized_ints {H : Type} {enc : TypeId × Value → H} {P : Program} {W : World} {base : Nat} {spare : Nat → Bool} {held : Bool} {t e : TypeId} {k : IntKind} {a : Option Addr} {len cap : Nat} {d : DataW H} {ps : List MemPlace} {ts : List TypeId} {ds : List (DataW H)} {j : Nat}
 (hsz : (DataW.weightsEach P ts ds).all (· ≤ reachBytes) = true) (ht : ts[j]? = some t) (hd : ds[j]? = some d) (hu : P.underlying t = some (.slice e)) (he : P.underlying e = some (.int k)) (hc : P.cellsOf e = 1) {B : Nat} (hB : P.bytesOf e = B)
 (h : DataW.Trod enc P W base spare held t (.slice a len cap) d ps) : len * B ≤ 140737488351232 := by
 obtain ⟨fuel, hf⟩ := h
 rcases open_ints hu he hc hf with ⟨hcs, _⟩ | ⟨x, l, c, zs, hcs, _, hl, _, hz, hx, _, _⟩
 · simp [Value.cells] at hcs
   obtain ⟨rfl, rfl, rfl⟩ := hcs
   simp
 · simp [Value.cells] at hcs
   obtain ⟨rfl, rfl, rfl⟩ := hcs
   obtain ⟨hx, _⟩ := Prod.mk.inj hx
   subst hx
   have z := sized_slice hsz ht hd hu
   rw [hB] at z
   have hl2 : len ≤ zs.length := by
    rw [hz]
    split
    · exact hl
    · exact Nat.le_refl _
   have h1 : (lits (H := H) k (zs.take len)).length + (lits (H := H) k (zs.drop len)).length = zs.length := by
    simp [lits]
    omega
   rw [h1] at z
   exact Nat.le_trans (Nat.mul_le_mul_right _ hl2) z
end Go.Proofs.YtppkokbhgkeknaaW.PrintWords
end
