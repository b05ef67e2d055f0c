-- Bundled by shake.py from this session's printed and written texts; Lean checks it.
import Derived.Test.YtonknpgfbkgbjaaZFnExactAllOfGenusx1
import Derived.Test.YtonknpgfbkgbjaaZFnExactAllOfGenusx2
import Derived.Test.YtonknpgfbkgbjaaZFnExactAllOfGenusx3
import Derived.Test.YtonknpgfbkgbjaaZFnExactAllOfGenusx4
import Derived.Test.YtonknpgfbkgbjaaZFnExactAllOfGenusx5
import Derived.Test.YtonknpgfbkgbjaaZFnExactAllOfGenusx7
import Derived.Test.YtonknpgfbkgbjaaZFnExactAllOfGenusx8
section
namespace Go.Proofs.Ytonknpgfbkgbjaa.PC
open Go.RowKit Go.Proofs.YtonknpgfbkgbjaaW.PrintWords Go.Proofs.YtonknpgfbkgbjaaW.PrintLast Go.Proofs.YtonknpgfbkgbjaaW.PrintMore
attribute [local go_sem] max2_int min2_int max_two min_two max_three min_three max_four min_four
set_option linter.unusedVariables false
set_option linter.unusedSimpArgs false
set_option maxHeartbeats 8000000
set_option maxRecDepth 100000
noncomputable def laws_FnExactAllOfGenus.f (k : Nat) (a0 : Int) : Option (Bool) := (spec_AllOfGenus.f k a0).bind fun l1 => ((impl_AllOfGenus.f k a0).bind fun l2 => ((laws_eqSemigroupS.f k l2 l1).bind fun t1 => (if t1 = true then ((laws_markSemigroupS.f k l2 1).bind fun m => ((laws_heldSemigroupS.f k m.2 1).bind fun q => (if q < 0 then (some false) else (if q = m.1 then (some true) else (some false))))) else (some false))))
theorem laws_FnExactAllOfGenus.calls (k : Nat) (a0 : Int) (r : Bool) (w : World) (h : laws_FnExactAllOfGenus.f k a0 = some r) (hr_ : r = true := by rfl) :
 Calls Try.prog 6 #[.int .i64 a0] w fun e w' => e = .returned (.bool r) ∧ Below w.heap.size w w' := by
 subst hr_
 have h' := h
 unfold laws_FnExactAllOfGenus.f at h'
 obtain ⟨l1, e1, h'⟩ := Option.bind_eq_some_iff.mp h'
 obtain ⟨l2, e2, h'⟩ := Option.bind_eq_some_iff.mp h'
 obtain ⟨t1, e3, h'⟩ := Option.bind_eq_some_iff.mp h'
 have ht : t1 = true := by
  refine Classical.byContradiction fun c => ?_
  rw [if_neg c] at h'; cases h'
 subst ht
 rw [if_pos rfl] at h'
 obtain ⟨⟨m, g1⟩, e4, h'⟩ := Option.bind_eq_some_iff.mp h'
 obtain ⟨q, e5, h'⟩ := Option.bind_eq_some_iff.mp h'
 have hq : ¬ q < 0 := fun c => by rw [if_pos c] at h'; cases h'
 rw [if_neg hq] at h'
 have hqm : q = m := by
  refine Classical.byContradiction fun c => ?_
  rw [if_neg c] at h'; cases h'
 subst hqm
 have hqb : decide (q < 0) = false := decide_eq_false hq
 have hu26 := Try.underlying26
 have E1 := Aside0.mk e1
 have E2 := Aside0.mk e2
 have E3 := Aside0.mk e3
 have E4 := Aside0.mk e4
 have E5 := Aside0.mk e5
 clear h h' e1 e2 e3 e4 e5 hq
 go_enter Try.func6, Try.ntmps6
 go_wp2_with fail
 refine (spec_AllOfGenus.calls k a0 l1 _ E1.out).mono ?_
 rintro e w1 ⟨v3, rfl, hN1, hb1⟩
 have HN1 := Aside0.mk hN1
 have HB1 := Aside0.mk hb1
 clear hN1 hb1
 go_wp2_with fail
 refine (impl_AllOfGenus.calls k a0 l2 _ E2.out).mono ?_
 rintro e w2 ⟨v4, rfl, hS2, hb2⟩
 have HS2 := Aside0.mk hS2
 have HB2 := Aside0.mk hb2
 clear hS2 hb2
 obtain ⟨A3, c3, e3⟩ := Kd.N_slice HN1.out
 subst e3
 obtain ⟨A4, c4, e4⟩ := Kd.S_slice HS2.out
 subst e4
 go_wp2_with fail
 refine (laws_eqSemigroupS.calls k _ _ l2 _ _ l1 true _ (Kd.S_reads' HS2.out).2.2 (Kd.S_reads' HS2.out).2.1 (Kd.N_reads' (Kd.N_below HN1.out HB2.out)).2.2 (Kd.N_reads' HN1.out).2.1 E3.out).mono ?_
 rintro e w3 ⟨rfl, hb3⟩
 have HB3 := Aside0.mk (HB2.out.trans (hb3.mono HB2.out.size))
 have HS3 := Aside0.mk (Kd.S_below HS2.out hb3)
 clear hb3
 go_wp2_with fail
 refine (laws_markSemigroupS.calls k (fun k_ => w1.heap.size ≤ k_) _ l2 1 q g1 w1 _ HB3.out HS3.out E4.out).mono ?_
 rintro e w4 ⟨rfl, hb4, hk4, hs4⟩
 have HB4 := Aside0.mk hb4
 have HS4 := Aside0.mk hs4
 clear hb4 hk4 hs4
 have hlen : l2.length = g1.length := (Kd.S_reads' HS4.out).1
 have held : ∀ W : World, Kd.C k26 W A4 g1.length g1 → Calls Try.prog 20 #[.slice A4 l2.length c4, .int .i64 1] W fun e w' => e = .returned (.int .i64 q) ∧ Drawn0 W w' := fun W hC => by
  rw [hlen]
  exact laws_heldSemigroupS.calls k A4 c4 g1 1 q W hC (hlen ▸ (Kd.S_reads' HS4.out).2.1) E5.out
 have HH := Aside0.mk held
 have HL := Aside0.mk hlen
 clear held hlen
 go_wp2_with fail
 refine (HH.out _ (Kd.S_reads' HS4.out).2.2).mono ?_
 rintro e w5 ⟨rfl, ⟨nd, rfl⟩⟩
 go_wp2_with fail
 refine (impl_AllOfGenus.calls k a0 l2 _ E2.out).mono ?_
 rintro e w6 ⟨v7, rfl, hS6, hb6⟩
 have HS6 := Aside0.mk hS6
 have HB6 := Aside0.mk hb6
 have HS7 := Aside0.mk (Kd.S_below (Kd.S_drewN HS4.out nd) hb6)
 have HB7 := Aside0.mk (HB4.out.trans ((pw_below_drewN (Below.refl w1.heap.size w4) nd).trans (hb6.mono HB4.out.size)))
 clear hS6 hb6
 obtain ⟨A7, c7, e7⟩ := Kd.S_slice HS6.out
 subst e7
 go_wp2_with fail
 refine (laws_eqSemigroupS.calls k _ _ l2 _ _ l1 true _ (Kd.S_reads' HS6.out).2.2 (Kd.S_reads' HS6.out).2.1 (Kd.N_reads' (Kd.N_below HN1.out HB7.out)).2.2 (Kd.N_reads' HN1.out).2.1 E3.out).mono ?_
 rintro e w8 ⟨rfl, hb8⟩
 have HS8 := Aside0.mk (Kd.S_below HS7.out hb8)
 have HB8 := Aside0.mk (HB7.out.trans (hb8.mono HB7.out.size))
 clear hb8
 go_wp2_with fail
 refine (HH.out _ (Kd.S_reads' HS8.out).2.2).mono ?_
 rintro e w9 ⟨rfl, ⟨nd9, rfl⟩⟩
 go_wp2_with fail
 go_ret
 exact ⟨rfl, (HB1.out.trans ((HB8.out).mono HB1.out.size)).trans (pw_below_drewN (Below.refl w.heap.size w8) nd9)⟩
end Go.Proofs.Ytonknpgfbkgbjaa.PC
end
section
namespace Go.Proofs.Ytonknpgfbkgbjaa.E
open Go.RowKit Go.Proofs.Ytonknpgfbkgbjaa.PC Go.Proofs.YtonknpgfbkgbjaaW.PrintWords Go.Proofs.YtonknpgfbkgbjaaW.PrintLast Go.Proofs.YtonknpgfbkgbjaaW.PrintMore
set_option linter.unusedVariables false
set_option linter.unusedSimpArgs false
theorem l1In_eq (n lo hi : Int) : spec_l1In.f n lo hi = some (decide (lo ≤ n ∧ n ≤ hi)) := by
 unfold spec_l1In.f; by_cases h : n ≥ lo
 · rw [if_pos h]; simp [h]
 · rw [if_neg h]; simp [show ¬ lo ≤ n from h]
theorem within_eq (n lo hi : Int) : impl_within.f n lo hi = some (decide (lo ≤ n ∧ n ≤ hi)) := l1In_eq n lo hi
theorem allWithin_l {l : List Int} {lo hi : Int} (hl : l.length ≤ 1099511627776) (d : Nat) : ∀ (i : Int), 0 ≤ i → i + d = l.length → Ev (fun k => impl_allWithin.l0 k lo hi l l.length i) (decide (∀ x ∈ l.drop i.toNat, lo ≤ x ∧ x ≤ hi)) := by
 induction d with
 | zero =>
  intro i h0 h1
  refine Ev.step (fun k => by rw [impl_allWithin.l0]) ?_
  simp (disch := omega) only [if_neg]
  refine ev_to (Ev.now _) ?_
  rw [List.drop_of_length_le (by omega)]; simp
 | succ d ih =>
  intro i h0 h1
  refine Ev.step (fun k => by rw [impl_allWithin.l0]) ?_
  simp (disch := omega) only [if_pos, w64, within_eq, Option.bind_some]
  rw [drop_rd h0 (by omega)]
  by_cases h : lo ≤ rd l i ∧ rd l i ≤ hi
  · refine ev_ifp (by simpa using h) (ev_to (ih (i + 1) (by omega) (by omega)) ?_)
    simp [h]
  · refine ev_ifn (by simpa using h) (ev_to (Ev.now _) ?_)
    simp only [List.mem_cons, forall_eq_or_imp, h, false_and, decide_false]
theorem allWithin_ev {l : List Int} (lo hi : Int) (hl : l.length ≤ 1099511627776) : Ev (fun k => impl_allWithin.f k l lo hi) (decide (∀ x ∈ l, lo ≤ x ∧ x ≤ hi)) :=
 ev_to (allWithin_l hl l.length 0 (by omega) (by omega)) (by simp)
def Asc (l : List Int) : Prop := ∀ i : Int, 0 < i → i < l.length → rd l (i - 1) < rd l i
noncomputable instance (l : List Int) : Decidable (Asc l) := Classical.propDecidable _
theorem asc_l {l : List Int} (hl : l.length ≤ 1099511627776) (d : Nat) : ∀ (i : Int), 0 < i → i + d = max 1 l.length → (∀ j, 0 < j → j < i → rd l (j - 1) < rd l j) → Ev (fun k => impl_IsAscending.l0 k l i) (decide (Asc l)) ∧ Ev (fun k => spec_IsAscending.l0 k l i) (decide (Asc l)) := by
 induction d with
 | zero =>
  intro i h0 h1 h2
  have ha : Asc l := fun j hj hj' => h2 j hj (by omega)
  constructor
  · refine Ev.step (fun k => by rw [impl_IsAscending.l0]) ?_
    simp (disch := omega) only [if_neg]
    exact ev_to (Ev.now _) (by simp [ha])
  · refine Ev.step (fun k => by rw [spec_IsAscending.l0]) ?_
    simp (disch := omega) only [if_neg]
    exact ev_to (Ev.now _) (by simp [ha])
 | succ d ih =>
  intro i h0 h1 h2
  by_cases h : rd l (i - 1) < rd l i
  · obtain ⟨a, b⟩ := ih (i + 1) (by omega) (by omega) (fun j hj hj' => by
     by_cases e : j = i
     · subst e; exact h
     · exact h2 j hj (by omega))
    constructor
    · refine Ev.step (fun k => by rw [impl_IsAscending.l0]) ?_
      simp (disch := omega) only [if_pos, if_neg, w64]
      exact a
    · refine Ev.step (fun k => by rw [spec_IsAscending.l0]) ?_
      simp (disch := omega) only [if_pos, if_neg, w64]
      exact b
  · have hn : ¬ Asc l := fun ha => h (ha i h0 (by omega))
    constructor
    · refine Ev.step (fun k => by rw [impl_IsAscending.l0]) ?_
      simp (disch := omega) only [if_pos, w64]
      exact ev_to (Ev.now _) (by simp [hn])
    · refine Ev.step (fun k => by rw [spec_IsAscending.l0]) ?_
      simp (disch := omega) only [if_pos, w64]
      exact ev_to (Ev.now _) (by simp [hn])
theorem ascI_ev {l : List Int} (hl : l.length ≤ 1099511627776) : Ev (fun k => impl_IsAscending.f k l) (decide (Asc l)) :=
 (asc_l hl (l.length - 1) 1 (by omega) (by omega) (fun j h h' => by omega)).1
theorem ascS_ev {l : List Int} (hl : l.length ≤ 1099511627776) : Ev (fun k => spec_IsAscending.f k l) (decide (Asc l)) :=
 (asc_l hl (l.length - 1) 1 (by omega) (by omega) (fun j h h' => by omega)).2
theorem eqIntS_l {l m : List Int} (hl : l.length ≤ 1099511627776) (e : l.length = m.length) (d : Nat) : ∀ (i : Int), 0 ≤ i → i + d = l.length → Ev (fun k => laws_eqIntS.l0 k l m i) (decide (l.drop i.toNat = m.drop i.toNat)) := by
 induction d with
 | zero =>
  intro i h0 h1
  refine Ev.step (fun k => by rw [laws_eqIntS.l0]) ?_
  simp (disch := omega) only [if_neg]
  refine ev_to (Ev.now _) ?_
  rw [List.drop_of_length_le (by omega), List.drop_of_length_le (by omega)]; simp
 | succ d ih =>
  intro i h0 h1
  refine Ev.step (fun k => by rw [laws_eqIntS.l0]) ?_
  simp (disch := omega) only [if_pos, w64]
  rw [drop_rd h0 (by omega), drop_rd (l := m) h0 (by omega)]
  by_cases h : rd l i = rd m i
  · refine ev_ifp h (ev_to (ih (i + 1) (by omega) (by omega)) ?_)
    simp [h]
  · refine ev_ifn h (ev_to (Ev.now _) ?_)
    simp [h]
theorem eqIntS_ev {l m : List Int} (hl : l.length ≤ 1099511627776) : Ev (fun k => laws_eqIntS.f k l m) (decide (l = m)) := by
 unfold laws_eqIntS.f
 by_cases e : l.length = m.length
 · refine ev_ifp (by omega) (ev_to (eqIntS_l hl e l.length 0 (by omega) (by omega)) ?_)
   simp
 · refine ev_ifn (by omega) (ev_to (Ev.now _) ?_)
   simp; intro h; exact e (by rw [h])
theorem eqSg_ev {l m : List Int} (hl : l.length ≤ 1099511627776) : Ev (fun k => laws_eqSemigroup.f k l m) (decide (l = m)) := by
 unfold laws_eqSemigroup.f
 refine ev_bind _ (eqIntS_ev hl) ?_
 by_cases e : l = m
 · exact ev_ifp (by simpa using e) (ev_to (Ev.now _) (by simp [e]))
 · exact ev_ifn (by simpa using e) (ev_to (Ev.now _) (by simp [e]))
theorem eqSg_same {l : List Int} (hl : l.length ≤ 1099511627776) : Ev (fun k => laws_eqSemigroup.f k l l) true := ev_to (eqSg_ev hl) (by simp)
theorem markIntS_l {n : Nat} (a : Int) (ha : 0 ≤ a) (hn : a + n ≤ 4611686018427387904) (d : Nat) : ∀ (i : Int) (l : List Int), 0 ≤ i → i + d = n → l.length = n → (∀ j, 0 ≤ j → j < i → rd l j = a + j) → Ev (fun k => laws_markIntS.l0 k l (a + i) i) (a + n, marks a n) := by
 induction d with
 | zero =>
  intro i l h0 h1 h2 h3
  refine Ev.step (fun k => by rw [laws_markIntS.l0]) ?_
  simp (disch := omega) only [if_neg]
  refine ev_to (Ev.now _) ?_
  rw [show a + i = a + n from by omega]
  congr 1
  refine rd_ext (by rw [h2, marks_len]) fun j hj hj' => ?_
  rw [h3 j hj (by omega), marks_rd _ _ _ hj (by omega)]
 | succ d ih =>
  intro i l h0 h1 h2 h3
  refine Ev.step (fun k => by rw [laws_markIntS.l0]) ?_
  simp (disch := omega) only [if_pos, w64]
  rw [Int.add_assoc]
  refine ih (i + 1) _ (by omega) (by omega) (by simpa using h2) fun j hj hj' => ?_
  rw [rd_set _ h0 (by omega) hj]
  by_cases e : j = i
  · rw [if_pos e, e]
  · rw [if_neg e]; exact h3 j hj (by omega)
theorem markIntS_ev {l : List Int} {a : Int} (ha : 0 ≤ a) (hl : a + l.length ≤ 4611686018427387904) : Ev (fun k => laws_markIntS.f k l a) (a + l.length, marks a l.length) := by
 unfold laws_markIntS.f
 have := markIntS_l a ha hl l.length 0 l (by omega) (by omega) rfl (fun j h h' => by omega)
 rwa [Int.add_zero] at this
theorem heldIntS_l {n : Nat} (a : Int) (ha : 0 ≤ a) (hn : a + n ≤ 4611686018427387904) (d : Nat) : ∀ (i : Int), 0 ≤ i → i + d = n → Ev (fun k => laws_heldIntS.l0 k (marks a n) (a + i) i) (a + n) := by
 have hm := marks_len a n
 induction d with
 | zero =>
  intro i h0 h1
  refine Ev.step (fun k => by rw [laws_heldIntS.l0]) ?_
  simp (disch := omega) only [if_neg]
  exact ev_to (Ev.now _) (by omega)
 | succ d ih =>
  intro i h0 h1
  refine Ev.step (fun k => by rw [laws_heldIntS.l0]) ?_
  simp (disch := omega) only [if_pos, w64]
  refine ev_ifp (marks_rd _ _ _ h0 (by omega)) ?_
  rw [Int.add_assoc]
  exact ih (i + 1) (by omega) (by omega)
theorem heldIntS_ev {n : Nat} {a : Int} (ha : 0 ≤ a) (hn : a + n ≤ 4611686018427387904) : Ev (fun k => laws_heldIntS.f k (marks a n) a) (a + n) := by
 unfold laws_heldIntS.f
 have := heldIntS_l a ha hn n 0 (by omega) (by omega)
 rwa [Int.add_zero] at this
theorem rdi26 {K : List S26} {i : Nat} (h : i < K.length) : rd_T26 K (i : Int) = K[i] := by
 unfold rd_T26
 rw [List.getD_eq_getElem?_getD, Int.toNat_natCast, List.getElem?_eq_getElem h]; rfl
theorem eqS_l {l : List S26} (hl : l.length ≤ 1099511627776) (hs : ∀ x ∈ l, x.f0.length ≤ 1048576) (d : Nat) : ∀ i : Nat, i + d = l.length → Ev (fun k => laws_eqSemigroupS.l0 k l l (i : Int)) true := by
 induction d with
 | zero => intro i h1; exact Ev.step (fun k => by rw [laws_eqSemigroupS.l0]) (ev_ifn (by omega) (Ev.now _))
 | succ d ih =>
  intro i h1
  have hi : i < l.length := by omega
  have m := hs _ (List.getElem_mem hi)
  refine Ev.step (fun k => by rw [laws_eqSemigroupS.l0]) (ev_ifp (by omega) (ev_ifp (by omega) (ev_ifp (by omega) ?_)))
  rw [rdi26 hi]
  refine ev_bind _ (eqSg_same (by omega)) (ev_ifp rfl ?_)
  rw [w64 (x := (i : Int) + 1) (by omega) (by omega)]
  exact ih (i + 1) (by omega)
theorem eqS_ev {l : List S26} (hl : l.length ≤ 1099511627776) (hs : ∀ x ∈ l, x.f0.length ≤ 1048576) : Ev (fun k => laws_eqSemigroupS.f k l l) true := by
 unfold laws_eqSemigroupS.f
 exact ev_ifp rfl (eqS_l hl hs l.length 0 (by omega))
def tot (a : Int) : List S26 → Int
 | [] => a
 | s :: r => tot (a + s.f0.length) r
def mks (a : Int) : List S26 → List S26
 | [] => []
 | s :: r => ⟨marks a s.f0.length⟩ :: mks (a + s.f0.length) r
theorem tot_le : ∀ (r : List S26) (a : Int), 0 ≤ a → a ≤ tot a r
 | [], _, _ => Int.le_refl _
 | s :: r, a, h => by
  have := tot_le r (a + s.f0.length) (by omega)
  unfold tot; omega
theorem mks_len : ∀ (r : List S26) (a : Int), (mks a r).length = r.length
 | [], _ => rfl
 | s :: r, a => by unfold mks; rw [List.length_cons, List.length_cons, mks_len r]
theorem mid26 (A r : List S26) (s : S26) : rd_T26 (A ++ s :: r) (A.length : Int) = s := by
 have h : A.length < (A ++ s :: r).length := by rw [List.length_append, List.length_cons]; omega
 rw [rdi26 h, List.getElem_append_right (Nat.le_refl _)]
 simp
theorem markT_l : ∀ (r A : List S26) (a : Int), (∀ s ∈ r, s.f0.length ≤ 1048576) → A.length + r.length ≤ 1073741824 → 0 ≤ a → a + 1048576 * r.length ≤ 2251799813685248 → Ev (fun k => laws_markSemigroupS.l0 k (A ++ r) a (A.length : Int)) (tot a r, A ++ mks a r)
 | [], A, a, _, hl, h0, _ => by
  refine Ev.step (fun k => by rw [laws_markSemigroupS.l0]) (ev_ifn ?_ ?_)
  · rw [List.append_nil]; omega
  · exact Ev.now _
 | s :: r, A, a, hs, hl, h0, h1 => by
  have m := hs s (List.mem_cons_self ..)
  rw [List.length_cons] at hl h1
  have hla : (A ++ s :: r).length = A.length + r.length + 1 := by rw [List.length_append, List.length_cons]; omega
  refine Ev.step (fun k => by rw [laws_markSemigroupS.l0]) (ev_ifp (by omega) (ev_ifp (by omega) ?_))
  rw [mid26]
  refine ev_bind _ (markIntS_ev (l := s.f0) h0 (by omega)) ?_
  rw [w64 (x := (A.length : Int) + 1) (by omega) (by omega)]
  have e1 : (A ++ s :: r).set (A.length : Int).toNat ⟨marks a s.f0.length⟩ = (A ++ [⟨marks a s.f0.length⟩]) ++ r := by
   rw [Int.toNat_natCast, List.set_append_right _ _ (Nat.le_refl _), Nat.sub_self, z2_, List.append_assoc]; rfl
  have e2 : ((A ++ [(⟨marks a s.f0.length⟩ : S26)]).length : Int) = (A.length : Int) + 1 := by rw [List.length_append]; simp
  have ih := markT_l r (A ++ [⟨marks a s.f0.length⟩]) (a + s.f0.length) (fun x hx => hs x (List.mem_cons_of_mem _ hx)) (by rw [List.length_append, List.length_singleton]; omega) (by omega) (by omega)
  rw [e2] at ih
  show Ev (fun k => laws_markSemigroupS.l0 k ((A ++ s :: r).set (A.length : Int).toNat ⟨marks a s.f0.length⟩) (a + s.f0.length) ((A.length : Int) + 1)) _
  rw [e1]
  refine ev_to ih ?_
  rw [List.append_assoc]; rfl
theorem markT_ev {l : List S26} (hs : ∀ s ∈ l, s.f0.length ≤ 1048576) (hl : l.length ≤ 1073741824) : Ev (fun k => laws_markSemigroupS.f k l 1) (tot 1 l, mks 1 l) := by
 unfold laws_markSemigroupS.f
 have := markT_l l [] 1 hs (by simpa using hl) (by omega) (by omega)
 exact this
theorem heldT_l : ∀ (r A : List S26) (a : Int), (∀ s ∈ r, s.f0.length ≤ 1048576) → A.length + r.length ≤ 1073741824 → 0 ≤ a → a + 1048576 * r.length ≤ 2251799813685248 → Ev (fun k => laws_heldSemigroupS.l0 k (A ++ mks a r) a (A.length : Int)) (tot a r)
 | [], A, a, _, hl, h0, _ => by
  refine Ev.step (fun k => by rw [laws_heldSemigroupS.l0]) (ev_ifn ?_ ?_)
  · show ¬ (A.length : Int) < ((A ++ ([] : List S26)).length : Int)
    rw [List.append_nil]; omega
  · exact Ev.now _
 | s :: r, A, a, hs, hl, h0, h1 => by
  have m := hs s (List.mem_cons_self ..)
  rw [List.length_cons] at hl h1
  have ml := mks_len r (a + s.f0.length)
  have hla : (A ++ mks a (s :: r)).length = A.length + r.length + 1 := by
   rw [List.length_append, mks_len, List.length_cons]; omega
  refine Ev.step (fun k => by rw [laws_heldSemigroupS.l0]) (ev_ifp (by omega) (ev_ifp (by omega) ?_))
  have e0 : rd_T26 (A ++ mks a (s :: r)) (A.length : Int) = ⟨marks a s.f0.length⟩ := by
   show rd_T26 (A ++ ⟨marks a s.f0.length⟩ :: mks (a + s.f0.length) r) _ = _
   rw [mid26]
  rw [e0]
  refine ev_bind _ (heldIntS_ev (n := s.f0.length) h0 (by omega)) ?_
  refine ev_ifn (by omega) ?_
  rw [w64 (x := (A.length : Int) + 1) (by omega) (by omega)]
  have e2 : ((A ++ [(⟨marks a s.f0.length⟩ : S26)]).length : Int) = (A.length : Int) + 1 := by rw [List.length_append]; simp
  have ih := heldT_l r (A ++ [⟨marks a s.f0.length⟩]) (a + s.f0.length) (fun x hx => hs x (List.mem_cons_of_mem _ hx)) (by rw [List.length_append, List.length_singleton]; omega) (by omega) (by omega)
  rw [e2, List.append_assoc] at ih
  exact ih
theorem heldT_ev {l : List S26} (hs : ∀ s ∈ l, s.f0.length ≤ 1048576) (hl : l.length ≤ 1073741824) : Ev (fun k => laws_heldSemigroupS.f k (mks 1 l) 1) (tot 1 l) := by
 unfold laws_heldSemigroupS.f
 have := heldT_l l [] 1 hs (by simpa using hl) (by omega) (by omega)
 exact this
end Go.Proofs.Ytonknpgfbkgbjaa.E
end
section
namespace Go.Proofs.Ytonknpgfbkgbjaa.E
open Go.RowKit Go.Proofs.YtonknpgfbkgbjaaW.PrintWords Go.Proofs.YtonknpgfbkgbjaaW.PrintLast Go.Proofs.YtonknpgfbkgbjaaW.PrintMore
set_option linter.unusedVariables false
set_option linter.unusedSimpArgs false
theorem asc_lt {g : List Int} (h : Asc g) (d : Nat) : ∀ i j : Int, 0 ≤ i → j = i + d + 1 → j < g.length → rd g i < rd g j := by
 induction d with
 | zero =>
  intro i j h0 h1 h2
  have := h j (by omega) h2
  rwa [show j - 1 = i from by omega] at this
 | succ d ih =>
  intro i j h0 h1 h2
  have a := ih i (j - 1) h0 (by omega) (by omega)
  have b := h j (by omega) h2
  omega
inductive Way (v : List Int) : Int → Int → Prop
 | zero : Way v 0 0
 | add {x k c : Int} : x ∈ v → Way v k c → Way v (k + x) (c + 1)
theorem Way.mono {v u : List Int} (h : ∀ x ∈ v, x ∈ u) {k c : Int} (w : Way v k c) : Way u k c := by
 induction w with
 | zero => exact .zero
 | add hx _ ih => exact .add (h _ hx) ih
theorem Way.pos {v : List Int} (h : ∀ x ∈ v, 1 ≤ x) {k c : Int} (w : Way v k c) : 0 ≤ c ∧ c ≤ k := by
 induction w with
 | zero => omega
 | add hx _ ih => have := h _ hx; omega
theorem Way.plus {v : List Int} {k c : Int} (w : Way v k c) {k' c' : Int} (w' : Way v k' c') : Way v (k + k') (c + c') := by
 induction w' with
 | zero => simpa using w
 | @add x k1 c1 hx _ ih =>
  rw [← Int.add_assoc, ← Int.add_assoc]
  exact .add hx ih
theorem Way.times {v : List Int} {x : Int} (hx : x ∈ v) (j : Nat) : Way v (j * x) j := by
 induction j with
 | zero => simpa using Way.zero
 | succ j ih =>
  have := Way.add hx ih
  rw [show ((j + 1 : Nat) : Int) * x = j * x + x from by rw [Int.natCast_add, Int.add_mul]; simp]
  exact this
theorem Way.part {v u : List Int} {k c : Int} (w : Way v k c) : Way u k c ∨ ∃ y ∈ v, y ∉ u ∧ Way v (k - y) (c - 1) := by
 induction w with
 | zero => exact .inl .zero
 | @add x k c hx hw ih =>
  by_cases hu : x ∈ u
  · rcases ih with h | ⟨y, hy, hyu, h⟩
    · exact .inl (.add hu h)
    · refine .inr ⟨y, hy, hyu, ?_⟩
      have := Way.add hx h
      rwa [show k - y + x = k + x - y from by omega, show c - 1 + 1 = c + 1 - 1 from by omega] at this
  · exact .inr ⟨x, hx, hu, by rwa [show k + x - x = k from by omega, show c + 1 - 1 = c from by omega]⟩
theorem Way.last {v : List Int} {k c : Int} (w : Way v k c) : (k = 0 ∧ c = 0) ∨ ∃ x ∈ v, Way v (k - x) (c - 1) := by
 cases w with
 | zero => exact .inl ⟨rfl, rfl⟩
 | @add x k c hx hw => exact .inr ⟨x, hx, by rwa [show k + x - x = k from by omega, show c + 1 - 1 = c from by omega]⟩
theorem Way.split {u : List Int} {x : Int} {k c : Int} (w : Way (u ++ [x]) k c) : ∃ j : Nat, Way u (k - j * x) (c - j) := by
 induction w with
 | zero => exact ⟨0, by simpa using Way.zero⟩
 | @add y k c hy _ ih =>
  obtain ⟨j, h⟩ := ih
  rcases List.mem_append.1 hy with hu | hx
  · refine ⟨j, ?_⟩
    have := Way.add hu h
    rwa [show k - j * x + y = k + y - j * x from by omega, show c - (j : Int) + 1 = c + 1 - j from by omega] at this
  · obtain rfl : y = x := by simpa using hx
    refine ⟨j + 1, ?_⟩
    rw [show ((j + 1 : Nat) : Int) * y = j * y + y from by rw [Int.natCast_add, Int.add_mul]; simp, show k + y - (j * y + y) = k - j * y from by omega, show c + 1 - ((j + 1 : Nat) : Int) = c - j from by omega]
    exact h
def Fw (v : List Int) (k m : Int) : Prop := (m = -1 ∧ ∀ c, ¬ Way v k c) ∨ (Way v k m ∧ ∀ c, Way v k c → m ≤ c)
theorem Fw.one {v : List Int} (hv : ∀ x ∈ v, 1 ≤ x) {k m m' : Int} (h : Fw v k m) (h' : Fw v k m') : m = m' := by
 rcases h with ⟨h1, h2⟩ | ⟨h1, h2⟩ <;> rcases h' with ⟨h3, h4⟩ | ⟨h3, h4⟩
 · omega
 · exact absurd h3 (h2 _)
 · exact absurd h1 (h4 _)
 · have := h2 _ h3; have := h4 _ h1; omega
theorem Fw.neg {v : List Int} (hv : ∀ x ∈ v, 1 ≤ x) {k m : Int} (h : Fw v k m) : m < 0 ↔ ∀ c, ¬ Way v k c := by
 rcases h with ⟨h1, h2⟩ | ⟨h1, h2⟩
 · exact ⟨fun _ => h2, fun _ => by omega⟩
 · have := h1.pos hv
   exact ⟨fun h => by omega, fun h => absurd h1 (h _)⟩
theorem Fw.ge {v : List Int} (hv : ∀ x ∈ v, 1 ≤ x) {k m : Int} (h : Fw v k m) : -1 ≤ m := by
 rcases h with ⟨h1, h2⟩ | ⟨h1, h2⟩
 · omega
 · have := h1.pos hv; omega
theorem Fw.le {v : List Int} (hv : ∀ x ∈ v, 1 ≤ x) {k m : Int} (h : Fw v k m) (hk : 0 ≤ k) : m ≤ k := by
 rcases h with ⟨h1, h2⟩ | ⟨h1, h2⟩
 · omega
 · have := h1.pos hv; omega
theorem Fw.way {v : List Int} {k m : Int} (h : Fw v k m) (hm : 0 ≤ m) : Way v k m ∧ ∀ c, Way v k c → m ≤ c := by
 rcases h with ⟨h1, h2⟩ | h
 · omega
 · exact h
theorem Fw.nil {k : Int} (hk : 0 ≤ k) : Fw [] k (if k = 0 then 0 else -1) := by
 by_cases h : k = 0
 · subst h
   exact .inr ⟨.zero, fun c w => (w.pos (by simp)).1⟩
 · rw [if_neg h]
   refine .inl ⟨rfl, fun c w => ?_⟩
   rcases w.last with ⟨h1, _⟩ | ⟨x, hx, _⟩
   · exact h h1
   · simp at hx
theorem Fw.below {u : List Int} {x k m : Int} (hu : ∀ y ∈ u, 1 ≤ y) (hk : k < x) (h : Fw u k m) (h0 : 0 ≤ k) : Fw (u ++ [x]) k m := by
 have hv : ∀ y ∈ u ++ [x], 1 ≤ y := by
  intro y hy
  rcases List.mem_append.1 hy with hy | hy
  · exact hu y hy
  · have : y = x := by simpa using hy
    omega
 have key : ∀ c, Way (u ++ [x]) k c → Way u k c := by
  intro c w
  obtain ⟨j, hj⟩ := w.split
  by_cases h : j = 0
  · subst h; simpa using hj
  · exfalso
    have := hj.pos hu
    have hj1 : x ≤ (j : Int) * x := by
     have := Int.mul_le_mul_of_nonneg_right (show (1 : Int) ≤ j from by omega) (show 0 ≤ x from by omega)
     omega
    omega
 rcases h with ⟨h1, h2⟩ | ⟨h1, h2⟩
 · exact .inl ⟨h1, fun c w => h2 c (key c w)⟩
 · exact .inr ⟨h1.mono (fun y hy => List.mem_append.2 (.inl hy)), fun c w => h2 c (key c w)⟩
theorem Fw.next {u : List Int} {x k m p : Int} (hu : ∀ y ∈ u, 1 ≤ y) (hx : 1 ≤ x) (h : Fw u k m) (hp : Fw (u ++ [x]) (k - x) p) :
 Fw (u ++ [x]) k (if p ≥ 0 then (if m < 0 then p + 1 else if p + 1 < m then p + 1 else m) else m) := by
 have hv : ∀ y ∈ u ++ [x], 1 ≤ y := by
  intro y hy
  rcases List.mem_append.1 hy with hy | hy
  · exact hu y hy
  · have : y = x := by simpa using hy
    omega
 have key : ∀ c, Way (u ++ [x]) k c → Way u k c ∨ Way (u ++ [x]) (k - x) (c - 1) := by
  intro c w
  rcases w.part (u := u) with h | ⟨y, hy, hyu, h⟩
  · exact .inl h
  · rcases List.mem_append.1 hy with hy | hy
    · exact absurd hy hyu
    · obtain rfl : y = x := by simpa using hy
      exact .inr h
 have hup : ∀ c, Way u k c → Way (u ++ [x]) k c := fun c w => w.mono (fun y hy => List.mem_append.2 (.inl hy))
 have hone : ∀ c, Way (u ++ [x]) (k - x) c → Way (u ++ [x]) k (c + 1) := fun c w => by
  have := Way.add (show x ∈ u ++ [x] by simp) w
  rwa [show k - x + x = k from by omega] at this
 have hm := h.neg hu
 have hpn := hp.neg hv
 by_cases c1 : p ≥ 0
 · rw [if_pos c1]
   obtain ⟨p1, p2⟩ := hp.way c1
   by_cases c2 : m < 0
   · rw [if_pos c2]
     refine .inr ⟨hone _ p1, fun c w => ?_⟩
     rcases key c w with h1 | h1
     · exact absurd h1 (hm.1 c2 c)
     · have := p2 _ h1; omega
   · rw [if_neg c2]
     obtain ⟨m1, m2⟩ := h.way (by omega)
     by_cases c3 : p + 1 < m
     · rw [if_pos c3]
       refine .inr ⟨hone _ p1, fun c w => ?_⟩
       rcases key c w with h1 | h1
       · have := m2 _ h1; omega
       · have := p2 _ h1; omega
     · rw [if_neg c3]
       refine .inr ⟨hup _ m1, fun c w => ?_⟩
       rcases key c w with h1 | h1
       · exact m2 _ h1
       · have := p2 _ h1; omega
 · rw [if_neg c1]
   rcases h with ⟨h1, h2⟩ | ⟨h1, h2⟩
   · refine .inl ⟨h1, fun c w => ?_⟩
     rcases key c w with h3 | h3
     · exact h2 _ h3
     · exact hpn.1 (by omega) _ h3
   · refine .inr ⟨hup _ h1, fun c w => ?_⟩
     rcases key c w with h3 | h3
     · exact h2 _ h3
     · exact absurd h3 (hpn.1 (by omega) _)
structure Lst (v : List Int) (a G : Int) (t : List Int) : Prop where
 len : (t.length : Int) = a
 ge : ∀ r, 0 ≤ r → r < a → -1 ≤ rd t r
 way : ∀ r, 0 ≤ r → r < a → 0 ≤ rd t r → (∃ c, Way v (rd t r) c) ∧ rd t r % a = r
 least : ∀ n c, Way v n c → 0 ≤ rd t (n % a) ∧ rd t (n % a) ≤ n
 bound : ∀ r, 0 ≤ r → r < a → rd t r ≤ (a - 1) * G
def sets (t : List Int) : Nat := t.countP (fun x => decide (0 ≤ x))
theorem sets_le (t : List Int) : sets t ≤ t.length := List.countP_le_length
def weight (B : Int) (t : List Int) : Int := (t.map fun x => if x < 0 then B else x).sum
theorem weight_nonneg {B : Int} (hB : 0 ≤ B) (t : List Int) : 0 ≤ weight B t := by
 induction t with
 | nil => simp [weight]
 | cons x t ih =>
  unfold weight at *
  rw [List.map_cons, List.sum_cons]
  by_cases h : x < 0
  · rw [if_pos h]; omega
  · rw [if_neg h]; omega
theorem weight_set (B : Int) (t : List Int) (i : Nat) (h : i < t.length) (x : Int) : weight B (t.set i x) + (if t[i] < 0 then B else t[i]) = weight B t + (if x < 0 then B else x) := by
 induction t generalizing i with
 | nil => simp at h
 | cons y t ih =>
  unfold weight at *
  cases i with
  | zero => simp only [z2_, List.map_cons, List.sum_cons, List.getElem_cons_zero]; omega
  | succ i =>
   have := ih i (by simpa using h)
   simp only [z3_, List.map_cons, List.sum_cons, List.getElem_cons_succ]
   omega
theorem sets_set (t : List Int) (i : Nat) (h : i < t.length) (x : Int) (hx : 0 ≤ x) : sets (t.set i x) + (if 0 ≤ t[i] then 1 else 0) = sets t + 1 := by
 induction t generalizing i with
 | nil => simp at h
 | cons y t ih =>
  unfold sets at *
  cases i with
  | zero =>
   simp only [z2_, List.countP_cons, List.getElem_cons_zero]
   by_cases e : 0 ≤ y <;> simp [e, hx]
  | succ i =>
   have := ih i (by simpa using h)
   simp only [z3_, List.countP_cons, List.getElem_cons_succ]
   omega
structure LInv (v : List Int) (a G : Int) (t : List Int) : Prop where
 len : (t.length : Int) = a
 zero : rd t 0 = 0
 ge : ∀ r, 0 ≤ r → r < a → -1 ≤ rd t r
 way : ∀ r, 0 ≤ r → r < a → 0 ≤ rd t r → (∃ c, Way v (rd t r) c) ∧ rd t r % a = r
 bound : ∀ r, 0 ≤ r → r < a → rd t r ≤ ((sets t : Int) - 1) * G
theorem mul_le_of {x y G : Int} (hG : 0 ≤ G) (h : x ≤ y) : x * G ≤ y * G := Int.mul_le_mul_of_nonneg_right h hG
theorem LInv.top {v : List Int} {a G : Int} {t : List Int} (hG : 0 ≤ G) (h : LInv v a G t) {r : Int} (h0 : 0 ≤ r) (h1 : r < a) : rd t r ≤ (a - 1) * G := by
 have := h.bound r h0 h1
 have := sets_le t
 have := h.len
 have := mul_le_of (x := (sets t : Int) - 1) (y := a - 1) hG (by omega)
 omega
theorem LInv.step {v : List Int} {a G : Int} {t : List Int} (hv : ∀ x ∈ v, 1 ≤ x ∧ x ≤ G) (ha : 1 ≤ a) (h : LInv v a G t) {r g : Int} (hr0 : 0 ≤ r) (hr1 : r < a) (hg : g ∈ v) (hs : 0 ≤ rd t r)
 (hc : rd t ((rd t r + g) % a) < 0 ∨ rd t r + g < rd t ((rd t r + g) % a)) :
 LInv v a G (t.set ((rd t r + g) % a).toNat (rd t r + g)) ∧ weight (a * G + 1) (t.set ((rd t r + g) % a).toNat (rd t r + g)) < weight (a * G + 1) t ∧ rd t r + g ≤ a * G ∧ (rd t r + g) % a ≠ r := by
 have hgv := hv g hg
 have hG : 0 ≤ G := by omega
 have q0 := Int.emod_nonneg (rd t r + g) (b := a) (by omega)
 have q1 := Int.emod_lt_of_pos (rd t r + g) (b := a) (by omega)
 generalize hto : (rd t r + g) % a = y0 at *
 have hl := h.len
 have hb := h.bound r hr0 hr1
 have hbt := h.bound y0 q0 q1
 have hsl := sets_le t
 have hne : y0 ≠ r := by rintro rfl; omega
 have h00 : y0 ≠ 0 := by rintro rfl; rw [h.zero] at hc; omega
 have hrd : rd t y0 = t[y0.toNat]'(by omega) := rd_lt q0 (by omega)
 have hss := sets_set t y0.toNat (by omega) (rd t r + g) (by omega)
 have hws := weight_set (a * G + 1) t y0.toNat (by omega) (rd t r + g)
 rw [← hrd] at hss hws
 have hset0 : (sets (t.set y0.toNat (rd t r + g)) : Int) + (if 0 ≤ rd t y0 then 1 else 0) = sets t + 1 := by
  split at hss <;> omega
 have hm : a * G = (a - 1) * G + G := by rw [Int.sub_mul]; omega
 have hm2 : ((sets t : Int)) * G = ((sets t : Int) - 1) * G + G := by rw [Int.sub_mul]; omega
 have hm3 := mul_le_of (x := (sets t : Int) - 1) (y := a - 1) hG (by omega)
 obtain ⟨⟨c, hw⟩, hmod⟩ := h.way r hr0 hr1 hs
 have hset : (sets (t.set y0.toNat (rd t r + g)) : Int) = if rd t y0 < 0 then (sets t : Int) + 1 else sets t := by
  by_cases e : rd t y0 < 0
  · rw [if_pos e]; rw [if_neg (by omega)] at hset0; omega
  · rw [if_neg e]; rw [if_pos (by omega)] at hset0; omega
 have hsets : (sets t : Int) ≤ sets (t.set y0.toNat (rd t r + g)) := by rw [hset]; split <;> omega
 have hup : ((sets t : Int) - 1) * G ≤ ((sets (t.set y0.toNat (rd t r + g)) : Int) - 1) * G := mul_le_of hG (by omega)
 have hy : rd t r + g ≤ ((sets (t.set y0.toNat (rd t r + g)) : Int) - 1) * G := by
  by_cases e : rd t y0 < 0
  · rw [hset, if_pos e, show (sets t : Int) + 1 - 1 = sets t from by omega]; omega
  · omega
 refine ⟨⟨by simpa using hl, ?_, ?_, ?_, ?_⟩, ?_, by omega, hne⟩
 · have := rd_set (l := t) (rd t r + g) q0 (by omega) (show (0 : Int) ≤ 0 by omega)
   rw [this, if_neg (fun e => h00 e.symm)]; exact h.zero
 · intro s hs0 hs1
   rw [rd_set _ q0 (by omega) hs0]
   by_cases e : s = y0
   · rw [if_pos e]; omega
   · rw [if_neg e]; exact h.ge s hs0 hs1
 · intro s hs0 hs1 hpos
   rw [rd_set _ q0 (by omega) hs0] at hpos ⊢
   by_cases e : s = y0
   · rw [if_pos e] at hpos ⊢
     exact ⟨⟨c + 1, .add hg hw⟩, by rw [hto, e]⟩
   · rw [if_neg e] at hpos ⊢; exact h.way s hs0 hs1 hpos
 · intro s hs0 hs1
   rw [rd_set _ q0 (by omega) hs0]
   by_cases e : s = y0
   · rw [if_pos e]; exact hy
   · rw [if_neg e]; have := h.bound s hs0 hs1; omega
 · rw [if_neg (show ¬ rd t r + g < 0 by omega)] at hws
   by_cases e : rd t y0 < 0
   · rw [if_pos e] at hws; omega
   · rw [if_neg e] at hws; omega
def Closed (v : List Int) (a : Int) (t : List Int) : Prop := ∀ r, 0 ≤ r → r < a → 0 ≤ rd t r → ∀ g ∈ v, 0 ≤ rd t ((rd t r + g) % a) ∧ rd t ((rd t r + g) % a) ≤ rd t r + g
theorem LInv.done {v : List Int} {a G : Int} {t : List Int} (hv : ∀ x ∈ v, 1 ≤ x ∧ x ≤ G) (hG : 0 ≤ G) (ha : 1 ≤ a) (h : LInv v a G t) (hc : Closed v a t) : Lst v a G t := by
 refine ⟨h.len, h.ge, h.way, fun n c w => ?_, fun r h0 h1 => h.top hG h0 h1⟩
 induction w with
 | zero => simp [h.zero]
 | @add g k c hg hw ih =>
  have q0 := Int.emod_nonneg k (b := a) (by omega)
  have q1 := Int.emod_lt_of_pos k (b := a) (by omega)
  obtain ⟨c1, c2⟩ := hc (k % a) q0 q1 ih.1 g hg
  have hmod := (h.way (k % a) q0 q1 ih.1).2
  have e : (rd t (k % a) + g) % a = (k + g) % a := by
   rw [Int.add_emod, hmod, ← Int.add_emod]
  rw [e] at c1 c2
  exact ⟨c1, by omega⟩
theorem Lst.one {v : List Int} {a G G' : Int} {t u : List Int} (h : Lst v a G t) (k : Lst v a G' u) : t = u := by
 refine rd_ext (by have := h.len; have := k.len; omega) fun r h0 h1 => ?_
 have ha : r < a := by have := h.len; omega
 have g1 := h.ge r h0 ha
 have g2 := k.ge r h0 ha
 have l1 : 0 ≤ rd t r → 0 ≤ rd u r ∧ rd u r ≤ rd t r := fun hs => by
  obtain ⟨⟨c, w⟩, e⟩ := h.way r h0 ha hs
  have := k.least _ _ w
  rwa [e] at this
 have l2 : 0 ≤ rd u r → 0 ≤ rd t r ∧ rd t r ≤ rd u r := fun hs => by
  obtain ⟨⟨c, w⟩, e⟩ := k.way r h0 ha hs
  have := h.least _ _ w
  rwa [e] at this
 by_cases e1 : 0 ≤ rd t r
 · have := l1 e1; have := l2 (by omega); omega
 · by_cases e2 : 0 ≤ rd u r
   · have := l2 e2; omega
   · omega
theorem LInv.first {v : List Int} {a G : Int} (ha : 1 ≤ a) (hG : 0 ≤ G) : LInv v a G ((List.replicate a.toNat (-1)).set 0 0) := by
 have hl : ((List.replicate a.toNat (-1 : Int)).length : Int) = a := by simp; omega
 have hr : ∀ r, 0 ≤ r → r < a → rd ((List.replicate a.toNat (-1)).set 0 0) r = if r = 0 then 0 else -1 := fun r h0 h1 => by
  have := rd_set (l := List.replicate a.toNat (-1)) (i := 0) (j := r) 0 (by omega) (by omega) h0
  rw [show (0 : Int).toNat = 0 from rfl] at this
  rw [this]
  by_cases e : r = 0
  · rw [if_pos e, if_pos e]
  · rw [if_neg e, if_neg e, rd_rep h0 (by omega)]
 have hs : 1 ≤ sets ((List.replicate a.toNat (-1)).set 0 0) := by
  have := sets_set (List.replicate a.toNat (-1)) 0 (by simp; omega) 0 (by omega)
  simp at this
  omega
 have hp : 0 ≤ ((sets ((List.replicate a.toNat (-1)).set 0 0) : Int) - 1) * G := Int.mul_nonneg (by omega) hG
 refine ⟨by simp; omega, by rw [hr 0 (by omega) (by omega)]; rfl, fun r h0 h1 => ?_, fun r h0 h1 h2 => ?_, fun r h0 h1 => ?_⟩
 · rw [hr r h0 h1]; split <;> omega
 · rw [hr r h0 h1] at h2 ⊢
   by_cases e : r = 0
   · rw [if_pos e]; exact ⟨⟨0, .zero⟩, by rw [e]; rfl⟩
   · rw [if_neg e] at h2; omega
 · rw [hr r h0 h1]; split <;> omega
def Su (v : List Int) (n : Int) : Prop := ∃ c, Way v n c
noncomputable instance (v : List Int) (n : Int) : Decidable (Su v n) := Classical.propDecidable _
theorem Su.zero (v : List Int) : Su v 0 := ⟨0, .zero⟩
theorem Su.add {v : List Int} {n m : Int} (h : Su v n) (k : Su v m) : Su v (n + m) := by
 obtain ⟨c, h⟩ := h; obtain ⟨d, k⟩ := k; exact ⟨c + d, h.plus k⟩
theorem Su.mem {v : List Int} {x : Int} (h : x ∈ v) : Su v x := ⟨0 + 1, by have := Way.add h Way.zero; rwa [Int.zero_add] at this⟩
theorem Su.pos {v : List Int} (hv : ∀ x ∈ v, 1 ≤ x) {n : Int} (h : Su v n) : 0 ≤ n := by
 obtain ⟨c, h⟩ := h; have := h.pos hv; omega
theorem Su.mono {v u : List Int} (h : ∀ x ∈ v, x ∈ u) {n : Int} (k : Su v n) : Su u n := by
 obtain ⟨c, k⟩ := k; exact ⟨c, k.mono h⟩
theorem Su.last {v : List Int} {n : Int} (hn : n ≠ 0) : Su v n ↔ ∃ x ∈ v, Su v (n - x) := by
 constructor
 · rintro ⟨c, w⟩
   rcases w.last with h | ⟨x, hx, h⟩
   · exact absurd h.1 hn
   · exact ⟨x, hx, _, h⟩
 · rintro ⟨x, hx, h⟩
   have := h.add (Su.mem hx)
   rwa [show n - x + x = n from by omega] at this
theorem Su.times {v : List Int} {x : Int} (h : Su v x) (j : Nat) : Su v (j * x) := by
 induction j with
 | zero => simpa using Su.zero v
 | succ j ih =>
  have := ih.add h
  rwa [show (j : Int) * x + x = ((j + 1 : Nat) : Int) * x from by rw [Int.natCast_add, Int.add_mul]; simp] at this
theorem Su.up {v : List Int} {a : Int} (ha : 1 ≤ a) (h : Su v a) {n m : Int} (hn : Su v n) (hle : n ≤ m) (hm : n % a = m % a) : Su v m := by
 have e1 := Int.mul_ediv_add_emod n a
 have e2 := Int.mul_ediv_add_emod m a
 have hq : n / a ≤ m / a := Int.ediv_le_ediv (by omega) hle
 have := hn.add (h.times (m / a - n / a).toNat)
 rw [show (((m / a - n / a).toNat : Nat) : Int) = m / a - n / a from by omega] at this
 rwa [show n + (m / a - n / a) * a = m from by rw [Int.sub_mul, Int.mul_comm (m / a), Int.mul_comm (n / a)]; omega] at this
theorem Lst.su {v : List Int} {a G : Int} {t : List Int} (h : Lst v a G t) (ha : 1 ≤ a) (hav : Su v a) {n : Int} : Su v n ↔ 0 ≤ rd t (n % a) ∧ rd t (n % a) ≤ n := by
 have q0 := Int.emod_nonneg n (b := a) (by omega)
 have q1 := Int.emod_lt_of_pos n (b := a) (by omega)
 constructor
 · rintro ⟨c, w⟩; exact h.least _ _ w
 · rintro ⟨h1, h2⟩
   obtain ⟨w, e⟩ := h.way _ q0 q1 h1
   exact Su.up ha hav w h2 (by omega)
def UL (v : List Int) : Prop := (1 ≤ (v.length : Int) ∧ (v.length : Int) ≤ 20) ∧ ∀ x ∈ v, 1 ≤ x ∧ x ≤ 60
noncomputable instance (v : List Int) : Decidable (UL v) := Classical.propDecidable _
theorem UL.pos {v : List Int} (h : UL v) : ∀ x ∈ v, 1 ≤ x := fun x hx => (h.2 x hx).1
theorem UL.first {v : List Int} (h : UL v) : rd v 0 ∈ v ∧ 1 ≤ rd v 0 ∧ rd v 0 ≤ 60 := by
 have := rd_mem (l := v) (i := 0) (by omega) (by have := h.1; omega)
 exact ⟨this, h.2 _ this⟩
theorem UL.ne {v : List Int} (h : UL v) : v ≠ [] := by rintro rfl; have := h.1; simp at this
end Go.Proofs.Ytonknpgfbkgbjaa.E
end
section
namespace Go.Proofs.Ytonknpgfbkgbjaa.E
open Go.RowKit Go.Proofs.Ytonknpgfbkgbjaa.PC Go.Proofs.YtonknpgfbkgbjaaW.PrintWords Go.Proofs.YtonknpgfbkgbjaaW.PrintLast Go.Proofs.YtonknpgfbkgbjaaW.PrintMore
set_option linter.unusedVariables false
set_option linter.unusedSimpArgs false
theorem rdb_set {l : List Bool} {i j : Int} (x : Bool) (hi : 0 ≤ i) (hi' : i < l.length) (hj : 0 ≤ j) : rdOf false (l.set i.toNat x) j = if j = i then x else rdOf false l j := by
 unfold rdOf
 rw [List.getD_eq_getElem?_getD, List.getD_eq_getElem?_getD, List.getElem?_set]
 by_cases h : j = i
 · subst h; rw [if_pos rfl, if_pos rfl, if_pos (by omega)]; rfl
 · rw [if_neg h, if_neg (by omega)]
theorem rdb_rep {n : Nat} {i : Int} : rdOf false (List.replicate n false) i = false := by
 unfold rdOf
 rw [List.getD_eq_getElem?_getD, List.getElem?_replicate]
 split <;> rfl
def TabAt (v : List Int) (n : Int) (t : List Bool) : Prop := (∀ j, 0 ≤ j → j < n → (rdOf false t j = true ↔ Su v j)) ∧ ∀ j, n ≤ j → rdOf false t j = false
theorem tab_l1 {v : List Int} (hl : v.length ≤ 1048576) (hv : ∀ x ∈ v, 1 ≤ x ∧ x ≤ 1048576) {most n : Int} (hm : most ≤ 1048576) (hn : 1 ≤ n) (hn' : n ≤ most) {r : List Bool}
 (H : ∀ t : List Bool, (t.length : Int) = most + 1 → TabAt v (n + 1) t → Ev (fun k => spec_l3Table.l0 k v most t (n + 1)) r → True) (d : Nat) :
 ∀ (i : Int) (t : List Bool), 0 ≤ i → i + d = v.length → (t.length : Int) = most + 1 → (∀ j, 0 ≤ j → j < n → (rdOf false t j = true ↔ Su v j)) → (∀ j, n < j → rdOf false t j = false) → (rdOf false t n = true ↔ ∃ j, 0 ≤ j ∧ j < i ∧ rd v j ≤ n ∧ Su v (n - rd v j)) →
  ∃ t' : List Bool, (t'.length : Int) = most + 1 ∧ TabAt v (n + 1) t' ∧ ∀ r, Ev (fun k => spec_l3Table.l0 k v most t' (n + 1)) r → Ev (fun k => spec_l3Table.l1 k v most t n i) r := by
 have hv1 : ∀ x ∈ v, 1 ≤ x := fun x hx => (hv x hx).1
 induction d with
 | zero =>
  intro i t h0 h1 h2 h3 h4 h5
  refine ⟨t, h2, ⟨fun j hj hj' => ?_, fun j hj => h4 j (by omega)⟩, fun r hr => Ev.step (fun k => by rw [spec_l3Table.l1]) (ev_ifn (by omega) ?_)⟩
  · by_cases e : j = n
    · subst e
      rw [h5, Su.last (by omega)]
      constructor
      · rintro ⟨q, a, b, _, c⟩; exact ⟨_, rd_mem a (by omega), c⟩
      · rintro ⟨x, hx, c⟩
        obtain ⟨q, a, b, rfl⟩ := mem_rd hx
        have := c.pos hv1
        exact ⟨q, a, by omega, by omega, c⟩
    · exact h3 j hj (by omega)
  · rw [w64 (by omega) (by omega)]; exact hr
 | succ d ih =>
  intro i t h0 h1 h2 h3 h4 h5
  have hx := hv _ (rd_mem (l := v) h0 (by omega))
  by_cases c : n ≥ rd v i
  · have e := h3 (n - rd v i) (by omega) (by omega)
    by_cases b : rdOf false t (n - rd v i) = true
    · obtain ⟨t', a1, a2, a3⟩ := ih (i + 1) (t.set n.toNat true) (by omega) (by omega) (by simpa using h2) (fun j hj hj' => by rw [rdb_set _ (by omega) (by omega) hj, if_neg (by omega)]; exact h3 j hj hj') (fun j hj => by rw [rdb_set _ (by omega) (by omega) (by omega), if_neg (by omega)]; exact h4 j hj)
       (by rw [rdb_set _ (by omega) (by omega) (by omega), if_pos rfl]; exact ⟨fun _ => ⟨i, h0, by omega, c, e.1 b⟩, fun _ => rfl⟩)
      refine ⟨t', a1, a2, fun r hr => Ev.step (fun k => by rw [spec_l3Table.l1]) ?_⟩
      rw [w64 (x := n - rd v i) (by omega) (by omega), w64 (x := i + 1) (by omega) (by omega)]
      exact ev_ifp (by omega) (ev_ifp h0 (ev_ifp c (ev_ifp (by omega) (ev_ifp (by omega) (ev_ifp b (ev_ifp (by omega) (ev_ifp (by omega) (a3 r hr))))))))
    · obtain ⟨t', a1, a2, a3⟩ := ih (i + 1) t (by omega) (by omega) h2 h3 h4 (by
       rw [h5]
       constructor
       · rintro ⟨q, u1, u2, u3⟩; exact ⟨q, u1, by omega, u3⟩
       · rintro ⟨q, u1, u2, u3, u4⟩
         by_cases eq : q = i
         · subst eq; exact absurd (e.2 u4) b
         · exact ⟨q, u1, by omega, u3, u4⟩)
      refine ⟨t', a1, a2, fun r hr => Ev.step (fun k => by rw [spec_l3Table.l1]) ?_⟩
      rw [w64 (x := n - rd v i) (by omega) (by omega), w64 (x := i + 1) (by omega) (by omega)]
      exact ev_ifp (by omega) (ev_ifp h0 (ev_ifp c (ev_ifp (by omega) (ev_ifp (by omega) (ev_ifn b (a3 r hr))))))
  · obtain ⟨t', a1, a2, a3⟩ := ih (i + 1) t (by omega) (by omega) h2 h3 h4 (by
     rw [h5]
     constructor
     · rintro ⟨q, u1, u2, u3⟩; exact ⟨q, u1, by omega, u3⟩
     · rintro ⟨q, u1, u2, u3, u4⟩
       by_cases eq : q = i
       · subst eq; omega
       · exact ⟨q, u1, by omega, u3, u4⟩)
    refine ⟨t', a1, a2, fun r hr => Ev.step (fun k => by rw [spec_l3Table.l1]) ?_⟩
    rw [w64 (x := i + 1) (by omega) (by omega)]
    exact ev_ifp (by omega) (ev_ifp h0 (ev_ifn c (a3 r hr)))
theorem tab_l0 {v : List Int} (hl : v.length ≤ 1048576) (hv : ∀ x ∈ v, 1 ≤ x ∧ x ≤ 1048576) {most : Int} (hm : most ≤ 1048576) (d : Nat) : ∀ (n : Int) (t : List Bool), 1 ≤ n → n + d = most + 1 → (t.length : Int) = most + 1 → TabAt v n t →
 ∃ t' : List Bool, (t'.length : Int) = most + 1 ∧ (∀ j, 0 ≤ j → j ≤ most → (rdOf false t' j = true ↔ Su v j)) ∧ Ev (fun k => spec_l3Table.l0 k v most t n) t' := by
 induction d with
 | zero =>
  intro n t h0 h1 h2 h3
  exact ⟨t, h2, fun j hj hj' => h3.1 j hj (by omega), Ev.step (fun k => by rw [spec_l3Table.l0]) (ev_ifn (by omega) (Ev.now _))⟩
 | succ d ih =>
  intro n t h0 h1 h2 h3
  obtain ⟨t', a1, a2, a3⟩ := tab_l1 (r := t) hl hv hm h0 (by omega) (fun _ _ _ _ => trivial) v.length 0 t (by omega) (by omega) h2 h3.1 (fun j hj => h3.2 j (by omega)) (by
   rw [h3.2 n (Int.le_refl _)]
   exact ⟨fun h => (by cases h), fun ⟨j, u1, u2, _⟩ => by omega⟩)
  obtain ⟨t'', b1, b2, b3⟩ := ih (n + 1) t' (by omega) (by omega) a1 a2
  refine ⟨t'', b1, b2, Ev.step (fun k => by rw [spec_l3Table.l0]) ?_⟩
  exact ev_ifp (by omega) (a3 _ b3)
theorem tabG_ev {v : List Int} (hl : v.length ≤ 1048576) (hv : ∀ x ∈ v, 1 ≤ x ∧ x ≤ 1048576) {most : Int} (hm0 : 0 ≤ most) (hm : most ≤ 1048576) :
 ∃ t : List Bool, (t.length : Int) = most + 1 ∧ (∀ j, 0 ≤ j → j ≤ most → (rdOf false t j = true ↔ Su v j)) ∧ Ev (fun k => spec_l3Table.f k v most) t := by
 have e0 : ((List.replicate (most + 1).toNat false).length : Int) = most + 1 := by simp; omega
 obtain ⟨t, a, b, c⟩ := tab_l0 hl hv hm most.toNat 1 ((List.replicate (most + 1).toNat false).set (0 : Int).toNat true) (by omega) (by omega) (by rw [List.length_set]; exact e0) ⟨fun j hj hj' => by
  rw [rdb_set _ (by omega) (by omega) hj, if_pos (by omega), show j = 0 from by omega]
  exact ⟨fun _ => Su.zero v, fun _ => rfl⟩, fun j hj => by
  rw [rdb_set _ (by omega) (by omega) (by omega), if_neg (by omega)]; exact rdb_rep⟩
 refine ⟨t, a, b, ?_⟩
 unfold spec_l3Table.f
 rw [w64 (by omega) (by omega)]
 simp only [Option.bind_some]
 exact ev_ifp (by omega) (ev_ifp (by omega) (ev_ifp (by omega) c))
theorem tabS_ev {v : List Int} (hl : v.length ≤ 20) (hv : ∀ x ∈ v, 1 ≤ x ∧ x ≤ 60) {most : Int} (hm0 : 0 ≤ most) (hm : most ≤ 1048576) :
 ∃ t : List Bool, (t.length : Int) = most + 1 ∧ (∀ j, 0 ≤ j → j ≤ most → (rdOf false t j = true ↔ Su v j)) ∧ Ev (fun k => spec_l3Table.f k v most) t :=
 tabG_ev (by omega) (fun x hx => ⟨(hv x hx).1, by have := (hv x hx).2; omega⟩) hm0 hm
end Go.Proofs.Ytonknpgfbkgbjaa.E
end
section
namespace Go.Proofs.Ytonknpgfbkgbjaa.E
open Go.RowKit Go.Proofs.YtonknpgfbkgbjaaW.PrintWords Go.Proofs.YtonknpgfbkgbjaaW.PrintLast Go.Proofs.YtonknpgfbkgbjaaW.PrintMore
set_option linter.unusedVariables false
set_option linter.unusedSimpArgs false
def fl (p : Int → Bool) (i : Int) : Nat → List Int
 | 0 => []
 | d + 1 => if p i = true then i :: fl p (i + 1) d else fl p (i + 1) d
theorem fl_yes {p : Int → Bool} {i : Int} {d : Nat} (h : p i = true) : fl p i (d + 1) = i :: fl p (i + 1) d := by rw [fl, if_pos h]
theorem fl_no {p : Int → Bool} {i : Int} {d : Nat} (h : ¬ p i = true) : fl p i (d + 1) = fl p (i + 1) d := by rw [fl, if_neg h]
theorem fl_app (p : Int → Bool) (d e : Nat) : ∀ i : Int, fl p i (d + e) = fl p i d ++ fl p (i + d) e := by
 induction d with
 | zero => intro i; simp [fl]
 | succ d ih =>
  intro i
  rw [show d + 1 + e = (d + e) + 1 from by omega, show i + ((d + 1 : Nat) : Int) = i + 1 + d from by omega]
  by_cases h : p i = true
  · rw [fl_yes h, fl_yes h, ih, List.cons_append]
  · rw [fl_no h, fl_no h, ih]
theorem fl_mem {p : Int → Bool} {x : Int} (d : Nat) : ∀ i : Int, x ∈ fl p i d ↔ i ≤ x ∧ x < i + d ∧ p x = true := by
 induction d with
 | zero => intro i; simp [fl]; omega
 | succ d ih =>
  intro i
  by_cases h : p i = true
  · rw [fl_yes h, List.mem_cons, ih]
    constructor
    · rintro (rfl | ⟨a, b, c⟩)
      · exact ⟨Int.le_refl _, by omega, h⟩
      · exact ⟨by omega, by omega, c⟩
    · rintro ⟨a, b, c⟩
      by_cases e : x = i
      · exact .inl e
      · exact .inr ⟨by omega, by omega, c⟩
  · rw [fl_no h, ih]
    constructor
    · rintro ⟨a, b, c⟩; exact ⟨by omega, by omega, c⟩
    · rintro ⟨a, b, c⟩
      by_cases e : x = i
      · subst e; exact absurd c h
      · exact ⟨by omega, by omega, c⟩
theorem fl_len (p : Int → Bool) (d : Nat) : ∀ i : Int, (fl p i d).length ≤ d := by
 induction d with
 | zero => intro i; simp [fl]
 | succ d ih =>
  intro i
  have := ih (i + 1)
  by_cases h : p i = true
  · rw [fl_yes h, List.length_cons]; omega
  · rw [fl_no h]; omega
theorem fl_congr {p q : Int → Bool} (d : Nat) : ∀ i : Int, (∀ x, i ≤ x → x < i + d → p x = q x) → fl p i d = fl q i d := by
 induction d with
 | zero => intro i _; rfl
 | succ d ih =>
  intro i h
  rw [fl, fl, h i (Int.le_refl _) (by omega), ih (i + 1) (fun x a b => h x (by omega) (by omega))]
theorem fl_none {p : Int → Bool} (d : Nat) : ∀ i : Int, (∀ x, i ≤ x → x < i + d → ¬ p x = true) → fl p i d = [] := by
 induction d with
 | zero => intro i _; rfl
 | succ d ih => intro i h; rw [fl_no (h i (Int.le_refl _) (by omega)), ih (i + 1) (fun x a b => h x (by omega) (by omega))]
theorem asc_cons {x : Int} {l : List Int} (h : ∀ y ∈ l, x < y) (ha : Asc l) : Asc (x :: l) := by
 intro i h0 h1
 rw [List.length_cons] at h1
 have e : ∀ j : Int, 0 < j → rd (x :: l) j = rd l (j - 1) := fun j hj => by
  unfold rd; rw [show j.toNat = (j - 1).toNat + 1 from by omega, List.getD_cons_succ]
 by_cases c : i = 1
 · subst c
   rw [e 1 (by omega)]
   exact h _ (rd_mem (by omega) (by omega))
 · rw [e i h0, e (i - 1) (by omega)]
   exact ha (i - 1) (by omega) (by omega)
theorem fl_asc (p : Int → Bool) (d : Nat) : ∀ i : Int, Asc (fl p i d) := by
 induction d with
 | zero => intro i j h0 h1; simp [fl] at h1; omega
 | succ d ih =>
  intro i
  by_cases h : p i = true
  · rw [fl_yes h]
    exact asc_cons (fun y hy => by have := (fl_mem d (i + 1)).1 hy; omega) (ih _)
  · rw [fl_no h]; exact ih _
theorem fl_last {p : Int → Bool} {i : Int} {d : Nat} (h : fl p i d ≠ []) : ∃ x, i ≤ x ∧ x < i + d ∧ p x = true ∧ (∀ y, x < y → y < i + d → ¬ p y = true) ∧ rd (fl p i d) ((fl p i d).length - 1) = x := by
 induction d with
 | zero => exact absurd rfl h
 | succ d ih =>
  rw [show d + 1 = d + 1 from rfl, fl_app p d 1 i] at h ⊢
  by_cases c : p (i + d) = true
  · refine ⟨i + d, by omega, by omega, c, fun y a b => by omega, ?_⟩
    rw [show fl p (i + d) 1 = [i + d] from by rw [show (1 : Nat) = 0 + 1 from rfl, fl_yes c]; rfl]
    rw [rd_append (by simp), if_neg (by simp)]
    simp [rd]
  · have e : fl p (i + d) 1 = [] := by rw [show (1 : Nat) = 0 + 1 from rfl, fl_no c]; rfl
    rw [e, List.append_nil] at h ⊢
    obtain ⟨x, a, b, q, r, s⟩ := ih h
    refine ⟨x, a, by omega, q, fun y hy hy' => ?_, s⟩
    by_cases ey : y = i + d
    · rw [ey]; exact c
    · exact r y hy (by omega)
end Go.Proofs.Ytonknpgfbkgbjaa.E
end
section
namespace Go.Proofs.Ytonknpgfbkgbjaa.E
open Go.RowKit Go.Proofs.Ytonknpgfbkgbjaa.PC Go.Proofs.YtonknpgfbkgbjaaW.PrintWords Go.Proofs.YtonknpgfbkgbjaaW.PrintLast Go.Proofs.YtonknpgfbkgbjaaW.PrintMore
set_option linter.unusedVariables false
set_option linter.unusedSimpArgs false
theorem l2Small_eq (n : Int) : spec_l2Small.f n = some (decide (-1000000 ≤ n ∧ n ≤ 1000000)) := by
 unfold spec_l2Small.f; rw [l1In_eq]; rfl
theorem l1Max_eq (a b : Int) : spec_l1Max.f a b = some (max a b) := by
 unfold spec_l1Max.f
 by_cases h : a > b
 · rw [if_pos h, Int.max_eq_left (by omega)]
 · rw [if_neg h, Int.max_eq_right (by omega)]
theorem mx_eq (a b : Int) : mx a b = max a b := by unfold mx; omega
theorem gcdI_l (m : Nat) : ∀ n : Nat, Ev (fun k => impl_GcdOf.l0 k (m : Int) (n : Int)) (Nat.gcd m n : Int) := by
 induction m using Nat.strongRecOn with
 | _ m ih =>
  intro n
  refine Ev.step (fun k => by rw [impl_GcdOf.l0]) ?_
  by_cases h : m = 0
  · subst h
    refine ev_ifp (by rfl) (ev_to (Ev.now _) (by simp))
  · refine ev_ifn (by omega) ?_
    rw [show Int.tmod (n : Int) (m : Int) = ((n % m : Nat) : Int) from rfl, Nat.gcd_rec]
    exact ih _ (Nat.mod_lt _ (by omega)) m
theorem gcdS_l (n : Nat) : ∀ m : Nat, Ev (fun k => spec_GcdOf.l0 k (m : Int) (n : Int)) (Nat.gcd m n : Int) := by
 induction n using Nat.strongRecOn with
 | _ n ih =>
  intro m
  refine Ev.step (fun k => by rw [spec_GcdOf.l0]) ?_
  by_cases h : n = 0
  · subst h
    refine ev_ifn (by simp) (ev_to (Ev.now _) (by simp))
  · refine ev_ifp (by omega) (ev_ifn (by omega) ?_)
    rw [show Int.tmod (m : Int) (n : Int) = ((m % n : Nat) : Int) from rfl, Nat.gcd_comm, Nat.gcd_rec, Nat.gcd_comm]
    exact ih _ (Nat.mod_lt _ (by omega)) n
def gcdOf (a b : Int) : Int := if (-1000000 ≤ a ∧ a ≤ 1000000) ∧ -1000000 ≤ b ∧ b ≤ 1000000 then (Int.gcd a b : Int) else 0
theorem abs_cast (a : Int) : max a (-a) = ((a.natAbs : Nat) : Int) := by omega
theorem gcdI_ev (a b : Int) : Ev (fun k => impl_GcdOf.f k a b) (gcdOf a b) := by
 unfold impl_GcdOf.f gcdOf
 refine ev_bind _ (allWithin_ev _ _ (by simp)) ?_
 by_cases h : (-1000000 ≤ a ∧ a ≤ 1000000) ∧ -1000000 ≤ b ∧ b ≤ 1000000
 · rw [if_pos h]
   refine ev_ifp (by simpa using h) ?_
   obtain ⟨h1, h2⟩ := h
   rw [w64 (by omega) (by omega), w64 (by omega) (by omega), mx_eq, mx_eq, abs_cast, abs_cast]
   exact gcdI_l _ _
 · rw [if_neg h]
   refine ev_ifn (by simpa using h) (Ev.now _)
theorem gcdS_ev (a b : Int) : Ev (fun k => spec_GcdOf.f k a b) (gcdOf a b) := by
 unfold spec_GcdOf.f gcdOf
 simp only [l2Small_eq, Option.bind_some]
 by_cases h1 : -1000000 ≤ a ∧ a ≤ 1000000
 · refine ev_ifp (by simpa using h1) (Ev.step (fun k => by rw [spec_GcdOf.j0]) ?_)
   by_cases h2 : -1000000 ≤ b ∧ b ≤ 1000000
   · rw [if_pos ⟨h1, h2⟩]
     refine ev_ifn (by simpa using h2) ?_
     simp only [l1Max_eq, Option.bind_some]
     rw [w64 (by omega) (by omega), w64 (by omega) (by omega), abs_cast, abs_cast]
     exact gcdS_l _ _
   · rw [if_neg (fun h => h2 h.2)]
     exact ev_ifp (nd_t h2) (Ev.now _)
 · rw [if_neg (fun h => h1 h.1)]
   refine ev_ifn (by simpa using h1) (Ev.step (fun k => by rw [spec_GcdOf.j0]) ?_)
   exact ev_ifp rfl (Ev.now _)
def gl (l : List Int) : Int := l.foldl gcdOf 0
theorem gcdListI_l {l : List Int} (hl : l.length ≤ 1099511627776) (d : Nat) : ∀ (i acc : Int), 0 ≤ i → i + d = l.length → Ev (fun k => impl_GcdOfList.l0 k acc l l.length i) ((l.drop i.toNat).foldl gcdOf acc) := by
 induction d with
 | zero =>
  intro i acc h0 h1
  refine Ev.step (fun k => by rw [impl_GcdOfList.l0]) ?_
  rw [List.drop_of_length_le (by omega)]
  exact ev_ifn (by omega) (Ev.now _)
 | succ d ih =>
  intro i acc h0 h1
  refine Ev.step (fun k => by rw [impl_GcdOfList.l0]) ?_
  rw [drop_rd h0 (by omega), List.foldl_cons, w64 (by omega) (by omega)]
  exact ev_ifp (by omega) (ev_ifp h0 (ev_ifp (by omega) (ev_bind _ (gcdI_ev _ _) (ih (i + 1) _ (by omega) (by omega)))))
theorem gcdListI_ev {l : List Int} (hl : l.length ≤ 1099511627776) : Ev (fun k => impl_GcdOfList.f k l) (gl l) := by
 unfold impl_GcdOfList.f
 have := gcdListI_l hl l.length 0 0 (by omega) (by omega)
 simpa [gl] using this
theorem gcdListS_l {l : List Int} (hl : l.length ≤ 1099511627776) (d : Nat) : ∀ (i acc : Int), 0 ≤ i → i + d = l.length → Ev (fun k => spec_GcdOfList.l0 k l acc i) ((l.drop i.toNat).foldl gcdOf acc) := by
 induction d with
 | zero =>
  intro i acc h0 h1
  refine Ev.step (fun k => by rw [spec_GcdOfList.l0]) ?_
  rw [List.drop_of_length_le (by omega)]
  exact ev_ifn (by omega) (Ev.now _)
 | succ d ih =>
  intro i acc h0 h1
  refine Ev.step (fun k => by rw [spec_GcdOfList.l0]) ?_
  rw [drop_rd h0 (by omega), List.foldl_cons, w64 (by omega) (by omega)]
  exact ev_ifp (by omega) (ev_ifp h0 (ev_bind _ (gcdS_ev _ _) (ih (i + 1) _ (by omega) (by omega))))
theorem gcdListS_ev {l : List Int} (hl : l.length ≤ 1099511627776) : Ev (fun k => spec_GcdOfList.f k l) (gl l) := by
 unfold spec_GcdOfList.f
 have := gcdListS_l hl l.length 0 0 (by omega) (by omega)
 simpa [gl] using this
theorem gcdOf_small {a x : Int} (h0 : 0 ≤ a) (h1 : a ≤ 60) (hx : 1 ≤ x ∧ x ≤ 60) : 1 ≤ gcdOf a x ∧ gcdOf a x ≤ 60 ∧ gcdOf a x ∣ a ∧ gcdOf a x ∣ x := by
 have e : gcdOf a x = (Int.gcd a x : Int) := by unfold gcdOf; rw [if_pos ⟨⟨by omega, by omega⟩, by omega, by omega⟩]
 have d1 := Int.gcd_dvd_left a x
 have d2 := Int.gcd_dvd_right a x
 have p : 0 < Int.gcd a x := Int.gcd_pos_of_ne_zero_right _ (by omega)
 have le := Int.le_of_dvd (by omega) d2
 rw [e]
 exact ⟨by omega, by omega, d1, d2⟩
end Go.Proofs.Ytonknpgfbkgbjaa.E
end
section
namespace Go.Proofs.Ytonknpgfbkgbjaa.E
open Go.RowKit Go.Proofs.YtonknpgfbkgbjaaW.PrintWords Go.Proofs.YtonknpgfbkgbjaaW.PrintLast Go.Proofs.YtonknpgfbkgbjaaW.PrintMore
set_option linter.unusedVariables false
set_option linter.unusedSimpArgs false
def Dn (v : List Int) (a z : Int) : Prop := ∃ n, Su v n ∧ n % a = z % a
theorem Dn.add {v : List Int} {a z y : Int} (h : Dn v a z) (k : Dn v a y) : Dn v a (z + y) := by
 obtain ⟨n, h1, h2⟩ := h; obtain ⟨m, k1, k2⟩ := k
 exact ⟨n + m, h1.add k1, by rw [Int.add_emod, h2, k2, ← Int.add_emod]⟩
theorem Dn.mul {v : List Int} {a z : Int} (ha : 1 ≤ a) (h : Dn v a z) (k : Int) : Dn v a (z * k) := by
 obtain ⟨n, h1, h2⟩ := h
 have q := Int.emod_nonneg k (b := a) (by omega)
 have := h1.times (k % a).toNat
 rw [show (((k % a).toNat : Nat) : Int) = k % a from by omega] at this
 refine ⟨_, this, ?_⟩
 rw [Int.mul_comm, Int.mul_emod, h2, Int.emod_emod_of_dvd _ (Int.dvd_refl a), ← Int.mul_emod]
theorem Dn.gcd {v : List Int} {a : Int} (ha : 1 ≤ a) (m : Nat) : ∀ n : Nat, Dn v a m → Dn v a n → Dn v a (Nat.gcd m n : Int) := by
 induction m using Nat.strongRecOn with
 | _ m ih =>
  intro n hm hn
  by_cases h : m = 0
  · subst h; simpa using hn
  · rw [Nat.gcd_rec]
    refine ih _ (Nat.mod_lt _ (by omega)) m ?_ hm
    have := hn.add (hm.mul ha (-((n / m : Nat) : Int)))
    have e : (n : Int) + (m : Int) * -((n / m : Nat) : Int) = ((n % m : Nat) : Int) := by
     have := Nat.div_add_mod n m
     have e2 : ((m * (n / m) + n % m : Nat) : Int) = (n : Int) := by rw [this]
     rw [Int.natCast_add, Int.natCast_mul] at e2
     rw [Int.mul_neg]; omega
    rwa [e] at this
theorem Dn.fold {v : List Int} {a : Int} (ha : 1 ≤ a) {l : List Int} (hl : ∀ x ∈ l, (1 ≤ x ∧ x ≤ 60) ∧ Dn v a x) : ∀ acc : Int, 0 ≤ acc → acc ≤ 60 → Dn v a acc → Dn v a (l.foldl gcdOf acc) := by
 induction l with
 | nil => intro acc _ _ h; exact h
 | cons x l ih =>
  intro acc h0 h1 h
  have hx := hl x (by simp)
  have g := gcdOf_small h0 h1 hx.1
  rw [List.foldl_cons]
  refine ih (fun y hy => hl y (by simp [hy])) _ (by omega) g.2.1 ?_
  have e : gcdOf acc x = (Int.gcd acc x : Int) := by unfold gcdOf; rw [if_pos ⟨⟨by omega, by omega⟩, by omega, by omega⟩]
  rw [e, show Int.gcd acc x = Nat.gcd acc.toNat x.toNat from by unfold Int.gcd; congr 1 <;> omega]
  refine Dn.gcd ha _ _ ?_ ?_
  · rwa [show ((acc.toNat : Nat) : Int) = acc from by omega]
  · rw [show ((x.toNat : Nat) : Int) = x from by omega]; exact hx.2
theorem all_classes {v : List Int} {a : Int} (ha : 1 ≤ a) (hv : ∀ x ∈ v, 1 ≤ x ∧ x ≤ 60) (hg : gl v = 1) (z : Int) : Dn v a z := by
 have h1 : Dn v a 1 := by
  rw [← hg]
  exact Dn.fold ha (fun x hx => ⟨hv x hx, x, Su.mem hx, rfl⟩) 0 (by omega) (by omega) ⟨0, Su.zero v, rfl⟩
 have := h1.mul ha z
 rwa [Int.one_mul] at this
end Go.Proofs.Ytonknpgfbkgbjaa.E
end
section
namespace Go.Proofs.Ytonknpgfbkgbjaa.E
open Go.RowKit Go.Proofs.Ytonknpgfbkgbjaa.PC Go.Proofs.YtonknpgfbkgbjaaW.PrintWords Go.Proofs.YtonknpgfbkgbjaaW.PrintLast Go.Proofs.YtonknpgfbkgbjaaW.PrintMore
set_option linter.unusedVariables false
set_option linter.unusedSimpArgs false
theorem leasts_l3 {v : List Int} {a G M : Int} (hv : ∀ x ∈ v, 1 ≤ x ∧ x ≤ G) (hG : 0 ≤ G) (hG' : G ≤ 1000) (ha : 1 ≤ a) (ha' : a ≤ 200) (hl : v.length ≤ 20) {r n : Int} (hr0 : 0 ≤ r) (hr1 : r < a) {P : List Int → Prop}
 (H : ∀ (t : List Int) (ch : Bool), LInv v a G t → weight (a * G + 1) t ≤ M → (ch = true → weight (a * G + 1) t < M) → (ch = false → ∀ s, 0 ≤ s → s < r + 1 → 0 ≤ rd t s → ∀ g ∈ v, 0 ≤ rd t ((rd t s + g) % a) ∧ rd t ((rd t s + g) % a) ≤ rd t s + g) → ∃ u, P u ∧ Ev (fun k => impl_leasts.l2 k v a t ch a (r + 1)) u) (d : Nat) :
 ∀ (t : List Int) (ch : Bool) (i : Int), 0 ≤ i → i + d = v.length → LInv v a G t → rd t r = n → 0 ≤ n → weight (a * G + 1) t ≤ M → (ch = true → weight (a * G + 1) t < M) →
  (ch = false → ∀ s, 0 ≤ s → s < r → 0 ≤ rd t s → ∀ g ∈ v, 0 ≤ rd t ((rd t s + g) % a) ∧ rd t ((rd t s + g) % a) ≤ rd t s + g) → (ch = false → ∀ j, 0 ≤ j → j < i → 0 ≤ rd t ((rd t r + rd v j) % a) ∧ rd t ((rd t r + rd v j) % a) ≤ rd t r + rd v j) →
  ∃ u, P u ∧ Ev (fun k => impl_leasts.l3 k v a t ch r n a r v v.length i) u := by
 have hm : a * G = (a - 1) * G + G := by rw [Int.sub_mul]; omega
 have haG : a * G ≤ 200 * 1000 := Int.mul_le_mul ha' hG' hG (by omega)
 induction d with
 | zero =>
  intro t ch i h0 h1 I hn hn0 hM h2 h3 h4
  obtain ⟨u, hu, hE⟩ := H t ch I hM h2 (by
   intro hc s hs0 hs1 hs g hg
   by_cases e : s = r
   · subst e
     obtain ⟨j, hj0, hj1, rfl⟩ := mem_rd hg
     exact h4 hc j hj0 (by omega)
   · exact h3 hc s hs0 (by omega) hs g hg)
  refine ⟨u, hu, Ev.step (fun k => by rw [impl_leasts.l3]) (ev_ifn (by omega) ?_)⟩
  rw [w64 (by omega) (by omega)]; exact hE
 | succ d ih =>
  intro t ch i h0 h1 I hn hn0 hM h2 h3 h4
  have hgm := rd_mem (l := v) h0 (by omega)
  have hg := hv _ hgm
  have hb := I.top hG hr0 hr1
  have hlen := I.len
  have hto : Int.tmod (r + rd v i) a = (rd t r + rd v i) % a := by
   rw [Int.tmod_eq_emod_of_nonneg (by omega), Int.add_emod (rd t r), (I.way r hr0 hr1 (by omega)).2, Int.add_emod, Int.emod_eq_of_lt hr0 hr1]
  have q0 := Int.emod_nonneg (rd t r + rd v i) (b := a) (by omega)
  have q1 := Int.emod_lt_of_pos (rd t r + rd v i) (b := a) (by omega)
  have change : (rd t ((rd t r + rd v i) % a) < 0 ∨ rd t r + rd v i < rd t ((rd t r + rd v i) % a)) → ∃ u, P u ∧ Ev (fun k => impl_leasts.l3 k v a (t.set ((rd t r + rd v i) % a).toNat (n + rd v i)) true r n a r v v.length (i + 1)) u := by
   intro hc
   obtain ⟨I', w', _, hne⟩ := I.step hv ha hr0 hr1 hgm (by omega) hc
   rw [show n + rd v i = rd t r + rd v i from by omega]
   refine ih _ true (i + 1) (by omega) (by omega) I' ?_ (by omega) (by omega) (fun _ => by omega) (fun h => by cases h) (fun h => by cases h)
   rw [rd_set _ q0 (by omega) hr0, if_neg (fun e => hne e.symm)]; exact hn
  have stay : ¬ (rd t ((rd t r + rd v i) % a) < 0 ∨ rd t r + rd v i < rd t ((rd t r + rd v i) % a)) → ∃ u, P u ∧ Ev (fun k => impl_leasts.l3 k v a t ch r n a r v v.length (i + 1)) u := by
   intro hc
   refine ih t ch (i + 1) (by omega) (by omega) I hn hn0 hM h2 h3 (fun hf j hj0 hj1 => ?_)
   by_cases e : j = i
   · subst e; omega
   · exact h4 hf j hj0 (by omega)
  have head : ∀ u, (∀ c1 : rd t ((rd t r + rd v i) % a) < 0, Ev (fun k => impl_leasts.l3 k v a (t.set ((rd t r + rd v i) % a).toNat (n + rd v i)) true r n a r v v.length (i + 1)) u) → (∀ c1 : ¬ rd t ((rd t r + rd v i) % a) < 0, ∀ c2 : n + rd v i < rd t ((rd t r + rd v i) % a), Ev (fun k => impl_leasts.l3 k v a (t.set ((rd t r + rd v i) % a).toNat (n + rd v i)) true r n a r v v.length (i + 1)) u) → (∀ c1 : ¬ rd t ((rd t r + rd v i) % a) < 0, ∀ c2 : ¬ n + rd v i < rd t ((rd t r + rd v i) % a), Ev (fun k => impl_leasts.l3 k v a t ch r n a r v v.length (i + 1)) u) → Ev (fun k => impl_leasts.l3 k v a t ch r n a r v v.length i) u := by
   intro u f1 f2 f3
   refine Ev.step (fun k => by rw [impl_leasts.l3]) ?_
   rw [w64 (x := r + rd v i) (by omega) (by omega), hto, w64 (x := n + rd v i) (by omega) (by omega), w64 (x := i + 1) (by omega) (by omega)]
   refine ev_ifp (by omega) (ev_ifp h0 (ev_ifp (by omega) (ev_ifn (by omega) (ev_ifp q0 (ev_ifp (by omega) ?_)))))
   by_cases c1 : rd t ((rd t r + rd v i) % a) < 0
   · exact ev_ifp c1 (f1 c1)
   · by_cases c2 : n + rd v i < rd t ((rd t r + rd v i) % a)
     · exact ev_ifn c1 (ev_ifp c2 (f2 c1 c2))
     · exact ev_ifn c1 (ev_ifn c2 (f3 c1 c2))
  by_cases c1 : rd t ((rd t r + rd v i) % a) < 0
  · obtain ⟨u, hu, hE⟩ := change (.inl c1)
    exact ⟨u, hu, head u (fun _ => hE) (fun h => absurd c1 h) (fun h => absurd c1 h)⟩
  · by_cases c2 : n + rd v i < rd t ((rd t r + rd v i) % a)
    · obtain ⟨u, hu, hE⟩ := change (.inr (by omega))
      exact ⟨u, hu, head u (fun h => absurd h c1) (fun _ _ => hE) (fun _ h => absurd c2 h)⟩
    · obtain ⟨u, hu, hE⟩ := stay (by omega)
      exact ⟨u, hu, head u (fun h => absurd h c1) (fun _ h => absurd h c2) (fun _ _ => hE)⟩
theorem leasts_l2 {v : List Int} {a G M : Int} (hv : ∀ x ∈ v, 1 ≤ x ∧ x ≤ G) (hG : 0 ≤ G) (hG' : G ≤ 1000) (ha : 1 ≤ a) (ha' : a ≤ 200) (hl : v.length ≤ 20)
 (H : ∀ t : List Int, LInv v a G t → weight (a * G + 1) t < M → ∃ u, Lst v a G u ∧ Ev (fun k => impl_leasts.l1 k v a t true) u) (d : Nat) :
 ∀ (t : List Int) (ch : Bool) (r : Int), 0 ≤ r → r + d = a → LInv v a G t → weight (a * G + 1) t ≤ M → (ch = true → weight (a * G + 1) t < M) →
  (ch = false → ∀ s, 0 ≤ s → s < r → 0 ≤ rd t s → ∀ g ∈ v, 0 ≤ rd t ((rd t s + g) % a) ∧ rd t ((rd t s + g) % a) ≤ rd t s + g) →
  ∃ u, Lst v a G u ∧ Ev (fun k => impl_leasts.l2 k v a t ch a r) u := by
 induction d with
 | zero =>
  intro t ch r h0 h1 I hM h2 h3
  cases ch with
  | true =>
   obtain ⟨u, hu, hE⟩ := H t I (h2 rfl)
   exact ⟨u, hu, Ev.step (fun k => by rw [impl_leasts.l2]) (ev_ifn (by omega) hE)⟩
  | false =>
   refine ⟨t, I.done hv hG ha (fun s hs0 hs1 hs g hg => h3 rfl s hs0 (by omega) hs g hg), Ev.step (fun k => by rw [impl_leasts.l2]) (ev_ifn (by omega) (Ev.step (fun k => by rw [impl_leasts.l1]) (ev_ifn (by simp) (Ev.now _))))⟩
 | succ d ih =>
  intro t ch r h0 h1 I hM h2 h3
  have hlen := I.len
  by_cases c : rd t r < 0
  · obtain ⟨u, hu, hE⟩ := ih t ch (r + 1) (by omega) (by omega) I hM h2 (fun hf s hs0 hs1 hs g hg => by
     by_cases e : s = r
     · subst e; omega
     · exact h3 hf s hs0 (by omega) hs g hg)
    refine ⟨u, hu, Ev.step (fun k => by rw [impl_leasts.l2]) (ev_ifp (by omega) (ev_ifp h0 (ev_ifp (by omega) (ev_ifp c ?_))))⟩
    rw [w64 (by omega) (by omega)]; exact hE
  · obtain ⟨u, hu, hE⟩ := leasts_l3 (M := M) (P := Lst v a G) hv hG hG' ha ha' hl h0 (by omega) (fun t ch I hM h2 h3 => ih t ch (r + 1) (by omega) (by omega) I hM h2 h3) v.length t ch 0 (by omega) (by omega) I rfl (by omega) hM h2 h3 (fun _ j hj0 hj1 => by omega)
    exact ⟨u, hu, Ev.step (fun k => by rw [impl_leasts.l2]) (ev_ifp (by omega) (ev_ifp h0 (ev_ifp (by omega) (ev_ifn c hE))))⟩
theorem leasts_l1 {v : List Int} {a G : Int} (hv : ∀ x ∈ v, 1 ≤ x ∧ x ≤ G) (hG : 0 ≤ G) (hG' : G ≤ 1000) (ha : 1 ≤ a) (ha' : a ≤ 200) (hl : v.length ≤ 20) (m : Nat) :
 ∀ t : List Int, LInv v a G t → weight (a * G + 1) t ≤ m → ∃ u, Lst v a G u ∧ Ev (fun k => impl_leasts.l1 k v a t true) u := by
 induction m using Nat.strongRecOn with
 | _ m ih =>
  intro t I hm
  have hB : 0 ≤ a * G + 1 := by have := Int.mul_nonneg (show 0 ≤ a by omega) hG; omega
  obtain ⟨u, hu, hE⟩ := leasts_l2 (M := weight (a * G + 1) t) hv hG hG' ha ha' hl (fun t' I' h' => ih (weight (a * G + 1) t').toNat (by have := weight_nonneg hB t'; have := weight_nonneg hB t; omega) t' I' (by have := weight_nonneg hB t'; omega)) a.toNat t false 0 (by omega) (by omega) I (Int.le_refl _) (fun h => by cases h) (fun _ s hs0 hs1 => by omega)
  refine ⟨u, hu, Ev.step (fun k => by rw [impl_leasts.l1]) (ev_ifp rfl ?_)⟩
  rw [I.len]; exact hE
theorem leasts_l0 {v : List Int} {a : Int} (ha : 1 ≤ a) (ha' : a ≤ 200) {u : List Int} (H : Ev (fun k => impl_leasts.l1 k v a ((List.replicate a.toNat (-1)).set 0 0) true) u) (d : Nat) :
 ∀ (i : Int) (row : List Int), 0 ≤ i → i + d = a → (row.length : Int) = a → (∀ j, 0 ≤ j → j < i → rd row j = -1) → Ev (fun k => impl_leasts.l0 k v a row a i) u := by
 induction d with
 | zero =>
  intro i row h0 h1 h2 h3
  have e : row = List.replicate a.toNat (-1) := rd_ext (by simp; omega) fun j hj hj' => by rw [h3 j hj (by omega), rd_rep hj (by omega)]
  subst e
  refine Ev.step (fun k => by rw [impl_leasts.l0]) ?_
  exact ev_ifn (by omega) (ev_ifp (by omega) H)
 | succ d ih =>
  intro i row h0 h1 h2 h3
  refine Ev.step (fun k => by rw [impl_leasts.l0]) ?_
  simp (disch := omega) only [if_pos, w64]
  refine ih (i + 1) _ (by omega) (by omega) (by simpa using h2) fun j hj hj' => ?_
  rw [rd_set _ h0 (by omega) hj]
  by_cases e : j = i
  · rw [if_pos e]
  · rw [if_neg e]; exact h3 j hj (by omega)
theorem leasts_ev {v : List Int} {a G : Int} (hv : ∀ x ∈ v, 1 ≤ x ∧ x ≤ G) (hG : 0 ≤ G) (hG' : G ≤ 1000) (ha : 1 ≤ a) (ha' : a ≤ 200) (hl : v.length ≤ 20) : ∃ u, Lst v a G u ∧ Ev (fun k => impl_leasts.f k v a) u := by
 have hB : 0 ≤ a * G + 1 := by have := Int.mul_nonneg (show 0 ≤ a by omega) hG; omega
 obtain ⟨u, hu, hE⟩ := leasts_l1 hv hG hG' ha ha' hl (weight (a * G + 1) ((List.replicate a.toNat (-1)).set 0 0)).toNat _ (LInv.first ha hG) (by have := weight_nonneg hB ((List.replicate a.toNat (-1)).set 0 0); omega)
 refine ⟨u, hu, ?_⟩
 unfold impl_leasts.f
 refine ev_ifp (by omega) (ev_ifp (by omega) ?_)
 simp only [Option.bind_some]
 rw [show ((List.replicate a.toNat (0 : Int)).length : Int) = a from by simp; omega]
 exact leasts_l0 ha ha' hE a.toNat 0 _ (by omega) (by omega) (by simp; omega) (fun j h h' => by omega)
theorem usableI_ev {v : List Int} (hl : v.length ≤ 1099511627776) : Ev (fun k => impl_usable.f k v) (decide (UL v)) := by
 unfold impl_usable.f
 simp only [within_eq, Option.bind_some]
 by_cases h : 1 ≤ (v.length : Int) ∧ (v.length : Int) ≤ 20
 · exact ev_ifp (by simpa using h) (ev_bind _ (allWithin_ev 1 60 hl) (ev_to (Ev.now _) (by simp only [UL, h, true_and])))
 · exact ev_ifn (by simpa using h) (ev_to (Ev.now _) (decide_eq_false (fun u => h u.1)).symm)
theorem gensS_l {v : List Int} (hl : v.length ≤ 1099511627776) (d : Nat) : ∀ i : Int, 0 ≤ i → i + d = v.length → (∀ j, 0 ≤ j → j < i → 1 ≤ rd v j ∧ rd v j ≤ 60) → Ev (fun k => spec_l3Gens.l0 k v i) (decide (UL v)) := by
 induction d with
 | zero =>
  intro i h0 h1 h2
  refine Ev.step (fun k => by rw [spec_l3Gens.l0]) ?_
  simp only [l1In_eq, Option.bind_some]
  refine ev_ifn (by omega) (ev_to (Ev.now _) ?_)
  have : ∀ x ∈ v, 1 ≤ x ∧ x ≤ 60 := fun x hx => by
   obtain ⟨j, hj, hj', rfl⟩ := mem_rd hx; exact h2 j hj (by omega)
  exact decide_eq_decide.2 ⟨fun h => ⟨h, this⟩, fun h => h.1⟩
 | succ d ih =>
  intro i h0 h1 h2
  refine Ev.step (fun k => by rw [spec_l3Gens.l0]) ?_
  simp only [l1In_eq, Option.bind_some]
  rw [w64 (by omega) (by omega)]
  by_cases h : 1 ≤ rd v i ∧ rd v i ≤ 60
  · refine ev_ifp (by omega) (ev_ifp h0 (ev_ifp (by simpa using h) (ih (i + 1) (by omega) (by omega) (fun j hj hj' => ?_))))
    by_cases e : j = i
    · rw [e]; exact h
    · exact h2 j hj (by omega)
  · exact ev_ifp (by omega) (ev_ifp h0 (ev_ifn (by simpa using h) (ev_to (Ev.now _) (decide_eq_false (fun u => h (u.2 _ (rd_mem h0 (by omega))))).symm)))
theorem gensS_ev {v : List Int} (hl : v.length ≤ 1099511627776) : Ev (fun k => spec_l3Gens.f k v) (decide (UL v)) :=
 gensS_l hl v.length 0 (by omega) (by omega) (fun j h h' => by omega)
def Gen (v : List Int) (n : Int) : Prop := UL v ∧ (0 ≤ n ∧ n ≤ 1000000) ∧ Su v n
noncomputable instance (v : List Int) (n : Int) : Decidable (Gen v n) := Classical.propDecidable _
theorem genI_ev {v : List Int} (n : Int) (hl : v.length ≤ 1099511627776) : Ev (fun k => impl_Generates.f k v n) (decide (Gen v n)) := by
 unfold impl_Generates.f
 simp only [within_eq, Option.bind_some]
 by_cases hu : UL v
 · by_cases hn : 0 ≤ n ∧ n ≤ 1000000
   · obtain ⟨f1, f2, f3⟩ := hu.first
     have hlen := hu.1
     obtain ⟨u, hL, hE⟩ := leasts_ev (G := 60) (a := rd v 0) hu.2 (by omega) (by omega) f2 (by omega) (by omega)
     have q0 := Int.emod_nonneg n (b := rd v 0) (by omega)
     have q1 := Int.emod_lt_of_pos n (b := rd v 0) (by omega)
     have hs := hL.su (n := n) f2 (Su.mem f1)
     have hll := hL.len
     rw [Int.tmod_eq_emod_of_nonneg hn.1]
     refine ev_bind _ (usableI_ev hl) (ev_ifp (by simpa using hu) (ev_ifp (by simpa using hn) (ev_ifp (by omega) (ev_bind _ hE (ev_ifn (by omega) (ev_ifp q0 (ev_ifp (by omega) ?_)))))))
     by_cases c : rd u (n % rd v 0) ≥ 0
     · refine ev_ifp c (ev_to (Ev.now _) (decide_eq_decide.2 ?_))
       exact ⟨fun h => ⟨hu, hn, hs.2 ⟨c, h⟩⟩, fun h => (hs.1 h.2.2).2⟩
     · exact ev_ifn c (ev_to (Ev.now _) (decide_eq_false (fun h => c (hs.1 h.2.2).1)).symm)
   · exact ev_bind _ (usableI_ev hl) (ev_ifp (by simpa using hu) (ev_ifn (by simpa using hn) (ev_to (Ev.now _) (decide_eq_false (fun h => hn h.2.1)).symm)))
 · exact ev_bind _ (usableI_ev hl) (ev_ifn (by simpa using hu) (ev_to (Ev.now _) (decide_eq_false (fun h => hu h.1)).symm))
end Go.Proofs.Ytonknpgfbkgbjaa.E
end
section
namespace Go.Proofs.Ytonknpgfbkgbjaa.E
open Go.RowKit Go.Proofs.YtonknpgfbkgbjaaW.PrintWords Go.Proofs.YtonknpgfbkgbjaaW.PrintLast Go.Proofs.YtonknpgfbkgbjaaW.PrintMore
set_option linter.unusedVariables false
set_option linter.unusedSimpArgs false
theorem take_ul {v : List Int} (hv : ∀ x ∈ v, 1 ≤ x ∧ x ≤ 60) (i : Nat) : ∀ x ∈ v.take i, 1 ≤ x ∧ x ≤ 60 := fun x hx => hv x (List.mem_of_mem_take hx)
theorem take_len {v : List Int} {i : Int} (h0 : 0 ≤ i) (hi : i ≤ v.length) : ((v.take i.toNat).length : Int) = i := by rw [List.length_take]; omega
end Go.Proofs.Ytonknpgfbkgbjaa.E
end
section
namespace Go.Proofs.Ytonknpgfbkgbjaa.E
open Go.RowKit Go.Proofs.Ytonknpgfbkgbjaa.PC Go.Proofs.YtonknpgfbkgbjaaW.PrintWords Go.Proofs.YtonknpgfbkgbjaaW.PrintLast Go.Proofs.YtonknpgfbkgbjaaW.PrintMore
set_option linter.unusedVariables false
set_option linter.unusedSimpArgs false
structure SG (v : List Int) : Prop where
 ul : UL v
 len : (v.length : Int) ≤ 12
 asc : Asc v
 gcd : gl v = 1
 min : ∀ i : Int, 1 ≤ i → i < v.length → ¬ Su (v.take i.toNat) (rd v i)
 ends : ∀ n, 200 ≤ n → Su v n
noncomputable instance (v : List Int) : Decidable (SG v) := Classical.propDecidable _
theorem ends_iff {v : List Int} {a : Int} (ha : 1 ≤ a) (hav : Su v a) : (∀ n, 200 ≤ n → Su v n) ↔ ∀ n, 200 ≤ n → n < 200 + a → Su v n := by
 constructor
 · intro h n h1 _; exact h n h1
 · intro h n hn
   have q0 := Int.emod_nonneg (n - 200) (b := a) (by omega)
   have q1 := Int.emod_lt_of_pos (n - 200) (b := a) (by omega)
   have le := emod_le_self (n := n - 200) (x := a) (by omega) (by omega)
   refine Su.up ha hav (h (200 + (n - 200) % a) (by omega) (by omega)) (by omega) ?_
   rw [Int.add_emod_emod]; congr 1; omega
theorem Lst.all {v : List Int} {a G : Int} {t : List Int} (h : Lst v a G t) (ha : 1 ≤ a) (hv : ∀ x ∈ v, 1 ≤ x ∧ x ≤ 60) (hg : gl v = 1) {r : Int} (h0 : 0 ≤ r) (h1 : r < a) : 0 ≤ rd t r := by
 obtain ⟨n, ⟨c, w⟩, e⟩ := all_classes ha hv hg r
 have := (h.least n c w).1
 rwa [e, Int.emod_eq_of_lt h0 h1] at this
theorem ends_lst {v : List Int} {a G : Int} {t : List Int} (h : Lst v a G t) (ha : 1 ≤ a) (hav : Su v a) (hv : ∀ x ∈ v, 1 ≤ x ∧ x ≤ 60) (hg : gl v = 1) : (∀ n, 200 ≤ n → Su v n) ↔ ∀ r, 0 ≤ r → r < a → rd t r < 200 + a := by
 rw [ends_iff ha hav]
 constructor
 · intro k r h0 h1
   have q0 := Int.emod_nonneg (r - 200) (b := a) (by omega)
   have q1 := Int.emod_lt_of_pos (r - 200) (b := a) (by omega)
   have e : (200 + (r - 200) % a) % a = r := by
    rw [Int.add_emod_emod, show 200 + (r - 200) = r from by omega, Int.emod_eq_of_lt h0 h1]
   have := (h.su ha hav).1 (k (200 + (r - 200) % a) (by omega) (by omega))
   rw [e] at this
   omega
 · intro k n h0 h1
   have q0 := Int.emod_nonneg n (b := a) (by omega)
   have q1 := Int.emod_lt_of_pos n (b := a) (by omega)
   have p := h.all ha hv hg q0 q1
   have b := k _ q0 q1
   refine (h.su ha hav).2 ⟨p, ?_⟩
   have e := (h.way _ q0 q1 p).2
   by_cases c : rd t (n % a) ≤ n
   · exact c
   · exfalso
     have e1 := Int.mul_ediv_add_emod n a
     have e2 := Int.mul_ediv_add_emod (rd t (n % a)) a
     rw [e] at e2
     have hq : a * (n / a) < a * (rd t (n % a) / a) := by omega
     have hq' : n / a < rd t (n % a) / a := Int.lt_of_mul_lt_mul_left hq (by omega)
     have : a * (n / a + 1) ≤ a * (rd t (n % a) / a) := Int.mul_le_mul_of_nonneg_left (by omega) (by omega)
     rw [Int.mul_add] at this
     omega
theorem sgI_l1 {v u : List Int} {a : Int} (hl : 0 < (v.length : Int)) (ha : rd v 0 = a) (ha1 : 1 ≤ a ∧ a ≤ 60) (hul : (u.length : Int) = a) (hb : ∀ r, 0 ≤ r → r < a → -1 ≤ rd u r ∧ rd u r ≤ 3600) (d : Nat) : ∀ i : Int, 0 ≤ i → i + d = a → ∃ r : Bool, Ev (fun k => impl_IsSemigroup.l1 k v u a i) r ∧ (r = true ↔ ∀ j, i ≤ j → j < a → rd u j < 200 + a) := by
 induction d with
 | zero =>
  intro i h0 h1
  exact ⟨true, Ev.step (fun k => by rw [impl_IsSemigroup.l1]) (ev_ifn (by omega) (Ev.now _)), fun _ j hj hj' => by omega, fun _ => rfl⟩
 | succ d ih =>
  intro i h0 h1
  have b := hb i h0 (by omega)
  by_cases c : rd u i - a ≥ 200
  · refine ⟨false, Ev.step (fun k => by rw [impl_IsSemigroup.l1]) ?_, fun h => (by cases h), fun h => ?_⟩
    · rw [ha, w64 (x := rd u i - a) (by omega) (by omega)]
      exact ev_ifp (by omega) (ev_ifp h0 (ev_ifp (by omega) (ev_ifp hl (ev_ifp c (Ev.now _)))))
    · have := h i (Int.le_refl _) (by omega); omega
  · obtain ⟨r, hE, hr⟩ := ih (i + 1) (by omega) (by omega)
    refine ⟨r, Ev.step (fun k => by rw [impl_IsSemigroup.l1]) ?_, ?_⟩
    · rw [ha, w64 (x := rd u i - a) (by omega) (by omega), w64 (x := i + 1) (by omega) (by omega)]
      exact ev_ifp (by omega) (ev_ifp h0 (ev_ifp (by omega) (ev_ifp hl (ev_ifn c hE))))
    · rw [hr]
      constructor
      · intro h j hj hj'
        by_cases e : j = i
        · rw [e]; omega
        · exact h j (by omega) hj'
      · intro h j hj hj'; exact h j (by omega) hj'
theorem gen_take {v : List Int} (hu : UL v) {i : Int} (h0 : 1 ≤ i) (hi : i < v.length) : Gen (v.take i.toNat) (rd v i) ↔ Su (v.take i.toNat) (rd v i) := by
 have hx := hu.2 _ (rd_mem (l := v) (i := i) (by omega) hi)
 have hl := hu.1
 exact ⟨fun h => h.2.2, fun h => ⟨⟨by rw [take_len (by omega) (by omega)]; omega, take_ul hu.2 _⟩, by omega, h⟩⟩
theorem sgI_l0 {v : List Int} (hu : UL v) (hg : gl v = 1) (d : Nat) : ∀ i : Int, 1 ≤ i → i + d = max 1 v.length → ∃ r : Bool, Ev (fun k => impl_IsSemigroup.l0 k v i) r ∧ (r = true ↔ (∀ j : Int, i ≤ j → j < v.length → ¬ Su (v.take j.toNat) (rd v j)) ∧ ∀ n, 200 ≤ n → Su v n) := by
 have hlen := hu.1
 induction d with
 | zero =>
  intro i h0 h1
  obtain ⟨f1, f2, f3⟩ := hu.first
  obtain ⟨u, hL, hE⟩ := leasts_ev (G := 60) (a := rd v 0) hu.2 (by omega) (by omega) f2 (by omega) (by omega)
  have hll := hL.len
  obtain ⟨r, hE', hr⟩ := sgI_l1 (v := v) (u := u) (a := rd v 0) (by omega) rfl ⟨f2, f3⟩ hll (fun r h0 h1 => ⟨hL.ge r h0 h1, by have := hL.bound r h0 h1; omega⟩) (rd v 0).toNat 0 (by omega) (by omega)
  refine ⟨r, Ev.step (fun k => by rw [impl_IsSemigroup.l0]) ?_, ?_⟩
  · refine ev_ifn (by omega) (ev_ifp (by omega) (ev_bind _ hE ?_))
    rw [hll]; exact hE'
  · rw [hr, ends_lst hL f2 (Su.mem f1) hu.2 hg]
    exact ⟨fun h => ⟨fun j hj hj' => by omega, h⟩, fun h => h.2⟩
 | succ d ih =>
  intro i h0 h1
  have g := gen_take hu h0 (by omega)
  have tl := take_len (v := v) (i := i) (by omega) (by omega)
  by_cases c : Su (v.take i.toNat) (rd v i)
  · refine ⟨false, Ev.step (fun k => by rw [impl_IsSemigroup.l0]) ?_, fun h => (by cases h), fun h => absurd c (h.1 i (Int.le_refl _) (by omega))⟩
    exact ev_ifp (by omega) (ev_ifp (by omega) (ev_ifp (by omega) (ev_bind _ (genI_ev _ (by omega)) (ev_ifp (by simpa using g.2 c) (Ev.now _)))))
  · obtain ⟨r, hE, hr⟩ := ih (i + 1) (by omega) (by omega)
    refine ⟨r, Ev.step (fun k => by rw [impl_IsSemigroup.l0]) ?_, ?_⟩
    · rw [w64 (x := i + 1) (by omega) (by omega)]
      exact ev_ifp (by omega) (ev_ifp (by omega) (ev_ifp (by omega) (ev_bind _ (genI_ev _ (by omega)) (ev_ifn (by simpa using fun h => c (g.1 h)) hE))))
    · rw [hr]
      constructor
      · rintro ⟨h, h'⟩
        refine ⟨fun j hj hj' => ?_, h'⟩
        by_cases e : j = i
        · rw [e]; exact c
        · exact h j (by omega) hj'
      · rintro ⟨h, h'⟩; exact ⟨fun j hj hj' => h j (by omega) hj', h'⟩
theorem sgI_ev {v : List Int} (hl : v.length ≤ 1099511627776) : Ev (fun k => impl_IsSemigroup.f k v) (decide (SG v)) := by
 unfold impl_IsSemigroup.f
 simp only [within_eq, Option.bind_some]
 have no : ¬ SG v → Ev (fun k => impl_IsSemigroup.j0 k v true) (decide (SG v)) := fun h => by
  refine Ev.step (fun k => by rw [impl_IsSemigroup.j0]) ?_
  exact ev_ifp rfl (ev_to (Ev.now _) (decide_eq_false h).symm)
 by_cases c1 : 1 ≤ (v.length : Int) ∧ (v.length : Int) ≤ 12
 · refine ev_ifp (by simpa using c1) ?_
   by_cases c2 : ∀ x ∈ v, 1 ≤ x ∧ x ≤ 60
   · refine ev_bind _ (allWithin_ev 1 60 hl) (ev_ifp (by rw [decide_eq_true_eq]; exact c2) ?_)
     have hu : UL v := ⟨by omega, c2⟩
     by_cases c3 : Asc v
     · refine ev_bind _ (ascI_ev hl) (ev_ifp (by simpa using c3) (ev_bind _ (gcdListI_ev hl) ?_))
       by_cases c4 : gl v = 1
       · obtain ⟨r, hE, hr⟩ := sgI_l0 hu c4 (v.length - 1) 1 (by omega) (by omega)
         refine Ev.step (fun k => by rw [impl_IsSemigroup.j0]) ?_
         refine ev_ifn (by simpa using c4) (ev_to hE ?_)
         rw [Bool.eq_iff_iff, hr, decide_eq_true_eq]
         exact ⟨fun h => ⟨hu, c1.2, c3, c4, h.1, h.2⟩, fun h => ⟨h.min, h.ends⟩⟩
       · rw [show (gl v != 1) = true from by simpa using c4]
         exact no (fun h => c4 h.gcd)
     · exact ev_bind _ (ascI_ev hl) (ev_ifn (by simpa using c3) (no (fun h => c3 h.asc)))
   · exact ev_bind _ (allWithin_ev 1 60 hl) (ev_ifn (by rw [decide_eq_true_eq]; exact c2) (no (fun h => c2 h.ul.2)))
 · exact ev_ifn (by simpa using c1) (no (fun h => c1 ⟨h.ul.1.1, h.len⟩))
noncomputable def stab (v : List Int) (m : Int) : List Bool := (List.range (m + 1).toNat).map (fun n : Nat => decide (Su v (n : Int)))
theorem stab_len {v : List Int} {m : Int} (h : 0 ≤ m) : ((stab v m).length : Int) = m + 1 := by unfold stab; simp; omega
theorem rdb_lt {l : List Bool} {i : Int} (h0 : 0 ≤ i) (h : i < l.length) : rdOf false l i = l[i.toNat]'(by omega) := by
 unfold rdOf; rw [List.getD_eq_getElem?_getD, List.getElem?_eq_getElem (by omega)]; rfl
theorem rdb_ext {l m : List Bool} (hl : l.length = m.length) (h : ∀ i : Int, 0 ≤ i → i < l.length → rdOf false l i = rdOf false m i) : l = m := by
 refine List.ext_getElem hl fun n h1 h2 => ?_
 have := h n (by omega) (by omega)
 rw [rdb_lt (by omega) (by omega), rdb_lt (by omega) (by omega)] at this
 simpa using this
theorem stab_rd {v : List Int} {m j : Int} (h0 : 0 ≤ j) (h : j ≤ m) : rdOf false (stab v m) j = decide (Su v j) := by
 have := stab_len (v := v) (m := m) (by omega)
 rw [rdb_lt h0 (by omega)]
 unfold stab
 rw [List.getElem_map, List.getElem_range, show ((j.toNat : Nat) : Int) = j from by omega]
theorem stab_iff {v : List Int} {m j : Int} (h0 : 0 ≤ j) (h : j ≤ m) : rdOf false (stab v m) j = true ↔ Su v j := by rw [stab_rd h0 h]; simp
theorem stab_eq {v : List Int} {m : Int} (hm : 0 ≤ m) {t : List Bool} (hl : (t.length : Int) = m + 1) (h : ∀ j, 0 ≤ j → j ≤ m → (rdOf false t j = true ↔ Su v j)) : t = stab v m := by
 have e := stab_len (v := v) hm
 refine rdb_ext (by omega) fun i h0 h1 => ?_
 rw [stab_rd h0 (by omega), Bool.eq_iff_iff, h i h0 (by omega), decide_eq_true_eq]
theorem tabS_st {v : List Int} (hl : v.length ≤ 20) (hv : ∀ x ∈ v, 1 ≤ x ∧ x ≤ 60) {most : Int} (h0 : 0 ≤ most) (hm : most ≤ 1048576) : Ev (fun k => spec_l3Table.f k v most) (stab v most) := by
 obtain ⟨t, a, b, c⟩ := tabS_ev hl hv h0 hm
 rw [stab_eq h0 a b] at c
 exact c
theorem tabI_l {v u : List Int} (hu : UL v) (hg : gl v = 1) (hL : Lst v (rd v 0) 60 u) {most : Int} (hm0 : 0 ≤ most) (hm : most ≤ 1048576) (d : Nat) : ∀ (i : Int) (out : List Bool), 0 ≤ i → i + d = most + 1 → (out.length : Int) = most + 1 → (∀ j, 0 ≤ j → j < i → (rdOf false out j = true ↔ Su v j)) → Ev (fun k => impl_table.l0 k u out (most + 1) i v) (stab v most) := by
 have f := hu.first
 obtain ⟨_, fa, fb⟩ := f
 have f := hu.first
 have hlen := hu.1
 have hll := hL.len
 induction d with
 | zero =>
  intro i out h0 h1 h2 h3
  refine Ev.step (fun k => by rw [impl_table.l0]) ?_
  rw [stab_eq (v := v) (m := most) (t := out) (by omega) h2 (fun j a b => h3 j a (by omega))]
  exact ev_ifn (by omega) (Ev.now _)
 | succ d ih =>
  intro i out h0 h1 h2 h3
  have q0 := Int.emod_nonneg i (b := rd v 0) (by omega)
  have q1 := Int.emod_lt_of_pos i (b := rd v 0) (by omega)
  have p := hL.all f.2.1 hu.2 hg q0 q1
  have s := hL.su f.2.1 (Su.mem f.1) (n := i)
  refine Ev.step (fun k => by rw [impl_table.l0]) ?_
  rw [Int.tmod_eq_emod_of_nonneg h0, w64 (x := i + 1) (by omega) (by omega)]
  refine ev_ifp (by omega) (ev_ifp (by omega) (ev_ifn (by omega) (ev_ifp q0 (ev_ifp (by omega) (ev_ifp h0 (ev_ifp (by omega) (ih (i + 1) _ (by omega) (by omega) (by simpa using h2) fun j hj hj' => ?_)))))))
  rw [rdb_set _ h0 (by omega) hj]
  by_cases e : j = i
  · subst e
    rw [if_pos rfl, decide_eq_true_eq, s]
    exact ⟨fun h => ⟨p, h⟩, fun h => h.2⟩
  · rw [if_neg e]; exact h3 j hj (by omega)
theorem tabI_st {v : List Int} (hu : UL v) (hg : gl v = 1) {most : Int} (h0 : 0 ≤ most) (hm : most ≤ 1048576) : Ev (fun k => impl_table.f k v most) (stab v most) := by
 obtain ⟨f1, f2, f3⟩ := hu.first
 have hlen := hu.1
 obtain ⟨u, hL, hE⟩ := leasts_ev (G := 60) (a := rd v 0) hu.2 (by omega) (by omega) f2 (by omega) (by omega)
 have e0 : ((List.replicate (most + 1).toNat false).length : Int) = most + 1 := by simp; omega
 unfold impl_table.f
 refine ev_ifp (by omega) (ev_bind _ hE ?_)
 rw [w64 (by omega) (by omega)]
 simp only [Option.bind_some]
 refine ev_ifp (by omega) (ev_ifp (by omega) ?_)
 rw [e0]
 exact tabI_l hu hg hL h0 hm (most + 1).toNat 0 _ (by omega) (by omega) e0 (fun j a b => by omega)
noncomputable def isgap (v : List Int) (n : Int) : Bool := !decide (Su v n)
noncomputable def gp (v : List Int) : List Int := fl (isgap v) 1 199
theorem isgap_t {v : List Int} {n : Int} : isgap v n = true ↔ ¬ Su v n := by unfold isgap; simp
theorem SG.su200 {v : List Int} (h : SG v) : Su v 200 := h.ends 200 (by omega)
theorem SG.sutab {v : List Int} (h : SG v) {m : Int} (h0 : 0 ≤ m) (hm : m ≤ 1048576) : Ev (fun k => impl_table.f k v m) (stab v m) := tabI_st h.ul h.gcd h0 hm
theorem SG.sutabS {v : List Int} (h : SG v) {m : Int} (h0 : 0 ≤ m) (hm : m ≤ 1048576) : Ev (fun k => spec_l3Table.f k v m) (stab v m) := tabS_st (by have := h.len; omega) h.ul.2 h0 hm
theorem gp_wide {v : List Int} (h : SG v) : fl (isgap v) 0 201 = gp v := by
 have a : ¬ isgap v 0 = true := by rw [isgap_t]; simpa using Su.zero v
 have b : ¬ isgap v 200 = true := by rw [isgap_t]; simpa using h.su200
 rw [show (201 : Nat) = 200 + 1 from rfl, fl_no a, show (200 : Nat) = 199 + 1 from rfl, fl_app, show (0 : Int) + 1 = 1 from rfl, show (1 : Int) + ((199 : Nat) : Int) = 200 from rfl, show (1 : Nat) = 0 + 1 from rfl, fl_no b]
 unfold gp
 rw [show fl (isgap v) (200 + 1) 0 = [] from rfl, List.append_nil]
theorem gp_mem {v : List Int} {x : Int} : x ∈ gp v ↔ 1 ≤ x ∧ x < 200 ∧ ¬ Su v x := by
 unfold gp; rw [fl_mem, isgap_t]; constructor <;> rintro ⟨a, b, c⟩ <;> exact ⟨a, by omega, c⟩
theorem gp_len (v : List Int) : (gp v).length ≤ 199 := fl_len _ _ _
end Go.Proofs.Ytonknpgfbkgbjaa.E
end
section
namespace Go.Proofs.Ytonknpgfbkgbjaa.E
open Go.RowKit Go.Proofs.YtonknpgfbkgbjaaW.PrintWords Go.Proofs.YtonknpgfbkgbjaaW.PrintLast Go.Proofs.YtonknpgfbkgbjaaW.PrintMore
set_option linter.unusedVariables false
set_option linter.unusedSimpArgs false
def VG (g : List Int) : Prop := Asc g ∧ ∀ x ∈ g, 1 ≤ x ∧ x ≤ 199
noncomputable instance (g : List Int) : Decidable (VG g) := Classical.propDecidable _
def CF (g : List Int) : Prop := ∀ a b : Int, 1 ≤ a → 1 ≤ b → a ∉ g → b ∉ g → a + b ∉ g
noncomputable instance (g : List Int) : Decidable (CF g) := Classical.propDecidable _
theorem VG.len {g : List Int} (h : VG g) : g.length ≤ 199 := by
 have k : ∀ d : Nat, d < g.length → (d : Int) + 1 ≤ rd g d := by
  intro d
  induction d with
  | zero => intro hd; have := h.2 _ (rd_mem (l := g) (i := ((0 : Nat) : Int)) (by omega) (by omega)); omega
  | succ d ih =>
   intro hd
   have := h.1 ((d + 1 : Nat) : Int) (by omega) (by omega)
   rw [show (((d + 1 : Nat) : Int)) - 1 = (d : Int) from by omega] at this
   have := ih (by omega)
   omega
 by_cases c : g.length ≤ 199
 · exact c
 · have a := k 199 (by omega)
   have b := h.2 _ (rd_mem (l := g) (i := ((199 : Nat) : Int)) (by omega) (by omega))
   omega
def topg (g : List Int) : Int := if g.length = 0 then 0 else rd g (g.length - 1)
theorem VG.top {g : List Int} (h : VG g) : 0 ≤ topg g ∧ topg g ≤ 199 ∧ ∀ x ∈ g, x ≤ topg g := by
 unfold topg
 by_cases c : g.length = 0
 · rw [if_pos c]
   have : g = [] := by simpa using c
   subst this
   simp
 · rw [if_neg c]
   have b := h.2 _ (rd_mem (l := g) (i := (g.length : Int) - 1) (by omega) (by omega))
   refine ⟨by omega, b.2, fun x hx => ?_⟩
   obtain ⟨i, i0, i1, rfl⟩ := mem_rd hx
   by_cases e : i = g.length - 1
   · rw [e]; exact Int.le_refl _
   · exact Int.le_of_lt (asc_lt h.1 ((g.length : Int) - 1 - i - 1).toNat i _ i0 (by omega) (by omega))
noncomputable def isMin (g : List Int) (n : Int) : Bool := @decide (n ∉ g ∧ ∀ a b : Int, 1 ≤ a → 1 ≤ b → a ∉ g → b ∉ g → a + b ≠ n) (Classical.propDecidable _)
theorem isMin_t {g : List Int} {n : Int} : isMin g n = true ↔ (n ∉ g ∧ ∀ a b : Int, 1 ≤ a → 1 ≤ b → a ∉ g → b ∉ g → a + b ≠ n) := by unfold isMin; exact @decide_eq_true_iff _ (Classical.propDecidable _)
noncomputable def mg (g : List Int) : List Int := fl (isMin g) 1 400
theorem mg_cut {g : List Int} (h : VG g) {d : Nat} (hd : 2 * topg g + 1 ≤ d) (hd' : d ≤ 400) : fl (isMin g) 1 d = mg g := by
 obtain ⟨t0, t1, t2⟩ := h.top
 unfold mg
 rw [show (400 : Nat) = d + (400 - d) from by omega, fl_app, fl_none (400 - d), List.append_nil]
 intro x x0 x1 hx
 rw [isMin_t] at hx
 refine hx.2 (topg g + 1) (x - (topg g + 1)) (by omega) (by omega) (fun k => by have := t2 _ k; omega) (fun k => by have := t2 _ k; omega) (by omega)
theorem su_fl {g : List Int} (hc : CF g) (d : Nat) : ∀ m : Int, (Su (fl (isMin g) 1 d) m → m = 0 ∨ (1 ≤ m ∧ m ∉ g)) ∧ (1 ≤ m → m ≤ d → m ∉ g → Su (fl (isMin g) 1 d) m) := by
 have one : ∀ m : Int, Su (fl (isMin g) 1 d) m → m = 0 ∨ (1 ≤ m ∧ m ∉ g) := by
  rintro m ⟨c, w⟩
  induction w with
  | zero => exact .inl rfl
  | @add x k c hx hw ih =>
   obtain ⟨x1, x2, x3⟩ := (fl_mem _ _).1 hx
   rw [isMin_t] at x3
   rcases ih with e | ⟨k1, k2⟩
   · right; rw [e]; exact ⟨by omega, by rw [show 0 + x = x from by omega]; exact x3.1⟩
   · right; exact ⟨by omega, hc k x k1 x1 k2 x3.1⟩
 have two : ∀ q : Nat, ∀ m : Int, m.toNat ≤ q → 1 ≤ m → m ≤ d → m ∉ g → Su (fl (isMin g) 1 d) m := by
  intro q
  induction q with
  | zero => intro m h0 h1; omega
  | succ q ih =>
   intro m h0 h1 h2 h3
   by_cases c : isMin g m = true
   · exact Su.mem ((fl_mem _ _).2 ⟨h1, by omega, c⟩)
   · rw [isMin_t] at c
     have : ∃ a b : Int, 1 ≤ a ∧ 1 ≤ b ∧ a ∉ g ∧ b ∉ g ∧ a + b = m := Classical.byContradiction fun k => c ⟨h3, fun a b a1 b1 a2 b2 e => k ⟨a, b, a1, b1, a2, b2, e⟩⟩
     obtain ⟨a, b, a1, b1, a2, b2, e⟩ := this
     have := (ih a (by omega) a1 (by omega) a2).add (ih b (by omega) b1 (by omega) b2)
     rwa [e] at this
 exact fun m => ⟨one m, fun h1 h2 h3 => two m.toNat m (Nat.le_refl _) h1 h2 h3⟩
theorem su_new {g : List Int} (hc : CF g) {n : Nat} (hn : ((n : Int) + 1) ∉ g) : Su (fl (isMin g) 1 n) ((n : Int) + 1) ↔ ¬ isMin g ((n : Int) + 1) = true := by
 constructor
 · intro h k
   rw [isMin_t] at k
   obtain ⟨x, hx, hs⟩ := (Su.last (by omega)).1 h
   obtain ⟨x1, x2, x3⟩ := (fl_mem _ _).1 hx
   rw [isMin_t] at x3
   rcases (su_fl hc n _).1 hs with e | ⟨e1, e2⟩
   · omega
   · exact k.2 x _ x1 e1 x3.1 e2 (by omega)
 · intro k
   rw [isMin_t] at k
   have : ∃ a b : Int, 1 ≤ a ∧ 1 ≤ b ∧ a ∉ g ∧ b ∉ g ∧ a + b = (n : Int) + 1 := Classical.byContradiction fun q => k ⟨hn, fun a b a1 b1 a2 b2 e => q ⟨a, b, a1, b1, a2, b2, e⟩⟩
   obtain ⟨a, b, a1, b1, a2, b2, e⟩ := this
   have := ((su_fl hc n a).2 a1 (by omega) a2).add ((su_fl hc n b).2 b1 (by omega) b2)
   rwa [e] at this
theorem su_mg {g : List Int} (h : VG g) (hc : CF g) {m : Int} (h1 : 1 ≤ m) : Su (mg g) m ↔ m ∉ g := by
 obtain ⟨t0, t1, t2⟩ := h.top
 constructor
 · intro k
   rcases (su_fl hc 400 m).1 k with e | e
   · omega
   · exact e.2
 · intro k
   by_cases c : m ≤ 400
   · exact (su_fl hc 400 m).2 h1 (by omega) k
   ·
    have a := (su_fl hc 400 200).2 (by omega) (by omega) (fun q => by have := t2 _ q; omega)
    have q0 := Int.emod_nonneg m (b := 200) (by omega)
    have q1 := Int.emod_lt_of_pos m (b := 200) (by omega)
    refine Su.up (a := 200) (by omega) a (n := 200 + m % 200) ?_ (by omega) (by omega)
    by_cases z : m % 200 = 0
    · rw [z]; exact a
    · exact (su_fl hc 400 (200 + m % 200)).2 (by omega) (by omega) (fun q => by have := t2 _ q; omega)
theorem gp_mg {g : List Int} (h : VG g) (hc : CF g) : gp (mg g) = g := by
 have e : gp (mg g) = fl (fun n => decide (n ∈ g)) 1 199 := by
  unfold gp
  refine fl_congr _ _ fun x x1 x2 => ?_
  rw [Bool.eq_iff_iff, isgap_t, su_mg h hc x1, decide_eq_true_eq, Classical.not_not]
 rw [e]
 have key : ∀ d : Nat, ∀ (i : Int) (l : List Int), Asc l → (∀ x ∈ l, i ≤ x ∧ x < i + d) → fl (fun n => decide (n ∈ l)) i d = l := by
  intro d
  induction d with
  | zero =>
   intro i l _ hl
   cases l with
   | nil => rfl
   | cons a l => have := hl a (by simp); omega
  | succ d ih =>
   intro i l ha hl
   cases l with
   | nil => exact fl_none _ _ (fun x _ _ => by simp)
   | cons a l =>
    have hal : ∀ y ∈ l, a < y := fun y hy => by
     obtain ⟨j, j0, j1, rfl⟩ := mem_rd hy
     have := asc_lt ha j.toNat 0 (j + 1) (by omega) (by omega) (by simp; omega)
     have e1 : rd (a :: l) 0 = a := rfl
     have e2 : rd (a :: l) (j + 1) = rd l j := by unfold rd; rw [show (j + 1).toNat = j.toNat + 1 from by omega, List.getD_cons_succ]
     rwa [e1, e2] at this
    have hal' : Asc l := fun j j0 j1 => by
     have := ha (j + 1) (by omega) (by simp; omega)
     have e1 : rd (a :: l) (j + 1) = rd l j := by unfold rd; rw [show (j + 1).toNat = j.toNat + 1 from by omega, List.getD_cons_succ]
     have e2 : rd (a :: l) (j + 1 - 1) = rd l (j - 1) := by unfold rd; rw [show (j + 1 - 1).toNat = (j - 1).toNat + 1 from by omega, List.getD_cons_succ]
     rwa [e1, e2] at this
    have ai := hl a (by simp)
    by_cases c : a = i
    · subst c
      rw [fl_yes (by simp)]
      congr 1
      rw [fl_congr (q := fun n => decide (n ∈ l)) _ _ (fun x x0 x1 => by
       rw [Bool.eq_iff_iff, decide_eq_true_eq, decide_eq_true_eq, List.mem_cons]
       exact ⟨fun k => k.resolve_left (by omega), .inr⟩)]
      exact ih (a + 1) l hal' (fun x hx => by have := hal x hx; have := hl x (by simp [hx]); omega)
    · rw [fl_no (by
       rw [decide_eq_true_eq]
       intro k
       rcases List.mem_cons.1 k with k | k
       · omega
       · have := hal _ k; omega)]
      exact ih (i + 1) (a :: l) ha (fun x hx => by
       have := hl x hx
       rcases List.mem_cons.1 hx with k | k
       · omega
       · have := hal _ k; omega)
 exact key 199 1 g h.1 (fun x hx => by have := h.2 x hx; omega)
end Go.Proofs.Ytonknpgfbkgbjaa.E
end
section
namespace Go.Proofs.Ytonknpgfbkgbjaa.E
open Go.RowKit Go.Proofs.Ytonknpgfbkgbjaa.PC Go.Proofs.YtonknpgfbkgbjaaW.PrintWords Go.Proofs.YtonknpgfbkgbjaaW.PrintLast Go.Proofs.YtonknpgfbkgbjaaW.PrintMore
set_option linter.unusedVariables false
set_option linter.unusedSimpArgs false
def GA (g : List Int) (m : Int) (t : List Bool) : Prop := (t.length : Int) = m + 1 ∧ ∀ j, 0 ≤ j → j ≤ m → (rdOf false t j = true ↔ j ∈ g)
theorem ga_step {g : List Int} {m i : Int} {t : List Bool} (h0 : 0 ≤ i) (hi : i < g.length) (hx : 0 ≤ rd g i ∧ rd g i ≤ m) (h : (t.length : Int) = m + 1 ∧ ∀ j, 0 ≤ j → j ≤ m → (rdOf false t j = true ↔ ∃ q, 0 ≤ q ∧ q < i ∧ rd g q = j)) : ((t.set (rd g i).toNat true).length : Int) = m + 1 ∧ ∀ j, 0 ≤ j → j ≤ m → (rdOf false (t.set (rd g i).toNat true) j = true ↔ ∃ q, 0 ≤ q ∧ q < i + 1 ∧ rd g q = j) := by
 refine ⟨by simpa using h.1, fun j j0 j1 => ?_⟩
 rw [rdb_set _ hx.1 (by have := h.1; omega) j0]
 by_cases c : j = rd g i
 · rw [if_pos c]; exact ⟨fun _ => ⟨i, h0, by omega, c.symm⟩, fun _ => rfl⟩
 · rw [if_neg c, h.2 j j0 j1]
   constructor
   · rintro ⟨q, q0, q1, q2⟩; exact ⟨q, q0, by omega, q2⟩
   · rintro ⟨q, q0, q1, q2⟩
     by_cases e : q = i
     · rw [e] at q2; exact absurd q2.symm c
     · exact ⟨q, q0, by omega, q2⟩
theorem ga_start (g : List Int) {m : Int} (hm : 0 ≤ m) : ((List.replicate (m + 1).toNat false).length : Int) = m + 1 ∧ ∀ j, 0 ≤ j → j ≤ m → (rdOf false (List.replicate (m + 1).toNat false) j = true ↔ ∃ q, 0 ≤ q ∧ q < 0 ∧ rd g q = j) := by
 refine ⟨by simp; omega, fun j _ _ => ?_⟩
 rw [rdb_rep]
 exact ⟨fun h => by simp at h, fun ⟨q, q0, q1, _⟩ => by omega⟩
theorem ga_end {g : List Int} {m : Int} {t : List Bool} (h : (t.length : Int) = m + 1 ∧ ∀ j, 0 ≤ j → j ≤ m → (rdOf false t j = true ↔ ∃ q, 0 ≤ q ∧ q < (g.length : Int) ∧ rd g q = j)) : GA g m t :=
 ⟨h.1, fun j j0 j1 => by
  rw [h.2 j j0 j1]
  exact ⟨fun ⟨q, q0, q1, q2⟩ => q2 ▸ rd_mem q0 q1, fun k => by obtain ⟨q, q0, q1, q2⟩ := mem_rd k; exact ⟨q, q0, q1, q2⟩⟩⟩
def Cl (g : List Int) (top a b : Int) : Prop := ∃ x, b ≤ x ∧ a + x ≤ top ∧ a ∉ g ∧ x ∉ g ∧ a + x ∈ g
def Cls (g : List Int) (top a : Int) : Prop := ∃ x, a ≤ x ∧ x ≤ top ∧ Cl g top x x
theorem cf_iff {g : List Int} (h : VG g) : CF g ↔ ¬ Cls g (topg g) 1 := by
 obtain ⟨t0, t1, t2⟩ := h.top
 constructor
 · rintro hc ⟨a, a1, _, x, x1, _, x3, x4, x5⟩
   exact hc a x a1 (by omega) x3 x4 x5
 · intro k a b a1 b1 ha hb hs
   have hle := t2 _ hs
   by_cases c : a ≤ b
   · exact k ⟨a, a1, by omega, b, c, hle, ha, hb, hs⟩
   · exact k ⟨b, b1, by omega, a, by omega, by omega, hb, ha, by rwa [Int.add_comm]⟩
theorem l8_l {g : List Int} (hl : g.length ≤ 1099511627776) (d : Nat) : ∀ i : Int, 0 ≤ i → i + d = g.length → (∀ j, 0 ≤ j → j < i → 1 ≤ rd g j ∧ rd g j ≤ 199) → Ev (fun k => spec_l8Gaps.l0 k g i) (decide (VG g)) := by
 induction d with
 | zero =>
  intro i h0 h1 h2
  refine Ev.step (fun k => by rw [spec_l8Gaps.l0]) (ev_ifn (by omega) (ev_bind _ (ascS_ev hl) (ev_to (Ev.now _) (decide_eq_decide.2 ⟨fun a => ⟨a, fun x hx => ?_⟩, fun a => a.1⟩))))
  obtain ⟨j, j0, j1, rfl⟩ := mem_rd hx
  exact h2 j j0 (by omega)
 | succ d ih =>
  intro i h0 h1 h2
  refine Ev.step (fun k => by rw [spec_l8Gaps.l0]) ?_
  simp only [l1In_eq, Option.bind_some]
  rw [w64 (by omega) (by omega)]
  by_cases c : 1 ≤ rd g i ∧ rd g i ≤ 199
  · refine ev_ifp (by omega) (ev_ifp h0 (ev_ifp (by simpa using c) (ih (i + 1) (by omega) (by omega) fun j j0 j1 => ?_)))
    by_cases e : j = i
    · rw [e]; exact c
    · exact h2 j j0 (by omega)
  · exact ev_ifp (by omega) (ev_ifp h0 (ev_ifn (by simpa using c) (ev_to (Ev.now _) (decide_eq_false (fun k => c (k.2 _ (rd_mem h0 (by omega))))).symm)))
theorem l8_ev {g : List Int} (hl : g.length ≤ 1099511627776) : Ev (fun k => spec_l8Gaps.f k g) (decide (VG g)) := l8_l hl g.length 0 (by omega) (by omega) (fun j a b => by omega)
theorem gl_ev {g : List Int} (hl : g.length ≤ 1099511627776) : Ev (fun k => impl_gapList.f k g) (decide (VG g)) := by
 unfold impl_gapList.f
 refine ev_bind _ (ascI_ev hl) ?_
 by_cases c : Asc g
 · exact ev_ifp (by simpa using c) (ev_bind _ (allWithin_ev 1 199 hl) (ev_to (Ev.now _) (decide_eq_decide.2 ⟨fun a => ⟨c, a⟩, fun a => a.2⟩)))
 · exact ev_ifn (by simpa using c) (ev_to (Ev.now _) (decide_eq_false (fun k => c k.1)).symm)
theorem clS_l2 {g : List Int} {m top a : Int} {t : List Bool} (h : GA g m t) (ht : top ≤ m) (hm : m ≤ 1000) (ha : 1 ≤ a) (ha' : a ≤ top) (N : ∃ x y c, Ev (fun k => spec_GapClash.l1 k top t (a + 1)) (x, y, c) ∧ (c = true ↔ Cls g top (a + 1))) (d : Nat) : ∀ b : Int, a ≤ b → b + d = top + 1 → ∃ x y c, Ev (fun k => spec_GapClash.l2 k top t a b) (x, y, c) ∧ (c = true ↔ Cl g top a b ∨ Cls g top (a + 1)) := by
 have hl := h.1
 have na : a ∈ g → ∀ b, ¬ Cl g top a b := fun k b ⟨x, _, _, q, _⟩ => q k
 have stop : ∀ b, a ≤ b → (∀ x y c, Ev (fun k => spec_GapClash.l1 k top t (a + 1)) (x, y, c) → Ev (fun k => spec_GapClash.j4 k top t a b false) (x, y, c)) := fun b _ x y c e => by
  refine Ev.step (fun k => by rw [spec_GapClash.j4]) (ev_ifn (by simp) ?_)
  rw [w64 (x := a + 1) (by omega) (by omega)]; exact e
 obtain ⟨x, y, c, e1, e2⟩ := N
 induction d with
 | zero =>
  intro b h0 h1
  refine ⟨x, y, c, Ev.step (fun k => by rw [spec_GapClash.l2]) ?_, e2.trans ⟨.inr, fun k => k.resolve_left (fun ⟨z, z0, z1, _⟩ => by omega)⟩⟩
  rw [w64 (x := a + b) (by omega) (by omega)]
  exact ev_ifn (by omega) (stop b h0 x y c e1)
 | succ d ih =>
  intro b h0 h1
  have w := w64 (x := a + b) (by omega) (by omega)
  have w1 := w64 (x := b + 1) (by omega) (by omega)
  by_cases c0 : a + b ≤ top
  · by_cases c1 : a ∈ g
    · have q := (h.2 a (by omega) (by omega)).2 c1
      refine ⟨x, y, c, Ev.step (fun k => by rw [spec_GapClash.l2]) ?_, e2.trans ⟨.inr, fun k => k.resolve_left (na c1 b)⟩⟩
      rw [w, q]
      exact ev_ifp c0 (ev_ifp (by omega) (ev_ifp (by omega) (stop b h0 x y c e1)))
    · have q : rdOf false t a = false := Bool.eq_false_iff.mpr (fun k => c1 ((h.2 a (by omega) (by omega)).1 k))
      obtain ⟨x', y', c', f1, f2⟩ := ih (b + 1) (by omega) (by omega)
      have go : (¬ (b ∉ g ∧ a + b ∈ g)) → (Cl g top a b ↔ Cl g top a (b + 1)) := fun k => ⟨fun ⟨z, z0, z1, z2, z3, z4⟩ => ⟨z, by
       by_cases ez : z = b
       · rw [ez] at z3 z4; exact absurd ⟨z3, z4⟩ k
       · omega, z1, z2, z3, z4⟩, fun ⟨z, z0, z1, z2⟩ => ⟨z, by omega, z1, z2⟩⟩
      by_cases c2 : b ∈ g
      · refine ⟨x', y', c', Ev.step (fun k => by rw [spec_GapClash.l2]) ?_, by rw [f2, go (fun k => k.1 c2)]⟩
        rw [w, q]
        refine ev_ifp c0 (ev_ifp (by omega) (ev_ifp (by omega) (Ev.step (fun k => by rw [spec_GapClash.j4]) ?_)))
        refine ev_ifp rfl (ev_ifp (by omega) (ev_ifp (by omega) (ev_ifp ((h.2 b (by omega) (by omega)).2 c2) ?_)))
        rw [w1]; exact f1
      · by_cases c3 : a + b ∈ g
        · refine ⟨a, b, true, Ev.step (fun k => by rw [spec_GapClash.l2]) ?_, fun _ => .inl ⟨b, Int.le_refl _, c0, c1, c2, c3⟩, fun _ => rfl⟩
          rw [w, q]
          refine ev_ifp c0 (ev_ifp (by omega) (ev_ifp (by omega) (Ev.step (fun k => by rw [spec_GapClash.j4]) ?_)))
          refine ev_ifp rfl (ev_ifp (by omega) (ev_ifp (by omega) (ev_ifn (fun k => c2 ((h.2 b (by omega) (by omega)).1 k)) ?_)))
          rw [w]
          exact ev_ifp (by omega) (ev_ifp (by omega) (ev_ifp ((h.2 (a + b) (by omega) (by omega)).2 c3) (Ev.now _)))
        · refine ⟨x', y', c', Ev.step (fun k => by rw [spec_GapClash.l2]) ?_, by rw [f2, go (fun k => c3 k.2)]⟩
          rw [w, q]
          refine ev_ifp c0 (ev_ifp (by omega) (ev_ifp (by omega) (Ev.step (fun k => by rw [spec_GapClash.j4]) ?_)))
          refine ev_ifp rfl (ev_ifp (by omega) (ev_ifp (by omega) (ev_ifn (fun k => c2 ((h.2 b (by omega) (by omega)).1 k)) ?_)))
          rw [w, w1]
          exact ev_ifp (by omega) (ev_ifp (by omega) (ev_ifn (fun k => c3 ((h.2 (a + b) (by omega) (by omega)).1 k)) f1))
  · refine ⟨x, y, c, Ev.step (fun k => by rw [spec_GapClash.l2]) ?_, e2.trans ⟨.inr, fun k => k.resolve_left (fun ⟨z, z0, z1, _⟩ => by omega)⟩⟩
    rw [w]
    exact ev_ifn c0 (stop b h0 x y c e1)
theorem clS_l1 {g : List Int} {m top : Int} {t : List Bool} (h : GA g m t) (ht : top ≤ m) (hm : m ≤ 1000) (d : Nat) : ∀ a : Int, 1 ≤ a → a + d = max a (top + 1) → ∃ x y c, Ev (fun k => spec_GapClash.l1 k top t a) (x, y, c) ∧ (c = true ↔ Cls g top a) := by
 induction d with
 | zero =>
  intro a h0 h1
  exact ⟨0, 0, false, Ev.step (fun k => by rw [spec_GapClash.l1]) (ev_ifn (by omega) (Ev.now _)), fun k => by simp at k, fun ⟨x, x0, x1, _⟩ => by omega⟩
 | succ d ih =>
  intro a h0 h1
  obtain ⟨x, y, c, e1, e2⟩ := clS_l2 h ht hm h0 (by omega) (ih (a + 1) (by omega) (by omega)) (top + 1 - a).toNat a (Int.le_refl _) (by omega)
  refine ⟨x, y, c, Ev.step (fun k => by rw [spec_GapClash.l1]) (ev_ifp (by omega) e1), e2.trans ?_⟩
  constructor
  · rintro (k | ⟨z, z0, z1, z2⟩)
    · exact ⟨a, Int.le_refl _, by omega, k⟩
    · exact ⟨z, by omega, z1, z2⟩
  · rintro ⟨z, z0, z1, z2⟩
    by_cases e : z = a
    · rw [e] at z2; exact .inl z2
    · exact .inr ⟨z, by omega, z1, z2⟩
theorem clI_l2 {g : List Int} {m top a : Int} {t : List Bool} (h : GA g m t) (ht : top ≤ m) (hm : m ≤ 1000) (ha : 1 ≤ a) (ha' : a ≤ top) (N : ∃ x y c, Ev (fun k => impl_GapClash.l1 k t top (a + 1)) (x, y, c) ∧ (c = true ↔ Cls g top (a + 1))) (d : Nat) : ∀ b : Int, a ≤ b → b + d = top + 1 → ∃ x y c, Ev (fun k => impl_GapClash.l2 k t top a b) (x, y, c) ∧ (c = true ↔ Cl g top a b ∨ Cls g top (a + 1)) := by
 have hl := h.1
 obtain ⟨x, y, c, e1, e2⟩ := N
 have out : ∀ b, a ≤ b → b ≤ top + 1 → ¬ a + b ≤ top → ∃ x y c, Ev (fun k => impl_GapClash.l2 k t top a b) (x, y, c) ∧ (c = true ↔ Cl g top a b ∨ Cls g top (a + 1)) := fun b h0 hB hb => by
  refine ⟨x, y, c, Ev.step (fun k => by rw [impl_GapClash.l2]) ?_, e2.trans ⟨.inr, fun k => k.resolve_left (fun ⟨z, z0, z1, _⟩ => by omega)⟩⟩
  rw [w64 (x := a + b) (by omega) (by omega), w64 (x := a + 1) (by omega) (by omega)]
  exact ev_ifn hb e1
 induction d with
 | zero => intro b h0 h1; exact out b h0 (by omega) (by omega)
 | succ d ih =>
  intro b h0 h1
  have w := w64 (x := a + b) (by omega) (by omega)
  have w1 := w64 (x := b + 1) (by omega) (by omega)
  by_cases c0 : a + b ≤ top
  · obtain ⟨x', y', c', f1, f2⟩ := ih (b + 1) (by omega) (by omega)
    have go : (¬ (a ∉ g ∧ b ∉ g ∧ a + b ∈ g)) → (Cl g top a b ↔ Cl g top a (b + 1)) := fun k => ⟨fun ⟨z, z0, z1, z2, z3, z4⟩ => ⟨z, by
     by_cases ez : z = b
     · rw [ez] at z3 z4; exact absurd ⟨z2, z3, z4⟩ k
     · omega, z1, z2, z3, z4⟩, fun ⟨z, z0, z1, z2⟩ => ⟨z, by omega, z1, z2⟩⟩
    by_cases c1 : a ∈ g
    · refine ⟨x', y', c', Ev.step (fun k => by rw [impl_GapClash.l2]) ?_, by rw [f2, go (fun k => k.1 c1)]⟩
      rw [w, w1]
      exact ev_ifp c0 (ev_ifp (by omega) (ev_ifp (by omega) (ev_ifp ((h.2 a (by omega) (by omega)).2 c1) f1)))
    · have n1 : ¬ rdOf false t a = true := fun k => c1 ((h.2 a (by omega) (by omega)).1 k)
      by_cases c2 : b ∈ g
      · refine ⟨x', y', c', Ev.step (fun k => by rw [impl_GapClash.l2]) ?_, by rw [f2, go (fun k => k.2.1 c2)]⟩
        rw [w, w1]
        exact ev_ifp c0 (ev_ifp (by omega) (ev_ifp (by omega) (ev_ifn n1 (ev_ifp (by omega) (ev_ifp (by omega) (ev_ifp ((h.2 b (by omega) (by omega)).2 c2) f1))))))
      · have n2 : ¬ rdOf false t b = true := fun k => c2 ((h.2 b (by omega) (by omega)).1 k)
        by_cases c3 : a + b ∈ g
        · refine ⟨a, b, true, Ev.step (fun k => by rw [impl_GapClash.l2]) ?_, fun _ => .inl ⟨b, Int.le_refl _, c0, c1, c2, c3⟩, fun _ => rfl⟩
          rw [w]
          exact ev_ifp c0 (ev_ifp (by omega) (ev_ifp (by omega) (ev_ifn n1 (ev_ifp (by omega) (ev_ifp (by omega) (ev_ifn n2 (ev_ifp (by omega) (ev_ifp (by omega) (ev_ifp ((h.2 (a + b) (by omega) (by omega)).2 c3) (Ev.now _))))))))))
        · refine ⟨x', y', c', Ev.step (fun k => by rw [impl_GapClash.l2]) ?_, by rw [f2, go (fun k => c3 k.2.2)]⟩
          rw [w, w1]
          exact ev_ifp c0 (ev_ifp (by omega) (ev_ifp (by omega) (ev_ifn n1 (ev_ifp (by omega) (ev_ifp (by omega) (ev_ifn n2 (ev_ifp (by omega) (ev_ifp (by omega) (ev_ifn (fun k => c3 ((h.2 (a + b) (by omega) (by omega)).1 k)) f1)))))))))
  · exact out b h0 (by omega) c0
theorem clI_l1 {g : List Int} {m top : Int} {t : List Bool} (h : GA g m t) (ht : top ≤ m) (hm : m ≤ 1000) (d : Nat) : ∀ a : Int, 1 ≤ a → a + d = max a (top + 1) → ∃ x y c, Ev (fun k => impl_GapClash.l1 k t top a) (x, y, c) ∧ (c = true ↔ Cls g top a) := by
 induction d with
 | zero =>
  intro a h0 h1
  exact ⟨0, 0, false, Ev.step (fun k => by rw [impl_GapClash.l1]) (ev_ifn (by omega) (Ev.now _)), fun k => by simp at k, fun ⟨x, x0, x1, _⟩ => by omega⟩
 | succ d ih =>
  intro a h0 h1
  obtain ⟨x, y, c, e1, e2⟩ := clI_l2 h ht hm h0 (by omega) (ih (a + 1) (by omega) (by omega)) (top + 1 - a).toNat a (Int.le_refl _) (by omega)
  refine ⟨x, y, c, Ev.step (fun k => by rw [impl_GapClash.l1]) (ev_ifp (by omega) e1), e2.trans ?_⟩
  constructor
  · rintro (k | ⟨z, z0, z1, z2⟩)
    · exact ⟨a, Int.le_refl _, by omega, k⟩
    · exact ⟨z, by omega, z1, z2⟩
  · rintro ⟨z, z0, z1, z2⟩
    by_cases e : z = a
    · rw [e] at z2; exact .inl z2
    · exact .inr ⟨z, by omega, z1, z2⟩
end Go.Proofs.Ytonknpgfbkgbjaa.E
end
section
namespace Go.Proofs.Ytonknpgfbkgbjaa.E
open Go.RowKit Go.Proofs.YtonknpgfbkgbjaaW.PrintWords Go.Proofs.YtonknpgfbkgbjaaW.PrintLast Go.Proofs.YtonknpgfbkgbjaaW.PrintMore
set_option linter.unusedVariables false
set_option linter.unusedSimpArgs false
noncomputable def gps (v : List Int) : List Int := if SG v then gp v else []
noncomputable def fob (v : List Int) : Int := if (gps v).length = 0 then -1 else rd (gps v) ((gps v).length - 1)
theorem gps_len (v : List Int) : (gps v).length ≤ 199 := by
 unfold gps; split
 · exact gp_len v
 · simp
theorem gps_sg {v : List Int} (h : SG v) : gps v = gp v := by unfold gps; rw [if_pos h]
theorem gps_no {v : List Int} (h : ¬ SG v) : gps v = [] := by unfold gps; rw [if_neg h]
theorem fob_some {v : List Int} (h : SG v) (hn : gp v ≠ []) : 1 ≤ fob v ∧ fob v < 200 ∧ ¬ Su v (fob v) ∧ ∀ n, fob v < n → Su v n := by
 obtain ⟨x, a, b, c, e, f⟩ := fl_last (p := isgap v) (i := 1) (d := 199) hn
 have hl : ¬ (gp v).length = 0 := by simpa using hn
 have ex : fob v = x := by
  unfold fob; rw [gps_sg h, if_neg hl]; exact f
 rw [ex]
 refine ⟨a, by omega, isgap_t.1 c, fun n hn => ?_⟩
 by_cases hn' : n < 200
 · have := e n hn (by omega)
   rw [isgap_t] at this
   exact Classical.byContradiction this
 · exact h.ends n (by omega)
theorem SG.pos {v : List Int} (h : SG v) : ∀ x ∈ v, 1 ≤ x := fun x hx => (h.ul.2 x hx).1
end Go.Proofs.Ytonknpgfbkgbjaa.E
end
section
namespace Go.Proofs.Ytonknpgfbkgbjaa.E
open Go.RowKit Go.Proofs.Ytonknpgfbkgbjaa.PC Go.Proofs.YtonknpgfbkgbjaaW.PrintWords Go.Proofs.YtonknpgfbkgbjaaW.PrintLast Go.Proofs.YtonknpgfbkgbjaaW.PrintMore
set_option linter.unusedVariables false
set_option linter.unusedSimpArgs false
theorem gapsI_l {v : List Int} (d : Nat) : ∀ (i : Int) (out : List Int), 0 ≤ i → i + d = 201 → (out.length : Int) ≤ i → Ev (fun k => impl_Gaps.l0 k out (stab v 200) 201 i) (out ++ fl (isgap v) i d) := by
 have sl := stab_len (v := v) (m := 200) (by omega)
 induction d with
 | zero =>
  intro i out h0 h1 h2
  refine Ev.step (fun k => by rw [impl_Gaps.l0]) (ev_ifn (by omega) (ev_to (Ev.now _) ?_))
  simp [fl]
 | succ d ih =>
  intro i out h0 h1 h2
  have s := stab_iff (v := v) (m := 200) h0 (by omega)
  refine Ev.step (fun k => by rw [impl_Gaps.l0]) ?_
  rw [w64 (x := i + 1) (by omega) (by omega)]
  by_cases c : Su v i
  · rw [fl_no (by rw [isgap_t]; simpa using c)]
    exact ev_ifp (by omega) (ev_ifp h0 (ev_ifp (by omega) (ev_ifp (s.2 c) (ih (i + 1) out (by omega) (by omega) (by omega)))))
  · rw [fl_yes (isgap_t.2 c)]
    refine ev_ifp (by omega) (ev_ifp h0 (ev_ifp (by omega) (ev_ifn (fun h => c (s.1 h)) (ev_ifp (by omega) (ev_to (ih (i + 1) (out ++ [i]) (by omega) (by omega) (by simp; omega)) ?_)))))
    simp
theorem gapsS_l {v : List Int} (d : Nat) : ∀ (i : Int) (out : List Int), 0 ≤ i → i + d = 200 → (out.length : Int) ≤ i → Ev (fun k => spec_l4Gaps.l0 k out (stab v 200) i) (out ++ fl (isgap v) i d) := by
 have sl := stab_len (v := v) (m := 200) (by omega)
 induction d with
 | zero =>
  intro i out h0 h1 h2
  refine Ev.step (fun k => by rw [spec_l4Gaps.l0]) (ev_ifn (by omega) (ev_to (Ev.now _) ?_))
  simp [fl]
 | succ d ih =>
  intro i out h0 h1 h2
  have s := stab_iff (v := v) (m := 200) h0 (by omega)
  refine Ev.step (fun k => by rw [spec_l4Gaps.l0]) ?_
  rw [w64 (x := i + 1) (by omega) (by omega)]
  by_cases c : Su v i
  · rw [fl_no (by rw [isgap_t]; simpa using c)]
    exact ev_ifp (by omega) (ev_ifp h0 (ev_ifp (by omega) (ev_ifp (s.2 c) (ih (i + 1) out (by omega) (by omega) (by omega)))))
  · rw [fl_yes (isgap_t.2 c)]
    refine ev_ifp (by omega) (ev_ifp h0 (ev_ifp (by omega) (ev_ifn (fun h => c (s.1 h)) (ev_ifp (by omega) (ev_to (ih (i + 1) (out ++ [i]) (by omega) (by omega) (by simp; omega)) ?_)))))
    simp
theorem l4Gaps_ev {v : List Int} (h : SG v) : Ev (fun k => spec_l4Gaps.f k v) (gp v) := by
 unfold spec_l4Gaps.f
 exact ev_bind _ (h.sutabS (by omega) (by omega)) (gapsS_l 199 1 [] (by omega) (by omega) (by simp))
theorem gapsI_ev {v : List Int} (hl : v.length ≤ 1099511627776) : Ev (fun k => impl_Gaps.f k v) (if SG v then gp v else []) := by
 unfold impl_Gaps.f
 refine ev_bind _ (sgI_ev hl) ?_
 by_cases c : SG v
 · rw [if_pos c]
   refine ev_ifp (by simpa using c) (ev_bind _ (c.sutab (by omega) (by omega)) ?_)
   rw [stab_len (by omega), ← gp_wide c]
   exact gapsI_l 201 0 [] (by omega) (by omega) (by simp)
 · rw [if_neg c]; exact ev_ifn (by simpa using c) (Ev.now _)
theorem gapsI_gps {v : List Int} (hl : v.length ≤ 1099511627776) : Ev (fun k => impl_Gaps.f k v) (gps v) := gapsI_ev hl
theorem has_l {g : List Int} (hl : g.length ≤ 1099511627776) (n : Int) (d : Nat) : ∀ i : Int, 0 ≤ i → i + d = g.length → Ev (fun k => spec_HasNumber.l0 k g n i) (decide (n ∈ g.drop i.toNat)) := by
 induction d with
 | zero =>
  intro i h0 h1
  refine Ev.step (fun k => by rw [spec_HasNumber.l0]) (ev_ifn (by omega) (ev_to (Ev.now _) ?_))
  rw [List.drop_of_length_le (by omega)]; simp
 | succ d ih =>
  intro i h0 h1
  refine Ev.step (fun k => by rw [spec_HasNumber.l0]) ?_
  rw [w64 (x := i + 1) (by omega) (by omega), drop_rd h0 (by omega)]
  refine ev_ifp (by omega) (ev_ifp h0 ?_)
  by_cases c : rd g i = n
  · exact ev_ifp c (ev_to (Ev.now _) (by simp [c]))
  · refine ev_ifn c (ev_to (ih (i + 1) (by omega) (by omega)) ?_)
    simp [Ne.symm c]
theorem has_ev {g : List Int} (hl : g.length ≤ 1099511627776) (n : Int) : Ev (fun k => spec_HasNumber.f k g n) (decide (n ∈ g)) := by
 unfold spec_HasNumber.f
 exact ev_to (has_l hl n g.length 0 (by omega) (by omega)) (by simp)
end Go.Proofs.Ytonknpgfbkgbjaa.E
end
