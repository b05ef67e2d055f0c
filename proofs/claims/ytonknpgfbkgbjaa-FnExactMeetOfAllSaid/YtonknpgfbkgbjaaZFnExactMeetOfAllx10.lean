-- Bundled by shake.py from this session's printed and written texts; Lean checks it.
import Derived.Below
import Derived.ChangeOld
import Derived.Deep.Fields
import Derived.Lib.SmallJoins
import Derived.OpenShut
import Derived.ProofKit
import Derived.SizedLaws
import Derived.Test.YtonknpgfbkgbjaaZFnExactMeetOfAllx1
import Derived.Test.YtonknpgfbkgbjaaZFnExactMeetOfAllx3
import Derived.Test.YtonknpgfbkgbjaaZFnExactMeetOfAllx4
import Derived.Test.YtonknpgfbkgbjaaZFnExactMeetOfAllx5
import Derived.Test.YtonknpgfbkgbjaaZFnExactMeetOfAllx7
import Derived.Test.YtonknpgfbkgbjaaZFnExactMeetOfAllx8
import Derived.Test.YtonknpgfbkgbjaaZFnExactMeetOfAllx9
import Derived.WalkKit
section
namespace Go.Proofs.Ytonknpgfbkgbjaa.E
open Go.RowKit Go.Proofs.Ytonknpgfbkgbjaa.PA Go.Proofs.YtonknpgfbkgbjaaW.PrintWords Go.Proofs.YtonknpgfbkgbjaaW.PrintLast Go.Proofs.YtonknpgfbkgbjaaW.PrintMore
set_option linter.unusedVariables false
set_option linter.unusedSimpArgs false
noncomputable def msf (a b : List Int) : List Int × Bool := @ite _ (SG a ∧ SG b) (Classical.propDecidable _) (fgr (srt (gp a ++ gp b))) ([], false)
theorem fgr_len (g : List Int) : (fgr g).1.length ≤ 400 := by
 unfold fgr
 split
 · exact mg_len g
 · simp
theorem msf_len (a b : List Int) : (msf a b).1.length ≤ 400 := by
 unfold msf
 split
 · exact fgr_len _
 · simp
theorem msf_yes {a b : List Int} (c : SG a) (d : SG b) : msf a b = fgr (srt (gp a ++ gp b)) := by unfold msf; exact if_pos ⟨c, d⟩
theorem msf_no {a b : List Int} (h : ¬ (SG a ∧ SG b)) : msf a b = ([], false) := by unfold msf; exact if_neg h
theorem meetI_ev {a b : List Int} (ha : a.length ≤ 1099511627776) (hb : b.length ≤ 1099511627776) : Ev (fun k => impl_MeetOf.f k a b) (msf a b) := by
 unfold impl_MeetOf.f
 refine ev_bind _ (sgI_ev ha) ?_
 have no : Ev (fun k => impl_MeetOf.j0 k true a b) (([] : List Int), false) := Ev.step (fun k => by rw [impl_MeetOf.j0]) (ev_ifp rfl (Ev.now _))
 by_cases c : SG a
 · refine ev_ifp (by simpa using c) (ev_bind _ (sgI_ev hb) ?_)
   by_cases d : SG b
   · rw [msf_yes c d, show (!decide (SG b)) = false from by simp [d]]
     have l1 := gp_len a
     have l2 := gp_len b
     have l3 := srt_len (gp a ++ gp b)
     have l4 : (gp a ++ gp b).length = (gp a).length + (gp b).length := List.length_append
     have ga := gapsI_ev ha
     have gb := gapsI_ev hb
     rw [if_pos c] at ga
     rw [if_pos d] at gb
     refine Ev.step (fun k => by rw [impl_MeetOf.j0]) ?_
     refine ev_ifn (by simp) ?_
     refine ev_bind _ ga ?_
     refine ev_bind _ gb ?_
     refine ev_ifp (by omega) ?_
     refine ev_bind _ (sortI_srt (by omega)) ?_
     exact ev_bind _ (fromGapsI_ev (by omega)) (Ev.now _)
   · rw [msf_no (fun k => d k.2), show (!decide (SG b)) = true from by simp [d]]
     exact no
 · rw [msf_no (fun k => c k.1)]
   exact ev_ifn (by simpa using c) no
theorem meetS_ev {a b : List Int} (ha : a.length ≤ 1099511627776) (hb : b.length ≤ 1099511627776) : Ev (fun k => spec_MeetOf.f k a b) (msf a b) := by
 unfold spec_MeetOf.f
 refine ev_bind _ (sgS_ev ha) ?_
 have no : Ev (fun k => spec_MeetOf.j0 k true a b) (([] : List Int), false) := Ev.step (fun k => by rw [spec_MeetOf.j0]) (ev_ifp rfl (Ev.now _))
 by_cases c : SG a
 · refine ev_ifp (by simpa using c) (ev_bind _ (sgS_ev hb) ?_)
   by_cases d : SG b
   · rw [msf_yes c d, show (!decide (SG b)) = false from by simp [d]]
     have l1 := gp_len a
     have l2 := gp_len b
     have l3 := srt_len (gp a ++ gp b)
     have l4 : (gp a ++ gp b).length = (gp a).length + (gp b).length := List.length_append
     refine Ev.step (fun k => by rw [spec_MeetOf.j0]) ?_
     refine ev_ifn (by simp) ?_
     refine ev_bind _ (l4Gaps_ev c) ?_
     refine ev_bind _ (l4Gaps_ev d) ?_
     refine ev_ifp (by omega) ?_
     refine ev_bind _ (sortS_srt (by omega)) ?_
     exact ev_bind _ (fromGapsS_ev (by omega)) (Ev.now _)
   · rw [msf_no (fun k => d k.2), show (!decide (SG b)) = true from by simp [d]]
     exact no
 · rw [msf_no (fun k => c k.1)]
   exact ev_ifn (by simpa using c) no
noncomputable def mfold : List Int → List S26 → List Int × Bool
 | out, [] => (out, true)
 | out, v :: r => if (msf out v.f0).2 = true then mfold (msf out v.f0).1 r else ([], false)
theorem mfold_bad : ∀ (l : List S26) (out : List Int), (∃ v ∈ l, ¬ SG v.f0) → mfold out l = ([], false)
 | [], _, h => by obtain ⟨v, hv, _⟩ := h; cases hv
 | v :: r, out, h => by
  unfold mfold
  by_cases c : SG v.f0
  · split
    · refine mfold_bad r _ ?_
      obtain ⟨u, hu, nu⟩ := h
      rcases List.mem_cons.1 hu with e | m
      · subst e; exact absurd c nu
      · exact ⟨u, m, nu⟩
    · rfl
  · rw [msf_no (fun k => c k.2)]
    exact if_neg (by simp)
theorem mfold_len {n : Nat} (hn : 400 ≤ n) : ∀ (l : List S26) (out : List Int), out.length ≤ n → (mfold out l).1.length ≤ n
 | [], _, h => h
 | v :: r, out, _ => by
  unfold mfold
  split
  · exact mfold_len hn r _ (Nat.le_trans (msf_len _ _) hn)
  · simp
theorem drop26 {l : List S26} {i : Int} (h0 : 0 ≤ i) (h1 : i < l.length) : l.drop i.toNat = rd_T26 l i :: l.drop (i + 1).toNat := by
 have hl : i.toNat < l.length := by omega
 rw [List.drop_eq_getElem_cons hl, show (i + 1).toNat = i.toNat + 1 from by omega]
 unfold rd_T26
 rw [List.getD_eq_getElem?_getD, List.getElem?_eq_getElem hl]; rfl
theorem mem26 {l : List S26} {i : Int} (h0 : 0 ≤ i) (h1 : i < l.length) : rd_T26 l i ∈ l := List.mem_of_mem_drop (i := i.toNat) (by rw [drop26 h0 h1]; exact List.mem_cons_self ..)
noncomputable def mal (l : List S26) : List Int × Bool := @ite _ (l.length = 0) _ ([], false) (@ite _ (SG (rd_T26 l 0).f0) (Classical.propDecidable _) (mfold (rd_T26 l 0).f0 (l.drop 1)) ([], false))
theorem mal_nil {l : List S26} (h : l.length = 0) : mal l = ([], false) := if_pos h
theorem mal_no {l : List S26} (h : ¬ l.length = 0) (c : ¬ SG (rd_T26 l 0).f0) : mal l = ([], false) := by unfold mal; rw [if_neg h]; exact if_neg c
theorem mal_yes {l : List S26} (h : ¬ l.length = 0) (c : SG (rd_T26 l 0).f0) : mal l = mfold (rd_T26 l 0).f0 (l.drop 1) := by unfold mal; rw [if_neg h]; exact if_pos c
theorem mal_bad {l : List S26} {j : Int} (h0 : 0 ≤ j) (h1 : j < l.length) (c : ¬ SG (rd_T26 l j).f0) : mal l = ([], false) := by
 by_cases d : SG (rd_T26 l 0).f0
 · rw [mal_yes (by omega) d]
   have ne : j ≠ 0 := fun e => c (by rw [e]; exact d)
   refine mfold_bad _ _ ⟨rd_T26 l j, ?_, c⟩
   have e := drop26 h0 h1
   have e2 : l.drop j.toNat = (l.drop 1).drop (j.toNat - 1) := by rw [List.drop_drop]; congr 1; omega
   rw [e2] at e
   exact List.mem_of_mem_drop (i := j.toNat - 1) (by rw [e]; exact List.mem_cons_self ..)
 · exact mal_no (by omega) d
theorem mal_len {l : List S26} (hs : ∀ x ∈ l, x.f0.length ≤ 1048576) : (mal l).1.length ≤ 1048576 := by
 by_cases h : l.length = 0
 · rw [mal_nil h]; simp
 by_cases c : SG (rd_T26 l 0).f0
 · rw [mal_yes h c]; exact mfold_len (by omega) _ _ (hs _ (mem26 (by omega) (by omega)))
 · rw [mal_no h c]; simp
theorem mallI_l1 {l : List S26} (hl : l.length ≤ 1048576) (hs : ∀ x ∈ l, x.f0.length ≤ 1048576) (d : Nat) : ∀ (i : Int) (out : List Int), 0 ≤ i → i + d = l.length → out.length ≤ 1048576 → Ev (fun k => impl_MeetOfAll.l1 k l l.length i out) (mfold out (l.drop i.toNat)) := by
 induction d with
 | zero =>
  intro i out h0 h1 h2
  rw [List.drop_of_length_le (by omega), mfold]
  exact Ev.step (fun k => by rw [impl_MeetOfAll.l1]) (ev_ifn (by omega) (Ev.now _))
 | succ d ih =>
  intro i out h0 h1 h2
  have m := hs _ (mem26 h0 (by omega))
  have q := msf_len out (rd_T26 l i).f0
  rw [drop26 h0 (by omega)]
  refine Ev.step (fun k => by rw [impl_MeetOfAll.l1]) (ev_ifp (by omega) (ev_ifp h0 (ev_ifp (by omega) (ev_bind _ (meetI_ev (by omega) (by omega)) ?_))))
  unfold mfold
  by_cases c : (msf out (rd_T26 l i).f0).2 = true
  · rw [if_pos c, w64 (x := i + 1) (by omega) (by omega)]
    exact ev_ifp c (ih (i + 1) _ (by omega) (by omega) (by omega))
  · rw [if_neg c]
    exact ev_ifn c (Ev.now _)
theorem mallS_l0 {l : List S26} (hl : l.length ≤ 1048576) (hs : ∀ x ∈ l, x.f0.length ≤ 1048576) (d : Nat) : ∀ (i : Int) (out : List Int), 0 ≤ i → i + d = l.length → out.length ≤ 1048576 → Ev (fun k => spec_MeetOfAll.l0 k l i out) (mfold out (l.drop i.toNat)) := by
 induction d with
 | zero =>
  intro i out h0 h1 h2
  rw [List.drop_of_length_le (by omega), mfold]
  exact Ev.step (fun k => by rw [spec_MeetOfAll.l0]) (ev_ifn (by omega) (Ev.now _))
 | succ d ih =>
  intro i out h0 h1 h2
  have m := hs _ (mem26 h0 (by omega))
  have q := msf_len out (rd_T26 l i).f0
  rw [drop26 h0 (by omega)]
  refine Ev.step (fun k => by rw [spec_MeetOfAll.l0]) (ev_ifp (by omega) (ev_ifp h0 (ev_bind _ (meetS_ev (by omega) (by omega)) ?_)))
  unfold mfold
  by_cases c : (msf out (rd_T26 l i).f0).2 = true
  · rw [if_pos c, w64 (x := i + 1) (by omega) (by omega)]
    exact ev_ifp c (ih (i + 1) _ (by omega) (by omega) (by omega))
  · rw [if_neg c]
    exact ev_ifn c (Ev.now _)
theorem mallI_l0 {l : List S26} (hl : l.length ≤ 1048576) (hs : ∀ x ∈ l, x.f0.length ≤ 1048576) (d : Nat) : ∀ i : Int, 0 ≤ i → i + d = l.length → (∀ j, 0 ≤ j → j < i → SG (rd_T26 l j).f0) → Ev (fun k => impl_MeetOfAll.l0 k l l l.length i) (mal l) := by
 induction d with
 | zero =>
  intro i h0 h1 h2
  refine Ev.step (fun k => by rw [impl_MeetOfAll.l0]) (ev_ifn (by omega) ?_)
  by_cases z : l.length = 0
  · rw [mal_nil z]
    exact ev_ifp (by omega) (Ev.now _)
  · have m := hs _ (mem26 (i := 0) (by omega) (by omega))
    rw [mal_yes z (h2 0 (by omega) (by omega))]
    refine ev_ifn (by omega) (ev_bind ([] : List Int) (Ev.now _) (ev_ifp (by omega) (ev_ifp (by simp only [List.length_nil]; omega) (ev_ifp (by omega) (ev_bind (l.drop 1) (Ev.now _) ?_)))))
    rw [List.nil_append]
    have dl : (l.drop 1).length = l.length - 1 := List.length_drop
    have := mallI_l1 (l := l.drop 1) (by omega) (fun x hx => hs x (List.mem_of_mem_drop hx)) (l.drop 1).length 0 (rd_T26 l 0).f0 (by omega) (by omega) m
    exact this
 | succ d ih =>
  intro i h0 h1 h2
  have m := hs _ (mem26 h0 (by omega))
  refine Ev.step (fun k => by rw [impl_MeetOfAll.l0]) (ev_ifp (by omega) (ev_ifp h0 (ev_ifp (by omega) (ev_bind _ (sgI_ev (by omega)) ?_))))
  by_cases c : SG (rd_T26 l i).f0
  · rw [w64 (x := i + 1) (by omega) (by omega)]
    refine ev_ifp (by simpa using c) (ih (i + 1) (by omega) (by omega) fun j j0 j1 => ?_)
    by_cases e : j = i
    · rw [e]; exact c
    · exact h2 j j0 (by omega)
  · rw [mal_bad h0 (by omega) c]
    exact ev_ifn (by simpa using c) (Ev.now _)
theorem mallI_ev {l : List S26} (hl : l.length ≤ 1048576) (hs : ∀ x ∈ l, x.f0.length ≤ 1048576) : Ev (fun k => impl_MeetOfAll.f k l) (mal l) := by
 unfold impl_MeetOfAll.f
 exact mallI_l0 hl hs l.length 0 (by omega) (by omega) (fun j a b => by omega)
theorem copy3 {l : List Int} (h : l.length ≤ 1048576) : spec_l3Copy.f l = some l := by
 unfold spec_l3Copy.f
 simp only [Option.bind_some, List.nil_append, List.length_nil]
 exact if_pos (by omega)
theorem mallS_ev {l : List S26} (hl : l.length ≤ 1048576) (hs : ∀ x ∈ l, x.f0.length ≤ 1048576) : Ev (fun k => spec_MeetOfAll.f k l) (mal l) := by
 unfold spec_MeetOfAll.f
 have no : Ev (fun k => spec_MeetOfAll.j0 k l true) (([] : List Int), false) := Ev.step (fun k => by rw [spec_MeetOfAll.j0]) (ev_ifp rfl (Ev.now _))
 by_cases z : l.length = 0
 · rw [mal_nil z]
   exact ev_ifp (by omega) no
 · have m := hs _ (mem26 (i := 0) (by omega) (by omega))
   refine ev_ifn (by omega) (ev_ifp (by omega) (ev_bind _ (sgS_ev (by omega)) ?_))
   by_cases c : SG (rd_T26 l 0).f0
   · rw [mal_yes z c, show (!decide (SG (rd_T26 l 0).f0)) = false from by simp [c]]
     refine Ev.step (fun k => by rw [spec_MeetOfAll.j0]) (ev_ifn (by simp) (ev_ifp (by omega) ?_))
     rw [copy3 m]
     simp only [Option.bind_some]
     exact mallS_l0 hl hs (l.length - 1) 1 _ (by omega) (by omega) m
   · rw [mal_no z c, show (!decide (SG (rd_T26 l 0).f0)) = true from by simp [c]]
     exact no
theorem eqIntS_l {l m : List Int} (hl : l.length ≤ 1099511627776) (e : l.length = m.length) (d : Nat) : ∀ (i : Int), 0 ≤ i → i + d = l.length → Ev (fun k => laws_eqIntS.l0 k l m i) (decide (l.drop i.toNat = m.drop i.toNat)) := by
 induction d with
 | zero =>
  intro i h0 h1
  refine Ev.step (fun k => by rw [laws_eqIntS.l0]) ?_
  simp (disch := omega) only [if_neg]
  refine ev_to (Ev.now _) ?_
  rw [List.drop_of_length_le (by omega), List.drop_of_length_le (by omega)]; simp
 | succ d ih =>
  intro i h0 h1
  refine Ev.step (fun k => by rw [laws_eqIntS.l0]) ?_
  simp (disch := omega) only [if_pos, w64]
  rw [drop_rd h0 (by omega), drop_rd (l := m) h0 (by omega)]
  by_cases h : rd l i = rd m i
  · refine ev_ifp h (ev_to (ih (i + 1) (by omega) (by omega)) ?_)
    simp [h]
  · refine ev_ifn h (ev_to (Ev.now _) ?_)
    simp [h]
theorem eqIntS_ev {l m : List Int} (hl : l.length ≤ 1099511627776) : Ev (fun k => laws_eqIntS.f k l m) (decide (l = m)) := by
 unfold laws_eqIntS.f
 by_cases e : l.length = m.length
 · refine ev_ifp (by omega) (ev_to (eqIntS_l hl e l.length 0 (by omega) (by omega)) ?_)
   simp
 · refine ev_ifn (by omega) (ev_to (Ev.now _) ?_)
   simp; intro h; exact e (by rw [h])
theorem toIntS_l {l : List Int} (hl : l.length ≤ 1048576) (d : Nat) : ∀ (i : Int) (out : List Int), 0 ≤ i → i + d = l.length → out.length = l.length → out.take i.toNat = l.take i.toNat → Ev (fun k => laws_toIntS.l0 k l out i) l := by
 induction d with
 | zero =>
  intro i out h0 h1 h2 h3
  refine Ev.step (fun k => by rw [laws_toIntS.l0]) ?_
  simp (disch := omega) only [if_neg]
  rw [List.take_of_length_le (by omega), List.take_of_length_le (by omega)] at h3
  subst h3
  exact Ev.now _
 | succ d ih =>
  intro i out h0 h1 h2 h3
  refine Ev.step (fun k => by rw [laws_toIntS.l0]) ?_
  simp (disch := omega) only [if_pos, w64]
  refine ih _ _ (by omega) (by omega) (by simpa using h2) ?_
  rw [take_rd h0 (by simp; omega), take_rd h0 (by omega), rd_set _ h0 (by omega) h0, if_pos rfl, ← h3]
  congr 1
  rw [List.take_set_of_le (Nat.le_refl _)]
theorem toIntS_ev {l : List Int} (hl : l.length ≤ 1048576) : Ev (fun k => laws_toIntS.f k l) l := by
 unfold laws_toIntS.f
 simp (disch := omega) only [if_pos]
 exact toIntS_l hl l.length _ _ (by omega) (by omega) (by simp) (by simp)
theorem szSg_small {l : List Int} {a : Int} (h : (l.length : Int) ≤ a) (ha : a ≤ 1048576) : laws_szSemigroup.f l a = some (a - l.length) := by
 unfold laws_szSemigroup.f laws_szIntS.f
 rw [w64 (x := a - l.length) (by omega) (by omega), if_neg (by omega)]
 simp only [Option.bind_some]
 rw [if_neg (by omega)]
theorem toSg_ev {l : List Int} (hl : l.length ≤ 1048576) : Ev (fun k => laws_toSemigroup.f k l) l := by
 unfold laws_toSemigroup.f
 exact ev_bind _ (toIntS_ev hl) (Ev.now _)
theorem eqSg_ev {l m : List Int} (hl : l.length ≤ 1099511627776) : Ev (fun k => laws_eqSemigroup.f k l m) (decide (l = m)) := by
 unfold laws_eqSemigroup.f
 refine ev_bind _ (eqIntS_ev hl) ?_
 by_cases e : l = m
 · exact ev_ifp (by simpa using e) (ev_to (Ev.now _) (by simp [e]))
 · exact ev_ifn (by simpa using e) (ev_to (Ev.now _) (by simp [e]))
theorem eqSg_same {l : List Int} (hl : l.length ≤ 1099511627776) : Ev (fun k => laws_eqSemigroup.f k l l) true := ev_to (eqSg_ev hl) (by simp)
theorem szSg_far {l : List Int} {a : Int} (h : ¬ (l.length : Int) ≤ a) (h0 : 0 ≤ a) (ha : a ≤ 1048576) (hl : l.length ≤ 9223372036854775807) : laws_szSemigroup.f l a = some (-1) := by
 unfold laws_szSemigroup.f laws_szIntS.f
 rw [w64 (x := a - l.length) (by omega) (by omega), if_pos (by omega)]
 rfl
def to26 (l : List S36) : List S26 := l.map fun x => ⟨x.f0⟩
theorem to26_len (l : List S36) : (to26 l).length = l.length := List.length_map ..
theorem rd36_get {l : List S36} {i : Int} (h0 : 0 ≤ i) (h1 : i < l.length) : l[i.toNat]? = some (rd_T36 l i) := by
 have hl : i.toNat < l.length := by omega
 unfold rd_T36
 rw [List.getD_eq_getElem?_getD, List.getElem?_eq_getElem hl]; rfl
theorem to26_small {l : List S36} (h : ∀ j : Int, 0 ≤ j → j < l.length → (rd_T36 l j).f0.length ≤ 1048576) : ∀ x ∈ to26 l, x.f0.length ≤ 1048576 := fun x hx => by
 obtain ⟨y, hy, rfl⟩ := List.mem_map.1 hx
 obtain ⟨i, hi, rfl⟩ := List.getElem_of_mem hy
 have := h i (by omega) (by omega)
 have e := rd36_get (l := l) (i := (i : Int)) (by omega) (by omega)
 rw [Int.toNat_natCast, List.getElem?_eq_getElem hi] at e
 injection e with e
 show (l[i]).f0.length ≤ 1048576
 rw [e]; exact this
theorem szS_l {l : List S36} (hl : l.length ≤ 1048576) (hm : ∀ x ∈ l, x.f0.length ≤ 9223372036854775807) (d : Nat) : ∀ (i a : Int), 0 ≤ i → i + d = l.length → 0 ≤ a → a ≤ 1048576 → ∃ r, Ev (fun k => laws_szSemigroupS.l0 k l a i) r ∧ (r < 0 ∨ ∀ j, i ≤ j → j < l.length → (rd_T36 l j).f0.length ≤ 1048576) := by
 induction d with
 | zero =>
  intro i a h0 h1 h2 h3
  exact ⟨a, Ev.step (fun k => by rw [laws_szSemigroupS.l0]) (ev_ifn (by omega) (Ev.now _)), .inr fun j a b => by omega⟩
 | succ d ih =>
  intro i a h0 h1 h2 h3
  have m := hm _ (List.mem_of_getElem? (rd36_get h0 (show i < l.length by omega)))
  by_cases c : ((rd_T36 l i).f0.length : Int) ≤ a
  · obtain ⟨r, r1, r2⟩ := ih (i + 1) (a - (rd_T36 l i).f0.length) (by omega) (by omega) (by omega) (by omega)
    refine ⟨r, Ev.step (fun k => by rw [laws_szSemigroupS.l0]) (ev_ifp (by omega) (ev_ifp h0 ?_)), ?_⟩
    · rw [szSg_small c h3]
      simp only [Option.bind_some]
      rw [w64 (x := i + 1) (by omega) (by omega)]
      exact ev_ifn (by omega) r1
    · rcases r2 with q | q
      · exact .inl q
      · refine .inr fun j j0 j1 => ?_
        by_cases e : j = i
        · rw [e]; omega
        · exact q j (by omega) j1
  · refine ⟨-1, Ev.step (fun k => by rw [laws_szSemigroupS.l0]) (ev_ifp (by omega) (ev_ifp h0 ?_)), .inl (by omega)⟩
    rw [szSg_far c h2 h3 m]
    simp only [Option.bind_some]
    exact ev_ifp (by omega) (Ev.now _)
theorem szS_ev {l : List S36} (hl : l.length ≤ 9223372036854775807) (hm : ∀ x ∈ l, x.f0.length ≤ 9223372036854775807) : ∃ r, Ev (fun k => laws_szSemigroupS.f k l 1048576) r ∧ (r < 0 ∨ (l.length ≤ 1048576 ∧ ∀ j : Int, 0 ≤ j → j < l.length → (rd_T36 l j).f0.length ≤ 1048576)) := by
 unfold laws_szSemigroupS.f
 rw [w64 (x := 1048576 - (l.length : Int)) (by omega) (by omega)]
 by_cases c : (l.length : Int) ≤ 1048576
 · obtain ⟨r, r1, r2⟩ := szS_l (by omega) hm l.length 0 (1048576 - (l.length : Int)) (by omega) (by omega) (by omega) (by omega)
   exact ⟨r, ev_ifn (by omega) r1, r2.imp id fun q => ⟨by omega, q⟩⟩
 · exact ⟨-1, ev_ifp (by omega) (Ev.now _), .inl (by omega)⟩
theorem toS_l {l : List S36} (hl : l.length ≤ 1048576) (hs : ∀ j : Int, 0 ≤ j → j < l.length → (rd_T36 l j).f0.length ≤ 1048576) (d : Nat) : ∀ (i : Int) (x : List S26), 0 ≤ i → i + d = l.length → x.length = l.length → (∀ j : Nat, (j : Int) < i → x[j]? = (to26 l)[j]?) → Ev (fun k => laws_toSemigroupS.l0 k l x i) (to26 l) := by
 induction d with
 | zero =>
  intro i x h0 h1 h2 h3
  refine Ev.step (fun k => by rw [laws_toSemigroupS.l0]) (ev_ifn (by omega) (ev_to (Ev.now _) ?_))
  refine List.ext_getElem? fun j => ?_
  by_cases c : (j : Int) < i
  · exact h3 j c
  · rw [List.getElem?_eq_none (by omega), List.getElem?_eq_none (by rw [to26_len]; omega)]
 | succ d ih =>
  intro i x h0 h1 h2 h3
  refine Ev.step (fun k => by rw [laws_toSemigroupS.l0]) ?_
  refine ev_ifp (by omega) (ev_ifp h0 ?_)
  refine ev_bind _ (toSg_ev (hs i h0 (by omega))) ?_
  refine ev_ifp (by omega) ?_
  rw [w64 (x := i + 1) (by omega) (by omega)]
  refine ih (i + 1) _ (by omega) (by omega) (by rw [List.length_set]; exact h2) fun j hj => ?_
  by_cases e : j = i.toNat
  · subst e
    rw [List.getElem?_set_self (by omega)]
    unfold to26
    rw [List.getElem?_map, rd36_get h0 (by omega)]; rfl
  · rw [List.getElem?_set_ne (fun q => e q.symm)]
    exact h3 j (by omega)
theorem toS_ev {l : List S36} (hl : l.length ≤ 1048576) (hs : ∀ j : Int, 0 ≤ j → j < l.length → (rd_T36 l j).f0.length ≤ 1048576) : Ev (fun k => laws_toSemigroupS.f k l) (to26 l) := by
 unfold laws_toSemigroupS.f
 exact ev_ifp (by omega) (ev_ifp (by omega) (toS_l hl hs l.length 0 _ (by omega) (by omega) (by rw [List.length_replicate]; omega) (fun j h => by omega)))
theorem eqS_l {l : List S26} (hl : l.length ≤ 1048576) (hs : ∀ x ∈ l, x.f0.length ≤ 1048576) (d : Nat) : ∀ i : Int, 0 ≤ i → i + d = l.length → Ev (fun k => laws_eqSemigroupS.l0 k l l i) true := by
 induction d with
 | zero => intro i h0 h1; exact Ev.step (fun k => by rw [laws_eqSemigroupS.l0]) (ev_ifn (by omega) (Ev.now _))
 | succ d ih =>
  intro i h0 h1
  have m := hs _ (mem26 h0 (by omega))
  refine Ev.step (fun k => by rw [laws_eqSemigroupS.l0]) (ev_ifp (by omega) (ev_ifp h0 (ev_ifp (by omega) (ev_bind _ (eqSg_same (by omega)) (ev_ifp rfl ?_)))))
  rw [w64 (x := i + 1) (by omega) (by omega)]
  exact ih (i + 1) (by omega) (by omega)
theorem eqS_ev {l : List S26} (hl : l.length ≤ 1048576) (hs : ∀ x ∈ l, x.f0.length ≤ 1048576) : Ev (fun k => laws_eqSemigroupS.f k l l) true := by
 unfold laws_eqSemigroupS.f
 exact ev_ifp rfl (eqS_l hl hs l.length 0 (by omega) (by omega))
theorem rd26_set {l : List S26} {x : S26} {i j : Int} (h0 : 0 ≤ i) (hij : i < j) : rd_T26 (l.set i.toNat x) j = rd_T26 l j := by
 unfold rd_T26
 rw [List.getD_eq_getElem?_getD, List.getD_eq_getElem?_getD, List.getElem?_set_ne (by omega)]
theorem markS_l {n : Nat} (hn : n ≤ 1048576) (d : Nat) : ∀ (i a : Int) (l : List S26), 0 ≤ i → i + d = n → l.length = n → 0 ≤ a → a ≤ 1048576 * (i + 1) → (∀ j, i ≤ j → j < n → (rd_T26 l j).f0.length ≤ 1048576) → ∃ r, 0 ≤ r ∧ Ev (fun k => laws_markSemigroupS.l0 k l a i) r := by
 induction d with
 | zero =>
  intro i a l h0 h1 h2 h3 h4 h5
  exact ⟨a, h3, Ev.step (fun k => by rw [laws_markSemigroupS.l0]) (ev_ifn (by omega) (Ev.now _))⟩
 | succ d ih =>
  intro i a l h0 h1 h2 h3 h4 h5
  have m := h5 i (by omega) (by omega)
  have mk := markIntS_ev (l := (rd_T26 l i).f0) h3 (by omega)
  obtain ⟨r, r0, r1⟩ := ih (i + 1) (a + (rd_T26 l i).f0.length) (l.set i.toNat ⟨marks a (rd_T26 l i).f0.length⟩) (by omega) (by omega) (by rw [List.length_set]; exact h2) (by omega) (by omega) (fun j j0 j1 => by rw [rd26_set h0 (by omega)]; exact h5 j (by omega) j1)
  refine ⟨r, r0, Ev.step (fun k => by rw [laws_markSemigroupS.l0]) (ev_ifp (by omega) (ev_ifp h0 (ev_bind _ mk ?_)))⟩
  rw [w64 (x := i + 1) (by omega) (by omega)]
  exact r1
theorem markS_ev {l : List S26} (hl : l.length ≤ 1048576) (hs : ∀ x ∈ l, x.f0.length ≤ 1048576) : ∃ r, 0 ≤ r ∧ Ev (fun k => laws_markSemigroupS.f k l 1) r := by
 unfold laws_markSemigroupS.f
 exact markS_l hl l.length 0 1 l (by omega) (by omega) rfl (by omega) (by omega) (fun j j0 j1 => hs _ (mem26 j0 j1))
end Go.Proofs.Ytonknpgfbkgbjaa.E
end
section
namespace Go.Proofs.Ytonknpgfbkgbjaa.Pure
open Go.RowKit Go.Proofs.Ytonknpgfbkgbjaa.PA Go.Proofs.Ytonknpgfbkgbjaa.E Go.Proofs.YtonknpgfbkgbjaaW.PrintWords Go.Proofs.YtonknpgfbkgbjaaW.PrintLast Go.Proofs.YtonknpgfbkgbjaaW.PrintMore
set_option linter.unusedVariables false
set_option linter.unusedSimpArgs false
theorem FnExactMeetOfAll (l0 : List S36) (h0 : l0.length ≤ maxLen) (h1 : ∀ x ∈ l0, x.f0.length ≤ maxLen) : ∃ k, laws_FnExactMeetOfAll.f k l0 = some true := by
 apply Ev.rounds
 unfold laws_FnExactMeetOfAll.f
 have big : maxLen ≤ 9223372036854775807 := by decide
 obtain ⟨z, z1, z2⟩ := szS_ev (l := l0) (by omega) (fun x hx => by have := h1 x hx; omega)
 refine ev_bind _ z1 ?_
 by_cases c : z < 0
 · exact ev_ifp c (Ev.now _)
 refine ev_ifn c ?_
 obtain ⟨hl, hs⟩ := z2.resolve_left c
 have t := toS_ev hl hs
 have tl := to26_len l0
 have ts := to26_small hs
 have mi := mallI_ev (l := to26 l0) (by omega) ts
 have mm := mallS_ev (l := to26 l0) (by omega) ts
 have ml := mal_len ts
 have es := eqSg_same (l := (mal (to26 l0)).1) (by omega)
 have eS := eqS_ev (l := to26 l0) (by omega) ts
 obtain ⟨r, r0, r1⟩ := markS_ev (l := to26 l0) (by omega) ts
 have em := markSg_ev (l := (mal (to26 l0)).1) (a := 1) (by omega) (by omega)
 have eh := heldSg_ev (n := (mal (to26 l0)).1.length) (a := 1) (by omega) (by omega)
 refine ev_bind _ t (ev_bind _ mm (ev_bind _ t (ev_bind _ mi (ev_bind _ es (ev_ifp rfl ?_)))))
 rw [show ((mal (to26 l0)).2 != (mal (to26 l0)).2) = false from by simp]
 refine Ev.step (fun k => by rw [laws_FnExactMeetOfAll.j0]) (ev_ifn (by simp) (ev_bind _ t (ev_bind _ eS (ev_ifp rfl ?_))))
 refine ev_bind _ r1 ?_
 have rn : ¬ r < 0 := by omega
 refine ev_ifn rn (ev_bind _ es (ev_ifp rfl ?_))
 rw [show ((mal (to26 l0)).2 != (mal (to26 l0)).2) = false from by simp]
 refine Ev.step (fun k => by rw [laws_FnExactMeetOfAll.j1]) (ev_ifn (by simp) (ev_bind _ em (ev_bind _ eh ?_)))
 refine ev_ifn (by omega) ?_
 refine ev_ifp rfl (ev_bind _ t (ev_bind _ mi (ev_bind _ es (ev_ifp rfl ?_))))
 rw [show ((mal (to26 l0)).2 != (mal (to26 l0)).2) = false from by simp]
 refine Ev.step (fun k => by rw [laws_FnExactMeetOfAll.j2]) (ev_ifn (by simp) (ev_bind _ eh ?_))
 exact ev_ifn (by omega) (ev_ifp rfl (Ev.now _))
end Go.Proofs.Ytonknpgfbkgbjaa.Pure
end
section
namespace Go.Proofs.Ytonknpgfbkgbjaa.E
open Go.ChangeShapes Go.WideShapes Go.ChangeAt Go.RowKit Go.Deep Go.Joins
theorem nest1_ {H : Type} {enc : TypeId × Value → H} {P : Program} {w : World} {base : Nat} {spare : Nat → Bool} {held : Bool} {fuel : Nat} {t : TypeId} {f0 : Field} {c : Value} {y : DataW H × List MemPlace} (hs : P.underlying t = some (.struct #[f0])) (hone : oneCellFields P #[f0] = true) (h : DataW.trod enc P w base spare held fuel t [c] = some y) :
 ∃ (y0 : DataW H × List MemPlace) (n : Nat), y = (.agg [y0.1], y0.2) ∧ DataW.trod enc P w base spare held n f0.type [c] = some y0 := by
 obtain ⟨y0, n, hx, _, h0⟩ := trod_struct1 hs h
 obtain ⟨o0, k0⟩ := hone_of hone 0 f0 rfl
 exact ⟨y0, n, hx, by simpa [o0, k0] using h0⟩
end Go.Proofs.Ytonknpgfbkgbjaa.E
end
