-- Bundled by shake.py from this session's printed and written texts; Lean checks it.
import Derived.Below
import Derived.ChangeOld
import Derived.ChangeSlices
import Derived.Deep.Fields
import Derived.Lib.SmallJoins
import Derived.OpenShut
import Derived.ProofKit
import Derived.Shelf.Abstract
import Derived.SizedLaws
import Derived.Test.YtapdhljbhekcdaaZFnExactArfFailurex1
import Derived.Test.YtapdhljbhekcdaaZFnExactArfFailurex10
import Derived.Test.YtapdhljbhekcdaaZFnExactArfFailurex11
import Derived.Test.YtapdhljbhekcdaaZFnExactArfFailurex2
import Derived.Test.YtapdhljbhekcdaaZFnExactArfFailurex3
import Derived.Test.YtapdhljbhekcdaaZFnExactArfFailurex4
import Derived.Test.YtapdhljbhekcdaaZFnExactArfFailurex5
import Derived.Test.YtapdhljbhekcdaaZFnExactArfFailurex6
import Derived.Test.YtapdhljbhekcdaaZFnExactArfFailurex8
import Derived.Test.YtapdhljbhekcdaaZFnExactArfFailurex9
import Derived.WalkKit
section
namespace Go.Proofs.Ytapdhljbhekcdaa.E
open Go.RowKit Go.Proofs.Ytapdhljbhekcdaa.PB Go.Proofs.YtapdhljbhekcdaaW.PrintWords Go.Proofs.YtapdhljbhekcdaaW.PrintLast Go.Proofs.YtapdhljbhekcdaaW.PrintMore
set_option linter.unusedVariables false
set_option linter.unusedSimpArgs false
noncomputable def stab (v : List Int) (m : Int) : List Bool := (List.range (m + 1).toNat).map (fun n : Nat => decide (Su v (n : Int)))
theorem stab_len {v : List Int} {m : Int} (h : 0 ≤ m) : ((stab v m).length : Int) = m + 1 := by unfold stab; simp; omega
theorem rdb_lt {l : List Bool} {i : Int} (h0 : 0 ≤ i) (h : i < l.length) : rdOf false l i = l[i.toNat]'(by omega) := by
  unfold rdOf; rw [List.getD_eq_getElem?_getD, List.getElem?_eq_getElem (by omega)]; rfl
theorem rdb_ext {l m : List Bool} (hl : l.length = m.length) (h : ∀ i : Int, 0 ≤ i → i < l.length → rdOf false l i = rdOf false m i) : l = m := by
  refine List.ext_getElem hl fun n h1 h2 => ?_
  have := h n (by omega) (by omega)
  rw [rdb_lt (by omega) (by omega), rdb_lt (by omega) (by omega)] at this
  simpa using this
theorem stab_rd {v : List Int} {m j : Int} (h0 : 0 ≤ j) (h : j ≤ m) : rdOf false (stab v m) j = decide (Su v j) := by
  have := stab_len (v := v) (m := m) (by omega)
  rw [rdb_lt h0 (by omega)]
  unfold stab
  rw [List.getElem_map, List.getElem_range, show ((j.toNat : Nat) : Int) = j from by omega]
theorem stab_iff {v : List Int} {m j : Int} (h0 : 0 ≤ j) (h : j ≤ m) : rdOf false (stab v m) j = true ↔ Su v j := by rw [stab_rd h0 h]; simp
theorem stab_eq {v : List Int} {m : Int} (hm : 0 ≤ m) {t : List Bool} (hl : (t.length : Int) = m + 1) (h : ∀ j, 0 ≤ j → j ≤ m → (rdOf false t j = true ↔ Su v j)) : t = stab v m := by
  have e := stab_len (v := v) hm
  refine rdb_ext (by omega) fun i h0 h1 => ?_
  rw [stab_rd h0 (by omega), Bool.eq_iff_iff, h i h0 (by omega), decide_eq_true_eq]
theorem tabS_st {v : List Int} (hl : v.length ≤ 20) (hv : ∀ x ∈ v, 1 ≤ x ∧ x ≤ 60) {most : Int} (h0 : 0 ≤ most) (hm : most ≤ 1048576) : Ev (fun k => spec_l3Table.f k v most) (stab v most) := by
  obtain ⟨t, a, b, c⟩ := tabS_ev hl hv h0 hm
  rw [stab_eq h0 a b] at c
  exact c
theorem tabI_l {v u : List Int} (hu : UL v) (hg : gl v = 1) (hL : Lst v (rd v 0) 60 u) {most : Int} (hm0 : 0 ≤ most) (hm : most ≤ 1048576) (d : Nat) : ∀ (i : Int) (out : List Bool), 0 ≤ i → i + d = most + 1 → (out.length : Int) = most + 1 → (∀ j, 0 ≤ j → j < i → (rdOf false out j = true ↔ Su v j)) → Ev (fun k => impl_table.l0 k u out (most + 1) i v) (stab v most) := by
  have f := hu.first
  obtain ⟨_, fa, fb⟩ := f
  have f := hu.first
  have hlen := hu.1
  have hll := hL.len
  induction d with
  | zero =>
    intro i out h0 h1 h2 h3
    refine Ev.step (fun k => by rw [impl_table.l0]) ?_
    rw [stab_eq (v := v) (m := most) (t := out) (by omega) h2 (fun j a b => h3 j a (by omega))]
    exact ev_ifn (by omega) (Ev.now _)
  | succ d ih =>
    intro i out h0 h1 h2 h3
    have q0 := Int.emod_nonneg i (b := rd v 0) (by omega)
    have q1 := Int.emod_lt_of_pos i (b := rd v 0) (by omega)
    have p := hL.all f.2.1 hu.2 hg q0 q1
    have s := hL.su f.2.1 (Su.mem f.1) (n := i)
    refine Ev.step (fun k => by rw [impl_table.l0]) ?_
    rw [Int.tmod_eq_emod_of_nonneg h0, w64 (x := i + 1) (by omega) (by omega)]
    refine ev_ifp (by omega) (ev_ifp (by omega) (ev_ifn (by omega) (ev_ifp q0 (ev_ifp (by omega) (ev_ifp h0 (ev_ifp (by omega) (ih (i + 1) _ (by omega) (by omega) (by simpa using h2) fun j hj hj' => ?_)))))))
    rw [rdb_set _ h0 (by omega) hj]
    by_cases e : j = i
    · subst e
      rw [if_pos rfl, decide_eq_true_eq, s]
      exact ⟨fun h => ⟨p, h⟩, fun h => h.2⟩
    · rw [if_neg e]; exact h3 j hj (by omega)
theorem tabI_st {v : List Int} (hu : UL v) (hg : gl v = 1) {most : Int} (h0 : 0 ≤ most) (hm : most ≤ 1048576) : Ev (fun k => impl_table.f k v most) (stab v most) := by
  obtain ⟨f1, f2, f3⟩ := hu.first
  have hlen := hu.1
  obtain ⟨u, hL, hE⟩ := leasts_ev (G := 60) (a := rd v 0) hu.2 (by omega) (by omega) f2 (by omega) (by omega)
  have e0 : ((List.replicate (most + 1).toNat false).length : Int) = most + 1 := by simp; omega
  unfold impl_table.f
  refine ev_ifp (by omega) (ev_bind _ hE ?_)
  rw [w64 (by omega) (by omega)]
  simp only [Option.bind_some]
  refine ev_ifp (by omega) (ev_ifp (by omega) ?_)
  rw [e0]
  exact tabI_l hu hg hL h0 hm (most + 1).toNat 0 _ (by omega) (by omega) e0 (fun j a b => by omega)
end Go.Proofs.Ytapdhljbhekcdaa.E
end
section
namespace Go.Proofs.Ytapdhljbhekcdaa.E
open Go.RowKit Go.Proofs.Ytapdhljbhekcdaa.PB Go.Proofs.YtapdhljbhekcdaaW.PrintWords Go.Proofs.YtapdhljbhekcdaaW.PrintLast Go.Proofs.YtapdhljbhekcdaaW.PrintMore
set_option linter.unusedVariables false
set_option linter.unusedSimpArgs false
noncomputable def isgap (v : List Int) (n : Int) : Bool := !decide (Su v n)
noncomputable def gp (v : List Int) : List Int := fl (isgap v) 1 199
theorem isgap_t {v : List Int} {n : Int} : isgap v n = true ↔ ¬ Su v n := by unfold isgap; simp
theorem SG.su200 {v : List Int} (h : SG v) : Su v 200 := h.ends 200 (by omega)
theorem SG.sutab {v : List Int} (h : SG v) {m : Int} (h0 : 0 ≤ m) (hm : m ≤ 1048576) : Ev (fun k => impl_table.f k v m) (stab v m) := tabI_st h.ul h.gcd h0 hm
theorem SG.sutabS {v : List Int} (h : SG v) {m : Int} (h0 : 0 ≤ m) (hm : m ≤ 1048576) : Ev (fun k => spec_l3Table.f k v m) (stab v m) := tabS_st (by have := h.len; omega) h.ul.2 h0 hm
theorem gp_wide {v : List Int} (h : SG v) : fl (isgap v) 0 201 = gp v := by
  have a : ¬ isgap v 0 = true := by rw [isgap_t]; simpa using Su.zero v
  have b : ¬ isgap v 200 = true := by rw [isgap_t]; simpa using h.su200
  rw [show (201 : Nat) = 200 + 1 from rfl, fl_no a, show (200 : Nat) = 199 + 1 from rfl, fl_app, show (0 : Int) + 1 = 1 from rfl, show (1 : Int) + ((199 : Nat) : Int) = 200 from rfl, show (1 : Nat) = 0 + 1 from rfl, fl_no b]
  unfold gp
  rw [show fl (isgap v) (200 + 1) 0 = [] from rfl, List.append_nil]
theorem gp_mem {v : List Int} {x : Int} : x ∈ gp v ↔ 1 ≤ x ∧ x < 200 ∧ ¬ Su v x := by
  unfold gp; rw [fl_mem, isgap_t]; constructor <;> rintro ⟨a, b, c⟩ <;> exact ⟨a, by omega, c⟩
theorem gp_len (v : List Int) : (gp v).length ≤ 199 := fl_len _ _ _
theorem gapsI_l {v : List Int} (d : Nat) : ∀ (i : Int) (out : List Int), 0 ≤ i → i + d = 201 → (out.length : Int) ≤ i → Ev (fun k => impl_Gaps.l0 k out (stab v 200) 201 i) (out ++ fl (isgap v) i d) := by
  have sl := stab_len (v := v) (m := 200) (by omega)
  induction d with
  | zero =>
    intro i out h0 h1 h2
    refine Ev.step (fun k => by rw [impl_Gaps.l0]) (ev_ifn (by omega) (ev_to (Ev.now _) ?_))
    simp [fl]
  | succ d ih =>
    intro i out h0 h1 h2
    have s := stab_iff (v := v) (m := 200) h0 (by omega)
    refine Ev.step (fun k => by rw [impl_Gaps.l0]) ?_
    rw [w64 (x := i + 1) (by omega) (by omega)]
    by_cases c : Su v i
    · rw [fl_no (by rw [isgap_t]; simpa using c)]
      exact ev_ifp (by omega) (ev_ifp h0 (ev_ifp (by omega) (ev_ifp (s.2 c) (ih (i + 1) out (by omega) (by omega) (by omega)))))
    · rw [fl_yes (isgap_t.2 c)]
      refine ev_ifp (by omega) (ev_ifp h0 (ev_ifp (by omega) (ev_ifn (fun h => c (s.1 h)) (ev_ifp (by omega) (ev_to (ih (i + 1) (out ++ [i]) (by omega) (by omega) (by simp; omega)) ?_)))))
      simp
theorem gapsS_l {v : List Int} (d : Nat) : ∀ (i : Int) (out : List Int), 0 ≤ i → i + d = 200 → (out.length : Int) ≤ i → Ev (fun k => spec_l4Gaps.l0 k out (stab v 200) i) (out ++ fl (isgap v) i d) := by
  have sl := stab_len (v := v) (m := 200) (by omega)
  induction d with
  | zero =>
    intro i out h0 h1 h2
    refine Ev.step (fun k => by rw [spec_l4Gaps.l0]) (ev_ifn (by omega) (ev_to (Ev.now _) ?_))
    simp [fl]
  | succ d ih =>
    intro i out h0 h1 h2
    have s := stab_iff (v := v) (m := 200) h0 (by omega)
    refine Ev.step (fun k => by rw [spec_l4Gaps.l0]) ?_
    rw [w64 (x := i + 1) (by omega) (by omega)]
    by_cases c : Su v i
    · rw [fl_no (by rw [isgap_t]; simpa using c)]
      exact ev_ifp (by omega) (ev_ifp h0 (ev_ifp (by omega) (ev_ifp (s.2 c) (ih (i + 1) out (by omega) (by omega) (by omega)))))
    · rw [fl_yes (isgap_t.2 c)]
      refine ev_ifp (by omega) (ev_ifp h0 (ev_ifp (by omega) (ev_ifn (fun h => c (s.1 h)) (ev_ifp (by omega) (ev_to (ih (i + 1) (out ++ [i]) (by omega) (by omega) (by simp; omega)) ?_)))))
      simp
theorem l4Gaps_ev {v : List Int} (h : SG v) : Ev (fun k => spec_l4Gaps.f k v) (gp v) := by
  unfold spec_l4Gaps.f
  exact ev_bind _ (h.sutabS (by omega) (by omega)) (gapsS_l 199 1 [] (by omega) (by omega) (by simp))
theorem gapsI_ev {v : List Int} (hl : v.length ≤ 1099511627776) : Ev (fun k => impl_Gaps.f k v) (if SG v then gp v else []) := by
  unfold impl_Gaps.f
  refine ev_bind _ (sgI_ev hl) ?_
  by_cases c : SG v
  · rw [if_pos c]
    refine ev_ifp (by simpa using c) (ev_bind _ (c.sutab (by omega) (by omega)) ?_)
    rw [stab_len (by omega), ← gp_wide c]
    exact gapsI_l 201 0 [] (by omega) (by omega) (by simp)
  · rw [if_neg c]; exact ev_ifn (by simpa using c) (Ev.now _)
end Go.Proofs.Ytapdhljbhekcdaa.E
end
section
namespace Go.Proofs.Ytapdhljbhekcdaa.E
open Go.RowKit Go.Proofs.YtapdhljbhekcdaaW.PrintWords Go.Proofs.YtapdhljbhekcdaaW.PrintLast Go.Proofs.YtapdhljbhekcdaaW.PrintMore
set_option linter.unusedVariables false
set_option linter.unusedSimpArgs false
noncomputable def gps (v : List Int) : List Int := if SG v then gp v else []
noncomputable def fob (v : List Int) : Int := if (gps v).length = 0 then -1 else rd (gps v) ((gps v).length - 1)
noncomputable def cd (v : List Int) : Int := fob v + 1
theorem gps_len (v : List Int) : (gps v).length ≤ 199 := by
  unfold gps; split
  · exact gp_len v
  · simp
theorem gps_sg {v : List Int} (h : SG v) : gps v = gp v := by unfold gps; rw [if_pos h]
theorem gps_no {v : List Int} (h : ¬ SG v) : gps v = [] := by unfold gps; rw [if_neg h]
theorem fob_some {v : List Int} (h : SG v) (hn : gp v ≠ []) : 1 ≤ fob v ∧ fob v < 200 ∧ ¬ Su v (fob v) ∧ ∀ n, fob v < n → Su v n := by
  obtain ⟨x, a, b, c, e, f⟩ := fl_last (p := isgap v) (i := 1) (d := 199) hn
  have hl : ¬ (gp v).length = 0 := by simpa using hn
  have ex : fob v = x := by
    unfold fob; rw [gps_sg h, if_neg hl]; exact f
  rw [ex]
  refine ⟨a, by omega, isgap_t.1 c, fun n hn => ?_⟩
  by_cases hn' : n < 200
  · have := e n hn (by omega)
    rw [isgap_t] at this
    exact Classical.byContradiction this
  · exact h.ends n (by omega)
theorem fob_none {v : List Int} (h : gps v = []) : fob v = -1 := by unfold fob; rw [h]; rfl
theorem SG.pos {v : List Int} (h : SG v) : ∀ x ∈ v, 1 ≤ x := fun x hx => (h.ul.2 x hx).1
theorem cd_fact {v : List Int} (h : SG v) : 0 ≤ cd v ∧ cd v ≤ 200 ∧ cd v ≠ 1 ∧ (∀ n, cd v ≤ n → Su v n) ∧ ¬ Su v (cd v - 1) := by
  unfold cd
  by_cases hn : gp v = []
  · rw [fob_none (by rw [gps_sg h, hn])]
    refine ⟨by omega, by omega, by omega, fun n hn' => ?_, fun k => by have := k.pos h.pos; omega⟩
    by_cases c : Su v n
    · exact c
    · by_cases e : n = 0
      · rw [e]; exact Su.zero v
      · have : n ∈ gp v := gp_mem.2 ⟨by omega, by
          by_cases c2 : n < 200
          · exact c2
          · exact absurd (h.ends n (by omega)) c, c⟩
        rw [hn] at this; simp at this
  · obtain ⟨a, b, c, e⟩ := fob_some h hn
    exact ⟨by omega, by omega, by omega, fun n hn' => e n (by omega), by rw [show fob v + 1 - 1 = fob v from by omega]; exact c⟩
noncomputable def sml (v : List Int) (m : Int) : List Int := fl (fun n => decide (Su v n)) 0 m.toNat
theorem sml_len (v : List Int) (m : Int) : (sml v m).length ≤ m.toNat := fl_len _ _ _
end Go.Proofs.Ytapdhljbhekcdaa.E
end
section
namespace Go.Proofs.Ytapdhljbhekcdaa.E
open Go.RowKit Go.Proofs.Ytapdhljbhekcdaa.PB Go.Proofs.YtapdhljbhekcdaaW.PrintWords Go.Proofs.YtapdhljbhekcdaaW.PrintLast Go.Proofs.YtapdhljbhekcdaaW.PrintMore
set_option linter.unusedVariables false
set_option linter.unusedSimpArgs false
noncomputable def sub (v : List Int) (d : Int) : Bool := decide (Su v d)
theorem inOf_sub {v : List Int} (h : SG v) : inOf (some (stab v 200)) = sub v := by
  funext d
  unfold inOf sub
  by_cases h1 : 200 ≤ d
  · simp [h1, h.ends d h1]
  · by_cases h2 : 0 ≤ d
    · simp [h1, h2, stab_rd (v := v) (m := 200) h2 (by omega)]
    · have : ¬ Su v d := fun k => by have := k.pos h.pos; omega
      simp [h1, h2, this]
noncomputable def rch (v : List Int) : Option (List Bool) := if SG v then some (stab v 200) else none
theorem rch_sg {v : List Int} (h : SG v) : rch v = some (stab v 200) := by unfold rch; rw [if_pos h]
theorem rch_no {v : List Int} (h : ¬ SG v) : rch v = none := by unfold rch; rw [if_neg h]
theorem reach_ev {v : List Int} (hl : v.length ≤ 1099511627776) : Ev (fun k => impl_reach.f k v) (rch v) := by
  have sl := stab_len (v := v) (m := 200) (by omega)
  unfold impl_reach.f
  refine ev_bind _ (sgI_ev hl) ?_
  by_cases c : SG v
  · rw [rch_sg c]; exact ev_ifp (by simpa using c) (ev_bind _ (c.sutab (by omega) (by omega)) (ev_ifp (by omega) (Ev.now _)))
  · rw [rch_no c]; exact ev_ifn (by simpa using c) (Ev.now _)
theorem l3Has_ev {v : List Int} (h : SG v) (a : Int) : Ev (fun k => spec_l3Has.f k v a) (decide (Su v a) || decide (200 ≤ a)) := by
  unfold spec_l3Has.f
  by_cases h1 : a < 0
  · have : ¬ Su v a := fun k => by have := k.pos h.pos; omega
    exact ev_ifp h1 (ev_to (Ev.now _) (by simp [this]; omega))
  · by_cases h2 : a ≥ 200
    · exact ev_ifn h1 (ev_ifp h2 (ev_to (Ev.now _) (by simp [h2]; omega)))
    · have sl := stab_len (v := v) (m := a) (by omega)
      refine ev_ifn h1 (ev_ifn h2 (ev_bind _ (h.sutabS (by omega) (by omega)) (ev_ifp (by omega) (ev_ifp (by omega) (ev_to (Ev.now _) ?_)))))
      rw [stab_rd (by omega) (Int.le_refl _)]; simp [h2]
theorem l3Has_su {v : List Int} (h : SG v) (a : Int) : Ev (fun k => spec_l3Has.f k v a) (sub v a) := by
  refine ev_to (l3Has_ev h a) ?_
  unfold sub
  by_cases c : 200 ≤ a
  · simp [h.ends a c]
  · simp [c]
theorem l15Has_su {v : List Int} (h : SG v) (a : Int) : Ev (fun k => spec_l15Has.f k v a) (sub v a) := by
  unfold spec_l15Has.f
  by_cases c : a = 0
  · subst c
    exact ev_ifp rfl (ev_to (Ev.now _) (by unfold sub; simp [Su.zero v]))
  · exact ev_ifn c (ev_bind _ (l3Has_su h a) (Ev.now _))
end Go.Proofs.Ytapdhljbhekcdaa.E
end
section
namespace Go.Proofs.Ytapdhljbhekcdaa.E
open Go.RowKit Go.Proofs.Ytapdhljbhekcdaa.PB Go.Proofs.YtapdhljbhekcdaaW.PrintWords Go.Proofs.YtapdhljbhekcdaaW.PrintLast Go.Proofs.YtapdhljbhekcdaaW.PrintMore
set_option linter.unusedVariables false
set_option linter.unusedSimpArgs false
theorem sortS_asc_l {v : List Int} (hl : v.length ≤ 1048576) (ha : Asc v) (d : Nat) : ∀ i : Int, 0 ≤ i → i + d = v.length → Ev (fun k => spec_SortList.l0 k v (v.take i.toNat) i) v := by
  induction d with
  | zero =>
    intro i h0 h1
    refine Ev.step (fun k => by rw [spec_SortList.l0]) ?_
    rw [List.take_of_length_le (by omega)]
    exact ev_ifn (by omega) (Ev.now _)
  | succ d ih =>
    intro i h0 h1
    have tl := take_len (v := v) (i := i) (by omega) (by omega)
    have nx := ih (i + 1) (by omega) (by omega)
    rw [take_rd h0 (by omega)] at nx
    refine Ev.step (fun k => by rw [spec_SortList.l0]) (ev_ifp (by omega) ?_)
    rw [tl]
    refine Ev.step (fun k => by rw [spec_SortList.l1]) ?_
    simp only [Option.bind_some]
    rw [w64 (x := i - 1) (by omega) (by omega), w64 (x := i + 1) (by omega) (by omega), List.drop_of_length_le (l := v.take i.toNat) (by omega), List.take_of_length_le (l := v.take i.toNat) (by omega)]
    have e0 : ([] : List Int).length + ([] : List Int).length < 17592186044416 := by simp
    have e1 : (v.take i.toNat).length < 17592186044416 := by omega
    have e2 : (v.take i.toNat ++ [rd v i]).length + ([] ++ [] : List Int).length < 17592186044416 := by simp; omega
    by_cases c : i > 0
    · have lt : rd (v.take i.toNat) (i - 1) < rd v i := by
        have e : rd (v.take i.toNat) (i - 1) = rd v (i - 1) := by
          rw [rd_lt (by omega) (by omega), rd_lt (by omega) (by omega), List.getElem_take]
        rw [e]; exact ha i c (by omega)
      refine ev_ifp c (ev_ifp (by omega) (ev_ifp (by omega) (ev_ifp h0 (ev_ifp (by omega) (ev_ifn (by omega) (ev_ifn (by omega) (ev_ifp h0 (ev_ifp (by omega) (ev_ifp e0 (ev_ifp e1 (ev_ifp e2 ?_)))))))))))
      simpa using nx
    · refine ev_ifn c (ev_ifp h0 (ev_ifp (by omega) (ev_ifp e0 (ev_ifp h0 (ev_ifp (by omega) (ev_ifp e1 (ev_ifp e2 ?_)))))))
      simpa using nx
theorem sortS_asc {v : List Int} (hl : v.length ≤ 1048576) (ha : Asc v) : Ev (fun k => spec_SortList.f k v) v := by
  unfold spec_SortList.f
  exact sortS_asc_l hl ha v.length 0 (by omega) (by omega)
theorem min_l {v : List Int} (hu : UL v) (d : Nat) : ∀ (i : Int) (out : List Int), 0 ≤ i → i + d = v.length → ((out = v.take i.toNat ∧ ∀ j : Int, 1 ≤ j → j < i → ¬ Su (v.take j.toNat) (rd v j)) ∨ ((out.length : Int) < i ∧ ¬ ∀ j : Int, 1 ≤ j → j < i → ¬ Su (v.take j.toNat) (rd v j))) →
    ∃ r, r.length ≤ 20 ∧ Ev (fun k => spec_l3Minimal.l0 k out v i) r ∧ (r = v ↔ ∀ j : Int, 1 ≤ j → j < v.length → ¬ Su (v.take j.toNat) (rd v j)) := by
  have hlen := hu.1
  induction d with
  | zero =>
    intro i out h0 h1 h2
    obtain rfl : i = v.length := by omega
    have hE : Ev (fun k => spec_l3Minimal.l0 k out v v.length) out := Ev.step (fun k => by rw [spec_l3Minimal.l0]) (ev_ifn (by omega) (Ev.now _))
    rcases h2 with ⟨e, h⟩ | ⟨e, h⟩
    · rw [List.take_of_length_le (by omega)] at e
      exact ⟨out, by rw [e]; omega, hE, fun _ => h, fun _ => e⟩
    · exact ⟨out, by omega, hE, fun e' => by rw [e'] at e; omega, fun h' => absurd h' h⟩
  | succ d ih =>
    intro i out h0 h1 h2
    have hx := hu.2 _ (rd_mem (l := v) h0 (by omega))
    have tl := take_len (v := v) (i := i) (by omega) (by omega)
    have ol : (out.length : Int) ≤ i := by
      rcases h2 with ⟨e, _⟩ | ⟨e, _⟩
      · rw [e, tl]; exact Int.le_refl _
      · omega
    by_cases c0 : i = 0
    · obtain ⟨r, r1, r2, r3⟩ := ih (i + 1) (out ++ [rd v i]) (by omega) (by omega) (by
        rcases h2 with ⟨e, _⟩ | ⟨e, _⟩
        · exact .inl ⟨by rw [take_rd h0 (by omega), e], fun j hj hj' => by omega⟩
        · omega)
      refine ⟨r, r1, Ev.step (fun k => by rw [spec_l3Minimal.l0]) ?_, r3⟩
      rw [w64 (x := i + 1) (by omega) (by omega)]
      exact ev_ifp (by omega) (ev_ifp c0 (ev_ifp h0 (ev_ifp (by omega) r2)))
    · obtain ⟨t, t1, t2, hE⟩ := tabS_ev (v := v.take i.toNat) (by omega) (take_ul hu.2 _) (most := rd v i) (by omega) (by omega)
      have ht := t2 (rd v i) (by omega) (Int.le_refl _)
      by_cases c : Su (v.take i.toNat) (rd v i)
      · obtain ⟨r, r1, r2, r3⟩ := ih (i + 1) out (by omega) (by omega) (.inr ⟨by omega, fun h => h i (by omega) (by omega) c⟩)
        refine ⟨r, r1, Ev.step (fun k => by rw [spec_l3Minimal.l0]) ?_, r3⟩
        rw [w64 (x := i + 1) (by omega) (by omega)]
        exact ev_ifp (by omega) (ev_ifn c0 (ev_ifp h0 (ev_ifp (by omega) (ev_bind _ hE (ev_ifp (by omega) (ev_ifp (by omega) (ev_ifp (ht.2 c) r2)))))))
      · obtain ⟨r, r1, r2, r3⟩ := ih (i + 1) (out ++ [rd v i]) (by omega) (by omega) (by
          rcases h2 with ⟨e, h⟩ | ⟨e, h⟩
          · refine .inl ⟨by rw [take_rd h0 (by omega), e], fun j hj hj' => ?_⟩
            by_cases ej : j = i
            · rw [ej]; exact c
            · exact h j hj (by omega)
          · refine .inr ⟨by simp; omega, fun h' => h fun j hj hj' => h' j hj (by omega)⟩)
        refine ⟨r, r1, Ev.step (fun k => by rw [spec_l3Minimal.l0]) ?_, r3⟩
        rw [w64 (x := i + 1) (by omega) (by omega)]
        exact ev_ifp (by omega) (ev_ifn c0 (ev_ifp h0 (ev_ifp (by omega) (ev_bind _ hE (ev_ifp (by omega) (ev_ifp (by omega) (ev_ifn (fun h => c (ht.1 h)) (ev_ifp (by omega) r2))))))))
theorem same2_l {l m : List Int} (hl : l.length ≤ 1099511627776) (e : l.length = m.length) (d : Nat) : ∀ (i : Int), 0 ≤ i → i + d = l.length → Ev (fun k => spec_l2Same.l0 k l m i) (decide (l.drop i.toNat = m.drop i.toNat)) := by
  induction d with
  | zero =>
    intro i h0 h1
    refine Ev.step (fun k => by rw [spec_l2Same.l0]) ?_
    refine ev_ifn (by omega) (ev_to (Ev.now _) ?_)
    rw [List.drop_of_length_le (by omega), List.drop_of_length_le (by omega)]; simp
  | succ d ih =>
    intro i h0 h1
    refine Ev.step (fun k => by rw [spec_l2Same.l0]) ?_
    rw [w64 (x := i + 1) (by omega) (by omega), drop_rd h0 (by omega), drop_rd (l := m) h0 (by omega)]
    refine ev_ifp (by omega) (ev_ifp h0 (ev_ifp (by omega) ?_))
    by_cases h : rd l i = rd m i
    · refine ev_ifp h (ev_to (ih (i + 1) (by omega) (by omega)) ?_)
      simp [h]
    · refine ev_ifn h (ev_to (Ev.now _) ?_)
      simp [h]
theorem same2_ev {l m : List Int} (hl : l.length ≤ 1099511627776) : Ev (fun k => spec_l2Same.f k l m) (decide (l = m)) := by
  unfold spec_l2Same.f
  by_cases e : l.length = m.length
  · refine ev_ifp (by omega) (ev_to (same2_l hl e l.length 0 (by omega) (by omega)) ?_)
    simp
  · refine ev_ifn (by omega) (ev_to (Ev.now _) ?_)
    simp; intro h; exact e (by rw [h])
theorem endsS_l {v : List Int} (hu : UL v) {t : List Bool} (t1 : (t.length : Int) = 261) (t2 : ∀ j, 0 ≤ j → j ≤ 260 → (rdOf false t j = true ↔ Su v j)) (d : Nat) : ∀ i : Int, 200 ≤ i → i + d = 200 + rd v 0 → ∃ r : Bool, Ev (fun k => spec_l3Ends.l0 k v t i) r ∧ (r = true ↔ ∀ n, i ≤ n → n < 200 + rd v 0 → Su v n) := by
  have f := hu.first
  have hlen := hu.1
  induction d with
  | zero =>
    intro i h0 h1
    refine ⟨true, Ev.step (fun k => by rw [spec_l3Ends.l0]) ?_, fun _ n hn hn' => by omega, fun _ => rfl⟩
    rw [w64 (x := 200 + rd v 0) (by omega) (by omega)]
    exact ev_ifp (by omega) (ev_ifn (by omega) (Ev.now _))
  | succ d ih =>
    intro i h0 h1
    have ht := t2 i (by omega) (by omega)
    by_cases c : Su v i
    · obtain ⟨r, hE, hr⟩ := ih (i + 1) (by omega) (by omega)
      refine ⟨r, Ev.step (fun k => by rw [spec_l3Ends.l0]) ?_, ?_⟩
      · rw [w64 (x := 200 + rd v 0) (by omega) (by omega), w64 (x := i + 1) (by omega) (by omega)]
        exact ev_ifp (by omega) (ev_ifp (by omega) (ev_ifp (by omega) (ev_ifp (by omega) (ev_ifp (ht.2 c) hE))))
      · rw [hr]
        constructor
        · intro h n hn hn'
          by_cases e : n = i
          · rw [e]; exact c
          · exact h n (by omega) hn'
        · intro h n hn hn'; exact h n (by omega) hn'
    · refine ⟨false, Ev.step (fun k => by rw [spec_l3Ends.l0]) ?_, fun h => (by cases h), fun h => absurd (h i (Int.le_refl _) (by omega)) c⟩
      rw [w64 (x := 200 + rd v 0) (by omega) (by omega)]
      exact ev_ifp (by omega) (ev_ifp (by omega) (ev_ifp (by omega) (ev_ifp (by omega) (ev_ifn (fun h => c (ht.1 h)) (Ev.now _)))))
theorem sgS_ev {v : List Int} (hl : v.length ≤ 1099511627776) : Ev (fun k => spec_IsSemigroup.f k v) (decide (SG v)) := by
  unfold spec_IsSemigroup.f
  by_cases hu : UL v
  · refine ev_bind _ (gensS_ev hl) (ev_ifp (by simpa using hu) ?_)
    by_cases c1 : (v.length : Int) ≤ 12
    · refine ev_ifp c1 ?_
      by_cases c3 : Asc v
      · refine ev_bind _ (ascS_ev hl) (ev_ifp (by simpa using c3) (ev_bind _ (gcdListS_ev hl) ?_))
        by_cases c4 : gl v = 1
        · have hlen := hu.1
          obtain ⟨f1, f2, f3⟩ := hu.first
          obtain ⟨r, r1, r2, r3⟩ := min_l hu v.length 0 [] (by omega) (by omega) (.inl ⟨by simp, fun j hj hj' => by omega⟩)
          refine ev_ifp c4 (ev_bind r ?_ (ev_bind _ (same2_ev (l := r) (m := v) (by omega)) ?_))
          · unfold spec_l3Minimal.f
            exact ev_bind _ (sortS_asc (by omega) c3) r2
          · by_cases c5 : r = v
            · obtain ⟨t, t1, t2, hE⟩ := tabS_ev (v := v) (by omega) hu.2 (most := 260) (by omega) (by omega)
              obtain ⟨b, b1, b2⟩ := endsS_l hu (by omega) t2 (rd v 0).toNat 200 (by omega) (by omega)
              refine ev_ifp (by simpa using c5) (ev_bind b ?_ (ev_to (Ev.now _) ?_))
              · unfold spec_l3Ends.f
                exact ev_bind _ hE b1
              · rw [Bool.eq_iff_iff, b2, ← ends_iff f2 (Su.mem f1), decide_eq_true_eq]
                exact ⟨fun h => ⟨hu, c1, c3, c4, r3.1 c5, h⟩, fun h => h.ends⟩
            · exact ev_ifn (by simpa using c5) (ev_to (Ev.now _) (decide_eq_false (fun h => c5 (r3.2 h.min))).symm)
        · exact ev_ifn c4 (ev_to (Ev.now _) (decide_eq_false (fun h => c4 h.gcd)).symm)
      · exact ev_bind _ (ascS_ev hl) (ev_ifn (by simpa using c3) (ev_to (Ev.now _) (decide_eq_false (fun h => c3 h.asc)).symm))
    · exact ev_ifn c1 (ev_to (Ev.now _) (decide_eq_false (fun h => c1 h.len)).symm)
  · exact ev_bind _ (gensS_ev hl) (ev_ifn (by simpa using hu) (ev_to (Ev.now _) (decide_eq_false (fun h => hu h.ul)).symm))
end Go.Proofs.Ytapdhljbhekcdaa.E
end
section
namespace Go.Proofs.Ytapdhljbhekcdaa.PB
open Go.RowKit Go.Proofs.YtapdhljbhekcdaaW.PrintWords Go.Proofs.YtapdhljbhekcdaaW.PrintLast Go.Proofs.YtapdhljbhekcdaaW.PrintMore
set_option linter.unusedVariables false
set_option linter.unusedSimpArgs false
def IsS74 (w0 W : World) (g : Nat) (f0 : List Int) (f1 : Int) (f2 : Int) : Prop := ∃ A0 c0, W.heap[g]? = some (.cells #[.slice A0 f0.length c0, .int .i64 f1, .int .i64 f2] 74 (0, 0)) ∧ w0.heap.size ≤ g ∧ Kd.C (Kd.int .u8) w0 A0 f0.length f0
theorem IsS74.grown {w0 W : World} {g : Nat} {f0 : List Int} {f1 : Int} {f2 : Int} {W1 : World} {row : Option Nat} (h : IsS74 w0 W g f0 f1 f2) (hw : W.grownBy W1 row) (hne : some g ≠ row) : IsS74 w0 W1 g f0 f1 f2 := by
  obtain ⟨A0, c0, hb, hg, hr0⟩ := h
  exact ⟨A0, c0, blk_grown hb hw hne, hg, hr0⟩
theorem IsS74.kept {w0 W : World} {g : Nat} {f0 : List Int} {f1 : Int} {f2 : Int} {W1 : World} {S : Nat → Prop} (h : IsS74 w0 W g f0 f1 f2) (hk : Kept W W1 S) (hne : ¬ S g) : IsS74 w0 W1 g f0 f1 f2 := by
  obtain ⟨A0, c0, hb, hg, hr0⟩ := h
  exact ⟨A0, c0, blk_kept hb hk hne, hg, hr0⟩
theorem IsS74.below {w0 W : World} {g : Nat} {f0 : List Int} {f1 : Int} {f2 : Int} {W1 : World} (h : IsS74 w0 W g f0 f1 f2) (hw : Below W.heap.size W W1) : IsS74 w0 W1 g f0 f1 f2 := h.grown (grown_of_below hw none) (by simp)
theorem IsS74.alloc {w0 W : World} {g : Nat} {f0 : List Int} {f1 : Int} {f2 : Int} (h : IsS74 w0 W g f0 f1 f2) (o : Obj) : IsS74 w0 (W.alloc o) g f0 f1 f2 := h.below (below_alloc (Below.refl _ _) o)
theorem IsS74.drewN {w0 W : World} {g : Nat} {f0 : List Int} {f1 : Int} {f2 : Int} (h : IsS74 w0 W g f0 f1 f2) (m : Nat) : IsS74 w0 (W.drewN m) g f0 f1 f2 := h
theorem IsS74.drew {w0 W : World} {g : Nat} {f0 : List Int} {f1 : Int} {f2 : Int} (h : IsS74 w0 W g f0 f1 f2) : IsS74 w0 W.drew g f0 f1 f2 := h
theorem IsS74.at_ {w0 W : World} {g : Nat} {f0 : List Int} {f1 : Int} {f2 : Int} {w' : World} {m : Nat} (hq : W.drewN m = w') (h : IsS74 w0 W g f0 f1 f2) : IsS74 w0 w' g f0 f1 f2 := by subst hq; exact IsS74.drewN h m
theorem IsS74.apart {w0 W : World} {g : Nat} {f0 : List Int} {f1 : Int} {f2 : Int} {α : Type} {d : Kd α} {e : Nat} {base : Nat} {ok : Nat → Prop} {v : Value} {xs : List α} (h : IsS74 w0 W g f0 f1 f2) (ho : d.R e W base ok v xs) (ht : ∀ q, q ∈ e :: d.E → q ≠ 74) : d.R e W base (fun k => ok k ∧ k ≠ g) v xs := by
  obtain ⟨A0, c0, hb, hg, hr0⟩ := h
  exact Kd.R_types ho hb ht
theorem IsS74.own_ne {w0 W : World} {g : Nat} {f0 : List Int} {f1 : Int} {f2 : Int} {α : Type} {d : Kd α} {e : Nat} {base : Nat} {ok : Nat → Prop} {v : Value} {xs : List α} (h : IsS74 w0 W g f0 f1 f2) (ho : d.R e W base ok v xs) (ht : e ≠ 74) : some g ≠ v.ownBlock := by
  obtain ⟨A0, c0, hb, hg, hr0⟩ := h
  exact Kd.R_ne ho hb ht
theorem IsS74.lt {w0 W : World} {g : Nat} {f0 : List Int} {f1 : Int} {f2 : Int} (h : IsS74 w0 W g f0 f1 f2) : g < W.heap.size := by
  obtain ⟨A0, c0, hb, hg, hr0⟩ := h
  exact blk_lt hb
theorem IsS74.ge {w0 W : World} {g : Nat} {f0 : List Int} {f1 : Int} {f2 : Int} (h : IsS74 w0 W g f0 f1 f2) : w0.heap.size ≤ g := by
  obtain ⟨A0, c0, hb, hg, hr0⟩ := h
  exact hg
end Go.Proofs.Ytapdhljbhekcdaa.PB
end
section
namespace Go.Proofs.Ytapdhljbhekcdaa.E
open Go.RowKit Go.Proofs.Ytapdhljbhekcdaa.PB Go.Proofs.YtapdhljbhekcdaaW.PrintWords Go.Proofs.YtapdhljbhekcdaaW.PrintLast Go.Proofs.YtapdhljbhekcdaaW.PrintMore
set_option linter.unusedVariables false
set_option linter.unusedSimpArgs false
theorem gapsI_gps {v : List Int} (hl : v.length ≤ 1099511627776) : Ev (fun k => impl_Gaps.f k v) (gps v) := gapsI_ev hl
end Go.Proofs.Ytapdhljbhekcdaa.E
end
section
namespace Go.Proofs.Ytapdhljbhekcdaa.E
open Go.RowKit Go.Proofs.Ytapdhljbhekcdaa.PB Go.Proofs.YtapdhljbhekcdaaW.PrintWords Go.Proofs.YtapdhljbhekcdaaW.PrintLast Go.Proofs.YtapdhljbhekcdaaW.PrintMore
set_option linter.unusedVariables false
set_option linter.unusedSimpArgs false
theorem gapsS_gps {v : List Int} (hl : v.length ≤ 1099511627776) : Ev (fun k => spec_Gaps.f k v) (gps v) := by
  unfold spec_Gaps.f
  refine ev_bind _ (sgS_ev hl) ?_
  by_cases c : SG v
  · rw [gps_sg c]; exact ev_ifp (by simpa using c) (ev_bind _ (l4Gaps_ev c) (Ev.now _))
  · rw [gps_no c]; exact ev_ifn (by simpa using c) (Ev.now _)
theorem frI_ev {v : List Int} (hl : v.length ≤ 1099511627776) : Ev (fun k => impl_FrobeniusOf.f k v) (fob v) := by
  have g := gps_len v
  unfold impl_FrobeniusOf.f fob
  refine ev_bind _ (gapsI_gps hl) ?_
  by_cases c : (gps v).length = 0
  · rw [if_pos c]; exact ev_ifp (by omega) (Ev.now _)
  · rw [if_neg c, w64 (x := ((gps v).length : Int) - 1) (by omega) (by omega)]
    exact ev_ifn (by omega) (ev_ifp (by omega) (ev_ifp (by omega) (Ev.now _)))
theorem frS_ev {v : List Int} (hl : v.length ≤ 1099511627776) : Ev (fun k => spec_FrobeniusOf.f k v) (fob v) := by
  have g := gps_len v
  unfold spec_FrobeniusOf.f fob
  refine ev_bind _ (gapsS_gps hl) ?_
  by_cases c : (gps v).length = 0
  · rw [if_pos c]; exact ev_ifp (by omega) (Ev.now _)
  · rw [if_neg c, w64 (x := ((gps v).length : Int) - 1) (by omega) (by omega)]
    exact ev_ifn (by omega) (ev_ifp (by omega) (ev_ifp (by omega) (Ev.now _)))
theorem fob_small (v : List Int) : -1 ≤ fob v ∧ fob v ≤ 199 := by
  by_cases c : SG v
  · have := cd_fact c; unfold cd at this; omega
  · rw [fob_none (gps_no c)]; omega
theorem cdI_ev {v : List Int} (hl : v.length ≤ 1099511627776) : Ev (fun k => impl_ConductorOf.f k v) (cd v) := by
  have := fob_small v
  unfold impl_ConductorOf.f cd
  refine ev_bind _ (frI_ev hl) ?_
  rw [w64 (by omega) (by omega)]; exact Ev.now _
theorem cdS_ev {v : List Int} (hl : v.length ≤ 1099511627776) : Ev (fun k => spec_ConductorOf.f k v) (cd v) := by
  have := fob_small v
  unfold spec_ConductorOf.f cd
  refine ev_bind _ (frS_ev hl) ?_
  rw [w64 (by omega) (by omega)]; exact Ev.now _
end Go.Proofs.Ytapdhljbhekcdaa.E
end
section
namespace Go.Proofs.Ytapdhljbhekcdaa.E
open Go.RowKit Go.Proofs.Ytapdhljbhekcdaa.PB Go.Proofs.YtapdhljbhekcdaaW.PrintWords Go.Proofs.YtapdhljbhekcdaaW.PrintLast Go.Proofs.YtapdhljbhekcdaaW.PrintMore
set_option linter.unusedVariables false
set_option linter.unusedSimpArgs false
theorem smI_l {v : List Int} {c : Int} (hc : c ≤ 200) (d : Nat) : ∀ (i : Int) (out : List Int), 0 ≤ i → i + d = c → (out.length : Int) ≤ i → Ev (fun k => impl_SmallElements.l0 k out (stab v 200) c i) (out ++ fl (fun n => decide (Su v n)) i d) := by
  have sl := stab_len (v := v) (m := 200) (by omega)
  induction d with
  | zero =>
    intro i out h0 h1 h2
    refine Ev.step (fun k => by rw [impl_SmallElements.l0]) (ev_ifn (by omega) (ev_to (Ev.now _) ?_))
    simp [fl]
  | succ d ih =>
    intro i out h0 h1 h2
    have s := stab_iff (v := v) (m := 200) h0 (by omega)
    refine Ev.step (fun k => by rw [impl_SmallElements.l0]) ?_
    rw [w64 (x := i + 1) (by omega) (by omega)]
    by_cases c : Su v i
    · rw [fl_yes (by simpa using c)]
      refine ev_ifp (by omega) (ev_ifp h0 (ev_ifp (by omega) (ev_ifp (s.2 c) (ev_ifp (by omega) (ev_to (ih (i + 1) (out ++ [i]) (by omega) (by omega) (by simp; omega)) ?_)))))
      simp
    · rw [fl_no (by simpa using c)]
      exact ev_ifp (by omega) (ev_ifp h0 (ev_ifp (by omega) (ev_ifn (fun h => c (s.1 h)) (ih (i + 1) out (by omega) (by omega) (by omega)))))
theorem smS_l {v : List Int} {c : Int} (hc : c ≤ 1000) (hc0 : 0 ≤ c) (d : Nat) : ∀ (i : Int) (out : List Int), 0 ≤ i → i + d = c → (out.length : Int) ≤ i → Ev (fun k => spec_l4Small.l0 k c out (stab v c) i) (out ++ fl (fun n => decide (Su v n)) i d) := by
  have sl := stab_len (v := v) (m := c) hc0
  induction d with
  | zero =>
    intro i out h0 h1 h2
    refine Ev.step (fun k => by rw [spec_l4Small.l0]) (ev_ifn (by omega) (ev_to (Ev.now _) ?_))
    simp [fl]
  | succ d ih =>
    intro i out h0 h1 h2
    have s := stab_iff (v := v) (m := c) h0 (by omega)
    refine Ev.step (fun k => by rw [spec_l4Small.l0]) ?_
    rw [w64 (x := i + 1) (by omega) (by omega)]
    by_cases c : Su v i
    · rw [fl_yes (by simpa using c)]
      refine ev_ifp (by omega) (ev_ifp h0 (ev_ifp (by omega) (ev_ifp (s.2 c) (ev_ifp (by omega) (ev_to (ih (i + 1) (out ++ [i]) (by omega) (by omega) (by simp; omega)) ?_)))))
      simp
    · rw [fl_no (by simpa using c)]
      exact ev_ifp (by omega) (ev_ifp h0 (ev_ifp (by omega) (ev_ifn (fun h => c (s.1 h)) (ih (i + 1) out (by omega) (by omega) (by omega)))))
theorem l4Small_ev {v : List Int} (h : SG v) {c : Int} (hc : c ≤ 1000) : Ev (fun k => spec_l4Small.f k v c) (sml v c) := by
  unfold spec_l4Small.f sml
  simp only [Option.bind_some]
  by_cases e : c < 1
  · rw [show c.toNat = 0 from by omega]; exact ev_ifp e (Ev.now _)
  · exact ev_ifn e (ev_bind _ (h.sutabS (by omega) (by omega)) (smS_l hc (by omega) c.toNat 0 [] (by omega) (by omega) (by simp)))
noncomputable def sme (v : List Int) : List Int := if SG v then sml v (cd v) else []
theorem sme_len (v : List Int) : (sme v).length ≤ 200 := by
  unfold sme; split
  · rename_i c
    have := sml_len v (cd v); have := cd_fact c; omega
  · simp
theorem smI_ev {v : List Int} (hl : v.length ≤ 1099511627776) : Ev (fun k => impl_SmallElements.f k v) (sme v) := by
  unfold impl_SmallElements.f sme
  refine ev_bind _ (sgI_ev hl) ?_
  by_cases c : SG v
  · have f := cd_fact c
    rw [if_pos c]
    exact ev_ifp (by simpa using c) (ev_bind _ (c.sutab (by omega) (by omega)) (ev_bind _ (cdI_ev hl) (smI_l f.2.1 (cd v).toNat 0 [] (by omega) (by omega) (by simp))))
  · rw [if_neg c]; exact ev_ifn (by simpa using c) (Ev.now _)
theorem smS_ev {v : List Int} (hl : v.length ≤ 1099511627776) : Ev (fun k => spec_SmallElements.f k v) (sme v) := by
  unfold spec_SmallElements.f sme
  refine ev_bind _ (sgS_ev hl) ?_
  by_cases c : SG v
  · have f := cd_fact c
    rw [if_pos c]
    exact ev_ifp (by simpa using c) (ev_bind _ (cdS_ev hl) (ev_bind _ (l4Small_ev c (by omega)) (Ev.now _)))
  · rw [if_neg c]; exact ev_ifn (by simpa using c) (Ev.now _)
end Go.Proofs.Ytapdhljbhekcdaa.E
end
section
namespace Go.Proofs.Ytapdhljbhekcdaa.E
open Go.RowKit Go.Proofs.Ytapdhljbhekcdaa.PB Go.Proofs.YtapdhljbhekcdaaW.PrintWords Go.Proofs.YtapdhljbhekcdaaW.PrintLast Go.Proofs.YtapdhljbhekcdaaW.PrintMore
set_option linter.unusedVariables false
set_option linter.unusedSimpArgs false
abbrev R4 := Int × Int × Int × Bool
def ArfAns (v : List Int) (l : List Int) (r : R4) : Prop := (r = (0, 0, 0, false)) ∨ ∃ i j z : Int, 0 ≤ z ∧ z ≤ j ∧ j ≤ i ∧ i < l.length ∧ r = (rd l i, rd l j, rd l z, true) ∧ ¬ Su v (rd l i + rd l j - rd l z)
def ArfNo (v : List Int) (l : List Int) (i j z : Int) : Prop := ∀ a b c : Int, 0 ≤ c → c ≤ b → b ≤ a → a < l.length → (a < i ∨ (a = i ∧ (b < j ∨ (b = j ∧ c < z)))) → Su v (rd l a + rd l b - rd l c)
theorem arf_l2 {v l : List Int} (h : SG v) (hl : l.length ≤ 1000) (hb : ∀ x ∈ l, 0 ≤ x ∧ x ≤ 1000) {i j : Nat} (hj : j ≤ i) (hi : i < l.length) (N : ArfNo v l i (j + 1) 0 → ∃ r, Ev (fun k => impl_ArfFailure.l1 k (sub v) l i (j + 1)) r ∧ Ev (fun k => spec_ArfFailure.l1 k l i ((j : Int) + 1) v) r ∧ ArfAns v l r ∧ (r.2.2.2 = false → ArfNo v l l.length 0 0)) (d : Nat) : ∀ z : Nat, z + d = j + 1 → ArfNo v l i j z → ∃ r, Ev (fun k => impl_ArfFailure.l2 k (sub v) l i j z) r ∧ Ev (fun k => spec_ArfFailure.l2 k l i j z v) r ∧ ArfAns v l r ∧ (r.2.2.2 = false → ArfNo v l l.length 0 0) := by
  induction d with
  | zero =>
    intro z hz A
    obtain ⟨r, e1, e2, e3⟩ := N (fun a b c c0 c1 c2 c3 c4 => A a b c c0 c1 c2 c3 (by omega))
    refine ⟨r, Ev.step (fun k => by rw [impl_ArfFailure.l2]) (ev_ifn (by omega) e1), Ev.step (fun k => by rw [spec_ArfFailure.l2]) ?_, e3⟩
    rw [w64 (x := (j : Int) + 1) (by omega) (by omega)]
    exact ev_ifn (by omega) e2
  | succ d ih =>
    intro z hz A
    have b1 := hb _ (rd_mem (l := l) (i := (i : Int)) (by omega) (by omega))
    have b2 := hb _ (rd_mem (l := l) (i := (j : Int)) (by omega) (by omega))
    have b3 := hb _ (rd_mem (l := l) (i := (z : Int)) (by omega) (by omega))
    have w1 := w64 (x := rd l (i : Int) + rd l (j : Int)) (by omega) (by omega)
    have w2 := w64 (x := rd l (i : Int) + rd l (j : Int) - rd l (z : Int)) (by omega) (by omega)
    have w3 := w64 (x := (z : Int) + 1) (by omega) (by omega)
    by_cases c : sub v (rd l (i : Int) + rd l (j : Int) - rd l (z : Int)) = true
    · have c' : Su v (rd l (i : Int) + rd l (j : Int) - rd l (z : Int)) := by unfold sub at c; simpa using c
      obtain ⟨r, e1, e2, e3⟩ := ih (z + 1) (by omega) (fun a b e c0 c1 c2 c3 c4 => by
        by_cases q : a = i ∧ b = j ∧ e = z
        · obtain ⟨rfl, rfl, rfl⟩ := q; exact c'
        · exact A a b e c0 c1 c2 c3 (by clear N ih A b1 b2 b3 w1 w2 w3; omega))
      rw [show ((z + 1 : Nat) : Int) = (z : Int) + 1 from by omega] at e2
      refine ⟨r, Ev.step (fun k => by rw [impl_ArfFailure.l2]) ?_, Ev.step (fun k => by rw [spec_ArfFailure.l2]) ?_, e3⟩
      · rw [w1, w2]; clear w1 w2 w3 b1 b2 b3 N ih A e3; exact ev_ifp (by omega) (ev_ifp c e1)
      · rw [w1, w2, w3]
        clear w1 w2 w3 b1 b2 b3 N ih A e3
        exact ev_ifp (by omega) (ev_ifp (by omega) (ev_ifp (by omega) (ev_ifp (by omega) (ev_ifp (by omega) (ev_ifp (by omega) (ev_ifp (by omega) (ev_bind _ (l15Has_su h (rd l (i : Int) + rd l (j : Int) - rd l (z : Int))) (ev_ifp c e2))))))))
    · have c' : ¬ Su v (rd l (i : Int) + rd l (j : Int) - rd l (z : Int)) := by unfold sub at c; simpa using c
      refine ⟨(rd l (i : Int), rd l (j : Int), rd l (z : Int), true), Ev.step (fun k => by rw [impl_ArfFailure.l2]) ?_, Ev.step (fun k => by rw [spec_ArfFailure.l2]) ?_, .inr ⟨i, j, z, Int.natCast_nonneg z, Int.ofNat_le.2 (by clear w1 w2 w3 b1 b2 b3; omega), Int.ofNat_le.2 hj, Int.ofNat_lt.2 hi, rfl, c'⟩, fun e => by simp at e⟩
      · rw [w1, w2]; clear w1 w2 w3 b1 b2 b3 N ih A; exact ev_ifp (by omega) (ev_ifn c (Ev.now _))
      · rw [w1, w2]
        clear w1 w2 w3 b1 b2 b3 N ih A
        exact ev_ifp (by omega) (ev_ifp (by omega) (ev_ifp (by omega) (ev_ifp (by omega) (ev_ifp (by omega) (ev_ifp (by omega) (ev_ifp (by omega) (ev_bind _ (l15Has_su h (rd l (i : Int) + rd l (j : Int) - rd l (z : Int))) (ev_ifn c (Ev.now _)))))))))
theorem arf_l1 {v l : List Int} (h : SG v) (hl : l.length ≤ 1000) (hb : ∀ x ∈ l, 0 ≤ x ∧ x ≤ 1000) {i : Nat} (hi : i < l.length) (N : ArfNo v l (i + 1) 0 0 → ∃ r, Ev (fun k => impl_ArfFailure.l0 k (sub v) l (i + 1)) r ∧ Ev (fun k => spec_ArfFailure.l0 k l ((i : Int) + 1) v) r ∧ ArfAns v l r ∧ (r.2.2.2 = false → ArfNo v l l.length 0 0)) (d : Nat) : ∀ j : Nat, j + d = i + 1 → ArfNo v l i j 0 → ∃ r, Ev (fun k => impl_ArfFailure.l1 k (sub v) l i j) r ∧ Ev (fun k => spec_ArfFailure.l1 k l i j v) r ∧ ArfAns v l r ∧ (r.2.2.2 = false → ArfNo v l l.length 0 0) := by
  induction d with
  | zero =>
    intro j hj A
    obtain ⟨r, e1, e2, e3⟩ := N (fun a b c c0 c1 c2 c3 c4 => A a b c c0 c1 c2 c3 (by omega))
    refine ⟨r, Ev.step (fun k => by rw [impl_ArfFailure.l1]) (ev_ifn (by omega) e1), Ev.step (fun k => by rw [spec_ArfFailure.l1]) ?_, e3⟩
    rw [w64 (x := (i : Int) + 1) (by omega) (by omega)]
    exact ev_ifn (by omega) e2
  | succ d ih =>
    intro j hj A
    obtain ⟨r, e1, e2, e3⟩ := arf_l2 h hl hb (i := i) (j := j) (by omega) hi (fun B => by rw [show ((j : Int) + 1) = ((j + 1 : Nat) : Int) from by omega] at B ⊢; exact ih (j + 1) (by omega) B) (j + 1) 0 (by omega) A
    rw [show ((0 : Nat) : Int) = 0 from rfl] at e2
    exact ⟨r, Ev.step (fun k => by rw [impl_ArfFailure.l1]) (ev_ifp (by omega) e1), Ev.step (fun k => by rw [spec_ArfFailure.l1]) (ev_ifp (by omega) e2), e3⟩
theorem arf_l0 {v l : List Int} (h : SG v) (hl : l.length ≤ 1000) (hb : ∀ x ∈ l, 0 ≤ x ∧ x ≤ 1000) (d : Nat) : ∀ i : Nat, i + d = l.length → ArfNo v l i 0 0 → ∃ r, Ev (fun k => impl_ArfFailure.l0 k (sub v) l i) r ∧ Ev (fun k => spec_ArfFailure.l0 k l i v) r ∧ ArfAns v l r ∧ (r.2.2.2 = false → ArfNo v l l.length 0 0) := by
  induction d with
  | zero =>
    intro i hi A
    refine ⟨(0, 0, 0, false), Ev.step (fun k => by rw [impl_ArfFailure.l0]) (ev_ifn (by omega) (Ev.now _)), Ev.step (fun k => by rw [spec_ArfFailure.l0]) (ev_ifn (by omega) (Ev.now _)), .inl rfl, fun _ => ?_⟩
    rwa [show i = l.length from by omega] at A
  | succ d ih =>
    intro i hi A
    obtain ⟨r, e1, e2, e3⟩ := arf_l1 h hl hb (i := i) (by omega) (fun B => by rw [show ((i : Int) + 1) = ((i + 1 : Nat) : Int) from by omega] at B ⊢; exact ih (i + 1) (by omega) B) (i + 1) 0 (by omega) A
    rw [show ((0 : Nat) : Int) = 0 from rfl] at e2
    exact ⟨r, Ev.step (fun k => by rw [impl_ArfFailure.l0]) (ev_ifp (by omega) e1), Ev.step (fun k => by rw [spec_ArfFailure.l0]) (ev_ifp (by omega) e2), e3⟩
theorem sme_bd (v : List Int) : ∀ x ∈ sme v, 0 ≤ x ∧ x ≤ 1000 := by
  intro x hx
  unfold sme at hx
  by_cases c : SG v
  · rw [if_pos c] at hx
    have f := cd_fact c
    unfold sml at hx
    have := (fl_mem _ _).1 hx
    omega
  · rw [if_neg c] at hx; simp at hx
theorem arf_ev (v : List Int) (hl : v.length ≤ 1099511627776) : ∃ r : R4, Ev (fun k => impl_ArfFailure.f k v) r ∧ Ev (fun k => spec_ArfFailure.f k v) r ∧ ArfAns v (sme v) r ∧ (SG v → r.2.2.2 = false → ArfNo v (sme v) (sme v).length 0 0) ∧ (¬ SG v → r = (0, 0, 0, false)) := by
  have sl := sme_len v
  unfold impl_ArfFailure.f spec_ArfFailure.f
  by_cases c : SG v
  · have rr := reach_ev hl
    rw [rch_sg c] at rr
    obtain ⟨r, e1, e2, e3, e4⟩ := arf_l0 (l := sme v) c (by omega) (sme_bd v) (sme v).length 0 (by omega) (fun a b e c0 c1 c2 c3 c4 => by omega)
    rw [show ((0 : Nat) : Int) = 0 from rfl] at e2
    refine ⟨r, ev_bind _ (smI_ev hl) (ev_bind _ rr ?_), ev_bind _ (smS_ev hl) e2, e3, fun _ => e4, fun k => absurd c k⟩
    rw [inOf_sub c]; exact e1
  · have rr := reach_ev hl
    rw [rch_no c] at rr
    have e : sme v = [] := by unfold sme; rw [if_neg c]
    refine ⟨(0, 0, 0, false), ev_bind _ (smI_ev hl) (ev_bind _ rr ?_), ev_bind _ (smS_ev hl) ?_, .inl rfl, fun k => absurd k c, fun _ => rfl⟩
    · rw [e]; exact Ev.step (fun k => by rw [impl_ArfFailure.l0]) (ev_ifn (by simp) (Ev.now _))
    · rw [e]; exact Ev.step (fun k => by rw [spec_ArfFailure.l0]) (ev_ifn (by simp) (Ev.now _))
end Go.Proofs.Ytapdhljbhekcdaa.E
end
section
namespace Go.Proofs.Ytapdhljbhekcdaa.E
open Go.RowKit Go.Proofs.Ytapdhljbhekcdaa.PB Go.Proofs.YtapdhljbhekcdaaW.PrintWords Go.Proofs.YtapdhljbhekcdaaW.PrintLast Go.Proofs.YtapdhljbhekcdaaW.PrintMore
set_option linter.unusedVariables false
set_option linter.unusedSimpArgs false
theorem toIntS_l {l : List Int} (hl : l.length ≤ 1048576) (d : Nat) : ∀ (i : Int) (out : List Int), 0 ≤ i → i + d = l.length → out.length = l.length → out.take i.toNat = l.take i.toNat → Ev (fun k => laws_toIntS.l0 k l out i) l := by
  induction d with
  | zero =>
    intro i out h0 h1 h2 h3
    refine Ev.step (fun k => by rw [laws_toIntS.l0]) ?_
    simp (disch := omega) only [if_neg]
    rw [List.take_of_length_le (by omega), List.take_of_length_le (by omega)] at h3
    subst h3
    exact Ev.now _
  | succ d ih =>
    intro i out h0 h1 h2 h3
    refine Ev.step (fun k => by rw [laws_toIntS.l0]) ?_
    simp (disch := omega) only [if_pos, w64]
    refine ih _ _ (by omega) (by omega) (by simpa using h2) ?_
    rw [take_rd h0 (by simp; omega), take_rd h0 (by omega), rd_set _ h0 (by omega) h0, if_pos rfl, ← h3]
    congr 1
    rw [List.take_set_of_le (Nat.le_refl _)]
theorem toIntS_ev {l : List Int} (hl : l.length ≤ 1048576) : Ev (fun k => laws_toIntS.f k l) l := by
  unfold laws_toIntS.f
  simp (disch := omega) only [if_pos]
  exact toIntS_l hl l.length _ _ (by omega) (by omega) (by simp) (by simp)
theorem eqIntS_l {l m : List Int} (hl : l.length ≤ 1099511627776) (e : l.length = m.length) (d : Nat) : ∀ (i : Int), 0 ≤ i → i + d = l.length → Ev (fun k => laws_eqIntS.l0 k l m i) (decide (l.drop i.toNat = m.drop i.toNat)) := by
  induction d with
  | zero =>
    intro i h0 h1
    refine Ev.step (fun k => by rw [laws_eqIntS.l0]) ?_
    simp (disch := omega) only [if_neg]
    refine ev_to (Ev.now _) ?_
    rw [List.drop_of_length_le (by omega), List.drop_of_length_le (by omega)]; simp
  | succ d ih =>
    intro i h0 h1
    refine Ev.step (fun k => by rw [laws_eqIntS.l0]) ?_
    simp (disch := omega) only [if_pos, w64]
    rw [drop_rd h0 (by omega), drop_rd (l := m) h0 (by omega)]
    by_cases h : rd l i = rd m i
    · refine ev_ifp h (ev_to (ih (i + 1) (by omega) (by omega)) ?_)
      simp [h]
    · refine ev_ifn h (ev_to (Ev.now _) ?_)
      simp [h]
theorem eqIntS_ev {l m : List Int} (hl : l.length ≤ 1099511627776) : Ev (fun k => laws_eqIntS.f k l m) (decide (l = m)) := by
  unfold laws_eqIntS.f
  by_cases e : l.length = m.length
  · refine ev_ifp (by omega) (ev_to (eqIntS_l hl e l.length 0 (by omega) (by omega)) ?_)
    simp
  · refine ev_ifn (by omega) (ev_to (Ev.now _) ?_)
    simp; intro h; exact e (by rw [h])
end Go.Proofs.Ytapdhljbhekcdaa.E
end
section
namespace Go.Proofs.Ytapdhljbhekcdaa.E
open Go.RowKit Go.Proofs.Ytapdhljbhekcdaa.PB Go.Proofs.YtapdhljbhekcdaaW.PrintWords Go.Proofs.YtapdhljbhekcdaaW.PrintLast Go.Proofs.YtapdhljbhekcdaaW.PrintMore
set_option linter.unusedVariables false
set_option linter.unusedSimpArgs false
theorem szSg_small {l : List Int} {a : Int} (h : (l.length : Int) ≤ a) (ha : a ≤ 1048576) : laws_szSemigroup.f l a = some (a - l.length) := by
  unfold laws_szSemigroup.f laws_szIntS.f
  rw [w64 (x := a - l.length) (by omega) (by omega), if_neg (by omega)]
  simp only [Option.bind_some]
  rw [if_neg (by omega)]
theorem szSg_big {l : List Int} {a : Int} (h : ¬ (l.length : Int) ≤ a) (h0 : 0 ≤ a) (ha : a ≤ 1048576) (hl : l.length ≤ 1152921504606846976) : laws_szSemigroup.f l a = some (-1) := by
  unfold laws_szSemigroup.f laws_szIntS.f
  rw [w64 (x := a - l.length) (by omega) (by omega), if_pos (by omega)]
  rfl
theorem toSg_ev {l : List Int} (hl : l.length ≤ 1048576) : Ev (fun k => laws_toSemigroup.f k l) l := by
  unfold laws_toSemigroup.f
  exact ev_bind _ (toIntS_ev hl) (Ev.now _)
theorem eqSg_ev {l m : List Int} (hl : l.length ≤ 1099511627776) : Ev (fun k => laws_eqSemigroup.f k l m) (decide (l = m)) := by
  unfold laws_eqSemigroup.f
  refine ev_bind _ (eqIntS_ev hl) ?_
  by_cases e : l = m
  · exact ev_ifp (by simpa using e) (ev_to (Ev.now _) (by simp [e]))
  · exact ev_ifn (by simpa using e) (ev_to (Ev.now _) (by simp [e]))
theorem eqSg_same {l : List Int} (hl : l.length ≤ 1099511627776) : Ev (fun k => laws_eqSemigroup.f k l l) true := ev_to (eqSg_ev hl) (by simp)
end Go.Proofs.Ytapdhljbhekcdaa.E
end
section
namespace Go.Proofs.Ytapdhljbhekcdaa.Pure
open Go.RowKit Go.Proofs.Ytapdhljbhekcdaa.PB Go.Proofs.Ytapdhljbhekcdaa.E Go.Proofs.YtapdhljbhekcdaaW.PrintWords Go.Proofs.YtapdhljbhekcdaaW.PrintLast Go.Proofs.YtapdhljbhekcdaaW.PrintMore
set_option linter.unusedVariables false
set_option linter.unusedSimpArgs false
theorem FnExactArfFailure (l0 : List Int) (h0 : l0.length ≤ maxLen) (h1 : l0.length * 8 ≤ 140737488351232) (h2 : ∀ x ∈ l0, (Lit.int .i64 x).wf = true) : ∃ k, laws_FnExactArfFailure.f k l0 = some true := by
  apply Ev.rounds
  unfold laws_FnExactArfFailure.f
  by_cases h : (l0.length : Int) ≤ 1048576
  · have hl : l0.length ≤ 1048576 := by omega
    have hl' : l0.length ≤ 1099511627776 := by omega
    obtain ⟨r, hi, hs, _⟩ := arf_ev l0 hl'
    rw [szSg_small h (by omega)]
    simp only [Option.bind_some]
    exact ev_ifn (by omega) (ev_bind _ (toSg_ev hl) (ev_bind _ hs (ev_bind _ (toSg_ev hl) (ev_bind _ hi (ev_ifp rfl (ev_ifp rfl (ev_ifp rfl (Ev.step (fun k => by rw [laws_FnExactArfFailure.j0]) (ev_ifn (by simp) (ev_bind _ (toSg_ev hl) (ev_bind _ (eqSg_same (by omega)) (ev_ifp rfl (Ev.now _)))))))))))))
  · rw [szSg_big h (by omega) (by omega) (by omega)]
    simp only [Option.bind_some]
    exact ev_ifp (by omega) (Ev.now _)
end Go.Proofs.Ytapdhljbhekcdaa.Pure
end
section
namespace Go.Proofs.Ytapdhljbhekcdaa.E
open Go.ChangeShapes Go.WideShapes Go.ChangeAt Go.RowKit Go.Deep Go.Joins
theorem array1_ {α : Type} {cs : Array α} (h : cs.size = 1) : ∃ c0, cs = #[c0] := by
  obtain ⟨l⟩ := cs
  match l, h with
  | [c0], _ => exact ⟨c0, rfl⟩
theorem open_agg1_ {H : Type} {enc : TypeId × Value → H} {P : Program} {w : World} {base : Nat} {spare : Nat → Bool} {held : Bool} {r : Reach} {b0 : Nat} {t : TypeId} {f0 : Field} {v : Value} {d : DataW H} {p : List MemPlace} (hs : P.underlying t = some (.struct #[f0])) (hone : oneCellFields P #[f0] = true) (hC : P.cellsOf t = 1)
    (hv : Value.okWide P w r b0 t v) (h : DataW.Trod enc P w base spare held t v d p) :
    ∃ (v0 : Value) (y0 : DataW H × List MemPlace) (n : Nat), v = .agg #[v0] ∧ d = .agg [y0.1] ∧ p = y0.2 ∧ DataW.trod enc P w base spare held n f0.type [v0] = some y0 := by
  obtain ⟨cs, rfl, hsz⟩ := okWide_struct hs hv
  obtain ⟨c0, rfl⟩ := array1_ (hsz.trans hC)
  obtain ⟨fuel, hf⟩ := h
  obtain ⟨y0, n, hx, _, h0⟩ := trod_struct1 hs hf
  obtain ⟨o0, k0⟩ := hone_of hone 0 f0 rfl
  simp only [Prod.mk.injEq] at hx
  exact ⟨c0, y0, n, rfl, hx.1, hx.2, by simpa [Value.cells, o0, k0] using h0⟩
theorem sized_agg_ {H : Type} {P : Program} {ts : List TypeId} {ds : List (DataW H)} (h : (DataW.weightsEach P ts ds).all (· ≤ reachBytes) = true) {j : Nat} {t : TypeId} {fs : Array Field} {parts : List (DataW H)} (ht : ts[j]? = some t) (hd : ds[j]? = some (.agg parts)) (hu : P.underlying t = some (.struct fs)) :
    (DataW.weightsEach P (fs.toList.map (·.type)) parts).all (· ≤ reachBytes) = true := by
  refine List.all_eq_true.2 fun n hn => List.all_eq_true.1 h n (DataW.weights_mem_each ht hd n ?_)
  simpa [DataW.weights, hu] using hn
end Go.Proofs.Ytapdhljbhekcdaa.E
end
section
namespace Go.Proofs.YtapdhljbhekcdaaW.PrintWords
open Go.ChangeShapes Go.WideShapes
theorem sized_ints {H : Type} {enc : TypeId × Value → H} {P : Program} {W : World} {base : Nat} {spare : Nat → Bool} {held : Bool} {t e : TypeId} {k : IntKind} {a : Option Addr} {len cap : Nat} {d : DataW H} {ps : List MemPlace} {ts : List TypeId} {ds : List (DataW H)} {j : Nat}
    (hsz : (DataW.weightsEach P ts ds).all (· ≤ reachBytes) = true) (ht : ts[j]? = some t) (hd : ds[j]? = some d) (hu : P.underlying t = some (.slice e)) (he : P.underlying e = some (.int k)) (hc : P.cellsOf e = 1) {B : Nat} (hB : P.bytesOf e = B)
    (h : DataW.Trod enc P W base spare held t (.slice a len cap) d ps) : len * B ≤ 140737488351232 := by
  obtain ⟨fuel, hf⟩ := h
  rcases open_ints hu he hc hf with ⟨hcs, _⟩ | ⟨x, l, c, zs, hcs, _, hl, _, hz, hx, _, _⟩
  · simp [Value.cells] at hcs
    obtain ⟨rfl, rfl, rfl⟩ := hcs
    simp
  · simp [Value.cells] at hcs
    obtain ⟨rfl, rfl, rfl⟩ := hcs
    obtain ⟨hx, _⟩ := Prod.mk.inj hx
    subst hx
    have z := sized_slice hsz ht hd hu
    rw [hB] at z
    have hl2 : len ≤ zs.length := by
      rw [hz]
      split
      · exact hl
      · exact Nat.le_refl _
    have h1 : (lits (H := H) k (zs.take len)).length + (lits (H := H) k (zs.drop len)).length = zs.length := by
      simp [lits]
      omega
    rw [h1] at z
    exact Nat.le_trans (Nat.mul_le_mul_right _ hl2) z
end Go.Proofs.YtapdhljbhekcdaaW.PrintWords
end
