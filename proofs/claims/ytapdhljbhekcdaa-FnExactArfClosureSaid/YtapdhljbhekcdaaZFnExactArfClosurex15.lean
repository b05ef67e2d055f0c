-- Bundled by shake.py from this session's printed and written texts; Lean checks it.
import Derived.Below
import Derived.ChangeOld
import Derived.ChangeSlices
import Derived.Deep.Fields
import Derived.Lib.SmallJoins
import Derived.OpenShut
import Derived.ProofKit
import Derived.SizedLaws
import Derived.Test.YtapdhljbhekcdaaZFnExactArfClosurex1
import Derived.Test.YtapdhljbhekcdaaZFnExactArfClosurex10
import Derived.Test.YtapdhljbhekcdaaZFnExactArfClosurex11
import Derived.Test.YtapdhljbhekcdaaZFnExactArfClosurex12
import Derived.Test.YtapdhljbhekcdaaZFnExactArfClosurex13
import Derived.Test.YtapdhljbhekcdaaZFnExactArfClosurex14
import Derived.Test.YtapdhljbhekcdaaZFnExactArfClosurex4
import Derived.Test.YtapdhljbhekcdaaZFnExactArfClosurex5
import Derived.Test.YtapdhljbhekcdaaZFnExactArfClosurex6
import Derived.Test.YtapdhljbhekcdaaZFnExactArfClosurex8
import Derived.Test.YtapdhljbhekcdaaZFnExactArfClosurex9
import Derived.WalkKit
section
namespace Go.Proofs.Ytapdhljbhekcdaa.E
open Go.RowKit Go.Proofs.Ytapdhljbhekcdaa.PB Go.Proofs.YtapdhljbhekcdaaW.PrintWords Go.Proofs.YtapdhljbhekcdaaW.PrintLast Go.Proofs.YtapdhljbhekcdaaW.PrintMore
set_option linter.unusedVariables false
set_option linter.unusedSimpArgs false
theorem has_l {g : List Int} (hl : g.length ≤ 1099511627776) (n : Int) (d : Nat) : ∀ i : Int, 0 ≤ i → i + d = g.length → Ev (fun k => spec_HasNumber.l0 k g n i) (decide (n ∈ g.drop i.toNat)) := by
 induction d with
 | zero =>
  intro i h0 h1
  refine Ev.step (fun k => by rw [spec_HasNumber.l0]) (ev_ifn (by omega) (ev_to (Ev.now _) ?_))
  rw [List.drop_of_length_le (by omega)]; simp
 | succ d ih =>
  intro i h0 h1
  refine Ev.step (fun k => by rw [spec_HasNumber.l0]) ?_
  rw [w64 (x := i + 1) (by omega) (by omega), drop_rd h0 (by omega)]
  refine ev_ifp (by omega) (ev_ifp h0 ?_)
  by_cases c : rd g i = n
  · exact ev_ifp c (ev_to (Ev.now _) (by simp [c]))
  · refine ev_ifn c (ev_to (ih (i + 1) (by omega) (by omega)) ?_)
    simp [Ne.symm c]
theorem has_ev {g : List Int} (hl : g.length ≤ 1099511627776) (n : Int) : Ev (fun k => spec_HasNumber.f k g n) (decide (n ∈ g)) := by
 unfold spec_HasNumber.f
 exact ev_to (has_l hl n g.length 0 (by omega) (by omega)) (by simp)
theorem gcS_l0 {g : List Int} (h : VG g) {r : Int × Int × Bool} (R : ∀ t, GA g (2 * topg g) t → Ev (fun k => spec_GapClash.l1 k (topg g) t 1) r → True) (d : Nat) : ∀ (i : Int) (t : List Bool), 0 ≤ i → i + d = g.length → ((t.length : Int) = 2 * topg g + 1 ∧ ∀ j, 0 ≤ j → j ≤ 2 * topg g → (rdOf false t j = true ↔ ∃ q, 0 ≤ q ∧ q < i ∧ rd g q = j)) → ∃ t', GA g (2 * topg g) t' ∧ ∀ r, Ev (fun k => spec_GapClash.l1 k (topg g) t' 1) r → Ev (fun k => spec_GapClash.l0 k g (topg g) t i) r := by
 have hlen := h.len
 obtain ⟨t0, t1, t2⟩ := h.top
 induction d with
 | zero =>
  intro i t h0 h1 h2
  rw [show i = (g.length : Int) from by omega] at h2
  exact ⟨t, ga_end h2, fun r e => Ev.step (fun k => by rw [spec_GapClash.l0]) (ev_ifn (by omega) e)⟩
 | succ d ih =>
  intro i t h0 h1 h2
  have m := rd_mem (l := g) h0 (by omega)
  have b := h.2 _ m
  have b' := t2 _ m
  obtain ⟨t', e1, e2⟩ := ih (i + 1) (t.set (rd g i).toNat true) (by omega) (by omega) (ga_step h0 (by omega) ⟨by omega, by omega⟩ h2)
  refine ⟨t', e1, fun r e => Ev.step (fun k => by rw [spec_GapClash.l0]) ?_⟩
  rw [w64 (x := i + 1) (by omega) (by omega)]
  exact ev_ifp (by omega) (ev_ifp h0 (ev_ifp (by omega) (ev_ifp (by have := h2.1; omega) (e2 r e))))
theorem gcS_ev {g : List Int} (hl : g.length ≤ 1099511627776) : ∃ x y c, Ev (fun k => spec_GapClash.f k g) (x, y, c) ∧ (c = true ↔ VG g ∧ ¬ CF g) := by
 unfold spec_GapClash.f
 by_cases h : VG g
 · have hlen := h.len
   obtain ⟨t0, t1, t2⟩ := h.top
   by_cases z : g.length = 0
   · refine ⟨0, 0, false, ev_bind _ (l8_ev hl) (ev_ifp (by simpa using h) (Ev.step (fun k => by rw [spec_GapClash.j0]) (ev_ifp (by simpa using z) (Ev.now _)))), fun k => by simp at k, fun k => absurd (fun a b _ _ _ _ q => ?_) k.2⟩
     rw [show g = [] from by simpa using z] at q
     simp at q
   · have e : topg g = rd g ((g.length : Int) - 1) := by unfold topg; rw [if_neg z]
     have w := w64 (x := (g.length : Int) - 1) (by omega) (by omega)
     obtain ⟨t', a1, a2⟩ := gcS_l0 h (r := (0, 0, false)) (fun _ _ _ => trivial) g.length 0 (List.replicate (2 * topg g + 1).toNat false) (by omega) (by omega) (ga_start g (by omega))
     obtain ⟨x, y, c, b1, b2⟩ := clS_l1 (m := 2 * topg g) (top := topg g) a1 (by omega) (by omega) (max 1 (topg g + 1) - 1).toNat 1 (by omega) (by omega)
     refine ⟨x, y, c, ev_bind _ (l8_ev hl) (ev_ifp (by simpa using h) (Ev.step (fun k => by rw [spec_GapClash.j0]) ?_)), by rw [b2]; exact ⟨fun k => ⟨h, fun q => (cf_iff h).1 q k⟩, fun k => Classical.byContradiction fun q => k.2 ((cf_iff h).2 q)⟩⟩
     rw [w, ← e, w64 (x := 2 * topg g) (by omega) (by omega), w64 (x := 2 * topg g + 1) (by omega) (by omega)]
     exact ev_ifn (by simpa using z) (ev_ifp (by omega) (ev_ifp (by omega) (ev_ifp (by omega) (ev_ifp (by omega) (a2 _ b1)))))
 · exact ⟨0, 0, false, ev_bind _ (l8_ev hl) (ev_ifn (by simpa using h) (Ev.step (fun k => by rw [spec_GapClash.j0]) (ev_ifp rfl (Ev.now _)))), fun k => by simp at k, fun k => absurd k.1 h⟩
theorem gcI_l0 {g : List Int} (h : VG g) (hz : g.length ≠ 0) (d : Nat) : ∀ (i : Int) (t : List Bool), 0 ≤ i → i + d = g.length → ((t.length : Int) = 200 + 1 ∧ ∀ j, 0 ≤ j → j ≤ 200 → (rdOf false t j = true ↔ ∃ q, 0 ≤ q ∧ q < i ∧ rd g q = j)) → ∃ t', GA g 200 t' ∧ ∀ r, Ev (fun k => impl_GapClash.l1 k t' (topg g) 1) r → Ev (fun k => impl_GapClash.l0 k g t g g.length i) r := by
 have hlen := h.len
 have e : topg g = rd g ((g.length : Int) - 1) := by unfold topg; rw [if_neg hz]
 induction d with
 | zero =>
  intro i t h0 h1 h2
  rw [show i = (g.length : Int) from by omega] at h2
  refine ⟨t, ga_end h2, fun r q => Ev.step (fun k => by rw [impl_GapClash.l0]) ?_⟩
  rw [w64 (x := (g.length : Int) - 1) (by omega) (by omega), ← e]
  exact ev_ifn (by omega) (ev_ifp (by omega) (ev_ifp (by omega) q))
 | succ d ih =>
  intro i t h0 h1 h2
  have b := h.2 _ (rd_mem (l := g) h0 (by omega))
  obtain ⟨t', e1, e2⟩ := ih (i + 1) (t.set (rd g i).toNat true) (by omega) (by omega) (ga_step h0 (by omega) ⟨by omega, by omega⟩ h2)
  refine ⟨t', e1, fun r q => Ev.step (fun k => by rw [impl_GapClash.l0]) ?_⟩
  rw [w64 (x := i + 1) (by omega) (by omega)]
  exact ev_ifp (by omega) (ev_ifp h0 (ev_ifp (by omega) (ev_ifp (by omega) (ev_ifp (by have := h2.1; omega) (e2 r q)))))
theorem gcI_ev {g : List Int} (hl : g.length ≤ 1099511627776) : ∃ x y c, Ev (fun k => impl_GapClash.f k g) (x, y, c) ∧ (c = true ↔ VG g ∧ ¬ CF g) := by
 unfold impl_GapClash.f
 by_cases h : VG g
 · have hlen := h.len
   obtain ⟨t0, t1, t2⟩ := h.top
   by_cases z : g.length = 0
   · refine ⟨0, 0, false, ev_bind _ (gl_ev hl) (ev_ifp (by simpa using h) (Ev.step (fun k => by rw [impl_GapClash.j0]) (ev_ifp (by simpa using z) (Ev.now _)))), fun k => by simp at k, fun k => absurd (fun a b _ _ _ _ q => ?_) k.2⟩
     rw [show g = [] from by simpa using z] at q
     simp at q
   · obtain ⟨t', a1, a2⟩ := gcI_l0 h z g.length 0 (List.replicate 201 false) (by omega) (by omega) (ga_start g (m := 200) (by omega))
     obtain ⟨x, y, c, b1, b2⟩ := clI_l1 (m := 200) (top := topg g) a1 (by omega) (by omega) (max 1 (topg g + 1) - 1).toNat 1 (by omega) (by omega)
     refine ⟨x, y, c, ev_bind _ (gl_ev hl) (ev_ifp (by simpa using h) (Ev.step (fun k => by rw [impl_GapClash.j0]) ?_)), by rw [b2]; exact ⟨fun k => ⟨h, fun q => (cf_iff h).1 q k⟩, fun k => Classical.byContradiction fun q => k.2 ((cf_iff h).2 q)⟩⟩
     exact ev_ifn (by simpa using z) (ev_ifp (by omega) (a2 _ b1))
 · exact ⟨0, 0, false, ev_bind _ (gl_ev hl) (ev_ifn (by simpa using h) (Ev.step (fun k => by rw [impl_GapClash.j0]) (ev_ifp rfl (Ev.now _)))), fun k => by simp at k, fun k => absurd k.1 h⟩
def FG (g : List Int) : Prop := VG g ∧ CF g ∧ SG (mg g)
noncomputable instance (g : List Int) : Decidable (FG g) := Classical.propDecidable _
noncomputable def fgr (g : List Int) : List Int × Bool := if FG g then (mg g, true) else ([], false)
theorem mg_len (g : List Int) : (mg g).length ≤ 400 := fl_len _ _ _
theorem fgS_l0 {g : List Int} (h : VG g) (hc : CF g) (d : Nat) : ∀ n : Nat, n + d = 2 * (topg g).toNat + 2 → Ev (fun k => spec_FromGaps.l0 k g (fl (isMin g) 1 n) (topg g) ((n : Int) + 1)) (fgr g) := by
 have hlen := h.len
 obtain ⟨t0, t1, t2⟩ := h.top
 have w := w64 (x := 2 * topg g) (by omega) (by omega)
 have w' := w64 (x := 2 * topg g + 2) (by omega) (by omega)
 induction d with
 | zero =>
  intro n hn
  have ml := mg_len g
  rw [mg_cut h (by omega) (by omega)]
  refine Ev.step (fun k => by rw [spec_FromGaps.l0]) ?_
  rw [w, w']
  refine ev_ifn (by omega) (ev_bind _ (sgS_ev (by omega)) ?_)
  by_cases s : SG (mg g)
  · exact ev_ifp (by simpa using s) (ev_to (Ev.now _) (by unfold fgr; rw [if_pos ⟨h, hc, s⟩]))
  · exact ev_ifn (by simpa using s) (ev_to (Ev.now _) (by unfold fgr; rw [if_neg (fun k => s k.2.2)]))
 | succ d ih =>
  intro n hn
  have fll := fl_len (isMin g) n 1
  have nx := ih (n + 1) (by omega)
  rw [show (((n + 1 : Nat)) : Int) + 1 = (n : Int) + 1 + 1 from by omega, fl_app (isMin g) n 1 1, show (1 : Int) + (n : Int) = (n : Int) + 1 from by omega, show (1 : Nat) = 0 + 1 from rfl] at nx
  refine Ev.step (fun k => by rw [spec_FromGaps.l0]) ?_
  rw [w, w', w64 (x := (n : Int) + 1 + 1) (by omega) (by omega)]
  refine ev_ifp (by omega) (ev_bind _ (has_ev (by omega) _) ?_)
  by_cases m : ((n : Int) + 1) ∈ g
  · have nm : ¬ isMin g ((n : Int) + 1) = true := fun k => (isMin_t.1 k).1 m
    rw [fl_no nm, show ∀ j, fl (isMin g) j 0 = [] from fun _ => rfl, List.append_nil] at nx
    exact ev_ifp (by simpa using m) nx
  · refine ev_ifn (by simpa using m) ?_
    have sn := su_new hc m
    by_cases z : fl (isMin g) 1 n = []
    · have mn : isMin g ((n : Int) + 1) = true := Classical.byContradiction fun k => by
       have := sn.2 k
       rw [z] at this
       obtain ⟨x, hx, _⟩ := (Su.last (by omega)).1 this
       simp at hx
      rw [fl_yes mn, show ∀ j, fl (isMin g) j 0 = [] from fun _ => rfl] at nx
      exact ev_ifn (by rw [z]; simp) (ev_ifp (by omega) nx)
    · have zl : (fl (isMin g) 1 n).length ≠ 0 := by simpa using z
      obtain ⟨t, a1, a2, a3⟩ := tabG_ev (v := fl (isMin g) 1 n) (by omega) (fun x hx => by have := (fl_mem _ _).1 hx; omega) (most := (n : Int) + 1) (by omega) (by omega)
      have ht := a2 ((n : Int) + 1) (by omega) (Int.le_refl _)
      refine ev_ifp (by omega) (ev_bind _ a3 (ev_ifp (by omega) (ev_ifp (by omega) ?_)))
      by_cases mn : isMin g ((n : Int) + 1) = true
      · rw [fl_yes mn, show ∀ j, fl (isMin g) j 0 = [] from fun _ => rfl] at nx
        exact ev_ifn (fun k => sn.1 (ht.1 k) mn) (ev_ifp (by omega) nx)
      · rw [fl_no mn, show ∀ j, fl (isMin g) j 0 = [] from fun _ => rfl, List.append_nil] at nx
        exact ev_ifp (ht.2 (sn.2 mn)) nx
theorem fromGapsS_ev {g : List Int} (hl : g.length ≤ 1099511627776) : Ev (fun k => spec_FromGaps.f k g) (fgr g) := by
 obtain ⟨x, y, c, e1, e2⟩ := gcS_ev hl
 unfold spec_FromGaps.f
 refine ev_bind _ e1 (ev_bind _ (l8_ev hl) ?_)
 by_cases h : VG g
 · refine ev_ifp (by simpa using h) ?_
   by_cases hc : CF g
   · have cf : c = false := Bool.eq_false_iff.mpr (fun k => (e2.1 k).2 hc)
     subst cf
     have hlen := h.len
     have r := fgS_l0 h hc (2 * (topg g).toNat + 2) 0 (by omega)
     rw [show ((0 : Nat) : Int) + 1 = 1 from rfl, show fl (isMin g) 1 0 = [] from rfl] at r
     refine Ev.step (fun k => by rw [spec_FromGaps.j0]) (ev_ifn (by simp) ?_)
     simp only [Option.bind_some]
     by_cases z : g.length = 0
     · have e : topg g = 0 := by unfold topg; rw [if_pos z]
       rw [e] at r
       exact ev_ifn (by omega) (Ev.step (fun k => by rw [spec_FromGaps.j1]) r)
     · have e : topg g = rd g ((g.length : Int) - 1) := by unfold topg; rw [if_neg z]
       rw [w64 (x := (g.length : Int) - 1) (by omega) (by omega), ← e]
       exact ev_ifp (by omega) (ev_ifp (by omega) (ev_ifp (by omega) (Ev.step (fun k => by rw [spec_FromGaps.j1]) r)))
   · have ct : c = true := e2.2 ⟨h, hc⟩
     subst ct
     exact Ev.step (fun k => by rw [spec_FromGaps.j0]) (ev_ifp rfl (ev_to (Ev.now _) (by unfold fgr; rw [if_neg (fun k => hc k.2.1)])))
 · exact ev_ifn (by simpa using h) (Ev.step (fun k => by rw [spec_FromGaps.j0]) (ev_ifp rfl (ev_to (Ev.now _) (by unfold fgr; rw [if_neg (fun k => h k.1)]))))
theorem fgI_l2 {g : List Int} {t : List Bool} (h : GA g 400 t) {n : Int} (h1 : 1 ≤ n) (h2 : n ≤ 400) {u : List Int} (hu : (u.length : Int) ≤ 400) {r : List Int × Bool} (d : Nat) : ∀ (a : Int) (s : Bool), 1 ≤ a → a + d = n / 2 + 1 →
 ((s = true ∨ ∃ x, a ≤ x ∧ 2 * x ≤ n ∧ x ∉ g ∧ n - x ∉ g) → Ev (fun k => impl_FromGaps.l1 k g t (n + 1) u) r) → (¬ (s = true ∨ ∃ x, a ≤ x ∧ 2 * x ≤ n ∧ x ∉ g ∧ n - x ∉ g) → Ev (fun k => impl_FromGaps.l1 k g t (n + 1) (u ++ [n])) r) → Ev (fun k => impl_FromGaps.l2 k g t n s a u) r := by
 have hl := h.1
 induction d with
 | zero =>
  intro a s a1 a2 y no
  refine Ev.step (fun k => by rw [impl_FromGaps.l2]) ?_
  rw [w64 (x := 2 * a) (by omega) (by omega), w64 (x := n + 1) (by omega) (by omega)]
  refine ev_ifn (by omega) ?_
  by_cases c : s = true
  · exact ev_ifp c (y (.inl c))
  · exact ev_ifn c (ev_ifp (by omega) (no (fun k => k.elim c (fun ⟨x, x0, x1, _⟩ => by omega))))
 | succ d ih =>
  intro a s a1 a2 y no
  refine Ev.step (fun k => by rw [impl_FromGaps.l2]) ?_
  rw [w64 (x := 2 * a) (by omega) (by omega), w64 (x := n + 1) (by omega) (by omega), w64 (x := a + 1) (by omega) (by omega), w64 (x := n - a) (by omega) (by omega)]
  refine ev_ifp (by omega) ?_
  by_cases c : s = true
  · exact ev_ifp c (y (.inl c))
  · refine ev_ifn c (ev_ifp (by omega) (ev_ifp (by omega) ?_))
    have ha := h.2 a (by omega) (by omega)
    have hb := h.2 (n - a) (by omega) (by omega)
    by_cases q : a ∈ g
    · refine ev_ifp (ha.2 q) (ih (a + 1) false (by omega) (by omega) (fun k => y (k.elim (fun k => by simp at k) fun ⟨x, x0, x1⟩ => .inr ⟨x, by omega, x1⟩)) (fun k => no fun k' => k (k'.elim (fun k' => absurd k' c) fun ⟨x, x0, x1, x2, x3⟩ => .inr ⟨x, ?_, x1, x2, x3⟩)))
      by_cases e : x = a
      · rw [e] at x2; exact absurd q x2
      · omega
    · refine ev_ifn (fun k => q (ha.1 k)) (ev_ifp (by omega) (ev_ifp (by omega) (ih (a + 1) _ (by omega) (by omega) (fun k => y ?_) (fun k => no fun k' => k ?_))))
      · rcases k with k | ⟨x, x0, x1⟩
        · exact .inr ⟨a, Int.le_refl _, by omega, q, fun m => by rw [hb.2 m] at k; simp at k⟩
        · exact .inr ⟨x, by omega, x1⟩
      · rcases k' with k' | ⟨x, x0, x1, x2, x3⟩
        · exact absurd k' c
        · by_cases e : x = a
          · subst e
            exact .inl (by rw [Bool.eq_false_iff.mpr (fun k => x3 (hb.1 k))]; rfl)
          · exact .inr ⟨x, by omega, x1, x2, x3⟩
theorem fgI_l1 {g : List Int} (hv : VG g) (hc : CF g) {t : List Bool} (h : GA g 400 t) (d : Nat) : ∀ n : Nat, n + d = 400 → Ev (fun k => impl_FromGaps.l1 k g t ((n : Int) + 1) (fl (isMin g) 1 n)) (fgr g) := by
 have hl := h.1
 induction d with
 | zero =>
  intro n hn
  have ml := mg_len g
  have vl := hv.len
  rw [show n = 400 from by omega]
  change Ev (fun k => impl_FromGaps.l1 k g t ((400 : Nat) + 1 : Int) (mg g)) (fgr g)
  refine Ev.step (fun k => by rw [impl_FromGaps.l1]) (ev_ifn (by omega) (ev_bind _ (sgI_ev (by omega)) ?_))
  by_cases s : SG (mg g)
  · have gg := gapsI_gps (v := mg g) (by omega)
    rw [gps_sg s, gp_mg hv hc] at gg
    exact ev_ifp (by simpa using s) (ev_bind _ gg (ev_bind _ (sliceEq_ev (by omega)) (ev_ifp (by simp) (ev_to (Ev.now _) (by unfold fgr; rw [if_pos ⟨hv, hc, s⟩])))))
  · exact ev_ifn (by simpa using s) (ev_to (Ev.now _) (by unfold fgr; rw [if_neg (fun k => s k.2.2)]))
 | succ d ih =>
  intro n hn
  have fll := fl_len (isMin g) n 1
  have nx := ih (n + 1) (by omega)
  rw [show (((n + 1 : Nat)) : Int) + 1 = (n : Int) + 1 + 1 from by omega, fl_app (isMin g) n 1 1, show (1 : Int) + (n : Int) = (n : Int) + 1 from by omega, show (1 : Nat) = 0 + 1 from rfl] at nx
  have key : ((rdOf false t ((n : Int) + 1) = true ∨ ∃ x, 1 ≤ x ∧ 2 * x ≤ (n : Int) + 1 ∧ x ∉ g ∧ (n : Int) + 1 - x ∉ g) ↔ ¬ isMin g ((n : Int) + 1) = true) := by
   rw [h.2 _ (by omega) (by omega), isMin_t]
   constructor
   · rintro (k | ⟨x, x0, x1, x2, x3⟩) q
     · exact q.1 k
     · exact q.2 x ((n : Int) + 1 - x) x0 (by omega) x2 x3 (by omega)
   · intro k
     by_cases m : ((n : Int) + 1) ∈ g
     · exact .inl m
     · right
       have : ∃ a b : Int, 1 ≤ a ∧ 1 ≤ b ∧ a ∉ g ∧ b ∉ g ∧ a + b = (n : Int) + 1 := Classical.byContradiction fun q => k ⟨m, fun a b a1 b1 a2 b2 e => q ⟨a, b, a1, b1, a2, b2, e⟩⟩
       obtain ⟨a, b, a1, b1, a2, b2, e⟩ := this
       by_cases le : a ≤ b
       · exact ⟨a, a1, by omega, a2, by rw [show (n : Int) + 1 - a = b from by omega]; exact b2⟩
       · exact ⟨b, b1, by omega, b2, by rw [show (n : Int) + 1 - b = a from by omega]; exact a2⟩
  refine Ev.step (fun k => by rw [impl_FromGaps.l1]) (ev_ifp (by omega) (ev_ifp (by omega) (fgI_l2 h (by omega) (by omega) (by omega) (((n : Int) + 1) / 2).toNat 1 _ (by omega) (by omega) (fun k => ?_) (fun k => ?_))))
  · rw [fl_no (key.1 k), show ∀ j, fl (isMin g) j 0 = [] from fun _ => rfl, List.append_nil] at nx
    exact nx
  · rw [fl_yes (Classical.byContradiction fun q => k (key.2 q)), show ∀ j, fl (isMin g) j 0 = [] from fun _ => rfl] at nx
    exact nx
theorem fgI_l0 {g : List Int} (h : VG g) (hc : CF g) (d : Nat) : ∀ (i : Int) (t : List Bool), 0 ≤ i → i + d = g.length → ((t.length : Int) = 400 + 1 ∧ ∀ j, 0 ≤ j → j ≤ 400 → (rdOf false t j = true ↔ ∃ q, 0 ≤ q ∧ q < i ∧ rd g q = j)) → Ev (fun k => impl_FromGaps.l0 k g t g g.length i) (fgr g) := by
 have hlen := h.len
 induction d with
 | zero =>
  intro i t h0 h1 h2
  rw [show i = (g.length : Int) from by omega] at h2
  have r := fgI_l1 h hc (ga_end h2) 400 0 (by omega)
  rw [show ((0 : Nat) : Int) + 1 = 1 from rfl, show fl (isMin g) 1 0 = [] from rfl] at r
  exact Ev.step (fun k => by rw [impl_FromGaps.l0]) (ev_ifn (by omega) r)
 | succ d ih =>
  intro i t h0 h1 h2
  have b := h.2 _ (rd_mem (l := g) h0 (by omega))
  have e2 := ih (i + 1) (t.set (rd g i).toNat true) (by omega) (by omega) (ga_step h0 (by omega) ⟨by omega, by omega⟩ h2)
  refine Ev.step (fun k => by rw [impl_FromGaps.l0]) ?_
  rw [w64 (x := i + 1) (by omega) (by omega)]
  exact ev_ifp (by omega) (ev_ifp h0 (ev_ifp (by omega) (ev_ifp (by omega) (ev_ifp (by have := h2.1; omega) e2))))
theorem fromGapsI_ev {g : List Int} (hl : g.length ≤ 1099511627776) : Ev (fun k => impl_FromGaps.f k g) (fgr g) := by
 obtain ⟨x, y, c, e1, e2⟩ := gcI_ev hl
 unfold impl_FromGaps.f
 refine ev_bind _ e1 ?_
 by_cases ct : c = true
 · have := e2.1 ct
   exact ev_ifp ct (Ev.step (fun k => by rw [impl_FromGaps.j0]) (ev_ifp rfl (ev_to (Ev.now _) (by unfold fgr; rw [if_neg (fun k => this.2 k.2.1)]))))
 · refine ev_ifn ct (ev_bind _ (gl_ev hl) (Ev.step (fun k => by rw [impl_FromGaps.j0]) ?_))
   by_cases h : VG g
   · have hc : CF g := Classical.byContradiction fun k => ct (e2.2 ⟨h, k⟩)
     exact ev_ifn (nd_f h) (ev_ifp (by omega) (fgI_l0 h hc g.length 0 (List.replicate 401 false) (by omega) (by omega) (ga_start g (m := 400) (by omega))))
   · exact ev_ifp (nd_t h) (ev_to (Ev.now _) (by unfold fgr; rw [if_neg (fun k => h k.1)]))
end Go.Proofs.Ytapdhljbhekcdaa.E
end
section
namespace Go.Proofs.Ytapdhljbhekcdaa.E
open Go.RowKit Go.Proofs.Ytapdhljbhekcdaa.PB Go.Proofs.YtapdhljbhekcdaaW.PrintWords Go.Proofs.YtapdhljbhekcdaaW.PrintLast Go.Proofs.YtapdhljbhekcdaaW.PrintMore
set_option linter.unusedVariables false
set_option linter.unusedSimpArgs false
inductive AC (v : List Int) : Int → Prop
 | base {n : Int} : Su v n → AC v n
 | step {x y z : Int} : AC v x → AC v y → AC v z → z ≤ y → y ≤ x → AC v (x + y - z)
theorem AC.pos {v : List Int} (hv : ∀ x ∈ v, 1 ≤ x) {n : Int} (h : AC v n) : 0 ≤ n := by
 induction h with
 | base h => exact h.pos hv
 | step _ _ _ zy yx ix iy iz => omega
def TA (v : List Int) (L N : Int) (t : List Bool) : Prop := (t.length : Int) = L ∧ (∀ n, 0 ≤ n → n < N → Su v n → rdOf false t n = true) ∧ (∀ n, 0 ≤ n → n < N → rdOf false t n = true → AC v n)
theorem ac_fin {v : List Int} (hv : ∀ x ∈ v, 1 ≤ x) {L N : Int} {t : List Bool} (h : TA v L N t) (hc : ∀ a b e : Int, 0 ≤ e → e ≤ b → b ≤ a → a < N → rdOf false t a = true → rdOf false t b = true → rdOf false t e = true → a + b - e < N → rdOf false t (a + b - e) = true) : ∀ n, 0 ≤ n → n < N → (rdOf false t n = true ↔ AC v n) := by
 have key : ∀ n, AC v n → n < N → rdOf false t n = true := by
  intro n k
  induction k with
  | base k => intro hn; exact h.2.1 _ (k.pos hv) hn k
  | step kx ky kz zy yx ix iy iz =>
   intro hn
   have := kz.pos hv
   exact hc _ _ _ this zy yx (by omega) (ix (by omega)) (iy (by omega)) (iz (by omega)) hn
 exact fun n n0 n1 => ⟨h.2.2 n n0 n1, fun k => key n k n1⟩
theorem cnt_set (t : List Bool) : ∀ i : Nat, i < t.length → t[i]? = some false → (t.set i true).count false < t.count false := by
 induction t with
 | nil => intro i h; simp at h
 | cons b t ih =>
  intro i h k
  cases i with
  | zero => simp at k; subst k; simp
  | succ i =>
   have := ih i (by simpa using h) (by simpa using k)
   simp only [z3_, List.count_cons]
   omega
theorem cnt_rd {t : List Bool} {w : Int} (h0 : 0 ≤ w) (h : w < t.length) (hf : ¬ rdOf false t w = true) : (t.set w.toNat true).count false < t.count false := by
 refine cnt_set t w.toNat (by omega) ?_
 rw [rdb_lt h0 h] at hf
 rw [List.getElem?_eq_getElem (by omega)]
 simpa using hf
def RS (v : List Int) (L N : Int) (t0 : List Bool) (P : Prop) (t : List Bool) (s : Bool) : Prop := TA v L N t ∧ (s = false → t = t0 ∧ P) ∧ (s = true → t.count false < t0.count false)
theorem RS.keep {v : List Int} {L N : Int} {t0 t : List Bool} {P Q : Prop} {s : Bool} (h : RS v L N t0 P t s) (k : t = t0 → P → Q) : RS v L N t0 Q t s :=
 ⟨h.1, fun e => ⟨(h.2.1 e).1, k (h.2.1 e).1 (h.2.1 e).2⟩, h.2.2⟩
theorem RS.put {v : List Int} {L N : Int} {t0 t : List Bool} {P Q : Prop} {s : Bool} (h : RS v L N t0 P t s) (hN : N ≤ L) {w : Int} (h0 : 0 ≤ w) (hw : w < N) (hf : ¬ rdOf false t w = true) (ha : AC v w) : RS v L N t0 Q (t.set w.toNat true) true := by
 have hl := h.1.1
 refine ⟨⟨by simpa using hl, fun n n0 n1 n2 => ?_, fun n n0 n1 n2 => ?_⟩, fun e => by simp at e, fun _ => ?_⟩
 · rw [rdb_set _ h0 (by omega) n0]
   by_cases c : n = w
   · rw [if_pos c]
   · rw [if_neg c]; exact h.1.2.1 n n0 n1 n2
 · rw [rdb_set _ h0 (by omega) n0] at n2
   by_cases c : n = w
   · rw [c]; exact ha
   · rw [if_neg c] at n2; exact h.1.2.2 n n0 n1 n2
 · have k := cnt_rd h0 (by omega) hf
   cases s with
   | false => rw [(h.2.1 rfl).1] at k ⊢; exact k
   | true => have := h.2.2 rfl; omega
noncomputable def isac (v : List Int) (n : Int) : Bool := @decide (¬ AC v n) (Classical.propDecidable _)
theorem isac_t {v : List Int} {n : Int} : isac v n = true ↔ ¬ AC v n := by unfold isac; exact @decide_eq_true_iff _ (Classical.propDecidable _)
noncomputable def acr (v : List Int) : List Int × Bool := fgr (fl (isac v) 0 201)
def CN (t0 : List Bool) (l : List Int) (i j z : Int) : Prop := ∀ a b c : Int, 0 ≤ c → c ≤ b → b ≤ a → a < l.length → (a < i ∨ (a = i ∧ (b < j ∨ (b = j ∧ c < z)))) → rd l a + rd l b - rd l c < 201 → rdOf false t0 (rd l a + rd l b - rd l c) = true
theorem rd_tk {l : List Int} {i j : Int} (h0 : 0 ≤ j) (h : j < i) (hi : i ≤ l.length) : rd (l.take i.toNat) j = rd l j := by
 rw [rd_lt h0 (by rw [take_len (by omega) hi]; omega), rd_lt h0 (by omega), List.getElem_take]
def LI (t0 : List Bool) : List Int := fl (fun n => rdOf false t0 n) 0 201
theorem li_mem {t0 : List Bool} {x : Int} : x ∈ LI t0 ↔ 0 ≤ x ∧ x < 201 ∧ rdOf false t0 x = true := by unfold LI; rw [fl_mem]; constructor <;> rintro ⟨a, b, c⟩ <;> exact ⟨a, by omega, c⟩
theorem li_len (t0 : List Bool) : (LI t0).length ≤ 201 := fl_len _ _ _
theorem li_le {t0 : List Bool} {i j : Int} (h0 : 0 ≤ i) (h : i ≤ j) (hj : j < (LI t0).length) : rd (LI t0) i ≤ rd (LI t0) j := by
 by_cases c : i = j
 · rw [c]; exact Int.le_refl _
 · exact Int.le_of_lt (asc_lt (fl_asc _ _ _) (j - i - 1).toNat i j h0 (by omega) hj)
theorem acI_l4 {v : List Int} {t0 : List Bool} {r : List Int × Bool} (ht : TA v 201 201 t0) {i j : Int} (j0 : 0 ≤ j) (hj : j ≤ i) (hi : i < (LI t0).length) (N : ∀ t s, RS v 201 201 t0 (CN t0 (LI t0) i (j + 1) 0) t s → Ev (fun k => impl_ArfClosure.l3 k t s (LI t0) (rd (LI t0) i) (LI t0) (LI t0).length i ((LI t0).take (i + 1).toNat) (i + 1) (j + 1)) r) (d : Nat) : ∀ (z : Int) t s, 0 ≤ z → z + d = j + 1 → RS v 201 201 t0 (CN t0 (LI t0) i j z) t s → Ev (fun k => impl_ArfClosure.l4 k t s (LI t0) (rd (LI t0) i) (rd (LI t0) j) (LI t0) (LI t0).length i ((LI t0).take (i + 1).toNat) (i + 1) j ((LI t0).take (j + 1).toNat) (j + 1) z) r := by
 have ll := li_len t0
 induction d with
 | zero =>
  intro z t s z0 hz h
  refine Ev.step (fun k => by rw [impl_ArfClosure.l4]) ?_
  rw [w64 (x := j + 1) (by omega) (by omega)]
  refine ev_ifn (by omega) (N t s (h.keep fun _ p a b c c0 c1 c2 c3 c4 => p a b c c0 c1 c2 c3 (by omega)))
 | succ d ih =>
  intro z t s z0 hz h
  have tl := take_len (v := LI t0) (i := j + 1) (by omega) (by omega)
  have mz := li_mem.1 (rd_mem (l := LI t0) (i := z) z0 (by omega))
  have mj := li_mem.1 (rd_mem (l := LI t0) (i := j) j0 (by omega))
  have mi := li_mem.1 (rd_mem (l := LI t0) (i := i) (by omega) (by omega))
  have zj := li_le (t0 := t0) z0 (show z ≤ j by omega) (by omega)
  have ji := li_le (t0 := t0) j0 hj (by omega)
  have hl := h.1.1
  have ext : t = t0 → CN t0 (LI t0) i j z → (rd (LI t0) i + rd (LI t0) j - rd (LI t0) z < 201 → rdOf false t (rd (LI t0) i + rd (LI t0) j - rd (LI t0) z) = true) → CN t0 (LI t0) i j (z + 1) := by
   intro e p q a b c c0 c1 c2 c3 c4 c5
   by_cases g : a = i ∧ b = j ∧ c = z
   · obtain ⟨rfl, rfl, rfl⟩ := g; rw [e] at q; exact q c5
   · exact p a b c c0 c1 c2 c3 (by clear ih N h mz mj mi zj ji tl p q c5 hl; omega) c5
  refine Ev.step (fun k => by rw [impl_ArfClosure.l4]) ?_
  rw [rd_tk z0 (by omega) (by omega), w64 (x := z + 1) (by omega) (by omega), w64 (x := rd (LI t0) i + rd (LI t0) j) (by omega) (by omega), w64 (x := rd (LI t0) i + rd (LI t0) j - rd (LI t0) z) (by omega) (by omega)]
  refine ev_ifp (by omega) (ev_ifp (by omega) (ev_ifp (by omega) ?_))
  by_cases c : rd (LI t0) i + rd (LI t0) j - rd (LI t0) z < 201
  · refine ev_ifp (by omega) (ev_ifp (by omega) ?_)
    by_cases g : rdOf false t (rd (LI t0) i + rd (LI t0) j - rd (LI t0) z) = true
    · exact ev_ifp g (ih (z + 1) t s (by omega) (by omega) (h.keep fun e p => ext e p fun _ => g))
    · exact ev_ifn g (ih (z + 1) _ _ (by omega) (by omega) (h.put (Int.le_refl _) (by omega) c g (.step (ht.2.2 _ mi.1 mi.2.1 mi.2.2) (ht.2.2 _ mj.1 mj.2.1 mj.2.2) (ht.2.2 _ mz.1 mz.2.1 mz.2.2) zj ji)))
  · exact ev_ifn (by omega) (ih (z + 1) t s (by omega) (by omega) (h.keep fun e p => ext e p fun k => absurd k c))
theorem acI_l3 {v : List Int} {t0 : List Bool} {r : List Int × Bool} (ht : TA v 201 201 t0) {i : Int} (i0 : 0 ≤ i) (hi : i < (LI t0).length) (N : ∀ t s, RS v 201 201 t0 (CN t0 (LI t0) (i + 1) 0 0) t s → Ev (fun k => impl_ArfClosure.l2 k t s (LI t0) (LI t0) (LI t0).length (i + 1)) r) (d : Nat) : ∀ (j : Int) t s, 0 ≤ j → j + d = i + 1 → RS v 201 201 t0 (CN t0 (LI t0) i j 0) t s → Ev (fun k => impl_ArfClosure.l3 k t s (LI t0) (rd (LI t0) i) (LI t0) (LI t0).length i ((LI t0).take (i + 1).toNat) (i + 1) j) r := by
 have ll := li_len t0
 induction d with
 | zero =>
  intro j t s j0 hj h
  refine Ev.step (fun k => by rw [impl_ArfClosure.l3]) ?_
  rw [w64 (x := i + 1) (by omega) (by omega)]
  exact ev_ifn (by omega) (N t s (h.keep fun _ p a b c c0 c1 c2 c3 c4 => p a b c c0 c1 c2 c3 (by omega)))
 | succ d ih =>
  intro j t s j0 hj h
  have tl := take_len (v := LI t0) (i := i + 1) (by omega) (by omega)
  have tj := take_len (v := LI t0) (i := j + 1) (by omega) (by omega)
  have go := acI_l4 ht j0 (by omega) hi (fun t s => ih (j + 1) t s (by omega) (by omega)) (j + 1).toNat 0 t s (Int.le_refl _) (by omega) h
  refine Ev.step (fun k => by rw [impl_ArfClosure.l3]) ?_
  rw [w64 (x := j + 1) (by omega) (by omega), rd_tk j0 (by omega) (by omega)]
  refine ev_ifp (by omega) (ev_ifp (by omega) (ev_ifp (by omega) (ev_ifp (by omega) (ev_ifp (by omega) ?_))))
  simp only [Option.bind_some]
  rw [tj]
  exact go
theorem acI_l2 {v : List Int} {t0 : List Bool} {r : List Int × Bool} (ht : TA v 201 201 t0) (N : ∀ t s, RS v 201 201 t0 (CN t0 (LI t0) (LI t0).length 0 0) t s → Ev (fun k => impl_ArfClosure.l0 k t s) r) (d : Nat) : ∀ (i : Int) t s, 0 ≤ i → i + d = (LI t0).length → RS v 201 201 t0 (CN t0 (LI t0) i 0 0) t s → Ev (fun k => impl_ArfClosure.l2 k t s (LI t0) (LI t0) (LI t0).length i) r := by
 have ll := li_len t0
 induction d with
 | zero =>
  intro i t s i0 hi h
  rw [show i = ((LI t0).length : Int) from by omega] at h
  exact Ev.step (fun k => by rw [impl_ArfClosure.l2]) (ev_ifn (by omega) (N t s h))
 | succ d ih =>
  intro i t s i0 hi h
  have tl := take_len (v := LI t0) (i := i + 1) (by omega) (by omega)
  have go := acI_l3 ht i0 (by omega) (fun t s => ih (i + 1) t s (by omega) (by omega)) (i + 1).toNat 0 t s (Int.le_refl _) (by omega) h
  refine Ev.step (fun k => by rw [impl_ArfClosure.l2]) ?_
  rw [w64 (x := i + 1) (by omega) (by omega)]
  refine ev_ifp (by omega) (ev_ifp (by omega) (ev_ifp (by omega) (ev_ifp (by omega) (ev_ifp (by omega) ?_))))
  simp only [Option.bind_some]
  rw [tl]
  exact go
theorem acI_l1 {v : List Int} {t0 : List Bool} {r : List Int × Bool} (ht : TA v 201 201 t0) (N : Ev (fun k => impl_ArfClosure.l2 k t0 false (LI t0) (LI t0) (LI t0).length 0) r) (d : Nat) : ∀ i : Nat, i + d = 201 → Ev (fun k => impl_ArfClosure.l1 k t0 false (fl (fun n => rdOf false t0 n) 0 i) t0 201 i) r := by
 have hl := ht.1
 induction d with
 | zero =>
  intro i hi
  rw [show i = 201 from by omega]
  change Ev (fun k => impl_ArfClosure.l1 k t0 false (LI t0) t0 201 201) r
  exact Ev.step (fun k => by rw [impl_ArfClosure.l1]) (ev_ifn (by omega) N)
 | succ d ih =>
  intro i hi
  have fll := fl_len (fun n => rdOf false t0 n) i 0
  have nx := ih (i + 1) (by omega)
  rw [show (((i + 1 : Nat)) : Int) = (i : Int) + 1 from by omega, fl_app (fun n => rdOf false t0 n) i 1 0, show (0 : Int) + (i : Int) = (i : Int) from by omega, show (1 : Nat) = 0 + 1 from rfl] at nx
  refine Ev.step (fun k => by rw [impl_ArfClosure.l1]) ?_
  rw [w64 (x := (i : Int) + 1) (by omega) (by omega)]
  refine ev_ifp (by omega) (ev_ifp (by omega) (ev_ifp (by omega) ?_))
  by_cases c : rdOf false t0 (i : Int) = true
  · rw [fl_yes (p := fun n => rdOf false t0 n) c, show ∀ j, fl (fun n => rdOf false t0 n) j 0 = [] from fun _ => rfl] at nx
    exact ev_ifp c (ev_ifp (by omega) nx)
  · rw [fl_no (p := fun n => rdOf false t0 n) c, show ∀ j, fl (fun n => rdOf false t0 n) j 0 = [] from fun _ => rfl, List.append_nil] at nx
    exact ev_ifn c nx
theorem acI_l5 {v : List Int} {t : List Bool} (hl : (t.length : Int) = 201) (hd : ∀ n, 0 ≤ n → n < 201 → (rdOf false t n = true ↔ AC v n)) (d : Nat) : ∀ i : Nat, i + d = 201 → Ev (fun k => impl_ArfClosure.l5 k (fl (isac v) 0 i) t 201 i) (acr v) := by
 induction d with
 | zero =>
  intro i hi
  rw [show i = 201 from by omega]
  have := fl_len (isac v) 201 0
  exact Ev.step (fun k => by rw [impl_ArfClosure.l5]) (ev_ifn (by omega) (ev_bind _ (fromGapsI_ev (by omega)) (Ev.now _)))
 | succ d ih =>
  intro i hi
  have fll := fl_len (isac v) i 0
  have nx := ih (i + 1) (by omega)
  have hi' := hd i (by omega) (by omega)
  rw [show (((i + 1 : Nat)) : Int) = (i : Int) + 1 from by omega, fl_app (isac v) i 1 0, show (0 : Int) + (i : Int) = (i : Int) from by omega, show (1 : Nat) = 0 + 1 from rfl] at nx
  refine Ev.step (fun k => by rw [impl_ArfClosure.l5]) ?_
  rw [w64 (x := (i : Int) + 1) (by omega) (by omega)]
  refine ev_ifp (by omega) (ev_ifp (by omega) (ev_ifp (by omega) ?_))
  by_cases c : rdOf false t (i : Int) = true
  · rw [fl_no (fun k => isac_t.1 k (hi'.1 c)), show ∀ j, fl (isac v) j 0 = [] from fun _ => rfl, List.append_nil] at nx
    exact ev_ifp c nx
  · rw [fl_yes (isac_t.2 fun k => c (hi'.2 k)), show ∀ j, fl (isac v) j 0 = [] from fun _ => rfl] at nx
    exact ev_ifn c (ev_ifp (by omega) nx)
theorem cn_closed {t : List Bool} (p : CN t (LI t) (LI t).length 0 0) (a b e : Int) (e0 : 0 ≤ e) (eb : e ≤ b) (ba : b ≤ a) (an : a < 201) (ta : rdOf false t a = true) (tb : rdOf false t b = true) (te : rdOf false t e = true) (hs : a + b - e < 201) : rdOf false t (a + b - e) = true := by
 obtain ⟨i, i0, i1, i2⟩ := mem_rd (li_mem.2 ⟨by omega, an, ta⟩)
 obtain ⟨j, j0, j1, j2⟩ := mem_rd (li_mem.2 ⟨by omega, by omega, tb⟩)
 obtain ⟨z, z0, z1, z2⟩ := mem_rd (li_mem.2 ⟨e0, by omega, te⟩)
 have up : ∀ x y : Int, 0 ≤ x → 0 ≤ y → x < (LI t).length → y < (LI t).length → rd (LI t) x ≤ rd (LI t) y → x ≤ y ∨ rd (LI t) x = rd (LI t) y := fun x y x0 y0 hx hy k => by
  by_cases c : x ≤ y
  · exact .inl c
  · have := li_le (t0 := t) y0 (show y ≤ x by omega) hx
    exact .inr (by omega)
 have lt : ∀ x y : Int, 0 ≤ x → 0 ≤ y → x < (LI t).length → y < (LI t).length → rd (LI t) x ≤ rd (LI t) y → x ≤ y := fun x y x0 y0 hx hy k => by
  by_cases c : x ≤ y
  · exact c
  · have := asc_lt (fl_asc (fun n => rdOf false t n) 201 0) (x - y - 1).toNat y x y0 (by omega) hx
    change rd (LI t) y < rd (LI t) x at this
    omega
 have := p i j z z0 (lt z j z0 j0 z1 j1 (by omega)) (lt j i j0 i0 j1 i1 (by omega)) i1 (.inl i1) (by omega)
 rwa [i2, j2, z2] at this
theorem acI_l0 {v : List Int} (hv : ∀ x ∈ v, 1 ≤ x) (m : Nat) : ∀ t s, TA v 201 201 t → t.count false < m → (s = false → CN t (LI t) (LI t).length 0 0) → Ev (fun k => impl_ArfClosure.l0 k t s) (acr v) := by
 induction m with
 | zero => intro t s _ h; omega
 | succ m ih =>
  intro t s h hm hs
  refine Ev.step (fun k => by rw [impl_ArfClosure.l0]) ?_
  have hl := h.1
  rw [hl]
  cases s with
  | false => exact ev_ifn (by simp) (acI_l5 hl (ac_fin hv h (cn_closed (hs rfl))) 201 0 (by omega))
  | true =>
   refine ev_ifp rfl (acI_l1 h (acI_l2 h (fun t' s' k => ?_) (LI t).length 0 t false (Int.le_refl _) (by omega) ⟨h, fun _ => ⟨rfl, fun a b c c0 c1 c2 c3 c4 => by omega⟩, fun e => by simp at e⟩) 201 0 (by omega))
   cases s' with
   | false =>
    obtain ⟨e, p⟩ := k.2.1 rfl
    refine Ev.step (fun k => by rw [impl_ArfClosure.l0]) ?_
    rw [e, hl]
    exact ev_ifn (by simp) (acI_l5 hl (ac_fin hv h (cn_closed p)) 201 0 (by omega))
   | true => exact ih t' true k.1 (by have := k.2.2 rfl; omega) (fun e => by simp at e)
noncomputable def acl (v : List Int) : List Int × Bool := @ite _ (SG v) (Classical.propDecidable _) (acr v) ([], false)
theorem acI_ev {v : List Int} (hl : v.length ≤ 1099511627776) : Ev (fun k => impl_ArfClosure.f k v) (acl v) := by
 unfold impl_ArfClosure.f acl
 refine ev_bind _ (sgI_ev hl) ?_
 by_cases c : SG v
 · rw [if_pos c]
   have sl := stab_len (v := v) (m := 200) (by omega)
   refine ev_ifp (by simpa using c) (ev_bind _ (c.sutab (by omega) (by omega)) (acI_l0 c.pos _ _ true ⟨sl, fun n n0 n1 k => (stab_iff n0 (by omega)).2 k, fun n n0 n1 k => .base ((stab_iff n0 (by omega)).1 k)⟩ (Nat.lt_succ_self _) (fun e => by simp at e)))
 · rw [if_neg c]
   exact ev_ifn (by simpa using c) (Ev.now _)
end Go.Proofs.Ytapdhljbhekcdaa.E
end
section
namespace Go.Proofs.Ytapdhljbhekcdaa.E
open Go.RowKit Go.Proofs.Ytapdhljbhekcdaa.PB Go.Proofs.YtapdhljbhekcdaaW.PrintWords Go.Proofs.YtapdhljbhekcdaaW.PrintLast Go.Proofs.YtapdhljbhekcdaaW.PrintMore
set_option linter.unusedVariables false
set_option linter.unusedSimpArgs false
theorem gapsS_gps {v : List Int} (hl : v.length ≤ 1099511627776) : Ev (fun k => spec_Gaps.f k v) (gps v) := by
 unfold spec_Gaps.f
 refine ev_bind _ (sgS_ev hl) ?_
 by_cases c : SG v
 · rw [gps_sg c]; exact ev_ifp (by simpa using c) (ev_bind _ (l4Gaps_ev c) (Ev.now _))
 · rw [gps_no c]; exact ev_ifn (by simpa using c) (Ev.now _)
theorem frS_ev {v : List Int} (hl : v.length ≤ 1099511627776) : Ev (fun k => spec_FrobeniusOf.f k v) (fob v) := by
 have g := gps_len v
 unfold spec_FrobeniusOf.f fob
 refine ev_bind _ (gapsS_gps hl) ?_
 by_cases c : (gps v).length = 0
 · rw [if_pos c]; exact ev_ifp (by omega) (Ev.now _)
 · rw [if_neg c, w64 (x := ((gps v).length : Int) - 1) (by omega) (by omega)]
   exact ev_ifn (by omega) (ev_ifp (by omega) (ev_ifp (by omega) (Ev.now _)))
theorem fob_small (v : List Int) : -1 ≤ fob v ∧ fob v ≤ 199 := by
 by_cases c : SG v
 · have := cd_fact c; unfold cd at this; omega
 · rw [fob_none (gps_no c)]; omega
theorem cdS_ev {v : List Int} (hl : v.length ≤ 1099511627776) : Ev (fun k => spec_ConductorOf.f k v) (cd v) := by
 have := fob_small v
 unfold spec_ConductorOf.f cd
 refine ev_bind _ (frS_ev hl) ?_
 rw [w64 (by omega) (by omega)]; exact Ev.now _
end Go.Proofs.Ytapdhljbhekcdaa.E
end
section
namespace Go.Proofs.Ytapdhljbhekcdaa.E
open Go.RowKit Go.Proofs.Ytapdhljbhekcdaa.PB Go.Proofs.YtapdhljbhekcdaaW.PrintWords Go.Proofs.YtapdhljbhekcdaaW.PrintLast Go.Proofs.YtapdhljbhekcdaaW.PrintMore
set_option linter.unusedVariables false
set_option linter.unusedSimpArgs false
def CS (t0 : List Bool) (N x y z : Int) : Prop := ∀ a b e : Int, 0 ≤ e → e ≤ b → b ≤ a → a < N → (a < x ∨ (a = x ∧ (b < y ∨ (b = y ∧ e < z)))) → rdOf false t0 a = true → rdOf false t0 b = true → rdOf false t0 e = true → a + b - e < N → rdOf false t0 (a + b - e) = true
theorem acS_l4 {v : List Int} {c : Int} {t0 : List Bool} {r : List Int × Bool} (c0 : 0 ≤ c) (hc : c ≤ 200) {x y : Int} (y0 : 0 ≤ y) (hy : y ≤ x) (hx : x < c) (N : ∀ t s, RS v (c + 1) c t0 (CS t0 c x (y + 1) 0) t s → Ev (fun k => spec_ArfClosure.l3 k c t s x (y + 1)) r) (d : Nat) : ∀ (z : Int) t s, 0 ≤ z → z + d = y + 1 → rdOf false t x = true → RS v (c + 1) c t0 (CS t0 c x y z) t s → Ev (fun k => spec_ArfClosure.l4 k c t s x y z) r := by
 induction d with
 | zero =>
  intro z t s z0 hz tx h
  refine Ev.step (fun k => by rw [spec_ArfClosure.l4]) (ev_ifn (by omega) (Ev.step (fun k => by rw [spec_ArfClosure.j6]) ?_))
  rw [w64 (x := y + 1) (by omega) (by omega)]
  exact ev_ifn (by simp) (N t s (h.keep fun _ p a b e e0 e1 e2 e3 e4 => p a b e e0 e1 e2 e3 (by omega)))
 | succ d ih =>
  intro z t s z0 hz tx h
  have hl := h.1.1
  refine Ev.step (fun k => by rw [spec_ArfClosure.l4]) (ev_ifp (by omega) (ev_ifp (by omega) (ev_ifp (by omega) (Ev.step (fun k => by rw [spec_ArfClosure.j6]) ?_))))
  rw [w64 (x := y + 1) (by omega) (by omega), w64 (x := z + 1) (by omega) (by omega), w64 (x := x + y) (by omega) (by omega), w64 (x := x + y - z) (by omega) (by omega)]
  by_cases ty : rdOf false t y = true
  · refine ev_ifp ty (ev_ifp (by omega) (ev_ifp (by omega) ?_))
    have ext : t = t0 → CS t0 c x y z → (rdOf false t z = true → x + y - z < c → rdOf false t (x + y - z) = true) → CS t0 c x y (z + 1) := by
     intro q p f a b e e0 e1 e2 e3 e4 ta tb te e5
     by_cases g : a = x ∧ b = y ∧ e = z
     · obtain ⟨rfl, rfl, rfl⟩ := g; rw [q] at f; exact f te e5
     · exact p a b e e0 e1 e2 e3 (by clear ih N h p f hl; omega) ta tb te e5
    by_cases tz : rdOf false t z = true
    · refine ev_ifp tz ?_
      by_cases g : x + y - z < c
      · refine ev_ifp g (ev_ifp (by omega) (ev_ifp (by omega) ?_))
        by_cases u : rdOf false t (x + y - z) = true
        · exact ev_ifp u (ih (z + 1) t s (by omega) (by omega) tx (h.keep fun q p => ext q p fun _ _ => u))
        · refine ev_ifn u (ih (z + 1) _ _ (by omega) (by omega) ?_ (h.put (by omega) (by omega) g u (.step (h.1.2.2 x (by omega) hx tx) (h.1.2.2 y y0 (by omega) ty) (h.1.2.2 z z0 (by omega) tz) (by omega) hy)))
          rw [rdb_set _ (by omega) (by omega) (by omega)]
          by_cases g' : x = x + y - z
          · rw [if_pos g']
          · rw [if_neg g']; exact tx
      · exact ev_ifn g (ih (z + 1) t s (by omega) (by omega) tx (h.keep fun q p => ext q p fun _ k => absurd k g))
    · exact ev_ifn tz (ih (z + 1) t s (by omega) (by omega) tx (h.keep fun q p => ext q p fun k => absurd k tz))
  · exact ev_ifn ty (N t s (h.keep fun q p a b e e0 e1 e2 e3 e4 ta tb te e5 => by
     by_cases g : a = x ∧ b = y
     · rw [g.2, ← q] at tb; exact absurd tb ty
     · exact p a b e e0 e1 e2 e3 (by clear ih N h p hl; omega) ta tb te e5))
theorem acS_l3 {v : List Int} {c : Int} {t0 : List Bool} {r : List Int × Bool} (c0 : 0 ≤ c) (hc : c ≤ 200) {x : Int} (x0 : 0 ≤ x) (hx : x < c) (N : ∀ t s, RS v (c + 1) c t0 (CS t0 c (x + 1) 0 0) t s → Ev (fun k => spec_ArfClosure.l2 k c t s (x + 1)) r) (d : Nat) : ∀ (y : Int) t s, 0 ≤ y → y + d = x + 1 → RS v (c + 1) c t0 (CS t0 c x y 0) t s → Ev (fun k => spec_ArfClosure.l3 k c t s x y) r := by
 induction d with
 | zero =>
  intro y t s y0 hy h
  refine Ev.step (fun k => by rw [spec_ArfClosure.l3]) (ev_ifn (by omega) (Ev.step (fun k => by rw [spec_ArfClosure.j4]) ?_))
  rw [w64 (x := x + 1) (by omega) (by omega)]
  exact ev_ifn (by simp) (N t s (h.keep fun _ p a b e e0 e1 e2 e3 e4 => p a b e e0 e1 e2 e3 (by omega)))
 | succ d ih =>
  intro y t s y0 hy h
  have hl := h.1.1
  refine Ev.step (fun k => by rw [spec_ArfClosure.l3]) (ev_ifp (by omega) (ev_ifp (by omega) (ev_ifp (by omega) (Ev.step (fun k => by rw [spec_ArfClosure.j4]) ?_))))
  rw [w64 (x := x + 1) (by omega) (by omega)]
  by_cases tx : rdOf false t x = true
  · exact ev_ifp tx (acS_l4 c0 hc y0 (by omega) hx (fun t s => ih (y + 1) t s (by omega) (by omega)) (y + 1).toNat 0 t s (Int.le_refl _) (by omega) tx h)
  · exact ev_ifn tx (N t s (h.keep fun q p a b e e0 e1 e2 e3 e4 ta tb te e5 => by
     by_cases g : a = x
     · rw [g, ← q] at ta; exact absurd ta tx
     · exact p a b e e0 e1 e2 e3 (by clear ih N h p hl; omega) ta tb te e5))
theorem acS_l2 {v : List Int} {c : Int} {t0 : List Bool} {r : List Int × Bool} (c0 : 0 ≤ c) (hc : c ≤ 200) (N : ∀ t s, RS v (c + 1) c t0 (CS t0 c c 0 0) t s → Ev (fun k => spec_ArfClosure.l1 k c t s) r) (d : Nat) : ∀ (x : Int) t s, 0 ≤ x → x + d = c → RS v (c + 1) c t0 (CS t0 c x 0 0) t s → Ev (fun k => spec_ArfClosure.l2 k c t s x) r := by
 induction d with
 | zero =>
  intro x t s x0 hx h
  rw [show x = c from by omega] at h
  exact Ev.step (fun k => by rw [spec_ArfClosure.l2]) (ev_ifn (by omega) (N t s h))
 | succ d ih =>
  intro x t s x0 hx h
  exact Ev.step (fun k => by rw [spec_ArfClosure.l2]) (ev_ifp (by omega) (acS_l3 c0 hc x0 (by omega) (fun t s => ih (x + 1) t s (by omega) (by omega)) (x + 1).toNat 0 t s (Int.le_refl _) (by omega) h))
theorem isac_low {v : List Int} {c : Int} (c0 : 0 ≤ c) (hc : c ≤ 200) (up : ∀ n, c ≤ n → Su v n) (hv : AC v 0) : fl (isac v) 0 201 = fl (isac v) 1 (c - 1).toNat := by
 change fl (isac v) 0 (200 + 1) = _
 rw [fl_no (fun k => isac_t.1 k hv)]
 change fl (isac v) 1 200 = _
 have b := fl_app (isac v) (c - 1).toNat (200 - (c - 1).toNat) 1
 rw [show (c - 1).toNat + (200 - (c - 1).toNat) = 200 from by omega] at b
 rw [b, fl_none (200 - (c - 1).toNat) _ (fun x h1 h2 k => isac_t.1 k (.base (up x (by omega)))), List.append_nil]
theorem acS_l5 {v : List Int} {c : Int} {t : List Bool} (c0 : 0 ≤ c) (hc : c ≤ 200) (hl : (t.length : Int) = c + 1) (up : ∀ n, c ≤ n → Su v n) (hd : ∀ n, 0 ≤ n → n < c → (rdOf false t n = true ↔ AC v n)) (d : Nat) : ∀ i : Nat, (i : Int) + 1 + d = max 1 c → Ev (fun k => spec_ArfClosure.l5 k c t (fl (isac v) 1 i) ((i : Int) + 1)) (acr v) := by
 induction d with
 | zero =>
  intro i hi
  have fll := fl_len (isac v) i 1
  have z := isac_low c0 hc up (.base (Su.zero v))
  rw [show (c - 1).toNat = i from by omega] at z
  refine Ev.step (fun k => by rw [spec_ArfClosure.l5]) (ev_ifn (by omega) (ev_bind _ (fromGapsS_ev (by omega)) (ev_to (Ev.now _) ?_)))
  unfold acr
  rw [z]
 | succ d ih =>
  intro i hi
  have fll := fl_len (isac v) i 1
  have nx := ih (i + 1) (by omega)
  have hi' := hd ((i : Int) + 1) (by omega) (by omega)
  rw [show (((i + 1 : Nat)) : Int) + 1 = (i : Int) + 1 + 1 from by omega, fl_app (isac v) i 1 1, show (1 : Int) + (i : Int) = (i : Int) + 1 from by omega, show (1 : Nat) = 0 + 1 from rfl] at nx
  refine Ev.step (fun k => by rw [spec_ArfClosure.l5]) ?_
  rw [w64 (x := (i : Int) + 1 + 1) (by omega) (by omega)]
  refine ev_ifp (by omega) (ev_ifp (by omega) (ev_ifp (by omega) ?_))
  by_cases g : rdOf false t ((i : Int) + 1) = true
  · rw [fl_no (fun k => isac_t.1 k (hi'.1 g)), show ∀ j, fl (isac v) j 0 = [] from fun _ => rfl, List.append_nil] at nx
    exact ev_ifp g nx
  · rw [fl_yes (isac_t.2 fun k => g (hi'.2 k)), show ∀ j, fl (isac v) j 0 = [] from fun _ => rfl] at nx
    exact ev_ifn g (ev_ifp (by omega) nx)
theorem acS_l1 {v : List Int} (hv : ∀ x ∈ v, 1 ≤ x) {c : Int} (c0 : 0 ≤ c) (hc : c ≤ 200) (up : ∀ n, c ≤ n → Su v n) (m : Nat) : ∀ t s, TA v (c + 1) c t → t.count false < m → (s = false → CS t c c 0 0) → Ev (fun k => spec_ArfClosure.l1 k c t s) (acr v) := by
 have fin : ∀ {t}, TA v (c + 1) c t → CS t c c 0 0 → Ev (fun k => spec_ArfClosure.l1 k c t false) (acr v) := fun {t} h p => by
  have r := acS_l5 c0 hc h.1 up (ac_fin hv h (fun a b e e0 e1 e2 e3 => p a b e e0 e1 e2 e3 (.inl e3))) (max 1 c - 1).toNat 0 (by omega)
  change Ev (fun k => spec_ArfClosure.l5 k c t [] 1) _ at r
  exact Ev.step (fun k => by rw [spec_ArfClosure.l1]) (ev_ifn (by simp) r)
 induction m with
 | zero => intro t s _ h; omega
 | succ m ih =>
  intro t s h hm hs
  cases s with
  | false => exact fin h (hs rfl)
  | true =>
   refine Ev.step (fun k => by rw [spec_ArfClosure.l1]) (ev_ifp rfl (acS_l2 (t0 := t) (v := v) c0 hc (fun t' s' k => ?_) c.toNat 0 t false (Int.le_refl _) (by omega) ⟨h, fun _ => ⟨rfl, fun a b e e0 e1 e2 e3 e4 => by omega⟩, fun e => by simp at e⟩))
   cases s' with
   | false =>
    obtain ⟨e, p⟩ := k.2.1 rfl
    rw [e]; rw [← e] at p
    exact e ▸ fin k.1 p
   | true => exact ih t' true k.1 (by have := k.2.2 rfl; omega) (fun e => by simp at e)
theorem acS_l0 {v : List Int} (h : SG v) {c : Int} (c0 : 0 ≤ c) (hc : c ≤ 200) (up : ∀ n, c ≤ n → Su v n) (d : Nat) : ∀ (i : Int) (t : List Bool), 0 ≤ i → i + d = c → (t.length : Int) = c + 1 → (∀ n, 0 ≤ n → n < i → (rdOf false t n = true ↔ Su v n)) → Ev (fun k => spec_ArfClosure.l0 k (gp v) c t i) (acr v) := by
 induction d with
 | zero =>
  intro i t i0 hi hl ht
  refine Ev.step (fun k => by rw [spec_ArfClosure.l0]) (ev_ifn (by omega) (acS_l1 h.pos c0 hc up _ t true ⟨hl, fun n n0 n1 k => (ht n n0 (by omega)).2 k, fun n n0 n1 k => .base ((ht n n0 (by omega)).1 k)⟩ (Nat.lt_succ_self _) (fun e => by simp at e)))
 | succ d ih =>
  intro i t i0 hi hl ht
  have gl := gp_len v
  refine Ev.step (fun k => by rw [spec_ArfClosure.l0]) ?_
  rw [w64 (x := i + 1) (by omega) (by omega)]
  refine ev_ifp (by omega) (ev_bind _ (has_ev (by omega) i) (ev_ifp i0 (ev_ifp (by omega) (ih (i + 1) _ (by omega) (by omega) (by simpa using hl) fun n n0 n1 => ?_))))
  rw [rdb_set _ i0 (by omega) n0]
  by_cases e : n = i
  · rw [if_pos e, e]
    have g : i ∈ gp v ↔ ¬ Su v i := by
     rw [gp_mem]
     refine ⟨fun k => k.2.2, fun k => ⟨?_, by omega, k⟩⟩
     by_cases z : i = 0
     · rw [z] at k; exact absurd (Su.zero v) k
     · omega
    simp [g]
  · rw [if_neg e]; exact ht n n0 (by omega)
theorem acS_ev {v : List Int} (hl : v.length ≤ 1099511627776) : Ev (fun k => spec_ArfClosure.f k v) (acl v) := by
 unfold spec_ArfClosure.f acl
 refine ev_bind _ (sgS_ev hl) ?_
 by_cases c : SG v
 · rw [if_pos c]
   have f := cd_fact c
   refine ev_ifp (by simpa using c) (ev_bind _ (l4Gaps_ev c) (ev_bind _ (cdS_ev hl) ?_))
   rw [w64 (x := cd v + 1) (by omega) (by omega)]
   exact ev_ifp (by omega) (ev_ifp (by omega) (acS_l0 c f.1 f.2.1 f.2.2.2.1 (cd v).toNat 0 _ (Int.le_refl _) (by omega) (by simp; omega) (fun n n0 n1 => by omega)))
 · rw [if_neg c]
   exact ev_ifn (by simpa using c) (Ev.now _)
theorem acl_len (v : List Int) : (acl v).1.length ≤ 400 := by
 unfold acl acr fgr
 split
 · split
   · exact mg_len _
   · simp
 · simp
end Go.Proofs.Ytapdhljbhekcdaa.E
end
section
namespace Go.Proofs.Ytapdhljbhekcdaa.E
open Go.RowKit Go.Proofs.Ytapdhljbhekcdaa.PB Go.Proofs.YtapdhljbhekcdaaW.PrintWords Go.Proofs.YtapdhljbhekcdaaW.PrintLast Go.Proofs.YtapdhljbhekcdaaW.PrintMore
set_option linter.unusedVariables false
set_option linter.unusedSimpArgs false
theorem markIntS_l {n : Nat} (a : Int) (ha : 0 ≤ a) (hn : a + n ≤ 4611686018427387904) (d : Nat) : ∀ (i : Int) (l : List Int), 0 ≤ i → i + d = n → l.length = n → (∀ j, 0 ≤ j → j < i → rd l j = a + j) → Ev (fun k => laws_markIntS.l0 k l (a + i) i) (a + n, marks a n) := by
 induction d with
 | zero =>
  intro i l h0 h1 h2 h3
  refine Ev.step (fun k => by rw [laws_markIntS.l0]) ?_
  simp (disch := omega) only [if_neg]
  refine ev_to (Ev.now _) ?_
  rw [show a + i = a + n from by omega]
  congr 1
  refine rd_ext (by rw [h2, marks_len]) fun j hj hj' => ?_
  rw [h3 j hj (by omega), marks_rd _ _ _ hj (by omega)]
 | succ d ih =>
  intro i l h0 h1 h2 h3
  refine Ev.step (fun k => by rw [laws_markIntS.l0]) ?_
  simp (disch := omega) only [if_pos, w64]
  rw [Int.add_assoc]
  refine ih (i + 1) _ (by omega) (by omega) (by simpa using h2) fun j hj hj' => ?_
  rw [rd_set _ h0 (by omega) hj]
  by_cases e : j = i
  · rw [if_pos e, e]
  · rw [if_neg e]; exact h3 j hj (by omega)
theorem markIntS_ev {l : List Int} {a : Int} (ha : 0 ≤ a) (hl : a + l.length ≤ 4611686018427387904) : Ev (fun k => laws_markIntS.f k l a) (a + l.length, marks a l.length) := by
 unfold laws_markIntS.f
 have := markIntS_l a ha hl l.length 0 l (by omega) (by omega) rfl (fun j h h' => by omega)
 rwa [Int.add_zero] at this
theorem heldIntS_l {n : Nat} (a : Int) (ha : 0 ≤ a) (hn : a + n ≤ 4611686018427387904) (d : Nat) : ∀ (i : Int), 0 ≤ i → i + d = n → Ev (fun k => laws_heldIntS.l0 k (marks a n) (a + i) i) (a + n) := by
 have hm := marks_len a n
 induction d with
 | zero =>
  intro i h0 h1
  refine Ev.step (fun k => by rw [laws_heldIntS.l0]) ?_
  simp (disch := omega) only [if_neg]
  exact ev_to (Ev.now _) (by omega)
 | succ d ih =>
  intro i h0 h1
  refine Ev.step (fun k => by rw [laws_heldIntS.l0]) ?_
  simp (disch := omega) only [if_pos, w64]
  refine ev_ifp (marks_rd _ _ _ h0 (by omega)) ?_
  rw [Int.add_assoc]
  exact ih (i + 1) (by omega) (by omega)
theorem heldIntS_ev {n : Nat} {a : Int} (ha : 0 ≤ a) (hn : a + n ≤ 4611686018427387904) : Ev (fun k => laws_heldIntS.f k (marks a n) a) (a + n) := by
 unfold laws_heldIntS.f
 have := heldIntS_l a ha hn n 0 (by omega) (by omega)
 rwa [Int.add_zero] at this
end Go.Proofs.Ytapdhljbhekcdaa.E
end
section
namespace Go.Proofs.Ytapdhljbhekcdaa.E
open Go.RowKit Go.Proofs.Ytapdhljbhekcdaa.PB Go.Proofs.YtapdhljbhekcdaaW.PrintWords Go.Proofs.YtapdhljbhekcdaaW.PrintLast Go.Proofs.YtapdhljbhekcdaaW.PrintMore
set_option linter.unusedVariables false
set_option linter.unusedSimpArgs false
theorem markSg_ev {l : List Int} {a : Int} (ha : 0 ≤ a) (hl : a + l.length ≤ 4611686018427387904) : Ev (fun k => laws_markSemigroup.f k l a) (a + l.length, marks a l.length) := by
 unfold laws_markSemigroup.f
 exact ev_bind _ (markIntS_ev ha hl) (Ev.now _)
theorem heldSg_ev {n : Nat} {a : Int} (ha : 0 ≤ a) (hn : a + n ≤ 4611686018427387904) : Ev (fun k => laws_heldSemigroup.f k (marks a n) a) (a + n) := by
 unfold laws_heldSemigroup.f
 exact ev_bind _ (heldIntS_ev ha hn) (ev_ifn (by omega) (Ev.now _))
end Go.Proofs.Ytapdhljbhekcdaa.E
end
section
namespace Go.Proofs.Ytapdhljbhekcdaa.E
open Go.RowKit Go.Proofs.Ytapdhljbhekcdaa.PB Go.Proofs.YtapdhljbhekcdaaW.PrintWords Go.Proofs.YtapdhljbhekcdaaW.PrintLast Go.Proofs.YtapdhljbhekcdaaW.PrintMore
set_option linter.unusedVariables false
set_option linter.unusedSimpArgs false
theorem toIntS_l {l : List Int} (hl : l.length ≤ 1048576) (d : Nat) : ∀ (i : Int) (out : List Int), 0 ≤ i → i + d = l.length → out.length = l.length → out.take i.toNat = l.take i.toNat → Ev (fun k => laws_toIntS.l0 k l out i) l := by
 induction d with
 | zero =>
  intro i out h0 h1 h2 h3
  refine Ev.step (fun k => by rw [laws_toIntS.l0]) ?_
  simp (disch := omega) only [if_neg]
  rw [List.take_of_length_le (by omega), List.take_of_length_le (by omega)] at h3
  subst h3
  exact Ev.now _
 | succ d ih =>
  intro i out h0 h1 h2 h3
  refine Ev.step (fun k => by rw [laws_toIntS.l0]) ?_
  simp (disch := omega) only [if_pos, w64]
  refine ih _ _ (by omega) (by omega) (by simpa using h2) ?_
  rw [take_rd h0 (by simp; omega), take_rd h0 (by omega), rd_set _ h0 (by omega) h0, if_pos rfl, ← h3]
  congr 1
  rw [List.take_set_of_le (Nat.le_refl _)]
theorem toIntS_ev {l : List Int} (hl : l.length ≤ 1048576) : Ev (fun k => laws_toIntS.f k l) l := by
 unfold laws_toIntS.f
 simp (disch := omega) only [if_pos]
 exact toIntS_l hl l.length _ _ (by omega) (by omega) (by simp) (by simp)
theorem eqIntS_l {l m : List Int} (hl : l.length ≤ 1099511627776) (e : l.length = m.length) (d : Nat) : ∀ (i : Int), 0 ≤ i → i + d = l.length → Ev (fun k => laws_eqIntS.l0 k l m i) (decide (l.drop i.toNat = m.drop i.toNat)) := by
 induction d with
 | zero =>
  intro i h0 h1
  refine Ev.step (fun k => by rw [laws_eqIntS.l0]) ?_
  simp (disch := omega) only [if_neg]
  refine ev_to (Ev.now _) ?_
  rw [List.drop_of_length_le (by omega), List.drop_of_length_le (by omega)]; simp
 | succ d ih =>
  intro i h0 h1
  refine Ev.step (fun k => by rw [laws_eqIntS.l0]) ?_
  simp (disch := omega) only [if_pos, w64]
  rw [drop_rd h0 (by omega), drop_rd (l := m) h0 (by omega)]
  by_cases h : rd l i = rd m i
  · refine ev_ifp h (ev_to (ih (i + 1) (by omega) (by omega)) ?_)
    simp [h]
  · refine ev_ifn h (ev_to (Ev.now _) ?_)
    simp [h]
theorem eqIntS_ev {l m : List Int} (hl : l.length ≤ 1099511627776) : Ev (fun k => laws_eqIntS.f k l m) (decide (l = m)) := by
 unfold laws_eqIntS.f
 by_cases e : l.length = m.length
 · refine ev_ifp (by omega) (ev_to (eqIntS_l hl e l.length 0 (by omega) (by omega)) ?_)
   simp
 · refine ev_ifn (by omega) (ev_to (Ev.now _) ?_)
   simp; intro h; exact e (by rw [h])
end Go.Proofs.Ytapdhljbhekcdaa.E
end
section
namespace Go.Proofs.Ytapdhljbhekcdaa.E
open Go.RowKit Go.Proofs.Ytapdhljbhekcdaa.PB Go.Proofs.YtapdhljbhekcdaaW.PrintWords Go.Proofs.YtapdhljbhekcdaaW.PrintLast Go.Proofs.YtapdhljbhekcdaaW.PrintMore
set_option linter.unusedVariables false
set_option linter.unusedSimpArgs false
theorem szSg_small {l : List Int} {a : Int} (h : (l.length : Int) ≤ a) (ha : a ≤ 1048576) : laws_szSemigroup.f l a = some (a - l.length) := by
 unfold laws_szSemigroup.f laws_szIntS.f
 rw [w64 (x := a - l.length) (by omega) (by omega), if_neg (by omega)]
 simp only [Option.bind_some]
 rw [if_neg (by omega)]
theorem szSg_big {l : List Int} {a : Int} (h : ¬ (l.length : Int) ≤ a) (h0 : 0 ≤ a) (ha : a ≤ 1048576) (hl : l.length ≤ 1152921504606846976) : laws_szSemigroup.f l a = some (-1) := by
 unfold laws_szSemigroup.f laws_szIntS.f
 rw [w64 (x := a - l.length) (by omega) (by omega), if_pos (by omega)]
 rfl
theorem toSg_ev {l : List Int} (hl : l.length ≤ 1048576) : Ev (fun k => laws_toSemigroup.f k l) l := by
 unfold laws_toSemigroup.f
 exact ev_bind _ (toIntS_ev hl) (Ev.now _)
theorem eqSg_ev {l m : List Int} (hl : l.length ≤ 1099511627776) : Ev (fun k => laws_eqSemigroup.f k l m) (decide (l = m)) := by
 unfold laws_eqSemigroup.f
 refine ev_bind _ (eqIntS_ev hl) ?_
 by_cases e : l = m
 · exact ev_ifp (by simpa using e) (ev_to (Ev.now _) (by simp [e]))
 · exact ev_ifn (by simpa using e) (ev_to (Ev.now _) (by simp [e]))
theorem eqSg_same {l : List Int} (hl : l.length ≤ 1099511627776) : Ev (fun k => laws_eqSemigroup.f k l l) true := ev_to (eqSg_ev hl) (by simp)
end Go.Proofs.Ytapdhljbhekcdaa.E
end
section
namespace Go.Proofs.Ytapdhljbhekcdaa.Pure
open Go.RowKit Go.Proofs.Ytapdhljbhekcdaa.PB Go.Proofs.Ytapdhljbhekcdaa.E Go.Proofs.YtapdhljbhekcdaaW.PrintWords Go.Proofs.YtapdhljbhekcdaaW.PrintLast Go.Proofs.YtapdhljbhekcdaaW.PrintMore
set_option linter.unusedVariables false
set_option linter.unusedSimpArgs false
theorem FnExactArfClosure (l0 : List Int) (h0 : l0.length ≤ maxLen) (h1 : l0.length * 8 ≤ 140737488351232) (h2 : ∀ x ∈ l0, (Lit.int .i64 x).wf = true) : ∃ k, laws_FnExactArfClosure.f k l0 = some true := by
 apply Ev.rounds
 unfold laws_FnExactArfClosure.f
 by_cases h : (l0.length : Int) ≤ 1048576
 · have hl : l0.length ≤ 1048576 := by omega
   have hl' : l0.length ≤ 1099511627776 := by omega
   have hi := acI_ev hl'
   have hs := acS_ev hl'
   have ll := acl_len l0
   have em := markSg_ev (l := l0) (a := 1) (by omega) (by omega)
   have ea := markSg_ev (l := (acl l0).1) (a := 1) (by omega) (by omega)
   have eh := heldSg_ev (n := (acl l0).1.length) (a := 1) (by omega) (by omega)
   have es := eqSg_same (l := (acl l0).1) (by omega)
   rw [szSg_small h (by omega)]
   simp only [Option.bind_some]
   refine ev_ifn (by omega) ?_
   refine ev_bind _ (toSg_ev hl) ?_
   refine ev_bind _ hs ?_
   refine ev_bind _ (toSg_ev hl) ?_
   refine ev_bind _ hi ?_
   refine ev_bind _ es ?_
   refine ev_ifp rfl ?_
   refine Ev.step (fun k => by rw [laws_FnExactArfClosure.j0]) ?_
   refine ev_ifn (by simp) ?_
   refine ev_bind _ (toSg_ev hl) ?_
   refine ev_bind _ (eqSg_same (l := l0) (by omega)) ?_
   refine ev_ifp rfl ?_
   refine ev_bind _ em ?_
   refine ev_ifn (show ¬ (1 + (l0.length : Int) < 0) by omega) ?_
   refine ev_bind _ es ?_
   refine ev_ifp rfl ?_
   refine Ev.step (fun k => by rw [laws_FnExactArfClosure.j1]) ?_
   refine ev_ifn (by simp) ?_
   refine ev_bind _ ea ?_
   refine ev_bind _ eh ?_
   refine ev_ifn (show ¬ (1 + ((acl l0).1.length : Int) < 0) by omega) ?_
   refine ev_ifp rfl ?_
   refine ev_bind _ (toSg_ev hl) ?_
   refine ev_bind _ hi ?_
   refine ev_bind _ es ?_
   refine ev_ifp rfl ?_
   refine Ev.step (fun k => by rw [laws_FnExactArfClosure.j2]) ?_
   refine ev_ifn (by simp) ?_
   refine ev_bind _ eh ?_
   refine ev_ifn (show ¬ (1 + ((acl l0).1.length : Int) < 0) by omega) ?_
   refine ev_ifp rfl ?_
   exact Ev.now _
 · rw [szSg_big h (by omega) (by omega) (by omega)]
   simp only [Option.bind_some]
   exact ev_ifp (by omega) (Ev.now _)
end Go.Proofs.Ytapdhljbhekcdaa.Pure
end
section
namespace Go.Proofs.Ytapdhljbhekcdaa.E
open Go.ChangeShapes Go.WideShapes Go.ChangeAt Go.RowKit Go.Deep Go.Joins
theorem array1_ {α : Type} {cs : Array α} (h : cs.size = 1) : ∃ c0, cs = #[c0] := by
 obtain ⟨l⟩ := cs
 match l, h with
 | [c0], _ => exact ⟨c0, rfl⟩
theorem open_agg1_ {H : Type} {enc : TypeId × Value → H} {P : Program} {w : World} {base : Nat} {spare : Nat → Bool} {held : Bool} {r : Reach} {b0 : Nat} {t : TypeId} {f0 : Field} {v : Value} {d : DataW H} {p : List MemPlace} (hs : P.underlying t = some (.struct #[f0])) (hone : oneCellFields P #[f0] = true) (hC : P.cellsOf t = 1)
 (hv : Value.okWide P w r b0 t v) (h : DataW.Trod enc P w base spare held t v d p) :
 ∃ (v0 : Value) (y0 : DataW H × List MemPlace) (n : Nat), v = .agg #[v0] ∧ d = .agg [y0.1] ∧ p = y0.2 ∧ DataW.trod enc P w base spare held n f0.type [v0] = some y0 := by
 obtain ⟨cs, rfl, hsz⟩ := okWide_struct hs hv
 obtain ⟨c0, rfl⟩ := array1_ (hsz.trans hC)
 obtain ⟨fuel, hf⟩ := h
 obtain ⟨y0, n, hx, _, h0⟩ := trod_struct1 hs hf
 obtain ⟨o0, k0⟩ := hone_of hone 0 f0 rfl
 simp only [Prod.mk.injEq] at hx
 exact ⟨c0, y0, n, rfl, hx.1, hx.2, by simpa [Value.cells, o0, k0] using h0⟩
theorem sized_agg_ {H : Type} {P : Program} {ts : List TypeId} {ds : List (DataW H)} (h : (DataW.weightsEach P ts ds).all (· ≤ reachBytes) = true) {j : Nat} {t : TypeId} {fs : Array Field} {parts : List (DataW H)} (ht : ts[j]? = some t) (hd : ds[j]? = some (.agg parts)) (hu : P.underlying t = some (.struct fs)) :
 (DataW.weightsEach P (fs.toList.map (·.type)) parts).all (· ≤ reachBytes) = true := by
 refine List.all_eq_true.2 fun n hn => List.all_eq_true.1 h n (DataW.weights_mem_each ht hd n ?_)
 simpa [DataW.weights, hu] using hn
end Go.Proofs.Ytapdhljbhekcdaa.E
end
section
namespace Go.Proofs.YtapdhljbhekcdaaW.PrintWords
open Go.ChangeShapes Go.WideShapes
theorem sized_ints {H : Type} {enc : TypeId × Value → H} {P : Program} {W : World} {base : Nat} {spare : Nat → Bool} {held : Bool} {t e : TypeId} {k : IntKind} {a : Option Addr} {len cap : Nat} {d : DataW H} {ps : List MemPlace} {ts : List TypeId} {ds : List (DataW H)} {j : Nat}
 (hsz : (DataW.weightsEach P ts ds).all (· ≤ reachBytes) = true) (ht : ts[j]? = some t) (hd : ds[j]? = some d) (hu : P.underlying t = some (.slice e)) (he : P.underlying e = some (.int k)) (hc : P.cellsOf e = 1) {B : Nat} (hB : P.bytesOf e = B)
 (h : DataW.Trod enc P W base spare held t (.slice a len cap) d ps) : len * B ≤ 140737488351232 := by
 obtain ⟨fuel, hf⟩ := h
 rcases open_ints hu he hc hf with ⟨hcs, _⟩ | ⟨x, l, c, zs, hcs, _, hl, _, hz, hx, _, _⟩
 · simp [Value.cells] at hcs
   obtain ⟨rfl, rfl, rfl⟩ := hcs
   simp
 · simp [Value.cells] at hcs
   obtain ⟨rfl, rfl, rfl⟩ := hcs
   obtain ⟨hx, _⟩ := Prod.mk.inj hx
   subst hx
   have z := sized_slice hsz ht hd hu
   rw [hB] at z
   have hl2 : len ≤ zs.length := by
    rw [hz]
    split
    · exact hl
    · exact Nat.le_refl _
   have h1 : (lits (H := H) k (zs.take len)).length + (lits (H := H) k (zs.drop len)).length = zs.length := by
    simp [lits]
    omega
   rw [h1] at z
   exact Nat.le_trans (Nat.mul_le_mul_right _ hl2) z
end Go.Proofs.YtapdhljbhekcdaaW.PrintWords
end
