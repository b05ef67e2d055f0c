-- Bundled by shake.py from this session's printed and written texts; Lean checks it.
import Derived.Lib.SlicesCompact
import Derived.Test.YtppkokbhgkeknaaZFnArfx1
import Derived.Test.YtppkokbhgkeknaaZFnArfx10
import Derived.Test.YtppkokbhgkeknaaZFnArfx11
import Derived.Test.YtppkokbhgkeknaaZFnArfx12
import Derived.Test.YtppkokbhgkeknaaZFnArfx2
import Derived.Test.YtppkokbhgkeknaaZFnArfx3
import Derived.Test.YtppkokbhgkeknaaZFnArfx4
import Derived.Test.YtppkokbhgkeknaaZFnArfx5
import Derived.Test.YtppkokbhgkeknaaZFnArfx6
import Derived.Test.YtppkokbhgkeknaaZFnArfx7
import Derived.Test.YtppkokbhgkeknaaZFnArfx8
import Derived.Test.YtppkokbhgkeknaaZFnArfx9
section
namespace Go.Proofs.Ytppkokbhgkeknaa.E
open Go.RowKit Go.Proofs.Ytppkokbhgkeknaa.PA Go.Proofs.YtppkokbhgkeknaaW.PrintWords Go.Proofs.YtppkokbhgkeknaaW.PrintLast Go.Proofs.YtppkokbhgkeknaaW.PrintMore
set_option linter.unusedVariables false
set_option linter.unusedSimpArgs false
theorem gcS_l0 {g : List Int} (h : VG g) {r : Int × Int × Bool} (R : ∀ t, GA g (2 * topg g) t → Ev (fun k => spec_GapClash.l1 k (topg g) t 1) r → True) (d : Nat) : ∀ (i : Int) (t : List Bool), 0 ≤ i → i + d = g.length → ((t.length : Int) = 2 * topg g + 1 ∧ ∀ j, 0 ≤ j → j ≤ 2 * topg g → (rdOf false t j = true ↔ ∃ q, 0 ≤ q ∧ q < i ∧ rd g q = j)) → ∃ t', GA g (2 * topg g) t' ∧ ∀ r, Ev (fun k => spec_GapClash.l1 k (topg g) t' 1) r → Ev (fun k => spec_GapClash.l0 k g (topg g) t i) r := by
 have hlen := h.len
 obtain ⟨t0, t1, t2⟩ := h.top
 induction d with
 | zero =>
  intro i t h0 h1 h2
  rw [show i = (g.length : Int) from by omega] at h2
  exact ⟨t, ga_end h2, fun r e => Ev.step (fun k => by rw [spec_GapClash.l0]) (ev_ifn (by omega) e)⟩
 | succ d ih =>
  intro i t h0 h1 h2
  have m := rd_mem (l := g) h0 (by omega)
  have b := h.2 _ m
  have b' := t2 _ m
  obtain ⟨t', e1, e2⟩ := ih (i + 1) (t.set (rd g i).toNat true) (by omega) (by omega) (ga_step h0 (by omega) ⟨by omega, by omega⟩ h2)
  refine ⟨t', e1, fun r e => Ev.step (fun k => by rw [spec_GapClash.l0]) ?_⟩
  rw [w64 (x := i + 1) (by omega) (by omega)]
  exact ev_ifp (by omega) (ev_ifp h0 (ev_ifp (by omega) (ev_ifp (by have := h2.1; omega) (e2 r e))))
theorem gcS_ev {g : List Int} (hl : g.length ≤ 1099511627776) : ∃ x y c, Ev (fun k => spec_GapClash.f k g) (x, y, c) ∧ (c = true ↔ VG g ∧ ¬ CF g) := by
 unfold spec_GapClash.f
 by_cases h : VG g
 · have hlen := h.len
   obtain ⟨t0, t1, t2⟩ := h.top
   by_cases z : g.length = 0
   · refine ⟨0, 0, false, ev_bind _ (l8_ev hl) (ev_ifp (by simpa using h) (Ev.step (fun k => by rw [spec_GapClash.j0]) (ev_ifp (by simpa using z) (Ev.now _)))), fun k => by simp at k, fun k => absurd (fun a b _ _ _ _ q => ?_) k.2⟩
     rw [show g = [] from by simpa using z] at q
     simp at q
   · have e : topg g = rd g ((g.length : Int) - 1) := by unfold topg; rw [if_neg z]
     have w := w64 (x := (g.length : Int) - 1) (by omega) (by omega)
     obtain ⟨t', a1, a2⟩ := gcS_l0 h (r := (0, 0, false)) (fun _ _ _ => trivial) g.length 0 (List.replicate (2 * topg g + 1).toNat false) (by omega) (by omega) (ga_start g (by omega))
     obtain ⟨x, y, c, b1, b2⟩ := clS_l1 (m := 2 * topg g) (top := topg g) a1 (by omega) (by omega) (max 1 (topg g + 1) - 1).toNat 1 (by omega) (by omega)
     refine ⟨x, y, c, ev_bind _ (l8_ev hl) (ev_ifp (by simpa using h) (Ev.step (fun k => by rw [spec_GapClash.j0]) ?_)), by rw [b2]; exact ⟨fun k => ⟨h, fun q => (cf_iff h).1 q k⟩, fun k => Classical.byContradiction fun q => k.2 ((cf_iff h).2 q)⟩⟩
     rw [w, ← e, w64 (x := 2 * topg g) (by omega) (by omega), w64 (x := 2 * topg g + 1) (by omega) (by omega)]
     exact ev_ifn (by simpa using z) (ev_ifp (by omega) (ev_ifp (by omega) (ev_ifp (by omega) (ev_ifp (by omega) (a2 _ b1)))))
 · exact ⟨0, 0, false, ev_bind _ (l8_ev hl) (ev_ifn (by simpa using h) (Ev.step (fun k => by rw [spec_GapClash.j0]) (ev_ifp rfl (Ev.now _)))), fun k => by simp at k, fun k => absurd k.1 h⟩
theorem gcI_l0 {g : List Int} (h : VG g) (hz : g.length ≠ 0) (d : Nat) : ∀ (i : Int) (t : List Bool), 0 ≤ i → i + d = g.length → ((t.length : Int) = 200 + 1 ∧ ∀ j, 0 ≤ j → j ≤ 200 → (rdOf false t j = true ↔ ∃ q, 0 ≤ q ∧ q < i ∧ rd g q = j)) → ∃ t', GA g 200 t' ∧ ∀ r, Ev (fun k => impl_GapClash.l1 k t' (topg g) 1) r → Ev (fun k => impl_GapClash.l0 k g t g g.length i) r := by
 have hlen := h.len
 have e : topg g = rd g ((g.length : Int) - 1) := by unfold topg; rw [if_neg hz]
 induction d with
 | zero =>
  intro i t h0 h1 h2
  rw [show i = (g.length : Int) from by omega] at h2
  refine ⟨t, ga_end h2, fun r q => Ev.step (fun k => by rw [impl_GapClash.l0]) ?_⟩
  rw [w64 (x := (g.length : Int) - 1) (by omega) (by omega), ← e]
  exact ev_ifn (by omega) (ev_ifp (by omega) (ev_ifp (by omega) q))
 | succ d ih =>
  intro i t h0 h1 h2
  have b := h.2 _ (rd_mem (l := g) h0 (by omega))
  obtain ⟨t', e1, e2⟩ := ih (i + 1) (t.set (rd g i).toNat true) (by omega) (by omega) (ga_step h0 (by omega) ⟨by omega, by omega⟩ h2)
  refine ⟨t', e1, fun r q => Ev.step (fun k => by rw [impl_GapClash.l0]) ?_⟩
  rw [w64 (x := i + 1) (by omega) (by omega)]
  exact ev_ifp (by omega) (ev_ifp h0 (ev_ifp (by omega) (ev_ifp (by omega) (ev_ifp (by have := h2.1; omega) (e2 r q)))))
theorem gcI_ev {g : List Int} (hl : g.length ≤ 1099511627776) : ∃ x y c, Ev (fun k => impl_GapClash.f k g) (x, y, c) ∧ (c = true ↔ VG g ∧ ¬ CF g) := by
 unfold impl_GapClash.f
 by_cases h : VG g
 · have hlen := h.len
   obtain ⟨t0, t1, t2⟩ := h.top
   by_cases z : g.length = 0
   · refine ⟨0, 0, false, ev_bind _ (gl_ev hl) (ev_ifp (by simpa using h) (Ev.step (fun k => by rw [impl_GapClash.j0]) (ev_ifp (by simpa using z) (Ev.now _)))), fun k => by simp at k, fun k => absurd (fun a b _ _ _ _ q => ?_) k.2⟩
     rw [show g = [] from by simpa using z] at q
     simp at q
   · obtain ⟨t', a1, a2⟩ := gcI_l0 h z g.length 0 (List.replicate 201 false) (by omega) (by omega) (ga_start g (m := 200) (by omega))
     obtain ⟨x, y, c, b1, b2⟩ := clI_l1 (m := 200) (top := topg g) a1 (by omega) (by omega) (max 1 (topg g + 1) - 1).toNat 1 (by omega) (by omega)
     refine ⟨x, y, c, ev_bind _ (gl_ev hl) (ev_ifp (by simpa using h) (Ev.step (fun k => by rw [impl_GapClash.j0]) ?_)), by rw [b2]; exact ⟨fun k => ⟨h, fun q => (cf_iff h).1 q k⟩, fun k => Classical.byContradiction fun q => k.2 ((cf_iff h).2 q)⟩⟩
     exact ev_ifn (by simpa using z) (ev_ifp (by omega) (a2 _ b1))
 · exact ⟨0, 0, false, ev_bind _ (gl_ev hl) (ev_ifn (by simpa using h) (Ev.step (fun k => by rw [impl_GapClash.j0]) (ev_ifp rfl (Ev.now _)))), fun k => by simp at k, fun k => absurd k.1 h⟩
def FG (g : List Int) : Prop := VG g ∧ CF g ∧ SG (mg g)
noncomputable instance (g : List Int) : Decidable (FG g) := Classical.propDecidable _
noncomputable def fgr (g : List Int) : List Int × Bool := if FG g then (mg g, true) else ([], false)
theorem mg_len (g : List Int) : (mg g).length ≤ 400 := fl_len _ _ _
theorem fgS_l0 {g : List Int} (h : VG g) (hc : CF g) (d : Nat) : ∀ n : Nat, n + d = 2 * (topg g).toNat + 2 → Ev (fun k => spec_FromGaps.l0 k g (fl (isMin g) 1 n) (topg g) ((n : Int) + 1)) (fgr g) := by
 have hlen := h.len
 obtain ⟨t0, t1, t2⟩ := h.top
 have w := w64 (x := 2 * topg g) (by omega) (by omega)
 have w' := w64 (x := 2 * topg g + 2) (by omega) (by omega)
 induction d with
 | zero =>
  intro n hn
  have ml := mg_len g
  rw [mg_cut h (by omega) (by omega)]
  refine Ev.step (fun k => by rw [spec_FromGaps.l0]) ?_
  rw [w, w']
  refine ev_ifn (by omega) (ev_bind _ (sgS_ev (by omega)) ?_)
  by_cases s : SG (mg g)
  · exact ev_ifp (by simpa using s) (ev_to (Ev.now _) (by unfold fgr; rw [if_pos ⟨h, hc, s⟩]))
  · exact ev_ifn (by simpa using s) (ev_to (Ev.now _) (by unfold fgr; rw [if_neg (fun k => s k.2.2)]))
 | succ d ih =>
  intro n hn
  have fll := fl_len (isMin g) n 1
  have nx := ih (n + 1) (by omega)
  rw [show (((n + 1 : Nat)) : Int) + 1 = (n : Int) + 1 + 1 from by omega, fl_app (isMin g) n 1 1, show (1 : Int) + (n : Int) = (n : Int) + 1 from by omega, show (1 : Nat) = 0 + 1 from rfl] at nx
  refine Ev.step (fun k => by rw [spec_FromGaps.l0]) ?_
  rw [w, w', w64 (x := (n : Int) + 1 + 1) (by omega) (by omega)]
  refine ev_ifp (by omega) (ev_bind _ (has_ev (by omega) _) ?_)
  by_cases m : ((n : Int) + 1) ∈ g
  · have nm : ¬ isMin g ((n : Int) + 1) = true := fun k => (isMin_t.1 k).1 m
    rw [fl_no nm, show ∀ j, fl (isMin g) j 0 = [] from fun _ => rfl, List.append_nil] at nx
    exact ev_ifp (by simpa using m) nx
  · refine ev_ifn (by simpa using m) ?_
    have sn := su_new hc m
    by_cases z : fl (isMin g) 1 n = []
    · have mn : isMin g ((n : Int) + 1) = true := Classical.byContradiction fun k => by
       have := sn.2 k
       rw [z] at this
       obtain ⟨x, hx, _⟩ := (Su.last (by omega)).1 this
       simp at hx
      rw [fl_yes mn, show ∀ j, fl (isMin g) j 0 = [] from fun _ => rfl] at nx
      exact ev_ifn (by rw [z]; simp) (ev_ifp (by omega) nx)
    · have zl : (fl (isMin g) 1 n).length ≠ 0 := by simpa using z
      obtain ⟨t, a1, a2, a3⟩ := tabG_ev (v := fl (isMin g) 1 n) (by omega) (fun x hx => by have := (fl_mem _ _).1 hx; omega) (most := (n : Int) + 1) (by omega) (by omega)
      have ht := a2 ((n : Int) + 1) (by omega) (Int.le_refl _)
      refine ev_ifp (by omega) (ev_bind _ a3 (ev_ifp (by omega) (ev_ifp (by omega) ?_)))
      by_cases mn : isMin g ((n : Int) + 1) = true
      · rw [fl_yes mn, show ∀ j, fl (isMin g) j 0 = [] from fun _ => rfl] at nx
        exact ev_ifn (fun k => sn.1 (ht.1 k) mn) (ev_ifp (by omega) nx)
      · rw [fl_no mn, show ∀ j, fl (isMin g) j 0 = [] from fun _ => rfl, List.append_nil] at nx
        exact ev_ifp (ht.2 (sn.2 mn)) nx
theorem fromGapsS_ev {g : List Int} (hl : g.length ≤ 1099511627776) : Ev (fun k => spec_FromGaps.f k g) (fgr g) := by
 obtain ⟨x, y, c, e1, e2⟩ := gcS_ev hl
 unfold spec_FromGaps.f
 refine ev_bind _ e1 (ev_bind _ (l8_ev hl) ?_)
 by_cases h : VG g
 · refine ev_ifp (by simpa using h) ?_
   by_cases hc : CF g
   · have cf : c = false := Bool.eq_false_iff.mpr (fun k => (e2.1 k).2 hc)
     subst cf
     have hlen := h.len
     have r := fgS_l0 h hc (2 * (topg g).toNat + 2) 0 (by omega)
     rw [show ((0 : Nat) : Int) + 1 = 1 from rfl, show fl (isMin g) 1 0 = [] from rfl] at r
     refine Ev.step (fun k => by rw [spec_FromGaps.j0]) (ev_ifn (by simp) ?_)
     simp only [Option.bind_some]
     by_cases z : g.length = 0
     · have e : topg g = 0 := by unfold topg; rw [if_pos z]
       rw [e] at r
       exact ev_ifn (by omega) (Ev.step (fun k => by rw [spec_FromGaps.j1]) r)
     · have e : topg g = rd g ((g.length : Int) - 1) := by unfold topg; rw [if_neg z]
       rw [w64 (x := (g.length : Int) - 1) (by omega) (by omega), ← e]
       exact ev_ifp (by omega) (ev_ifp (by omega) (ev_ifp (by omega) (Ev.step (fun k => by rw [spec_FromGaps.j1]) r)))
   · have ct : c = true := e2.2 ⟨h, hc⟩
     subst ct
     exact Ev.step (fun k => by rw [spec_FromGaps.j0]) (ev_ifp rfl (ev_to (Ev.now _) (by unfold fgr; rw [if_neg (fun k => hc k.2.1)])))
 · exact ev_ifn (by simpa using h) (Ev.step (fun k => by rw [spec_FromGaps.j0]) (ev_ifp rfl (ev_to (Ev.now _) (by unfold fgr; rw [if_neg (fun k => h k.1)]))))
theorem fgI_l2 {g : List Int} {t : List Bool} (h : GA g 400 t) {n : Int} (h1 : 1 ≤ n) (h2 : n ≤ 400) {u : List Int} (hu : (u.length : Int) ≤ 400) {r : List Int × Bool} (d : Nat) : ∀ (a : Int) (s : Bool), 1 ≤ a → a + d = n / 2 + 1 →
 ((s = true ∨ ∃ x, a ≤ x ∧ 2 * x ≤ n ∧ x ∉ g ∧ n - x ∉ g) → Ev (fun k => impl_FromGaps.l1 k g t (n + 1) u) r) → (¬ (s = true ∨ ∃ x, a ≤ x ∧ 2 * x ≤ n ∧ x ∉ g ∧ n - x ∉ g) → Ev (fun k => impl_FromGaps.l1 k g t (n + 1) (u ++ [n])) r) → Ev (fun k => impl_FromGaps.l2 k g t n s a u) r := by
 have hl := h.1
 induction d with
 | zero =>
  intro a s a1 a2 y no
  refine Ev.step (fun k => by rw [impl_FromGaps.l2]) ?_
  rw [w64 (x := 2 * a) (by omega) (by omega), w64 (x := n + 1) (by omega) (by omega)]
  refine ev_ifn (by omega) ?_
  by_cases c : s = true
  · exact ev_ifp c (y (.inl c))
  · exact ev_ifn c (ev_ifp (by omega) (no (fun k => k.elim c (fun ⟨x, x0, x1, _⟩ => by omega))))
 | succ d ih =>
  intro a s a1 a2 y no
  refine Ev.step (fun k => by rw [impl_FromGaps.l2]) ?_
  rw [w64 (x := 2 * a) (by omega) (by omega), w64 (x := n + 1) (by omega) (by omega), w64 (x := a + 1) (by omega) (by omega), w64 (x := n - a) (by omega) (by omega)]
  refine ev_ifp (by omega) ?_
  by_cases c : s = true
  · exact ev_ifp c (y (.inl c))
  · refine ev_ifn c (ev_ifp (by omega) (ev_ifp (by omega) ?_))
    have ha := h.2 a (by omega) (by omega)
    have hb := h.2 (n - a) (by omega) (by omega)
    by_cases q : a ∈ g
    · refine ev_ifp (ha.2 q) (ih (a + 1) false (by omega) (by omega) (fun k => y (k.elim (fun k => by simp at k) fun ⟨x, x0, x1⟩ => .inr ⟨x, by omega, x1⟩)) (fun k => no fun k' => k (k'.elim (fun k' => absurd k' c) fun ⟨x, x0, x1, x2, x3⟩ => .inr ⟨x, ?_, x1, x2, x3⟩)))
      by_cases e : x = a
      · rw [e] at x2; exact absurd q x2
      · omega
    · refine ev_ifn (fun k => q (ha.1 k)) (ev_ifp (by omega) (ev_ifp (by omega) (ih (a + 1) _ (by omega) (by omega) (fun k => y ?_) (fun k => no fun k' => k ?_))))
      · rcases k with k | ⟨x, x0, x1⟩
        · exact .inr ⟨a, Int.le_refl _, by omega, q, fun m => by rw [hb.2 m] at k; simp at k⟩
        · exact .inr ⟨x, by omega, x1⟩
      · rcases k' with k' | ⟨x, x0, x1, x2, x3⟩
        · exact absurd k' c
        · by_cases e : x = a
          · subst e
            exact .inl (by rw [Bool.eq_false_iff.mpr (fun k => x3 (hb.1 k))]; rfl)
          · exact .inr ⟨x, by omega, x1, x2, x3⟩
theorem fgI_l1 {g : List Int} (hv : VG g) (hc : CF g) {t : List Bool} (h : GA g 400 t) (d : Nat) : ∀ n : Nat, n + d = 400 → Ev (fun k => impl_FromGaps.l1 k g t ((n : Int) + 1) (fl (isMin g) 1 n)) (fgr g) := by
 have hl := h.1
 induction d with
 | zero =>
  intro n hn
  have ml := mg_len g
  have vl := hv.len
  rw [show n = 400 from by omega]
  change Ev (fun k => impl_FromGaps.l1 k g t ((400 : Nat) + 1 : Int) (mg g)) (fgr g)
  refine Ev.step (fun k => by rw [impl_FromGaps.l1]) (ev_ifn (by omega) (ev_bind _ (sgI_ev (by omega)) ?_))
  by_cases s : SG (mg g)
  · have gg := gapsI_gps (v := mg g) (by omega)
    rw [gps_sg s, gp_mg hv hc] at gg
    exact ev_ifp (by simpa using s) (ev_bind _ gg (ev_bind _ (sliceEq_ev (by omega)) (ev_ifp (by simp) (ev_to (Ev.now _) (by unfold fgr; rw [if_pos ⟨hv, hc, s⟩])))))
  · exact ev_ifn (by simpa using s) (ev_to (Ev.now _) (by unfold fgr; rw [if_neg (fun k => s k.2.2)]))
 | succ d ih =>
  intro n hn
  have fll := fl_len (isMin g) n 1
  have nx := ih (n + 1) (by omega)
  rw [show (((n + 1 : Nat)) : Int) + 1 = (n : Int) + 1 + 1 from by omega, fl_app (isMin g) n 1 1, show (1 : Int) + (n : Int) = (n : Int) + 1 from by omega, show (1 : Nat) = 0 + 1 from rfl] at nx
  have key : ((rdOf false t ((n : Int) + 1) = true ∨ ∃ x, 1 ≤ x ∧ 2 * x ≤ (n : Int) + 1 ∧ x ∉ g ∧ (n : Int) + 1 - x ∉ g) ↔ ¬ isMin g ((n : Int) + 1) = true) := by
   rw [h.2 _ (by omega) (by omega), isMin_t]
   constructor
   · rintro (k | ⟨x, x0, x1, x2, x3⟩) q
     · exact q.1 k
     · exact q.2 x ((n : Int) + 1 - x) x0 (by omega) x2 x3 (by omega)
   · intro k
     by_cases m : ((n : Int) + 1) ∈ g
     · exact .inl m
     · right
       have : ∃ a b : Int, 1 ≤ a ∧ 1 ≤ b ∧ a ∉ g ∧ b ∉ g ∧ a + b = (n : Int) + 1 := Classical.byContradiction fun q => k ⟨m, fun a b a1 b1 a2 b2 e => q ⟨a, b, a1, b1, a2, b2, e⟩⟩
       obtain ⟨a, b, a1, b1, a2, b2, e⟩ := this
       by_cases le : a ≤ b
       · exact ⟨a, a1, by omega, a2, by rw [show (n : Int) + 1 - a = b from by omega]; exact b2⟩
       · exact ⟨b, b1, by omega, b2, by rw [show (n : Int) + 1 - b = a from by omega]; exact a2⟩
  refine Ev.step (fun k => by rw [impl_FromGaps.l1]) (ev_ifp (by omega) (ev_ifp (by omega) (fgI_l2 h (by omega) (by omega) (by omega) (((n : Int) + 1) / 2).toNat 1 _ (by omega) (by omega) (fun k => ?_) (fun k => ?_))))
  · rw [fl_no (key.1 k), show ∀ j, fl (isMin g) j 0 = [] from fun _ => rfl, List.append_nil] at nx
    exact nx
  · rw [fl_yes (Classical.byContradiction fun q => k (key.2 q)), show ∀ j, fl (isMin g) j 0 = [] from fun _ => rfl] at nx
    exact nx
theorem fgI_l0 {g : List Int} (h : VG g) (hc : CF g) (d : Nat) : ∀ (i : Int) (t : List Bool), 0 ≤ i → i + d = g.length → ((t.length : Int) = 400 + 1 ∧ ∀ j, 0 ≤ j → j ≤ 400 → (rdOf false t j = true ↔ ∃ q, 0 ≤ q ∧ q < i ∧ rd g q = j)) → Ev (fun k => impl_FromGaps.l0 k g t g g.length i) (fgr g) := by
 have hlen := h.len
 induction d with
 | zero =>
  intro i t h0 h1 h2
  rw [show i = (g.length : Int) from by omega] at h2
  have r := fgI_l1 h hc (ga_end h2) 400 0 (by omega)
  rw [show ((0 : Nat) : Int) + 1 = 1 from rfl, show fl (isMin g) 1 0 = [] from rfl] at r
  exact Ev.step (fun k => by rw [impl_FromGaps.l0]) (ev_ifn (by omega) r)
 | succ d ih =>
  intro i t h0 h1 h2
  have b := h.2 _ (rd_mem (l := g) h0 (by omega))
  have e2 := ih (i + 1) (t.set (rd g i).toNat true) (by omega) (by omega) (ga_step h0 (by omega) ⟨by omega, by omega⟩ h2)
  refine Ev.step (fun k => by rw [impl_FromGaps.l0]) ?_
  rw [w64 (x := i + 1) (by omega) (by omega)]
  exact ev_ifp (by omega) (ev_ifp h0 (ev_ifp (by omega) (ev_ifp (by omega) (ev_ifp (by have := h2.1; omega) e2))))
theorem fromGapsI_ev {g : List Int} (hl : g.length ≤ 1099511627776) : Ev (fun k => impl_FromGaps.f k g) (fgr g) := by
 obtain ⟨x, y, c, e1, e2⟩ := gcI_ev hl
 unfold impl_FromGaps.f
 refine ev_bind _ e1 ?_
 by_cases ct : c = true
 · have := e2.1 ct
   exact ev_ifp ct (Ev.step (fun k => by rw [impl_FromGaps.j0]) (ev_ifp rfl (ev_to (Ev.now _) (by unfold fgr; rw [if_neg (fun k => this.2 k.2.1)]))))
 · refine ev_ifn ct (ev_bind _ (gl_ev hl) (Ev.step (fun k => by rw [impl_FromGaps.j0]) ?_))
   by_cases h : VG g
   · have hc : CF g := Classical.byContradiction fun k => ct (e2.2 ⟨h, k⟩)
     exact ev_ifn (nd_f h) (ev_ifp (by omega) (fgI_l0 h hc g.length 0 (List.replicate 401 false) (by omega) (by omega) (ga_start g (m := 400) (by omega))))
   · exact ev_ifp (nd_t h) (ev_to (Ev.now _) (by unfold fgr; rw [if_neg (fun k => h k.1)]))
inductive AC (v : List Int) : Int → Prop
 | base {n : Int} : Su v n → AC v n
 | step {x y z : Int} : AC v x → AC v y → AC v z → z ≤ y → y ≤ x → AC v (x + y - z)
theorem AC.pos {v : List Int} (hv : ∀ x ∈ v, 1 ≤ x) {n : Int} (h : AC v n) : 0 ≤ n := by
 induction h with
 | base h => exact h.pos hv
 | step _ _ _ zy yx ix iy iz => omega
def TA (v : List Int) (L N : Int) (t : List Bool) : Prop := (t.length : Int) = L ∧ (∀ n, 0 ≤ n → n < N → Su v n → rdOf false t n = true) ∧ (∀ n, 0 ≤ n → n < N → rdOf false t n = true → AC v n)
theorem ac_fin {v : List Int} (hv : ∀ x ∈ v, 1 ≤ x) {L N : Int} {t : List Bool} (h : TA v L N t) (hc : ∀ a b e : Int, 0 ≤ e → e ≤ b → b ≤ a → a < N → rdOf false t a = true → rdOf false t b = true → rdOf false t e = true → a + b - e < N → rdOf false t (a + b - e) = true) : ∀ n, 0 ≤ n → n < N → (rdOf false t n = true ↔ AC v n) := by
 have key : ∀ n, AC v n → n < N → rdOf false t n = true := by
  intro n k
  induction k with
  | base k => intro hn; exact h.2.1 _ (k.pos hv) hn k
  | step kx ky kz zy yx ix iy iz =>
   intro hn
   have := kz.pos hv
   exact hc _ _ _ this zy yx (by omega) (ix (by omega)) (iy (by omega)) (iz (by omega)) hn
 exact fun n n0 n1 => ⟨h.2.2 n n0 n1, fun k => key n k n1⟩
theorem cnt_set (t : List Bool) : ∀ i : Nat, i < t.length → t[i]? = some false → (t.set i true).count false < t.count false := by
 induction t with
 | nil => intro i h; simp at h
 | cons b t ih =>
  intro i h k
  cases i with
  | zero => simp at k; subst k; simp
  | succ i =>
   have := ih i (by simpa using h) (by simpa using k)
   simp only [z3_, List.count_cons]
   omega
theorem cnt_rd {t : List Bool} {w : Int} (h0 : 0 ≤ w) (h : w < t.length) (hf : ¬ rdOf false t w = true) : (t.set w.toNat true).count false < t.count false := by
 refine cnt_set t w.toNat (by omega) ?_
 rw [rdb_lt h0 h] at hf
 rw [List.getElem?_eq_getElem (by omega)]
 simpa using hf
def RS (v : List Int) (L N : Int) (t0 : List Bool) (P : Prop) (t : List Bool) (s : Bool) : Prop := TA v L N t ∧ (s = false → t = t0 ∧ P) ∧ (s = true → t.count false < t0.count false)
theorem RS.keep {v : List Int} {L N : Int} {t0 t : List Bool} {P Q : Prop} {s : Bool} (h : RS v L N t0 P t s) (k : t = t0 → P → Q) : RS v L N t0 Q t s :=
 ⟨h.1, fun e => ⟨(h.2.1 e).1, k (h.2.1 e).1 (h.2.1 e).2⟩, h.2.2⟩
theorem RS.put {v : List Int} {L N : Int} {t0 t : List Bool} {P Q : Prop} {s : Bool} (h : RS v L N t0 P t s) (hN : N ≤ L) {w : Int} (h0 : 0 ≤ w) (hw : w < N) (hf : ¬ rdOf false t w = true) (ha : AC v w) : RS v L N t0 Q (t.set w.toNat true) true := by
 have hl := h.1.1
 refine ⟨⟨by simpa using hl, fun n n0 n1 n2 => ?_, fun n n0 n1 n2 => ?_⟩, fun e => by simp at e, fun _ => ?_⟩
 · rw [rdb_set _ h0 (by omega) n0]
   by_cases c : n = w
   · rw [if_pos c]
   · rw [if_neg c]; exact h.1.2.1 n n0 n1 n2
 · rw [rdb_set _ h0 (by omega) n0] at n2
   by_cases c : n = w
   · rw [c]; exact ha
   · rw [if_neg c] at n2; exact h.1.2.2 n n0 n1 n2
 · have k := cnt_rd h0 (by omega) hf
   cases s with
   | false => rw [(h.2.1 rfl).1] at k ⊢; exact k
   | true => have := h.2.2 rfl; omega
noncomputable def isac (v : List Int) (n : Int) : Bool := @decide (¬ AC v n) (Classical.propDecidable _)
theorem isac_t {v : List Int} {n : Int} : isac v n = true ↔ ¬ AC v n := by unfold isac; exact @decide_eq_true_iff _ (Classical.propDecidable _)
noncomputable def acr (v : List Int) : List Int × Bool := fgr (fl (isac v) 0 201)
def CN (t0 : List Bool) (l : List Int) (i j z : Int) : Prop := ∀ a b c : Int, 0 ≤ c → c ≤ b → b ≤ a → a < l.length → (a < i ∨ (a = i ∧ (b < j ∨ (b = j ∧ c < z)))) → rd l a + rd l b - rd l c < 201 → rdOf false t0 (rd l a + rd l b - rd l c) = true
theorem rd_tk {l : List Int} {i j : Int} (h0 : 0 ≤ j) (h : j < i) (hi : i ≤ l.length) : rd (l.take i.toNat) j = rd l j := by
 rw [rd_lt h0 (by rw [take_len (by omega) hi]; omega), rd_lt h0 (by omega), List.getElem_take]
def LI (t0 : List Bool) : List Int := fl (fun n => rdOf false t0 n) 0 201
theorem li_mem {t0 : List Bool} {x : Int} : x ∈ LI t0 ↔ 0 ≤ x ∧ x < 201 ∧ rdOf false t0 x = true := by unfold LI; rw [fl_mem]; constructor <;> rintro ⟨a, b, c⟩ <;> exact ⟨a, by omega, c⟩
theorem li_len (t0 : List Bool) : (LI t0).length ≤ 201 := fl_len _ _ _
theorem li_le {t0 : List Bool} {i j : Int} (h0 : 0 ≤ i) (h : i ≤ j) (hj : j < (LI t0).length) : rd (LI t0) i ≤ rd (LI t0) j := by
 by_cases c : i = j
 · rw [c]; exact Int.le_refl _
 · exact Int.le_of_lt (asc_lt (fl_asc _ _ _) (j - i - 1).toNat i j h0 (by omega) hj)
theorem acI_l4 {v : List Int} {t0 : List Bool} {r : List Int × Bool} (ht : TA v 201 201 t0) {i j : Int} (j0 : 0 ≤ j) (hj : j ≤ i) (hi : i < (LI t0).length) (N : ∀ t s, RS v 201 201 t0 (CN t0 (LI t0) i (j + 1) 0) t s → Ev (fun k => impl_ArfClosure.l3 k t s (LI t0) (rd (LI t0) i) (LI t0) (LI t0).length i ((LI t0).take (i + 1).toNat) (i + 1) (j + 1)) r) (d : Nat) : ∀ (z : Int) t s, 0 ≤ z → z + d = j + 1 → RS v 201 201 t0 (CN t0 (LI t0) i j z) t s → Ev (fun k => impl_ArfClosure.l4 k t s (LI t0) (rd (LI t0) i) (rd (LI t0) j) (LI t0) (LI t0).length i ((LI t0).take (i + 1).toNat) (i + 1) j ((LI t0).take (j + 1).toNat) (j + 1) z) r := by
 have ll := li_len t0
 induction d with
 | zero =>
  intro z t s z0 hz h
  refine Ev.step (fun k => by rw [impl_ArfClosure.l4]) ?_
  rw [w64 (x := j + 1) (by omega) (by omega)]
  refine ev_ifn (by omega) (N t s (h.keep fun _ p a b c c0 c1 c2 c3 c4 => p a b c c0 c1 c2 c3 (by omega)))
 | succ d ih =>
  intro z t s z0 hz h
  have tl := take_len (v := LI t0) (i := j + 1) (by omega) (by omega)
  have mz := li_mem.1 (rd_mem (l := LI t0) (i := z) z0 (by omega))
  have mj := li_mem.1 (rd_mem (l := LI t0) (i := j) j0 (by omega))
  have mi := li_mem.1 (rd_mem (l := LI t0) (i := i) (by omega) (by omega))
  have zj := li_le (t0 := t0) z0 (show z ≤ j by omega) (by omega)
  have ji := li_le (t0 := t0) j0 hj (by omega)
  have hl := h.1.1
  have ext : t = t0 → CN t0 (LI t0) i j z → (rd (LI t0) i + rd (LI t0) j - rd (LI t0) z < 201 → rdOf false t (rd (LI t0) i + rd (LI t0) j - rd (LI t0) z) = true) → CN t0 (LI t0) i j (z + 1) := by
   intro e p q a b c c0 c1 c2 c3 c4 c5
   by_cases g : a = i ∧ b = j ∧ c = z
   · obtain ⟨rfl, rfl, rfl⟩ := g; rw [e] at q; exact q c5
   · exact p a b c c0 c1 c2 c3 (by clear ih N h mz mj mi zj ji tl p q c5 hl; omega) c5
  refine Ev.step (fun k => by rw [impl_ArfClosure.l4]) ?_
  rw [rd_tk z0 (by omega) (by omega), w64 (x := z + 1) (by omega) (by omega), w64 (x := rd (LI t0) i + rd (LI t0) j) (by omega) (by omega), w64 (x := rd (LI t0) i + rd (LI t0) j - rd (LI t0) z) (by omega) (by omega)]
  refine ev_ifp (by omega) (ev_ifp (by omega) (ev_ifp (by omega) ?_))
  by_cases c : rd (LI t0) i + rd (LI t0) j - rd (LI t0) z < 201
  · refine ev_ifp (by omega) (ev_ifp (by omega) ?_)
    by_cases g : rdOf false t (rd (LI t0) i + rd (LI t0) j - rd (LI t0) z) = true
    · exact ev_ifp g (ih (z + 1) t s (by omega) (by omega) (h.keep fun e p => ext e p fun _ => g))
    · exact ev_ifn g (ih (z + 1) _ _ (by omega) (by omega) (h.put (Int.le_refl _) (by omega) c g (.step (ht.2.2 _ mi.1 mi.2.1 mi.2.2) (ht.2.2 _ mj.1 mj.2.1 mj.2.2) (ht.2.2 _ mz.1 mz.2.1 mz.2.2) zj ji)))
  · exact ev_ifn (by omega) (ih (z + 1) t s (by omega) (by omega) (h.keep fun e p => ext e p fun k => absurd k c))
theorem acI_l3 {v : List Int} {t0 : List Bool} {r : List Int × Bool} (ht : TA v 201 201 t0) {i : Int} (i0 : 0 ≤ i) (hi : i < (LI t0).length) (N : ∀ t s, RS v 201 201 t0 (CN t0 (LI t0) (i + 1) 0 0) t s → Ev (fun k => impl_ArfClosure.l2 k t s (LI t0) (LI t0) (LI t0).length (i + 1)) r) (d : Nat) : ∀ (j : Int) t s, 0 ≤ j → j + d = i + 1 → RS v 201 201 t0 (CN t0 (LI t0) i j 0) t s → Ev (fun k => impl_ArfClosure.l3 k t s (LI t0) (rd (LI t0) i) (LI t0) (LI t0).length i ((LI t0).take (i + 1).toNat) (i + 1) j) r := by
 have ll := li_len t0
 induction d with
 | zero =>
  intro j t s j0 hj h
  refine Ev.step (fun k => by rw [impl_ArfClosure.l3]) ?_
  rw [w64 (x := i + 1) (by omega) (by omega)]
  exact ev_ifn (by omega) (N t s (h.keep fun _ p a b c c0 c1 c2 c3 c4 => p a b c c0 c1 c2 c3 (by omega)))
 | succ d ih =>
  intro j t s j0 hj h
  have tl := take_len (v := LI t0) (i := i + 1) (by omega) (by omega)
  have tj := take_len (v := LI t0) (i := j + 1) (by omega) (by omega)
  have go := acI_l4 ht j0 (by omega) hi (fun t s => ih (j + 1) t s (by omega) (by omega)) (j + 1).toNat 0 t s (Int.le_refl _) (by omega) h
  refine Ev.step (fun k => by rw [impl_ArfClosure.l3]) ?_
  rw [w64 (x := j + 1) (by omega) (by omega), rd_tk j0 (by omega) (by omega)]
  refine ev_ifp (by omega) (ev_ifp (by omega) (ev_ifp (by omega) (ev_ifp (by omega) (ev_ifp (by omega) ?_))))
  simp only [Option.bind_some]
  rw [tj]
  exact go
theorem acI_l2 {v : List Int} {t0 : List Bool} {r : List Int × Bool} (ht : TA v 201 201 t0) (N : ∀ t s, RS v 201 201 t0 (CN t0 (LI t0) (LI t0).length 0 0) t s → Ev (fun k => impl_ArfClosure.l0 k t s) r) (d : Nat) : ∀ (i : Int) t s, 0 ≤ i → i + d = (LI t0).length → RS v 201 201 t0 (CN t0 (LI t0) i 0 0) t s → Ev (fun k => impl_ArfClosure.l2 k t s (LI t0) (LI t0) (LI t0).length i) r := by
 have ll := li_len t0
 induction d with
 | zero =>
  intro i t s i0 hi h
  rw [show i = ((LI t0).length : Int) from by omega] at h
  exact Ev.step (fun k => by rw [impl_ArfClosure.l2]) (ev_ifn (by omega) (N t s h))
 | succ d ih =>
  intro i t s i0 hi h
  have tl := take_len (v := LI t0) (i := i + 1) (by omega) (by omega)
  have go := acI_l3 ht i0 (by omega) (fun t s => ih (i + 1) t s (by omega) (by omega)) (i + 1).toNat 0 t s (Int.le_refl _) (by omega) h
  refine Ev.step (fun k => by rw [impl_ArfClosure.l2]) ?_
  rw [w64 (x := i + 1) (by omega) (by omega)]
  refine ev_ifp (by omega) (ev_ifp (by omega) (ev_ifp (by omega) (ev_ifp (by omega) (ev_ifp (by omega) ?_))))
  simp only [Option.bind_some]
  rw [tl]
  exact go
theorem acI_l1 {v : List Int} {t0 : List Bool} {r : List Int × Bool} (ht : TA v 201 201 t0) (N : Ev (fun k => impl_ArfClosure.l2 k t0 false (LI t0) (LI t0) (LI t0).length 0) r) (d : Nat) : ∀ i : Nat, i + d = 201 → Ev (fun k => impl_ArfClosure.l1 k t0 false (fl (fun n => rdOf false t0 n) 0 i) t0 201 i) r := by
 have hl := ht.1
 induction d with
 | zero =>
  intro i hi
  rw [show i = 201 from by omega]
  change Ev (fun k => impl_ArfClosure.l1 k t0 false (LI t0) t0 201 201) r
  exact Ev.step (fun k => by rw [impl_ArfClosure.l1]) (ev_ifn (by omega) N)
 | succ d ih =>
  intro i hi
  have fll := fl_len (fun n => rdOf false t0 n) i 0
  have nx := ih (i + 1) (by omega)
  rw [show (((i + 1 : Nat)) : Int) = (i : Int) + 1 from by omega, fl_app (fun n => rdOf false t0 n) i 1 0, show (0 : Int) + (i : Int) = (i : Int) from by omega, show (1 : Nat) = 0 + 1 from rfl] at nx
  refine Ev.step (fun k => by rw [impl_ArfClosure.l1]) ?_
  rw [w64 (x := (i : Int) + 1) (by omega) (by omega)]
  refine ev_ifp (by omega) (ev_ifp (by omega) (ev_ifp (by omega) ?_))
  by_cases c : rdOf false t0 (i : Int) = true
  · rw [fl_yes (p := fun n => rdOf false t0 n) c, show ∀ j, fl (fun n => rdOf false t0 n) j 0 = [] from fun _ => rfl] at nx
    exact ev_ifp c (ev_ifp (by omega) nx)
  · rw [fl_no (p := fun n => rdOf false t0 n) c, show ∀ j, fl (fun n => rdOf false t0 n) j 0 = [] from fun _ => rfl, List.append_nil] at nx
    exact ev_ifn c nx
theorem acI_l5 {v : List Int} {t : List Bool} (hl : (t.length : Int) = 201) (hd : ∀ n, 0 ≤ n → n < 201 → (rdOf false t n = true ↔ AC v n)) (d : Nat) : ∀ i : Nat, i + d = 201 → Ev (fun k => impl_ArfClosure.l5 k (fl (isac v) 0 i) t 201 i) (acr v) := by
 induction d with
 | zero =>
  intro i hi
  rw [show i = 201 from by omega]
  have := fl_len (isac v) 201 0
  exact Ev.step (fun k => by rw [impl_ArfClosure.l5]) (ev_ifn (by omega) (ev_bind _ (fromGapsI_ev (by omega)) (Ev.now _)))
 | succ d ih =>
  intro i hi
  have fll := fl_len (isac v) i 0
  have nx := ih (i + 1) (by omega)
  have hi' := hd i (by omega) (by omega)
  rw [show (((i + 1 : Nat)) : Int) = (i : Int) + 1 from by omega, fl_app (isac v) i 1 0, show (0 : Int) + (i : Int) = (i : Int) from by omega, show (1 : Nat) = 0 + 1 from rfl] at nx
  refine Ev.step (fun k => by rw [impl_ArfClosure.l5]) ?_
  rw [w64 (x := (i : Int) + 1) (by omega) (by omega)]
  refine ev_ifp (by omega) (ev_ifp (by omega) (ev_ifp (by omega) ?_))
  by_cases c : rdOf false t (i : Int) = true
  · rw [fl_no (fun k => isac_t.1 k (hi'.1 c)), show ∀ j, fl (isac v) j 0 = [] from fun _ => rfl, List.append_nil] at nx
    exact ev_ifp c nx
  · rw [fl_yes (isac_t.2 fun k => c (hi'.2 k)), show ∀ j, fl (isac v) j 0 = [] from fun _ => rfl] at nx
    exact ev_ifn c (ev_ifp (by omega) nx)
theorem cn_closed {t : List Bool} (p : CN t (LI t) (LI t).length 0 0) (a b e : Int) (e0 : 0 ≤ e) (eb : e ≤ b) (ba : b ≤ a) (an : a < 201) (ta : rdOf false t a = true) (tb : rdOf false t b = true) (te : rdOf false t e = true) (hs : a + b - e < 201) : rdOf false t (a + b - e) = true := by
 obtain ⟨i, i0, i1, i2⟩ := mem_rd (li_mem.2 ⟨by omega, an, ta⟩)
 obtain ⟨j, j0, j1, j2⟩ := mem_rd (li_mem.2 ⟨by omega, by omega, tb⟩)
 obtain ⟨z, z0, z1, z2⟩ := mem_rd (li_mem.2 ⟨e0, by omega, te⟩)
 have up : ∀ x y : Int, 0 ≤ x → 0 ≤ y → x < (LI t).length → y < (LI t).length → rd (LI t) x ≤ rd (LI t) y → x ≤ y ∨ rd (LI t) x = rd (LI t) y := fun x y x0 y0 hx hy k => by
  by_cases c : x ≤ y
  · exact .inl c
  · have := li_le (t0 := t) y0 (show y ≤ x by omega) hx
    exact .inr (by omega)
 have lt : ∀ x y : Int, 0 ≤ x → 0 ≤ y → x < (LI t).length → y < (LI t).length → rd (LI t) x ≤ rd (LI t) y → x ≤ y := fun x y x0 y0 hx hy k => by
  by_cases c : x ≤ y
  · exact c
  · have := asc_lt (fl_asc (fun n => rdOf false t n) 201 0) (x - y - 1).toNat y x y0 (by omega) hx
    change rd (LI t) y < rd (LI t) x at this
    omega
 have := p i j z z0 (lt z j z0 j0 z1 j1 (by omega)) (lt j i j0 i0 j1 i1 (by omega)) i1 (.inl i1) (by omega)
 rwa [i2, j2, z2] at this
theorem acI_l0 {v : List Int} (hv : ∀ x ∈ v, 1 ≤ x) (m : Nat) : ∀ t s, TA v 201 201 t → t.count false < m → (s = false → CN t (LI t) (LI t).length 0 0) → Ev (fun k => impl_ArfClosure.l0 k t s) (acr v) := by
 induction m with
 | zero => intro t s _ h; omega
 | succ m ih =>
  intro t s h hm hs
  refine Ev.step (fun k => by rw [impl_ArfClosure.l0]) ?_
  have hl := h.1
  rw [hl]
  cases s with
  | false => exact ev_ifn (by simp) (acI_l5 hl (ac_fin hv h (cn_closed (hs rfl))) 201 0 (by omega))
  | true =>
   refine ev_ifp rfl (acI_l1 h (acI_l2 h (fun t' s' k => ?_) (LI t).length 0 t false (Int.le_refl _) (by omega) ⟨h, fun _ => ⟨rfl, fun a b c c0 c1 c2 c3 c4 => by omega⟩, fun e => by simp at e⟩) 201 0 (by omega))
   cases s' with
   | false =>
    obtain ⟨e, p⟩ := k.2.1 rfl
    refine Ev.step (fun k => by rw [impl_ArfClosure.l0]) ?_
    rw [e, hl]
    exact ev_ifn (by simp) (acI_l5 hl (ac_fin hv h (cn_closed p)) 201 0 (by omega))
   | true => exact ih t' true k.1 (by have := k.2.2 rfl; omega) (fun e => by simp at e)
noncomputable def acl (v : List Int) : List Int × Bool := @ite _ (SG v) (Classical.propDecidable _) (acr v) ([], false)
theorem acI_ev {v : List Int} (hl : v.length ≤ 1099511627776) : Ev (fun k => impl_ArfClosure.f k v) (acl v) := by
 unfold impl_ArfClosure.f acl
 refine ev_bind _ (sgI_ev hl) ?_
 by_cases c : SG v
 · rw [if_pos c]
   have sl := stab_len (v := v) (m := 200) (by omega)
   refine ev_ifp (by simpa using c) (ev_bind _ (c.sutab (by omega) (by omega)) (acI_l0 c.pos _ _ true ⟨sl, fun n n0 n1 k => (stab_iff n0 (by omega)).2 k, fun n n0 n1 k => .base ((stab_iff n0 (by omega)).1 k)⟩ (Nat.lt_succ_self _) (fun e => by simp at e)))
 · rw [if_neg c]
   exact ev_ifn (by simpa using c) (Ev.now _)
def pw (l : List Int) : Prop := l.Pairwise (· < ·)
theorem pw_asc {l : List Int} (h : pw l) : Asc l := by
 induction l with
 | nil => intro i h0 h1; simp at h1; omega
 | cons x l ih => exact asc_cons (List.pairwise_cons.1 h).1 (ih (List.pairwise_cons.1 h).2)
theorem pw_eq : ∀ {a b : List Int}, pw a → pw b → (∀ z, z ∈ a ↔ z ∈ b) → a = b
 | [], [], _, _, _ => rfl
 | [], y :: b, _, _, h => absurd ((h y).2 (List.mem_cons_self ..)) (by simp)
 | x :: a, [], _, _, h => absurd ((h x).1 (List.mem_cons_self ..)) (by simp)
 | x :: a, y :: b, ha, hb, h => by
  have ha' := List.pairwise_cons.1 ha
  have hb' := List.pairwise_cons.1 hb
  have e : x = y := by
   rcases List.mem_cons.1 ((h x).1 (List.mem_cons_self ..)) with k | k
   · exact k
   · rcases List.mem_cons.1 ((h y).2 (List.mem_cons_self ..)) with q | q
     · exact q.symm
     · have := ha'.1 y q; have := hb'.1 x k; omega
  subst e
  refine congrArg (x :: ·) (pw_eq ha'.2 hb'.2 fun z => ⟨fun k => ?_, fun k => ?_⟩)
  · rcases List.mem_cons.1 ((h z).1 (List.mem_cons_of_mem _ k)) with q | q
    · have := ha'.1 z k; omega
    · exact q
  · rcases List.mem_cons.1 ((h z).2 (List.mem_cons_of_mem _ k)) with q | q
    · have := hb'.1 z k; omega
    · exact q
def ins1 (x : Int) : List Int → List Int
 | [] => [x]
 | y :: l => if x < y then x :: y :: l else if x = y then y :: l else y :: ins1 x l
theorem ins1_mem {x z : Int} : ∀ {l : List Int}, z ∈ ins1 x l ↔ z = x ∨ z ∈ l
 | [] => by simp [ins1]
 | y :: l => by
  unfold ins1
  split
  · simp
  · split
    · rename_i e; subst e; simp
    · rw [List.mem_cons, ins1_mem, List.mem_cons]; constructor
      · rintro (a | a | a)
        · exact .inr (.inl a)
        · exact .inl a
        · exact .inr (.inr a)
      · rintro (a | a | a)
        · exact .inr (.inl a)
        · exact .inl a
        · exact .inr (.inr a)
theorem ins1_pw {x : Int} : ∀ {l : List Int}, pw l → pw (ins1 x l)
 | [], _ => by simp [ins1, pw]
 | y :: l, h => by
  have h' := List.pairwise_cons.1 h
  unfold ins1
  split
  · rename_i c
    refine List.pairwise_cons.2 ⟨fun z hz => ?_, h⟩
    rcases List.mem_cons.1 hz with rfl | k
    · exact c
    · have := h'.1 z k; omega
  · split
    · exact h
    · rename_i c e
      refine List.pairwise_cons.2 ⟨fun z hz => ?_, ins1_pw h'.2⟩
      rcases ins1_mem.1 hz with rfl | k
      · omega
      · exact h'.1 z k
def srt (l : List Int) : List Int := l.foldr ins1 []
theorem srt_mem {z : Int} : ∀ {l : List Int}, z ∈ srt l ↔ z ∈ l
 | [] => by simp [srt]
 | x :: l => by
  have := srt_mem (z := z) (l := l)
  unfold srt at this ⊢
  rw [List.foldr_cons, ins1_mem, this, List.mem_cons]
theorem srt_pw : ∀ l : List Int, pw (srt l)
 | [] => by simp [srt, pw]
 | x :: l => by have := srt_pw l; unfold srt at this ⊢; rw [List.foldr_cons]; exact ins1_pw this
theorem ins1_len {x : Int} : ∀ {l : List Int}, (ins1 x l).length ≤ l.length + 1
 | [] => by simp [ins1]
 | y :: l => by
  have := ins1_len (x := x) (l := l)
  unfold ins1
  split
  · simp
  · split <;> simp <;> omega
theorem srt_len : ∀ l : List Int, (srt l).length ≤ l.length
 | [] => by simp [srt]
 | x :: l => by
  have := srt_len l
  have h := ins1_len (x := x) (l := srt l)
  unfold srt at this h ⊢
  rw [List.foldr_cons, List.length_cons]; omega
theorem pw_put {l : List Int} {x : Int} {p : Nat} (h : pw l) (lo : ∀ z ∈ l.take p, z < x) (hi : ∀ z ∈ l.drop p, x < z) : pw (l.take p ++ [x] ++ l.drop p) := by
 unfold pw at h ⊢
 rw [List.append_assoc]
 refine List.pairwise_append.2 ⟨h.sublist (List.take_sublist ..), List.pairwise_append.2 ⟨by simp, h.sublist (List.drop_sublist ..), fun a ha b hb => ?_⟩, fun a ha b hb => ?_⟩
 · rw [List.mem_singleton] at ha; subst ha; exact hi b hb
 · rcases List.mem_append.1 hb with q | q
   · rw [List.mem_singleton] at q; subst q; exact lo a ha
   · have := lo a ha; have := hi b q; omega
theorem srt_l1 {l : List Int} (hl : l.length ≤ 1048576) {i : Int} (h0 : 0 ≤ i) (hi : i < l.length) {x3 : List Int} (h3 : pw x3) (hn : (x3.length : Int) ≤ i) {r : List Int} (N : ∀ y, pw y → (y.length : Int) ≤ i + 1 → (∀ z, z ∈ y ↔ z ∈ x3 ∨ z = rd l i) → Ev (fun k => spec_SortList.l0 k l y (i + 1)) r) (d : Nat) : ∀ p : Int, p = d → p ≤ x3.length → (∀ z ∈ x3.drop p.toNat, rd l i < z) → Ev (fun k => spec_SortList.l1 k l x3 i p) r := by
 have put : ∀ p : Int, 0 ≤ p → p ≤ x3.length → (∀ z ∈ x3.take p.toNat, z < rd l i) → (∀ z ∈ x3.drop p.toNat, rd l i < z) → Ev (fun k => spec_SortList.l0 k l (x3.take p.toNat ++ [rd l i] ++ ([] ++ x3.drop p.toNat)) (i + 1)) r := fun p p0 p1 a b => by
  rw [List.nil_append]
  refine N _ (pw_put h3 a b) ?_ fun z => ?_
  · have := take_len p0 p1
    rw [List.length_append, List.length_append, List.length_singleton, List.length_drop]; omega
  · have e := List.take_append_drop p.toNat x3
    constructor
    · intro k
      rcases List.mem_append.1 k with k | k
      · rcases List.mem_append.1 k with k | k
        · exact .inl (List.mem_of_mem_take k)
        · exact .inr (List.mem_singleton.1 k)
      · exact .inl (List.mem_of_mem_drop k)
    · rintro (k | k)
      · rw [← e] at k
        rcases List.mem_append.1 k with k | k
        · exact List.mem_append_left _ (List.mem_append_left _ k)
        · exact List.mem_append_right _ k
      · exact List.mem_append_left _ (List.mem_append_right _ (List.mem_singleton.2 k))
 have w1 := w64 (x := i + 1) (by omega) (by omega)
 induction d with
 | zero =>
  intro p hp hp' hh
  have pt := put p (by omega) hp' (fun z hz => by rw [show p.toNat = 0 from by omega] at hz; simp at hz) hh
  have tl := take_len (v := x3) (i := p) (by omega) hp'
  refine Ev.step (fun k => by rw [spec_SortList.l1]) (ev_ifn (by omega) ?_)
  simp only [Option.bind_some]
  rw [w1]
  have dl : (x3.drop p.toNat).length ≤ x3.length := by rw [List.length_drop]; omega
  refine ev_ifp (by omega) (ev_ifp (by omega) (ev_ifp (by simp only [List.length_nil]; omega) (ev_ifp (by omega) (ev_ifp (by omega) (ev_ifp (by omega) (ev_ifp (by simp only [List.length_append, List.length_nil, List.length_singleton]; omega) pt))))))
 | succ d ih =>
  intro p hp hp' hh
  have dr := drop_rd (l := x3) (i := p - 1) (by omega) (by omega)
  rw [show p - 1 + 1 = p from by omega] at dr
  have tl := take_len (v := x3) (i := p) (by omega) hp'
  have dl : (x3.drop p.toNat).length ≤ x3.length := by rw [List.length_drop]; omega
  refine Ev.step (fun k => by rw [spec_SortList.l1]) (ev_ifp (by omega) ?_)
  rw [w64 (x := p - 1) (by omega) (by omega), w1]
  refine ev_ifp (by omega) (ev_ifp (by omega) (ev_ifp (by omega) (ev_ifp (by omega) ?_)))
  by_cases c : rd x3 (p - 1) > rd l i
  · exact ev_ifp c (ih (p - 1) (by omega) (by omega) (fun z hz => by
     rw [dr] at hz
     rcases List.mem_cons.1 hz with rfl | k
     · exact c
     · exact hh z k))
  · refine ev_ifn c ?_
    by_cases e : rd x3 (p - 1) = rd l i
    · refine ev_ifp e (N x3 h3 (by omega) fun z => ⟨fun k => .inl k, fun k => ?_⟩)
      rcases k with k | k
      · exact k
      · rw [k, ← e]; exact rd_mem (by omega) (by omega)
    · have pt := put p (by omega) hp' (fun z hz => by
       obtain ⟨j, j0, j1, j2⟩ := mem_rd hz
       rw [tl] at j1
       rw [← j2, rd_lt j0 (by rw [tl]; exact j1), List.getElem_take]
       rw [show x3[j.toNat]'(by omega) = rd x3 j from (rd_lt j0 (by omega)).symm]
       by_cases q : j = p - 1
       · rw [q]; omega
       · have := asc_lt (pw_asc h3) (p - 1 - j - 1).toNat j (p - 1) j0 (by omega) (by omega)
         omega) hh
      refine ev_ifn e ?_
      simp only [Option.bind_some]
      refine ev_ifp (by omega) (ev_ifp (by omega) (ev_ifp (by simp only [List.length_nil]; omega) (ev_ifp (by omega) (ev_ifp (by simp only [List.length_append, List.length_nil, List.length_singleton]; omega) pt))))
theorem srt_l0 {l : List Int} (hl : l.length ≤ 1048576) (d : Nat) : ∀ (i : Int) (x3 : List Int), 0 ≤ i → i + d = l.length → pw x3 → (x3.length : Int) ≤ i → (∀ z, z ∈ x3 ↔ z ∈ l.take i.toNat) → Ev (fun k => spec_SortList.l0 k l x3 i) (srt l) := by
 induction d with
 | zero =>
  intro i x3 h0 h1 h3 h4 h5
  refine Ev.step (fun k => by rw [spec_SortList.l0]) (ev_ifn (by omega) (ev_to (Ev.now _) ?_))
  rw [show i.toNat = l.length from by omega, List.take_length] at h5
  exact pw_eq h3 (srt_pw l) fun z => by rw [h5, srt_mem]
 | succ d ih =>
  intro i x3 h0 h1 h3 h4 h5
  refine Ev.step (fun k => by rw [spec_SortList.l0]) (ev_ifp (by omega) (srt_l1 hl h0 (by omega) h3 h4 (fun y y1 y2 y3 => ih (i + 1) y (by omega) (by omega) y1 y2 fun z => ?_) x3.length x3.length rfl (Int.le_refl _) (fun z hz => by simp at hz)))
  rw [y3, h5, take_rd h0 (by omega), List.mem_append, List.mem_singleton]
theorem sortS_srt {l : List Int} (hl : l.length ≤ 1048576) : Ev (fun k => spec_SortList.f k l) (srt l) :=
 srt_l0 hl l.length 0 [] (by omega) (by omega) (by simp [pw]) (by simp) (fun z => by simp)
theorem Su.all {v u : List Int} (h : ∀ x ∈ u, Su v x) {n : Int} (k : Su u n) : Su v n := by
 obtain ⟨c, w⟩ := k
 induction w with
 | zero => exact Su.zero v
 | add hx _ ih => exact ih.add (h _ hx)
noncomputable def mnk (u : List Int) : Nat → List Int
 | 0 => []
 | i + 1 => if Su (u.take i) (rd u i) then mnk u i else mnk u i ++ [rd u i]
theorem mnk_yes {u : List Int} {i : Nat} (c : Su (u.take i) (rd u i)) : mnk u (i + 1) = mnk u i := if_pos c
theorem mnk_no {u : List Int} {i : Nat} (c : ¬ Su (u.take i) (rd u i)) : mnk u (i + 1) = mnk u i ++ [rd u i] := if_neg c
theorem su_nil {n : Int} (h : Su [] n) : n = 0 := by
 obtain ⟨c, w⟩ := h
 cases w with
 | zero => rfl
 | add hm _ => simp at hm
theorem mnk_len (u : List Int) (i : Nat) : (mnk u i).length ≤ i := by
 induction i with
 | zero => exact Nat.le_refl 0
 | succ i ih =>
  unfold mnk
  split
  · omega
  · rw [List.length_append, List.length_singleton]; omega
theorem mnk_mem {u : List Int} (i : Nat) : i ≤ u.length → ∀ x ∈ mnk u i, x ∈ u.take i := by
 induction i with
 | zero => intro _ x hx; exact absurd hx (by rw [show mnk u 0 = [] from rfl]; simp)
 | succ i ih =>
  intro hi x hx
  have tr := take_rd (l := u) (i := i) (by omega) (by omega)
  rw [show ((i : Int) + 1).toNat = i + 1 from by omega, show (i : Int).toNat = i from by omega] at tr
  rw [tr, List.mem_append, List.mem_singleton]
  unfold mnk at hx
  split at hx
  · exact .inl (ih (by omega) x hx)
  · rcases List.mem_append.1 hx with k | k
    · exact .inl (ih (by omega) x k)
    · exact .inr (List.mem_singleton.1 k)
theorem mnk_su {u : List Int} (i : Nat) : i ≤ u.length → ∀ n, Su (mnk u i) n ↔ Su (u.take i) n := by
 induction i with
 | zero => intro _ n; rw [List.take_zero]; exact Iff.rfl
 | succ i ih =>
  intro hi n
  have hm := mnk_mem (u := u) (i + 1) hi
  refine ⟨fun k => k.all fun x hx => Su.mem (hm x hx), fun k => k.all fun x hx => ?_⟩
  have tr := take_rd (l := u) (i := i) (by omega) (by omega)
  rw [show ((i : Int) + 1).toNat = i + 1 from by omega, show (i : Int).toNat = i from by omega] at tr
  rw [tr, List.mem_append, List.mem_singleton] at hx
  unfold mnk
  split
  · rename_i c
    rw [ih (by omega)]
    rcases hx with q | q
    · exact Su.mem q
    · rw [q]; exact c
  · rcases hx with q | q
    · exact ((ih (by omega) x).2 (Su.mem q)).mono fun y hy => List.mem_append_left _ hy
    · exact Su.mem (List.mem_append_right _ (List.mem_singleton.2 q))
theorem srt_ul {l : List Int} (h : UL l) : UL (srt l) := by
 have hl := h.1
 refine ⟨⟨?_, by have := srt_len l; omega⟩, fun x hx => h.2 x (srt_mem.1 hx)⟩
 have := List.length_pos_of_mem (srt_mem.2 h.first.1)
 omega
theorem min_mnk {u : List Int} (hu : UL u) (d : Nat) : ∀ i : Nat, i + d = u.length → Ev (fun k => spec_l3Minimal.l0 k (mnk u i) u i) (mnk u u.length) := by
 have hlen := hu.1
 induction d with
 | zero =>
  intro i hi
  rw [show i = u.length from by omega]
  exact Ev.step (fun k => by rw [spec_l3Minimal.l0]) (ev_ifn (by omega) (Ev.now _))
 | succ d ih =>
  intro i hi
  have nx := ih (i + 1) (by omega)
  have ml := mnk_len u i
  have hx := hu.2 _ (rd_mem (l := u) (i := (i : Int)) (by omega) (by omega))
  refine Ev.step (fun k => by rw [spec_l3Minimal.l0]) ?_
  rw [w64 (x := (i : Int) + 1) (by omega) (by omega)]
  rw [show (((i + 1 : Nat)) : Int) = (i : Int) + 1 from by omega] at nx
  by_cases c0 : (i : Int) = 0
  · have : i = 0 := by omega
    subst this
    rw [mnk_no (i := 0) (fun c => by rw [List.take_zero] at c; have := su_nil c; omega)] at nx
    exact ev_ifp (by omega) (ev_ifp c0 (ev_ifp (by omega) (ev_ifp (by omega) nx)))
  · have tl := take_len (v := u) (i := (i : Int)) (by omega) (by omega)
    obtain ⟨t, t1, t2, hE⟩ := tabS_ev (v := u.take (i : Int).toNat) (by omega) (take_ul hu.2 _) (most := rd u (i : Int)) (by omega) (by omega)
    have ht := t2 (rd u (i : Int)) (by omega) (Int.le_refl _)
    rw [show (i : Int).toNat = i from by omega] at ht hE
    rw [show (i : Int).toNat = i from by omega]
    by_cases c : Su (u.take i) (rd u (i : Int))
    · rw [mnk_yes c] at nx
      exact ev_ifp (by omega) (ev_ifn c0 (ev_ifp (by omega) (ev_ifp (by omega) (ev_bind _ hE (ev_ifp (by omega) (ev_ifp (by omega) (ev_ifp (ht.2 c) nx)))))))
    · rw [mnk_no c] at nx
      exact ev_ifp (by omega) (ev_ifn c0 (ev_ifp (by omega) (ev_ifp (by omega) (ev_bind _ hE (ev_ifp (by omega) (ev_ifp (by omega) (ev_ifn (fun h => c (ht.1 h)) (ev_ifp (by omega) nx))))))))
noncomputable def mns (l : List Int) : List Int := mnk (srt l) (srt l).length
theorem mns_len {l : List Int} : (mns l).length ≤ l.length := Nat.le_trans (mnk_len _ _) (srt_len l)
theorem mns_su {l : List Int} {n : Int} : Su (mns l) n ↔ Su l n := by
 unfold mns
 rw [mnk_su _ (Nat.le_refl _), List.take_length]
 exact ⟨fun h => h.mono fun x hx => srt_mem.1 hx, fun h => h.mono fun x hx => srt_mem.2 hx⟩
theorem l3Minimal_ev {l : List Int} (h : UL l) : Ev (fun k => spec_l3Minimal.f k l) (mns l) := by
 unfold spec_l3Minimal.f
 have := min_mnk (srt_ul h) (srt l).length 0 (by omega)
 exact ev_bind _ (sortS_srt (by have := h.1; omega)) this
def FN (l : List Int) : Prop := UL l ∧ SG (mns l)
noncomputable instance (l : List Int) : Decidable (FN l) := Classical.propDecidable _
noncomputable def fns (l : List Int) : List Int × Bool := if FN l then (mns l, true) else ([], false)
theorem fns_len (l : List Int) : (fns l).1.length ≤ 20 := by
 unfold fns
 split
 · rename_i h; have := h.1.1; have := mns_len (l := l); simp only; omega
 · simp
theorem fromGensS_ev {l : List Int} (hl : l.length ≤ 1099511627776) : Ev (fun k => spec_FromGens.f k l) (fns l) := by
 unfold spec_FromGens.f fns
 refine ev_bind _ (gensS_ev hl) ?_
 by_cases h : UL l
 · have ml := mns_len (l := l)
   refine ev_ifp (by simpa using h) (ev_bind _ (l3Minimal_ev h) (ev_bind _ (sgS_ev (by omega)) ?_))
   by_cases s : SG (mns l)
   · exact ev_ifp (by simpa using s) (ev_to (Ev.now _) (if_pos (show FN l from ⟨h, s⟩)).symm)
   · exact ev_ifn (by simpa using s) (ev_to (Ev.now _) (if_neg (show ¬ FN l from fun k => s k.2)).symm)
 · exact ev_ifn (by simpa using h) (ev_to (Ev.now _) (if_neg (show ¬ FN l from fun k => h k.1)).symm)
end Go.Proofs.Ytppkokbhgkeknaa.E
end
section
namespace Go.Proofs.Ytppkokbhgkeknaa.E
open Go.RowKit Go.Proofs.YtppkokbhgkeknaaW.PrintWords Go.Proofs.YtppkokbhgkeknaaW.PrintLast Go.Proofs.YtppkokbhgkeknaaW.PrintMore
set_option linter.unusedVariables false
set_option linter.unusedSimpArgs false
theorem cmp_l (d : Array Int) (hs : ∀ i j : Nat, i ≤ j → j < d.size → d[i]! ≤ d[j]!) (m : Nat) : m ≤ d.size → pw (Go.Lib.compactUpTo d m) ∧ (∀ z, z ∈ Go.Lib.compactUpTo d m ↔ ∃ j, j < m ∧ d[j]! = z) := by
 induction m with
 | zero => intro _; exact ⟨by simp [Go.Lib.compactUpTo, pw], fun z => by simp [Go.Lib.compactUpTo]⟩
 | succ m ih =>
  intro hm
  obtain ⟨h1, h2⟩ := ih (by omega)
  rw [Go.Lib.compactUpTo_succ]
  by_cases c : Go.Lib.keeps d m = true
  · rw [if_pos c]
    have k : m = 0 ∨ d[m]! ≠ d[m - 1]! := by unfold Go.Lib.keeps at c; simpa using c
    refine ⟨List.pairwise_append.2 ⟨h1, by simp, fun a ha b hb => ?_⟩, fun z => ?_⟩
    · rw [List.mem_singleton] at hb
      obtain ⟨j, j0, j1⟩ := (h2 a).1 ha
      have a1 := hs j (m - 1) (by omega) (by omega)
      have a2 := hs (m - 1) m (by omega) (by omega)
      rcases k with k | k
      · omega
      · rw [hb, ← j1]; omega
    · rw [List.mem_append, List.mem_singleton, h2]
      constructor
      · rintro (⟨j, j0, j1⟩ | e)
        · exact ⟨j, by omega, j1⟩
        · exact ⟨m, by omega, e.symm⟩
      · rintro ⟨j, j0, j1⟩
        by_cases e : j = m
        · right; rw [← j1, e]
        · exact .inl ⟨j, by omega, j1⟩
  · rw [if_neg c, List.append_nil]
    have k : m ≠ 0 ∧ d[m]! = d[m - 1]! := by
     unfold Go.Lib.keeps at c
     simp only [decide_eq_true_eq, not_or, Classical.not_not] at c
     exact c
    refine ⟨h1, fun z => ?_⟩
    rw [h2]
    constructor
    · rintro ⟨j, j0, j1⟩; exact ⟨j, by omega, j1⟩
    · rintro ⟨j, j0, j1⟩
      by_cases e : j = m
      · exact ⟨m - 1, by omega, by rw [← k.2, ← e]; exact j1⟩
      · exact ⟨j, by omega, j1⟩
theorem compact_srt (l : List Int) : Go.Lib.compact (l.mergeSort fun x y => decide (x ≤ y)) = srt l := by
 have sorted : (l.mergeSort fun x y => decide (x ≤ y)).Pairwise (fun x y => decide (x ≤ y) = true) := List.pairwise_mergeSort (fun a b c h k => by simp at *; omega) (fun a b => by simp; omega) l
 have perm := List.mergeSort_perm l (fun x y => decide (x ≤ y))
 generalize (l.mergeSort fun x y => decide (x ≤ y)) = s at sorted perm
 have get : ∀ i : Nat, ∀ h : i < s.length, s.toArray[i]! = s[i] := fun i h => by simp [h]
 obtain ⟨h1, h2⟩ := cmp_l s.toArray (fun i j hij hj => by
  have hj' : j < s.length := by simpa using hj
  rw [get i (by omega), get j hj']
  by_cases e : i = j
  · subst e; exact Int.le_refl _
  · have := List.pairwise_iff_getElem.1 sorted i j (by omega) hj' (by omega)
    simpa using this) s.length (by simp)
 refine pw_eq h1 (srt_pw l) fun z => ?_
 show z ∈ Go.Lib.compactUpTo s.toArray s.length ↔ _
 rw [h2, srt_mem, ← perm.mem_iff]
 constructor
 · rintro ⟨j, j0, j1⟩; rw [← j1, get j j0]; exact List.getElem_mem _
 · intro k
   obtain ⟨j, j0, j1⟩ := List.getElem_of_mem k
   exact ⟨j, j0, by rw [get j j0]; exact j1⟩
end Go.Proofs.Ytppkokbhgkeknaa.E
end
section
namespace Go.Proofs.Ytppkokbhgkeknaa.E
open Go.RowKit Go.Proofs.Ytppkokbhgkeknaa.PA Go.Proofs.YtppkokbhgkeknaaW.PrintWords Go.Proofs.YtppkokbhgkeknaaW.PrintLast Go.Proofs.YtppkokbhgkeknaaW.PrintMore
set_option linter.unusedVariables false
set_option linter.unusedSimpArgs false
theorem sortI_srt {l : List Int} (hl : l.length ≤ 1048576) : Ev (fun k => impl_SortList.f k l) (srt l) := by
 unfold impl_SortList.f
 exact ev_ifp (by omega) (ev_to (Ev.now _) (compact_srt l))
theorem mnk_pos {u : List Int} (hu : UL u) (i : Nat) : i + 1 ≤ u.length → 1 ≤ (mnk u (i + 1)).length := by
 induction i with
 | zero =>
  intro hi
  have hx := hu.2 _ (rd_mem (l := u) (i := ((0 : Nat) : Int)) (by omega) (by omega))
  rw [mnk_no (i := 0) (fun c => by rw [List.take_zero] at c; have := su_nil c; omega)]
  simp
 | succ i ih =>
  intro hi
  have := ih (by omega)
  rw [mnk]
  split
  · exact this
  · rw [List.length_append]; omega
theorem mnk_ul {u : List Int} (hu : UL u) {i : Nat} (h0 : 1 ≤ i) (hi : i ≤ u.length) : UL (mnk u i) := by
 obtain ⟨j, rfl⟩ : ∃ j, i = j + 1 := ⟨i - 1, by omega⟩
 have := mnk_pos hu j hi
 have := mnk_len u (j + 1)
 have := hu.1
 exact ⟨by omega, fun x hx => hu.2 x (List.mem_of_mem_take (mnk_mem _ hi x hx))⟩
theorem fgI_l {u : List Int} (hu : UL u) {r : List Int × Bool} (hr : Ev (fun k => (impl_IsSemigroup.f k (mnk u u.length)).bind fun t => if t = true then some (mnk u u.length, true) else some (([] : List Int), false)) r) (d : Nat) : ∀ i : Nat, i + d = u.length → Ev (fun k => impl_FromGens.l0 k u (u.length : Int) (i : Int) (mnk u i)) r := by
 have hlen := hu.1
 induction d with
 | zero =>
  intro i hi
  obtain rfl : i = u.length := by omega
  exact Ev.step (fun k => by rw [impl_FromGens.l0]) (ev_ifn (by omega) hr)
 | succ d ih =>
  intro i hi
  have nx := ih (i + 1) (by omega)
  have ml := mnk_len u i
  have hx := hu.2 _ (rd_mem (l := u) (i := (i : Int)) (by omega) (by omega))
  refine Ev.step (fun k => by rw [impl_FromGens.l0]) ?_
  rw [w64 (x := (i : Int) + 1) (by omega) (by omega)]
  rw [show (((i + 1 : Nat)) : Int) = (i : Int) + 1 from by omega] at nx
  by_cases c0 : i = 0
  · subst c0
    rw [mnk_no (i := 0) (fun c => by rw [List.take_zero] at c; have := su_nil c; omega)] at nx
    exact ev_ifp (by omega) (ev_ifp (by omega) (ev_ifp (by omega) (ev_ifp (by simp [mnk]) (ev_ifp (by omega) nx))))
  · have ul := mnk_ul hu (i := i) (by omega) (by omega)
    have g : Gen (mnk u i) (rd u (i : Int)) ↔ Su (u.take i) (rd u (i : Int)) := by
     rw [← mnk_su i (by omega)]
     exact ⟨fun h => h.2.2, fun h => ⟨ul, by omega, h⟩⟩
    have len := ul.1
    by_cases c : Su (u.take i) (rd u (i : Int))
    · rw [mnk_yes c] at nx
      exact ev_ifp (by omega) (ev_ifp (by omega) (ev_ifp (by omega) (ev_ifn (by omega) (ev_bind _ (genI_ev _ (by omega)) (ev_ifp (by simpa using g.2 c) nx)))))
    · rw [mnk_no c] at nx
      exact ev_ifp (by omega) (ev_ifp (by omega) (ev_ifp (by omega) (ev_ifn (by omega) (ev_bind _ (genI_ev _ (by omega)) (ev_ifn (by simpa using fun h => c (g.1 h)) (ev_ifp (by omega) nx))))))
theorem fromGensI_ev {l : List Int} (hl : l.length ≤ 1099511627776) : Ev (fun k => impl_FromGens.f k l) (fns l) := by
 unfold impl_FromGens.f fns
 refine ev_bind _ (usableI_ev hl) ?_
 by_cases h : UL l
 · have ml := mns_len (l := l)
   have ll := h.1
   refine ev_ifp (by simpa using h) (ev_bind _ (sortI_srt (by omega)) ?_)
   refine fgI_l (srt_ul h) ?_ (srt l).length 0 (by omega)
   refine ev_bind _ (sgI_ev (v := mns l) (by omega)) ?_
   by_cases s : SG (mns l)
   · exact ev_ifp (by simpa using s) (ev_to (Ev.now _) (if_pos (show FN l from ⟨h, s⟩)).symm)
   · exact ev_ifn (by simpa using s) (ev_to (Ev.now _) (if_neg (show ¬ FN l from fun k => s k.2)).symm)
 · exact ev_ifn (by simpa using h) (ev_to (Ev.now _) (if_neg (show ¬ FN l from fun k => h k.1)).symm)
theorem rd_drop1 {v : List Int} {i : Int} (h : 0 ≤ i) : rd (v.drop 1) i = rd v (i + 1) := by
 unfold rd
 rw [List.getD_eq_getElem?_getD, List.getD_eq_getElem?_getD, List.getElem?_drop, show (i + 1).toNat = 1 + i.toNat from by omega]
def blt (v : List Int) (i : Nat) : List Int := [rd v 0] ++ ((v.drop 1).take i).map fun x => wrap64 (x - rd v 0)
theorem blt_step {v : List Int} {i : Nat} (h : i + 1 < v.length) : blt v (i + 1) = blt v i ++ [wrap64 (rd (v.drop 1) (i : Int) - rd v 0)] := by
 have t := take_rd (l := v.drop 1) (i := (i : Int)) (by omega) (by rw [List.length_drop]; omega)
 rw [show ((i : Int) + 1).toNat = i + 1 from by omega, show (i : Int).toNat = i from by omega] at t
 unfold blt
 rw [t, List.map_append, List.append_assoc]
 rfl
theorem blt_len {v : List Int} (i : Nat) : (blt v i).length ≤ i + 1 := by
 unfold blt
 rw [List.length_append, List.length_map, List.length_take, List.length_singleton]; omega
def bls (v : List Int) : List Int := blt v (v.length - 1)
noncomputable def bup (v : List Int) : List Int × Bool := if SG v then fns (bls v) else ([], false)
theorem bup_len (v : List Int) : (bup v).1.length ≤ 20 := by
 unfold bup
 split
 · exact fns_len _
 · simp
theorem buI_l {v : List Int} (hl : v.length ≤ 12) (h1 : 1 ≤ v.length) (d : Nat) : ∀ i : Nat, i + d + 1 = v.length → Ev (fun k => impl_BlowUp.l0 k (blt v i) (v.drop 1) ((v.drop 1).length : Int) (i : Int) v) (fns (bls v)) := by
 have dl : (v.drop 1).length = v.length - 1 := List.length_drop ..
 have bl := blt_len (v := v) (v.length - 1)
 induction d with
 | zero =>
  intro i hi
  refine Ev.step (fun k => by rw [impl_BlowUp.l0]) (ev_ifn (by omega) ?_)
  rw [show i = v.length - 1 from by omega]
  exact ev_bind _ (fromGensI_ev (l := bls v) (by unfold bls; omega)) (Ev.now _)
 | succ d ih =>
  intro i hi
  have nx := ih (i + 1) (by omega)
  have b := blt_len (v := v) i
  rw [blt_step (by omega), show (((i + 1 : Nat)) : Int) = (i : Int) + 1 from by omega] at nx
  refine Ev.step (fun k => by rw [impl_BlowUp.l0]) ?_
  rw [w64 (x := (i : Int) + 1) (by omega) (by omega)]
  exact ev_ifp (by omega) (ev_ifp (by omega) (ev_ifp (by omega) (ev_ifp (by omega) (ev_ifp (by omega) nx))))
theorem buS_l {v : List Int} (hl : v.length ≤ 12) (h1 : 1 ≤ v.length) (d : Nat) : ∀ i : Nat, i + d + 1 = v.length → Ev (fun k => spec_BlowUp.l0 k (blt v i) ((i : Int) + 1) v) (fns (bls v)) := by
 have bl := blt_len (v := v) (v.length - 1)
 induction d with
 | zero =>
  intro i hi
  refine Ev.step (fun k => by rw [spec_BlowUp.l0]) (ev_ifn (by omega) ?_)
  rw [show i = v.length - 1 from by omega]
  exact ev_bind _ (fromGensS_ev (l := bls v) (by unfold bls; omega)) (Ev.now _)
 | succ d ih =>
  intro i hi
  have nx := ih (i + 1) (by omega)
  have b := blt_len (v := v) i
  rw [blt_step (by omega), rd_drop1 (by omega), show (((i + 1 : Nat)) : Int) = (i : Int) + 1 from by omega] at nx
  refine Ev.step (fun k => by rw [spec_BlowUp.l0]) ?_
  rw [w64 (x := (i : Int) + 1 + 1) (by omega) (by omega)]
  exact ev_ifp (by omega) (ev_ifp (by omega) (ev_ifp (by omega) (ev_ifp (by omega) nx)))
theorem blt_zero (v : List Int) : blt v 0 = [rd v 0] := by unfold blt; simp
theorem buI_ev {v : List Int} (hl : v.length ≤ 1099511627776) : Ev (fun k => impl_BlowUp.f k v) (bup v) := by
 unfold impl_BlowUp.f bup
 refine ev_bind _ (sgI_ev hl) ?_
 by_cases c : SG v
 · have l := c.len
   have u := c.ul.1
   have := buI_l (v := v) (by omega) (by omega) (v.length - 1) 0 (by omega)
   rw [blt_zero] at this
   rw [if_pos c]
   exact ev_ifp (by simpa using c) (ev_ifp (by omega) (ev_ifp (by omega) this))
 · rw [if_neg c]; exact ev_ifn (by simpa using c) (Ev.now _)
theorem buS_ev {v : List Int} (hl : v.length ≤ 1099511627776) : Ev (fun k => spec_BlowUp.f k v) (bup v) := by
 unfold spec_BlowUp.f bup
 refine ev_bind _ (sgS_ev hl) ?_
 by_cases c : SG v
 · have l := c.len
   have u := c.ul.1
   have := buS_l (v := v) (by omega) (by omega) (v.length - 1) 0 (by omega)
   rw [blt_zero] at this
   rw [if_pos c]
   exact ev_ifp (by simpa using c) (ev_ifp (by omega) this)
 · rw [if_neg c]; exact ev_ifn (by simpa using c) (Ev.now _)
theorem fl_le {p q : Int → Bool} (h : ∀ n, q n = true → p n = true) (d : Nat) : ∀ i : Int, (fl q i d).length ≤ (fl p i d).length := by
 induction d with
 | zero => intro i; simp [fl]
 | succ d ih =>
  intro i
  have := ih (i + 1)
  by_cases c : q i = true
  · rw [fl_yes c, fl_yes (h i c), List.length_cons, List.length_cons]; omega
  · rw [fl_no c]
    by_cases e : p i = true
    · rw [fl_yes e, List.length_cons]; omega
    · rw [fl_no e]; exact this
theorem fl_lt {p q : Int → Bool} (h : ∀ n, q n = true → p n = true) {w : Int} (hp : p w = true) (hq : ¬ q w = true) (d : Nat) : ∀ i : Int, i ≤ w → w < i + d → (fl q i d).length < (fl p i d).length := by
 induction d with
 | zero => intro i h0 h1; omega
 | succ d ih =>
  intro i h0 h1
  by_cases e : i = w
  · subst e
    have := fl_le h d (i + 1)
    rw [fl_no hq, fl_yes hp, List.length_cons]; omega
  · have := ih (i + 1) (by omega) (by omega)
    by_cases c : q i = true
    · rw [fl_yes c, fl_yes (h i c), List.length_cons, List.length_cons]; omega
    · rw [fl_no c]
      by_cases e : p i = true
      · rw [fl_yes e, List.length_cons]; omega
      · rw [fl_no e]; exact this
theorem Su.low {v : List Int} (hv : ∀ x ∈ v, 1 ≤ x) {n : Int} (h : Su v n) : Su (v.filter fun x => decide (x ≤ n)) n := by
 obtain ⟨c, w⟩ := h
 have key : ∀ {k c : Int}, Way v k c → ∀ m : Int, k ≤ m → 0 ≤ k ∧ Su (v.filter fun x => decide (x ≤ m)) k := by
  intro k c w
  induction w with
  | zero => intro m _; exact ⟨Int.le_refl 0, Su.zero _⟩
  | @add x k c hx _ ih =>
   intro m hm
   have px := hv x hx
   obtain ⟨i0, i1⟩ := ih m (by omega)
   exact ⟨by omega, i1.add (Su.mem (List.mem_filter.2 ⟨hx, by simp; omega⟩))⟩
 exact (key w n (Int.le_refl n)).2
theorem bls_head (v : List Int) : rd v 0 ∈ bls v := by unfold bls blt; simp
theorem bls_more {v : List Int} (h : UL v) {x : Int} (hx : x ∈ v.drop 1) : x - rd v 0 ∈ bls v := by
 have a := h.2 x (List.mem_of_mem_drop hx)
 have b := h.2 _ (rd_mem (l := v) (i := 0) (by omega) (by have := h.1; omega))
 unfold bls blt
 refine List.mem_append_right _ (List.mem_map.2 ⟨x, ?_, w64 (by omega) (by omega)⟩)
 rwa [List.take_of_length_le (by rw [List.length_drop]; omega)]
theorem bls_su {v : List Int} (h : UL v) {n : Int} (k : Su v n) : Su (bls v) n := by
 refine k.all fun x hx => ?_
 have hd := Su.mem (bls_head v)
 have l := h.1
 rw [← List.take_append_drop 1 v] at hx
 rcases List.mem_append.1 hx with q | q
 · have t := take_rd (l := v) (i := 0) (by omega) (by omega)
   rw [show ((0 : Int) + 1).toNat = 1 from rfl, show (0 : Int).toNat = 0 from rfl, List.take_zero, List.nil_append] at t
   rw [t, List.mem_singleton] at q
   rw [q]; exact hd
 · have := (Su.mem (bls_more h q)).add hd
   rwa [show x - rd v 0 + rd v 0 = x from by omega] at this
theorem gaps_fall {v : List Int} (h : SG v) (hm : rd v 0 ≠ 1) (f : FN (bls v)) : (gp (mns (bls v))).length < (gp v).length := by
 obtain ⟨f1, f2, f3⟩ := h.ul.first
 have l := h.ul.1
 have two : 2 ≤ v.length := by
  by_cases c : 2 ≤ v.length
  · exact c
  · exfalso
    have e : v = [rd v 0] := rd_ext (by simp; omega) (fun i h0 h1 => by rw [show i = 0 from by omega]; rfl)
    have d : ∀ x ∈ v, rd v 0 ∣ x := fun x hx => by
     rw [e, List.mem_singleton] at hx
     rw [hx]; exact Int.dvd_refl _
    have d1 := (h.ends 200 (by omega)).dvd d
    have d2 := (h.ends 201 (by omega)).dvd d
    have d3 := Int.dvd_sub d2 d1
    have := Int.le_of_dvd (by omega) d3
    omega
 have asc := h.asc 1 (by omega) (by omega)
 rw [show (1 : Int) - 1 = 0 from rfl] at asc
 have m1 := rd_mem (l := v) (i := 1) (by omega) (by omega)
 have b1 := h.ul.2 _ m1
 have inb : rd v 1 - rd v 0 ∈ bls v := bls_more h.ul (by
  have := drop_rd (l := v) (i := 1) (by omega) (by omega)
  rw [show (1 : Int).toNat = 1 from rfl] at this
  rw [this]; exact List.mem_cons_self ..)
 have no : ¬ Su v (rd v 1 - rd v 0) := fun k => by
  have lo := k.low h.pos
  refine h.min 1 (by omega) (by omega) ?_
  rw [show (1 : Int).toNat = 1 from rfl]
  have t := take_rd (l := v) (i := 0) (by omega) (by omega)
  rw [show ((0 : Int) + 1).toNat = 1 from rfl, show (0 : Int).toNat = 0 from rfl, List.take_zero, List.nil_append] at t
  rw [t]
  have s := lo.mono (u := [rd v 0]) fun x hx => by
   obtain ⟨hx1, hx2⟩ := List.mem_filter.1 hx
   have hx2 : x ≤ rd v 1 - rd v 0 := by simpa using hx2
   obtain ⟨i, i0, i1, rfl⟩ := mem_rd hx1
   by_cases c : i = 0
   · rw [c]; exact List.mem_singleton.2 rfl
   · by_cases e : i = 1
     · subst e; omega
     · have := asc_lt h.asc (i - 2).toNat 1 i (by omega) (by omega) i1
       omega
  have := s.add (Su.mem (v := [rd v 0]) (x := rd v 0) (by simp))
  rwa [show rd v 1 - rd v 0 + rd v 0 = rd v 1 from by omega] at this
 unfold gp
 refine fl_lt (w := rd v 1 - rd v 0) (fun n hn => ?_) (isgap_t.2 no) (fun k => isgap_t.1 k (mns_su.2 (Su.mem inb))) 199 1 (by omega) (by omega)
 rw [isgap_t] at hn ⊢
 exact fun k => hn (mns_su.2 (bls_su h.ul k))
end Go.Proofs.Ytppkokbhgkeknaa.E
end
section
namespace Go.Proofs.Ytppkokbhgkeknaa.E
open Go.RowKit Go.Proofs.YtppkokbhgkeknaaW.PrintWords Go.Proofs.YtppkokbhgkeknaaW.PrintLast Go.Proofs.YtppkokbhgkeknaaW.PrintMore
set_option linter.unusedVariables false
set_option linter.unusedSimpArgs false
def ArfU (A : Int → Prop) : Prop := ∀ a b c, A a → A b → A c → c ≤ a → c ≤ b → A (a + b - c)
theorem head_least {v : List Int} (h : SG v) : ∀ x ∈ v, rd v 0 ≤ x := fun x hx => by
 obtain ⟨i, i0, i1, rfl⟩ := mem_rd hx
 by_cases c : i = 0
 · rw [c]; exact Int.le_refl _
 · have := asc_lt h.asc (i - 1).toNat 0 i (by omega) (by omega) i1
   omega
theorem su_least {v : List Int} (h : SG v) {n : Int} (k : Su v n) (hn : n ≠ 0) : rd v 0 ≤ n := by
 obtain ⟨x, hx, w⟩ := (Su.last hn).1 k
 have := head_least h x hx
 have := w.pos h.pos
 omega
theorem bls_arf {v : List Int} (h : SG v) (ha : ArfU (Su v)) (t : Int) : Su (bls v) t ↔ 0 ≤ t ∧ Su v (t + rd v 0) := by
 obtain ⟨f1, f2, f3⟩ := h.ul.first
 have l := h.ul.1
 have hd := Su.mem f1
 constructor
 · rintro ⟨c, w⟩
   induction w with
   | zero => exact ⟨Int.le_refl 0, by simpa using hd⟩
   | @add y k c hy _ ih =>
    obtain ⟨k0, k1⟩ := ih
    unfold bls blt at hy
    rcases List.mem_append.1 hy with m | m
    · rw [List.mem_singleton] at m
      subst m
      refine ⟨by omega, ?_⟩
      have := k1.add hd
      rwa [show k + rd v 0 + rd v 0 = k + rd v 0 + rd v 0 from rfl]
    · obtain ⟨g, hg, rfl⟩ := List.mem_map.1 m
      have gm : g ∈ v := List.mem_of_mem_drop (List.mem_of_mem_take hg)
      have gb := h.ul.2 g gm
      have gl := head_least h g gm
      rw [w64 (x := g - rd v 0) (by omega) (by omega)]
      refine ⟨by omega, ?_⟩
      have := ha (k + rd v 0) g (rd v 0) k1 (Su.mem gm) hd (by omega) gl
      rwa [show k + (g - rd v 0) + rd v 0 = k + rd v 0 + g - rd v 0 from by omega]
 · rintro ⟨t0, k⟩
   obtain ⟨x, hx, w⟩ := (Su.last (by omega)).1 k
   have hx' := hx
   rw [← List.take_append_drop 1 v] at hx
   rcases List.mem_append.1 hx with q | q
   · have tk := take_rd (l := v) (i := 0) (by omega) (by omega)
     rw [show ((0 : Int) + 1).toNat = 1 from rfl, show (0 : Int).toNat = 0 from rfl, List.take_zero, List.nil_append] at tk
     rw [tk, List.mem_singleton] at q
     rw [q, show t + rd v 0 - rd v 0 = t from by omega] at w
     exact bls_su h.ul w
   · have := (bls_su h.ul w).add (Su.mem (bls_more h.ul q))
     rwa [show t + rd v 0 - x + (x - rd v 0) = t from by omega] at this
theorem bls_arfU {v : List Int} (h : SG v) (ha : ArfU (Su v)) : ArfU (Su (bls v)) := by
 intro a b c ka kb kc ca cb
 rw [bls_arf h ha] at ka kb kc ⊢
 refine ⟨by omega, ?_⟩
 have := ha _ _ _ ka.2 kb.2 kc.2 (by omega) (by omega)
 rwa [show a + b - c + rd v 0 = a + rd v 0 + (b + rd v 0) - (c + rd v 0) from by omega]
def Nth (v : List Int) (k : Nat) (n : Int) : Prop := 0 ≤ n ∧ Su v n ∧ (fl (fun n => decide (Su v n)) 0 n.toNat).length = k
theorem fl_same {p q : Int → Bool} {m : Int} (h : ∀ i, 0 ≤ i → p (m + i) = q i) (d : Nat) : ∀ i : Int, 0 ≤ i → (fl p (m + i) d).length = (fl q i d).length := by
 induction d with
 | zero => intro i _; rfl
 | succ d ih =>
  intro i h0
  have := ih (i + 1) (by omega)
  rw [← Int.add_assoc] at this
  by_cases c : q i = true
  · rw [fl_yes c, fl_yes (by rw [h i h0]; exact c), List.length_cons, List.length_cons, this]
  · rw [fl_no c, fl_no (by rw [h i h0]; exact c), this]
theorem fl_nil {p : Int → Bool} (d : Nat) : ∀ i : Int, (∀ n, i ≤ n → n < i + d → ¬ p n = true) → fl p i d = [] := by
 induction d with
 | zero => intro i _; rfl
 | succ d ih => intro i h; rw [fl_no (h i (Int.le_refl _) (by omega))]; exact ih (i + 1) fun n hn hn' => h n (by omega) (by omega)
theorem nth_zero (v : List Int) : Nth v 0 0 := ⟨Int.le_refl 0, Su.zero v, rfl⟩
theorem nth_up {v u : List Int} (h : SG v) (ha : ArfU (Su v)) (hu : ∀ n, Su u n ↔ Su (bls v) n) {k : Nat} {n : Int} (hn : Nth u k n) : Nth v (k + 1) (rd v 0 + n) := by
 obtain ⟨f1, f2, f3⟩ := h.ul.first
 obtain ⟨n0, n1, n2⟩ := hn
 refine ⟨by omega, ?_, ?_⟩
 · have := ((bls_arf h ha n).1 ((hu n).1 n1)).2
   rwa [Int.add_comm] at this
 · rw [show (rd v 0 + n).toNat = 1 + ((rd v 0 - 1).toNat + n.toNat) from by omega, fl_app, fl_app, List.length_append, List.length_append]
   have a : (fl (fun n => decide (Su v n)) 0 1).length = 1 := by
    rw [fl_yes (by simpa using Su.zero v)]; rfl
   have b : fl (fun n => decide (Su v n)) (0 + ((1 : Nat) : Int)) (rd v 0 - 1).toNat = [] := fl_nil _ _ fun z hz hz' => by
    rw [decide_eq_true_eq]
    intro s
    have := su_least h s (by omega)
    omega
   have c := fl_same (p := fun n => decide (Su v n)) (q := fun n => decide (Su u n)) (m := rd v 0) (fun i i0 => by
    rw [decide_eq_decide, hu, bls_arf h ha, Int.add_comm i]
    exact ⟨fun s => ⟨i0, s⟩, fun s => s.2⟩) n.toNat 0 (Int.le_refl 0)
   rw [a, b, show 0 + ((1 : Nat) : Int) + ((rd v 0 - 1).toNat : Int) = rd v 0 + 0 from by omega, c, n2]
   simp
   omega
def psum : Nat → List Int → Int
 | 0, _ => 0
 | k + 1, l => rd l 0 + psum k (l.drop 1)
end Go.Proofs.Ytppkokbhgkeknaa.E
end
section
namespace Go.Proofs.Ytppkokbhgkeknaa.E
open Go.RowKit Go.Proofs.Ytppkokbhgkeknaa.PA Go.Proofs.YtppkokbhgkeknaaW.PrintWords Go.Proofs.YtppkokbhgkeknaaW.PrintLast Go.Proofs.YtppkokbhgkeknaaW.PrintMore
set_option linter.unusedVariables false
set_option linter.unusedSimpArgs false
theorem gapsS_gps {v : List Int} (hl : v.length ≤ 1099511627776) : Ev (fun k => spec_Gaps.f k v) (gps v) := by
 unfold spec_Gaps.f
 refine ev_bind _ (sgS_ev hl) ?_
 by_cases c : SG v
 · rw [gps_sg c]; exact ev_ifp (by simpa using c) (ev_bind _ (l4Gaps_ev c) (Ev.now _))
 · rw [gps_no c]; exact ev_ifn (by simpa using c) (Ev.now _)
theorem frI_ev {v : List Int} (hl : v.length ≤ 1099511627776) : Ev (fun k => impl_FrobeniusOf.f k v) (fob v) := by
 have g := gps_len v
 unfold impl_FrobeniusOf.f fob
 refine ev_bind _ (gapsI_gps hl) ?_
 by_cases c : (gps v).length = 0
 · rw [if_pos c]; exact ev_ifp (by omega) (Ev.now _)
 · rw [if_neg c, w64 (x := ((gps v).length : Int) - 1) (by omega) (by omega)]
   exact ev_ifn (by omega) (ev_ifp (by omega) (ev_ifp (by omega) (Ev.now _)))
theorem frS_ev {v : List Int} (hl : v.length ≤ 1099511627776) : Ev (fun k => spec_FrobeniusOf.f k v) (fob v) := by
 have g := gps_len v
 unfold spec_FrobeniusOf.f fob
 refine ev_bind _ (gapsS_gps hl) ?_
 by_cases c : (gps v).length = 0
 · rw [if_pos c]; exact ev_ifp (by omega) (Ev.now _)
 · rw [if_neg c, w64 (x := ((gps v).length : Int) - 1) (by omega) (by omega)]
   exact ev_ifn (by omega) (ev_ifp (by omega) (ev_ifp (by omega) (Ev.now _)))
theorem fob_small (v : List Int) : -1 ≤ fob v ∧ fob v ≤ 199 := by
 by_cases c : SG v
 · have := cd_fact c; unfold cd at this; omega
 · rw [fob_none (gps_no c)]; omega
theorem cdI_ev {v : List Int} (hl : v.length ≤ 1099511627776) : Ev (fun k => impl_ConductorOf.f k v) (cd v) := by
 have := fob_small v
 unfold impl_ConductorOf.f cd
 refine ev_bind _ (frI_ev hl) ?_
 rw [w64 (by omega) (by omega)]; exact Ev.now _
theorem cdS_ev {v : List Int} (hl : v.length ≤ 1099511627776) : Ev (fun k => spec_ConductorOf.f k v) (cd v) := by
 have := fob_small v
 unfold spec_ConductorOf.f cd
 refine ev_bind _ (frS_ev hl) ?_
 rw [w64 (by omega) (by omega)]; exact Ev.now _
def CS (t0 : List Bool) (N x y z : Int) : Prop := ∀ a b e : Int, 0 ≤ e → e ≤ b → b ≤ a → a < N → (a < x ∨ (a = x ∧ (b < y ∨ (b = y ∧ e < z)))) → rdOf false t0 a = true → rdOf false t0 b = true → rdOf false t0 e = true → a + b - e < N → rdOf false t0 (a + b - e) = true
theorem acS_l4 {v : List Int} {c : Int} {t0 : List Bool} {r : List Int × Bool} (c0 : 0 ≤ c) (hc : c ≤ 200) {x y : Int} (y0 : 0 ≤ y) (hy : y ≤ x) (hx : x < c) (N : ∀ t s, RS v (c + 1) c t0 (CS t0 c x (y + 1) 0) t s → Ev (fun k => spec_ArfClosure.l3 k c t s x (y + 1)) r) (d : Nat) : ∀ (z : Int) t s, 0 ≤ z → z + d = y + 1 → rdOf false t x = true → RS v (c + 1) c t0 (CS t0 c x y z) t s → Ev (fun k => spec_ArfClosure.l4 k c t s x y z) r := by
 induction d with
 | zero =>
  intro z t s z0 hz tx h
  refine Ev.step (fun k => by rw [spec_ArfClosure.l4]) (ev_ifn (by omega) (Ev.step (fun k => by rw [spec_ArfClosure.j6]) ?_))
  rw [w64 (x := y + 1) (by omega) (by omega)]
  exact ev_ifn (by simp) (N t s (h.keep fun _ p a b e e0 e1 e2 e3 e4 => p a b e e0 e1 e2 e3 (by omega)))
 | succ d ih =>
  intro z t s z0 hz tx h
  have hl := h.1.1
  refine Ev.step (fun k => by rw [spec_ArfClosure.l4]) (ev_ifp (by omega) (ev_ifp (by omega) (ev_ifp (by omega) (Ev.step (fun k => by rw [spec_ArfClosure.j6]) ?_))))
  rw [w64 (x := y + 1) (by omega) (by omega), w64 (x := z + 1) (by omega) (by omega), w64 (x := x + y) (by omega) (by omega), w64 (x := x + y - z) (by omega) (by omega)]
  by_cases ty : rdOf false t y = true
  · refine ev_ifp ty (ev_ifp (by omega) (ev_ifp (by omega) ?_))
    have ext : t = t0 → CS t0 c x y z → (rdOf false t z = true → x + y - z < c → rdOf false t (x + y - z) = true) → CS t0 c x y (z + 1) := by
     intro q p f a b e e0 e1 e2 e3 e4 ta tb te e5
     by_cases g : a = x ∧ b = y ∧ e = z
     · obtain ⟨rfl, rfl, rfl⟩ := g; rw [q] at f; exact f te e5
     · exact p a b e e0 e1 e2 e3 (by clear ih N h p f hl; omega) ta tb te e5
    by_cases tz : rdOf false t z = true
    · refine ev_ifp tz ?_
      by_cases g : x + y - z < c
      · refine ev_ifp g (ev_ifp (by omega) (ev_ifp (by omega) ?_))
        by_cases u : rdOf false t (x + y - z) = true
        · exact ev_ifp u (ih (z + 1) t s (by omega) (by omega) tx (h.keep fun q p => ext q p fun _ _ => u))
        · refine ev_ifn u (ih (z + 1) _ _ (by omega) (by omega) ?_ (h.put (by omega) (by omega) g u (.step (h.1.2.2 x (by omega) hx tx) (h.1.2.2 y y0 (by omega) ty) (h.1.2.2 z z0 (by omega) tz) (by omega) hy)))
          rw [rdb_set _ (by omega) (by omega) (by omega)]
          by_cases g' : x = x + y - z
          · rw [if_pos g']
          · rw [if_neg g']; exact tx
      · exact ev_ifn g (ih (z + 1) t s (by omega) (by omega) tx (h.keep fun q p => ext q p fun _ k => absurd k g))
    · exact ev_ifn tz (ih (z + 1) t s (by omega) (by omega) tx (h.keep fun q p => ext q p fun k => absurd k tz))
  · exact ev_ifn ty (N t s (h.keep fun q p a b e e0 e1 e2 e3 e4 ta tb te e5 => by
     by_cases g : a = x ∧ b = y
     · rw [g.2, ← q] at tb; exact absurd tb ty
     · exact p a b e e0 e1 e2 e3 (by clear ih N h p hl; omega) ta tb te e5))
theorem acS_l3 {v : List Int} {c : Int} {t0 : List Bool} {r : List Int × Bool} (c0 : 0 ≤ c) (hc : c ≤ 200) {x : Int} (x0 : 0 ≤ x) (hx : x < c) (N : ∀ t s, RS v (c + 1) c t0 (CS t0 c (x + 1) 0 0) t s → Ev (fun k => spec_ArfClosure.l2 k c t s (x + 1)) r) (d : Nat) : ∀ (y : Int) t s, 0 ≤ y → y + d = x + 1 → RS v (c + 1) c t0 (CS t0 c x y 0) t s → Ev (fun k => spec_ArfClosure.l3 k c t s x y) r := by
 induction d with
 | zero =>
  intro y t s y0 hy h
  refine Ev.step (fun k => by rw [spec_ArfClosure.l3]) (ev_ifn (by omega) (Ev.step (fun k => by rw [spec_ArfClosure.j4]) ?_))
  rw [w64 (x := x + 1) (by omega) (by omega)]
  exact ev_ifn (by simp) (N t s (h.keep fun _ p a b e e0 e1 e2 e3 e4 => p a b e e0 e1 e2 e3 (by omega)))
 | succ d ih =>
  intro y t s y0 hy h
  have hl := h.1.1
  refine Ev.step (fun k => by rw [spec_ArfClosure.l3]) (ev_ifp (by omega) (ev_ifp (by omega) (ev_ifp (by omega) (Ev.step (fun k => by rw [spec_ArfClosure.j4]) ?_))))
  rw [w64 (x := x + 1) (by omega) (by omega)]
  by_cases tx : rdOf false t x = true
  · exact ev_ifp tx (acS_l4 c0 hc y0 (by omega) hx (fun t s => ih (y + 1) t s (by omega) (by omega)) (y + 1).toNat 0 t s (Int.le_refl _) (by omega) tx h)
  · exact ev_ifn tx (N t s (h.keep fun q p a b e e0 e1 e2 e3 e4 ta tb te e5 => by
     by_cases g : a = x
     · rw [g, ← q] at ta; exact absurd ta tx
     · exact p a b e e0 e1 e2 e3 (by clear ih N h p hl; omega) ta tb te e5))
theorem acS_l2 {v : List Int} {c : Int} {t0 : List Bool} {r : List Int × Bool} (c0 : 0 ≤ c) (hc : c ≤ 200) (N : ∀ t s, RS v (c + 1) c t0 (CS t0 c c 0 0) t s → Ev (fun k => spec_ArfClosure.l1 k c t s) r) (d : Nat) : ∀ (x : Int) t s, 0 ≤ x → x + d = c → RS v (c + 1) c t0 (CS t0 c x 0 0) t s → Ev (fun k => spec_ArfClosure.l2 k c t s x) r := by
 induction d with
 | zero =>
  intro x t s x0 hx h
  rw [show x = c from by omega] at h
  exact Ev.step (fun k => by rw [spec_ArfClosure.l2]) (ev_ifn (by omega) (N t s h))
 | succ d ih =>
  intro x t s x0 hx h
  exact Ev.step (fun k => by rw [spec_ArfClosure.l2]) (ev_ifp (by omega) (acS_l3 c0 hc x0 (by omega) (fun t s => ih (x + 1) t s (by omega) (by omega)) (x + 1).toNat 0 t s (Int.le_refl _) (by omega) h))
theorem isac_low {v : List Int} {c : Int} (c0 : 0 ≤ c) (hc : c ≤ 200) (up : ∀ n, c ≤ n → Su v n) (hv : AC v 0) : fl (isac v) 0 201 = fl (isac v) 1 (c - 1).toNat := by
 change fl (isac v) 0 (200 + 1) = _
 rw [fl_no (fun k => isac_t.1 k hv)]
 change fl (isac v) 1 200 = _
 have b := fl_app (isac v) (c - 1).toNat (200 - (c - 1).toNat) 1
 rw [show (c - 1).toNat + (200 - (c - 1).toNat) = 200 from by omega] at b
 rw [b, fl_none (200 - (c - 1).toNat) _ (fun x h1 h2 k => isac_t.1 k (.base (up x (by omega)))), List.append_nil]
theorem acS_l5 {v : List Int} {c : Int} {t : List Bool} (c0 : 0 ≤ c) (hc : c ≤ 200) (hl : (t.length : Int) = c + 1) (up : ∀ n, c ≤ n → Su v n) (hd : ∀ n, 0 ≤ n → n < c → (rdOf false t n = true ↔ AC v n)) (d : Nat) : ∀ i : Nat, (i : Int) + 1 + d = max 1 c → Ev (fun k => spec_ArfClosure.l5 k c t (fl (isac v) 1 i) ((i : Int) + 1)) (acr v) := by
 induction d with
 | zero =>
  intro i hi
  have fll := fl_len (isac v) i 1
  have z := isac_low c0 hc up (.base (Su.zero v))
  rw [show (c - 1).toNat = i from by omega] at z
  refine Ev.step (fun k => by rw [spec_ArfClosure.l5]) (ev_ifn (by omega) (ev_bind _ (fromGapsS_ev (by omega)) (ev_to (Ev.now _) ?_)))
  unfold acr
  rw [z]
 | succ d ih =>
  intro i hi
  have fll := fl_len (isac v) i 1
  have nx := ih (i + 1) (by omega)
  have hi' := hd ((i : Int) + 1) (by omega) (by omega)
  rw [show (((i + 1 : Nat)) : Int) + 1 = (i : Int) + 1 + 1 from by omega, fl_app (isac v) i 1 1, show (1 : Int) + (i : Int) = (i : Int) + 1 from by omega, show (1 : Nat) = 0 + 1 from rfl] at nx
  refine Ev.step (fun k => by rw [spec_ArfClosure.l5]) ?_
  rw [w64 (x := (i : Int) + 1 + 1) (by omega) (by omega)]
  refine ev_ifp (by omega) (ev_ifp (by omega) (ev_ifp (by omega) ?_))
  by_cases g : rdOf false t ((i : Int) + 1) = true
  · rw [fl_no (fun k => isac_t.1 k (hi'.1 g)), show ∀ j, fl (isac v) j 0 = [] from fun _ => rfl, List.append_nil] at nx
    exact ev_ifp g nx
  · rw [fl_yes (isac_t.2 fun k => g (hi'.2 k)), show ∀ j, fl (isac v) j 0 = [] from fun _ => rfl] at nx
    exact ev_ifn g (ev_ifp (by omega) nx)
theorem acS_l1 {v : List Int} (hv : ∀ x ∈ v, 1 ≤ x) {c : Int} (c0 : 0 ≤ c) (hc : c ≤ 200) (up : ∀ n, c ≤ n → Su v n) (m : Nat) : ∀ t s, TA v (c + 1) c t → t.count false < m → (s = false → CS t c c 0 0) → Ev (fun k => spec_ArfClosure.l1 k c t s) (acr v) := by
 have fin : ∀ {t}, TA v (c + 1) c t → CS t c c 0 0 → Ev (fun k => spec_ArfClosure.l1 k c t false) (acr v) := fun {t} h p => by
  have r := acS_l5 c0 hc h.1 up (ac_fin hv h (fun a b e e0 e1 e2 e3 => p a b e e0 e1 e2 e3 (.inl e3))) (max 1 c - 1).toNat 0 (by omega)
  change Ev (fun k => spec_ArfClosure.l5 k c t [] 1) _ at r
  exact Ev.step (fun k => by rw [spec_ArfClosure.l1]) (ev_ifn (by simp) r)
 induction m with
 | zero => intro t s _ h; omega
 | succ m ih =>
  intro t s h hm hs
  cases s with
  | false => exact fin h (hs rfl)
  | true =>
   refine Ev.step (fun k => by rw [spec_ArfClosure.l1]) (ev_ifp rfl (acS_l2 (t0 := t) (v := v) c0 hc (fun t' s' k => ?_) c.toNat 0 t false (Int.le_refl _) (by omega) ⟨h, fun _ => ⟨rfl, fun a b e e0 e1 e2 e3 e4 => by omega⟩, fun e => by simp at e⟩))
   cases s' with
   | false =>
    obtain ⟨e, p⟩ := k.2.1 rfl
    rw [e]; rw [← e] at p
    exact e ▸ fin k.1 p
   | true => exact ih t' true k.1 (by have := k.2.2 rfl; omega) (fun e => by simp at e)
theorem acS_l0 {v : List Int} (h : SG v) {c : Int} (c0 : 0 ≤ c) (hc : c ≤ 200) (up : ∀ n, c ≤ n → Su v n) (d : Nat) : ∀ (i : Int) (t : List Bool), 0 ≤ i → i + d = c → (t.length : Int) = c + 1 → (∀ n, 0 ≤ n → n < i → (rdOf false t n = true ↔ Su v n)) → Ev (fun k => spec_ArfClosure.l0 k (gp v) c t i) (acr v) := by
 induction d with
 | zero =>
  intro i t i0 hi hl ht
  refine Ev.step (fun k => by rw [spec_ArfClosure.l0]) (ev_ifn (by omega) (acS_l1 h.pos c0 hc up _ t true ⟨hl, fun n n0 n1 k => (ht n n0 (by omega)).2 k, fun n n0 n1 k => .base ((ht n n0 (by omega)).1 k)⟩ (Nat.lt_succ_self _) (fun e => by simp at e)))
 | succ d ih =>
  intro i t i0 hi hl ht
  have gl := gp_len v
  refine Ev.step (fun k => by rw [spec_ArfClosure.l0]) ?_
  rw [w64 (x := i + 1) (by omega) (by omega)]
  refine ev_ifp (by omega) (ev_bind _ (has_ev (by omega) i) (ev_ifp i0 (ev_ifp (by omega) (ih (i + 1) _ (by omega) (by omega) (by simpa using hl) fun n n0 n1 => ?_))))
  rw [rdb_set _ i0 (by omega) n0]
  by_cases e : n = i
  · rw [if_pos e, e]
    have g : i ∈ gp v ↔ ¬ Su v i := by
     rw [gp_mem]
     refine ⟨fun k => k.2.2, fun k => ⟨?_, by omega, k⟩⟩
     by_cases z : i = 0
     · rw [z] at k; exact absurd (Su.zero v) k
     · omega
    simp [g]
  · rw [if_neg e]; exact ht n n0 (by omega)
theorem acS_ev {v : List Int} (hl : v.length ≤ 1099511627776) : Ev (fun k => spec_ArfClosure.f k v) (acl v) := by
 unfold spec_ArfClosure.f acl
 refine ev_bind _ (sgS_ev hl) ?_
 by_cases c : SG v
 · rw [if_pos c]
   have f := cd_fact c
   refine ev_ifp (by simpa using c) (ev_bind _ (l4Gaps_ev c) (ev_bind _ (cdS_ev hl) ?_))
   rw [w64 (x := cd v + 1) (by omega) (by omega)]
   exact ev_ifp (by omega) (ev_ifp (by omega) (acS_l0 c f.1 f.2.1 f.2.2.2.1 (cd v).toNat 0 _ (Int.le_refl _) (by omega) (by simp; omega) (fun n n0 n1 => by omega)))
 · rw [if_neg c]
   exact ev_ifn (by simpa using c) (Ev.now _)
theorem acl_len (v : List Int) : (acl v).1.length ≤ 400 := by
 unfold acl acr fgr
 split
 · split
   · exact mg_len _
   · simp
 · simp
noncomputable def sub (v : List Int) (d : Int) : Bool := decide (Su v d)
theorem inOf_sub {v : List Int} (h : SG v) : inOf (some (stab v 200)) = sub v := by
 funext d
 unfold inOf sub
 by_cases h1 : 200 ≤ d
 · simp [h1, h.ends d h1]
 · by_cases h2 : 0 ≤ d
   · simp [h1, h2, stab_rd (v := v) (m := 200) h2 (by omega)]
   · have : ¬ Su v d := fun k => by have := k.pos h.pos; omega
     simp [h1, h2, this]
noncomputable def rch (v : List Int) : Option (List Bool) := if SG v then some (stab v 200) else none
theorem rch_sg {v : List Int} (h : SG v) : rch v = some (stab v 200) := by unfold rch; rw [if_pos h]
theorem rch_no {v : List Int} (h : ¬ SG v) : rch v = none := by unfold rch; rw [if_neg h]
theorem reach_ev {v : List Int} (hl : v.length ≤ 1099511627776) : Ev (fun k => impl_reach.f k v) (rch v) := by
 have sl := stab_len (v := v) (m := 200) (by omega)
 unfold impl_reach.f
 refine ev_bind _ (sgI_ev hl) ?_
 by_cases c : SG v
 · rw [rch_sg c]; exact ev_ifp (by simpa using c) (ev_bind _ (c.sutab (by omega) (by omega)) (ev_ifp (by omega) (Ev.now _)))
 · rw [rch_no c]; exact ev_ifn (by simpa using c) (Ev.now _)
theorem l3Has_ev {v : List Int} (h : SG v) (a : Int) : Ev (fun k => spec_l3Has.f k v a) (decide (Su v a) || decide (200 ≤ a)) := by
 unfold spec_l3Has.f
 by_cases h1 : a < 0
 · have : ¬ Su v a := fun k => by have := k.pos h.pos; omega
   exact ev_ifp h1 (ev_to (Ev.now _) (by simp [this]; omega))
 · by_cases h2 : a ≥ 200
   · exact ev_ifn h1 (ev_ifp h2 (ev_to (Ev.now _) (by simp [h2]; omega)))
   · have sl := stab_len (v := v) (m := a) (by omega)
     refine ev_ifn h1 (ev_ifn h2 (ev_bind _ (h.sutabS (by omega) (by omega)) (ev_ifp (by omega) (ev_ifp (by omega) (ev_to (Ev.now _) ?_)))))
     rw [stab_rd (by omega) (Int.le_refl _)]; simp [h2]
theorem l3Has_su {v : List Int} (h : SG v) (a : Int) : Ev (fun k => spec_l3Has.f k v a) (sub v a) := by
 refine ev_to (l3Has_ev h a) ?_
 unfold sub
 by_cases c : 200 ≤ a
 · simp [h.ends a c]
 · simp [c]
theorem l15Has_su {v : List Int} (h : SG v) (a : Int) : Ev (fun k => spec_l15Has.f k v a) (sub v a) := by
 unfold spec_l15Has.f
 by_cases c : a = 0
 · subst c
   exact ev_ifp rfl (ev_to (Ev.now _) (by unfold sub; simp [Su.zero v]))
 · exact ev_ifn c (ev_bind _ (l3Has_su h a) (Ev.now _))
theorem smI_l {v : List Int} {c : Int} (hc : c ≤ 200) (d : Nat) : ∀ (i : Int) (out : List Int), 0 ≤ i → i + d = c → (out.length : Int) ≤ i → Ev (fun k => impl_SmallElements.l0 k out (stab v 200) c i) (out ++ fl (fun n => decide (Su v n)) i d) := by
 have sl := stab_len (v := v) (m := 200) (by omega)
 induction d with
 | zero =>
  intro i out h0 h1 h2
  refine Ev.step (fun k => by rw [impl_SmallElements.l0]) (ev_ifn (by omega) (ev_to (Ev.now _) ?_))
  simp [fl]
 | succ d ih =>
  intro i out h0 h1 h2
  have s := stab_iff (v := v) (m := 200) h0 (by omega)
  refine Ev.step (fun k => by rw [impl_SmallElements.l0]) ?_
  rw [w64 (x := i + 1) (by omega) (by omega)]
  by_cases c : Su v i
  · rw [fl_yes (by simpa using c)]
    refine ev_ifp (by omega) (ev_ifp h0 (ev_ifp (by omega) (ev_ifp (s.2 c) (ev_ifp (by omega) (ev_to (ih (i + 1) (out ++ [i]) (by omega) (by omega) (by simp; omega)) ?_)))))
    simp
  · rw [fl_no (by simpa using c)]
    exact ev_ifp (by omega) (ev_ifp h0 (ev_ifp (by omega) (ev_ifn (fun h => c (s.1 h)) (ih (i + 1) out (by omega) (by omega) (by omega)))))
theorem smS_l {v : List Int} {c : Int} (hc : c ≤ 1000) (hc0 : 0 ≤ c) (d : Nat) : ∀ (i : Int) (out : List Int), 0 ≤ i → i + d = c → (out.length : Int) ≤ i → Ev (fun k => spec_l4Small.l0 k c out (stab v c) i) (out ++ fl (fun n => decide (Su v n)) i d) := by
 have sl := stab_len (v := v) (m := c) hc0
 induction d with
 | zero =>
  intro i out h0 h1 h2
  refine Ev.step (fun k => by rw [spec_l4Small.l0]) (ev_ifn (by omega) (ev_to (Ev.now _) ?_))
  simp [fl]
 | succ d ih =>
  intro i out h0 h1 h2
  have s := stab_iff (v := v) (m := c) h0 (by omega)
  refine Ev.step (fun k => by rw [spec_l4Small.l0]) ?_
  rw [w64 (x := i + 1) (by omega) (by omega)]
  by_cases c : Su v i
  · rw [fl_yes (by simpa using c)]
    refine ev_ifp (by omega) (ev_ifp h0 (ev_ifp (by omega) (ev_ifp (s.2 c) (ev_ifp (by omega) (ev_to (ih (i + 1) (out ++ [i]) (by omega) (by omega) (by simp; omega)) ?_)))))
    simp
  · rw [fl_no (by simpa using c)]
    exact ev_ifp (by omega) (ev_ifp h0 (ev_ifp (by omega) (ev_ifn (fun h => c (s.1 h)) (ih (i + 1) out (by omega) (by omega) (by omega)))))
theorem l4Small_ev {v : List Int} (h : SG v) {c : Int} (hc : c ≤ 1000) : Ev (fun k => spec_l4Small.f k v c) (sml v c) := by
 unfold spec_l4Small.f sml
 simp only [Option.bind_some]
 by_cases e : c < 1
 · rw [show c.toNat = 0 from by omega]; exact ev_ifp e (Ev.now _)
 · exact ev_ifn e (ev_bind _ (h.sutabS (by omega) (by omega)) (smS_l hc (by omega) c.toNat 0 [] (by omega) (by omega) (by simp)))
noncomputable def sme (v : List Int) : List Int := if SG v then sml v (cd v) else []
theorem sme_len (v : List Int) : (sme v).length ≤ 200 := by
 unfold sme; split
 · rename_i c
   have := sml_len v (cd v); have := cd_fact c; omega
 · simp
theorem smI_ev {v : List Int} (hl : v.length ≤ 1099511627776) : Ev (fun k => impl_SmallElements.f k v) (sme v) := by
 unfold impl_SmallElements.f sme
 refine ev_bind _ (sgI_ev hl) ?_
 by_cases c : SG v
 · have f := cd_fact c
   rw [if_pos c]
   exact ev_ifp (by simpa using c) (ev_bind _ (c.sutab (by omega) (by omega)) (ev_bind _ (cdI_ev hl) (smI_l f.2.1 (cd v).toNat 0 [] (by omega) (by omega) (by simp))))
 · rw [if_neg c]; exact ev_ifn (by simpa using c) (Ev.now _)
theorem smS_ev {v : List Int} (hl : v.length ≤ 1099511627776) : Ev (fun k => spec_SmallElements.f k v) (sme v) := by
 unfold spec_SmallElements.f sme
 refine ev_bind _ (sgS_ev hl) ?_
 by_cases c : SG v
 · have f := cd_fact c
   rw [if_pos c]
   exact ev_ifp (by simpa using c) (ev_bind _ (cdS_ev hl) (ev_bind _ (l4Small_ev c (by omega)) (Ev.now _)))
 · rw [if_neg c]; exact ev_ifn (by simpa using c) (Ev.now _)
abbrev R4 := Int × Int × Int × Bool
def ArfAns (v : List Int) (l : List Int) (r : R4) : Prop := (r = (0, 0, 0, false)) ∨ ∃ i j z : Int, 0 ≤ z ∧ z ≤ j ∧ j ≤ i ∧ i < l.length ∧ r = (rd l i, rd l j, rd l z, true) ∧ ¬ Su v (rd l i + rd l j - rd l z)
def ArfNo (v : List Int) (l : List Int) (i j z : Int) : Prop := ∀ a b c : Int, 0 ≤ c → c ≤ b → b ≤ a → a < l.length → (a < i ∨ (a = i ∧ (b < j ∨ (b = j ∧ c < z)))) → Su v (rd l a + rd l b - rd l c)
theorem arf_l2 {v l : List Int} (h : SG v) (hl : l.length ≤ 1000) (hb : ∀ x ∈ l, 0 ≤ x ∧ x ≤ 1000) {i j : Nat} (hj : j ≤ i) (hi : i < l.length) (N : ArfNo v l i (j + 1) 0 → ∃ r, Ev (fun k => impl_ArfFailure.l1 k (sub v) l i (j + 1)) r ∧ Ev (fun k => spec_ArfFailure.l1 k l i ((j : Int) + 1) v) r ∧ ArfAns v l r ∧ (r.2.2.2 = false → ArfNo v l l.length 0 0)) (d : Nat) : ∀ z : Nat, z + d = j + 1 → ArfNo v l i j z → ∃ r, Ev (fun k => impl_ArfFailure.l2 k (sub v) l i j z) r ∧ Ev (fun k => spec_ArfFailure.l2 k l i j z v) r ∧ ArfAns v l r ∧ (r.2.2.2 = false → ArfNo v l l.length 0 0) := by
 induction d with
 | zero =>
  intro z hz A
  obtain ⟨r, e1, e2, e3⟩ := N (fun a b c c0 c1 c2 c3 c4 => A a b c c0 c1 c2 c3 (by omega))
  refine ⟨r, Ev.step (fun k => by rw [impl_ArfFailure.l2]) (ev_ifn (by omega) e1), Ev.step (fun k => by rw [spec_ArfFailure.l2]) ?_, e3⟩
  rw [w64 (x := (j : Int) + 1) (by omega) (by omega)]
  exact ev_ifn (by omega) e2
 | succ d ih =>
  intro z hz A
  have b1 := hb _ (rd_mem (l := l) (i := (i : Int)) (by omega) (by omega))
  have b2 := hb _ (rd_mem (l := l) (i := (j : Int)) (by omega) (by omega))
  have b3 := hb _ (rd_mem (l := l) (i := (z : Int)) (by omega) (by omega))
  have w1 := w64 (x := rd l (i : Int) + rd l (j : Int)) (by omega) (by omega)
  have w2 := w64 (x := rd l (i : Int) + rd l (j : Int) - rd l (z : Int)) (by omega) (by omega)
  have w3 := w64 (x := (z : Int) + 1) (by omega) (by omega)
  by_cases c : sub v (rd l (i : Int) + rd l (j : Int) - rd l (z : Int)) = true
  · have c' : Su v (rd l (i : Int) + rd l (j : Int) - rd l (z : Int)) := by unfold sub at c; simpa using c
    obtain ⟨r, e1, e2, e3⟩ := ih (z + 1) (by omega) (fun a b e c0 c1 c2 c3 c4 => by
     by_cases q : a = i ∧ b = j ∧ e = z
     · obtain ⟨rfl, rfl, rfl⟩ := q; exact c'
     · exact A a b e c0 c1 c2 c3 (by clear N ih A b1 b2 b3 w1 w2 w3; omega))
    rw [show ((z + 1 : Nat) : Int) = (z : Int) + 1 from by omega] at e2
    refine ⟨r, Ev.step (fun k => by rw [impl_ArfFailure.l2]) ?_, Ev.step (fun k => by rw [spec_ArfFailure.l2]) ?_, e3⟩
    · rw [w1, w2]; clear w1 w2 w3 b1 b2 b3 N ih A e3; exact ev_ifp (by omega) (ev_ifp c e1)
    · rw [w1, w2, w3]
      clear w1 w2 w3 b1 b2 b3 N ih A e3
      exact ev_ifp (by omega) (ev_ifp (by omega) (ev_ifp (by omega) (ev_ifp (by omega) (ev_ifp (by omega) (ev_ifp (by omega) (ev_ifp (by omega) (ev_bind _ (l15Has_su h (rd l (i : Int) + rd l (j : Int) - rd l (z : Int))) (ev_ifp c e2))))))))
  · have c' : ¬ Su v (rd l (i : Int) + rd l (j : Int) - rd l (z : Int)) := by unfold sub at c; simpa using c
    refine ⟨(rd l (i : Int), rd l (j : Int), rd l (z : Int), true), Ev.step (fun k => by rw [impl_ArfFailure.l2]) ?_, Ev.step (fun k => by rw [spec_ArfFailure.l2]) ?_, .inr ⟨i, j, z, Int.natCast_nonneg z, Int.ofNat_le.2 (by clear w1 w2 w3 b1 b2 b3; omega), Int.ofNat_le.2 hj, Int.ofNat_lt.2 hi, rfl, c'⟩, fun e => by simp at e⟩
    · rw [w1, w2]; clear w1 w2 w3 b1 b2 b3 N ih A; exact ev_ifp (by omega) (ev_ifn c (Ev.now _))
    · rw [w1, w2]
      clear w1 w2 w3 b1 b2 b3 N ih A
      exact ev_ifp (by omega) (ev_ifp (by omega) (ev_ifp (by omega) (ev_ifp (by omega) (ev_ifp (by omega) (ev_ifp (by omega) (ev_ifp (by omega) (ev_bind _ (l15Has_su h (rd l (i : Int) + rd l (j : Int) - rd l (z : Int))) (ev_ifn c (Ev.now _)))))))))
theorem arf_l1 {v l : List Int} (h : SG v) (hl : l.length ≤ 1000) (hb : ∀ x ∈ l, 0 ≤ x ∧ x ≤ 1000) {i : Nat} (hi : i < l.length) (N : ArfNo v l (i + 1) 0 0 → ∃ r, Ev (fun k => impl_ArfFailure.l0 k (sub v) l (i + 1)) r ∧ Ev (fun k => spec_ArfFailure.l0 k l ((i : Int) + 1) v) r ∧ ArfAns v l r ∧ (r.2.2.2 = false → ArfNo v l l.length 0 0)) (d : Nat) : ∀ j : Nat, j + d = i + 1 → ArfNo v l i j 0 → ∃ r, Ev (fun k => impl_ArfFailure.l1 k (sub v) l i j) r ∧ Ev (fun k => spec_ArfFailure.l1 k l i j v) r ∧ ArfAns v l r ∧ (r.2.2.2 = false → ArfNo v l l.length 0 0) := by
 induction d with
 | zero =>
  intro j hj A
  obtain ⟨r, e1, e2, e3⟩ := N (fun a b c c0 c1 c2 c3 c4 => A a b c c0 c1 c2 c3 (by omega))
  refine ⟨r, Ev.step (fun k => by rw [impl_ArfFailure.l1]) (ev_ifn (by omega) e1), Ev.step (fun k => by rw [spec_ArfFailure.l1]) ?_, e3⟩
  rw [w64 (x := (i : Int) + 1) (by omega) (by omega)]
  exact ev_ifn (by omega) e2
 | succ d ih =>
  intro j hj A
  obtain ⟨r, e1, e2, e3⟩ := arf_l2 h hl hb (i := i) (j := j) (by omega) hi (fun B => by rw [show ((j : Int) + 1) = ((j + 1 : Nat) : Int) from by omega] at B ⊢; exact ih (j + 1) (by omega) B) (j + 1) 0 (by omega) A
  rw [show ((0 : Nat) : Int) = 0 from rfl] at e2
  exact ⟨r, Ev.step (fun k => by rw [impl_ArfFailure.l1]) (ev_ifp (by omega) e1), Ev.step (fun k => by rw [spec_ArfFailure.l1]) (ev_ifp (by omega) e2), e3⟩
theorem arf_l0 {v l : List Int} (h : SG v) (hl : l.length ≤ 1000) (hb : ∀ x ∈ l, 0 ≤ x ∧ x ≤ 1000) (d : Nat) : ∀ i : Nat, i + d = l.length → ArfNo v l i 0 0 → ∃ r, Ev (fun k => impl_ArfFailure.l0 k (sub v) l i) r ∧ Ev (fun k => spec_ArfFailure.l0 k l i v) r ∧ ArfAns v l r ∧ (r.2.2.2 = false → ArfNo v l l.length 0 0) := by
 induction d with
 | zero =>
  intro i hi A
  refine ⟨(0, 0, 0, false), Ev.step (fun k => by rw [impl_ArfFailure.l0]) (ev_ifn (by omega) (Ev.now _)), Ev.step (fun k => by rw [spec_ArfFailure.l0]) (ev_ifn (by omega) (Ev.now _)), .inl rfl, fun _ => ?_⟩
  rwa [show i = l.length from by omega] at A
 | succ d ih =>
  intro i hi A
  obtain ⟨r, e1, e2, e3⟩ := arf_l1 h hl hb (i := i) (by omega) (fun B => by rw [show ((i : Int) + 1) = ((i + 1 : Nat) : Int) from by omega] at B ⊢; exact ih (i + 1) (by omega) B) (i + 1) 0 (by omega) A
  rw [show ((0 : Nat) : Int) = 0 from rfl] at e2
  exact ⟨r, Ev.step (fun k => by rw [impl_ArfFailure.l0]) (ev_ifp (by omega) e1), Ev.step (fun k => by rw [spec_ArfFailure.l0]) (ev_ifp (by omega) e2), e3⟩
theorem sme_bd (v : List Int) : ∀ x ∈ sme v, 0 ≤ x ∧ x ≤ 1000 := by
 intro x hx
 unfold sme at hx
 by_cases c : SG v
 · rw [if_pos c] at hx
   have f := cd_fact c
   unfold sml at hx
   have := (fl_mem _ _).1 hx
   omega
 · rw [if_neg c] at hx; simp at hx
theorem arf_ev (v : List Int) (hl : v.length ≤ 1099511627776) : ∃ r : R4, Ev (fun k => impl_ArfFailure.f k v) r ∧ Ev (fun k => spec_ArfFailure.f k v) r ∧ ArfAns v (sme v) r ∧ (SG v → r.2.2.2 = false → ArfNo v (sme v) (sme v).length 0 0) ∧ (¬ SG v → r = (0, 0, 0, false)) := by
 have sl := sme_len v
 unfold impl_ArfFailure.f spec_ArfFailure.f
 by_cases c : SG v
 · have rr := reach_ev hl
   rw [rch_sg c] at rr
   obtain ⟨r, e1, e2, e3, e4⟩ := arf_l0 (l := sme v) c (by omega) (sme_bd v) (sme v).length 0 (by omega) (fun a b e c0 c1 c2 c3 c4 => by omega)
   rw [show ((0 : Nat) : Int) = 0 from rfl] at e2
   refine ⟨r, ev_bind _ (smI_ev hl) (ev_bind _ rr ?_), ev_bind _ (smS_ev hl) e2, e3, fun _ => e4, fun k => absurd c k⟩
   rw [inOf_sub c]; exact e1
 · have rr := reach_ev hl
   rw [rch_no c] at rr
   have e : sme v = [] := by unfold sme; rw [if_neg c]
   refine ⟨(0, 0, 0, false), ev_bind _ (smI_ev hl) (ev_bind _ rr ?_), ev_bind _ (smS_ev hl) ?_, .inl rfl, fun k => absurd k c, fun _ => rfl⟩
   · rw [e]; exact Ev.step (fun k => by rw [impl_ArfFailure.l0]) (ev_ifn (by simp) (Ev.now _))
   · rw [e]; exact Ev.step (fun k => by rw [spec_ArfFailure.l0]) (ev_ifn (by simp) (Ev.now _))
def Con (v : List Int) (n : Int) : Prop := 0 ≤ n ∧ SG v ∧ Su v n
noncomputable instance (v : List Int) (n : Int) : Decidable (Con v n) := Classical.propDecidable _
theorem conI_ev {v : List Int} (n : Int) (hl : v.length ≤ 1099511627776) : Ev (fun k => impl_Contains.f k v n) (decide (Con v n)) := by
 unfold impl_Contains.f
 by_cases h0 : n < 0
 · exact ev_ifp h0 (ev_to (Ev.now _) (decide_eq_false (fun h => by have := h.1; omega)).symm)
 refine ev_ifn h0 (ev_bind _ (sgI_ev hl) ?_)
 by_cases h : SG v
 · refine ev_ifp (by simpa using h) ?_
   by_cases h2 : n ≥ 200
   · exact ev_ifp h2 (ev_to (Ev.now _) (decide_eq_true (show Con v n from ⟨by omega, h, h.ends n h2⟩)).symm)
   obtain ⟨f1, f2, f3⟩ := h.ul.first
   have l := h.ul.1
   obtain ⟨u, hL, hE⟩ := leasts_ev (G := 60) (a := rd v 0) h.ul.2 (by omega) (by omega) f2 (by omega) (by omega)
   have e : Int.tmod n (rd v 0) = n % rd v 0 := Int.tmod_eq_emod_of_nonneg (by omega)
   have q0 := Int.emod_nonneg n (b := rd v 0) (by omega)
   have q1 := Int.emod_lt_of_pos n (b := rd v 0) (by omega)
   have hll := hL.len
   have p := hL.all f2 h.ul.2 h.gcd q0 q1
   have s := hL.su f2 (Su.mem f1) (n := n)
   refine ev_ifn h2 (ev_ifp (by omega) (ev_bind _ hE (ev_ifn (by omega) ?_)))
   rw [e]
   refine ev_ifp q0 (ev_ifp (by omega) (ev_to (Ev.now _) ?_))
   rw [decide_eq_decide]
   constructor
   · intro k; exact ⟨by omega, h, s.2 ⟨p, k⟩⟩
   · intro k; exact (s.1 k.2.2).2
 · exact ev_ifn (by simpa using h) (ev_to (Ev.now _) (decide_eq_false (fun k => h k.2.1)).symm)
theorem conS_ev {v : List Int} (n : Int) (hl : v.length ≤ 1099511627776) : Ev (fun k => spec_Contains.f k v n) (decide (Con v n)) := by
 unfold spec_Contains.f
 refine ev_bind _ (sgS_ev hl) ?_
 by_cases h : SG v
 · refine ev_ifp (by simpa using h) (ev_bind _ (show Ev (fun k => spec_l3Has.f k v n) (decide (Con v n)) from ?_) (Ev.now _))
   unfold spec_l3Has.f
   by_cases h0 : n < 0
   · exact ev_ifp h0 (ev_to (Ev.now _) (by rw [decide_eq_decide]; exact ⟨fun k => by omega, fun k => by have := k.1; omega⟩))
   refine ev_ifn h0 ?_
   by_cases h2 : n ≥ 200
   · exact ev_ifp h2 (ev_to (Ev.now _) (by rw [decide_eq_decide]; exact ⟨fun k => ⟨by omega, h, h.ends n h2⟩, fun k => by omega⟩))
   have l := h.ul.1
   have sl := stab_len (v := v) (m := n) (by omega)
   have s := stab_rd (v := v) (m := n) (j := n) (by omega) (Int.le_refl _)
   refine ev_ifn h2 (ev_bind _ (tabS_st (by omega) h.ul.2 (by omega) (by omega)) (ev_ifp (by omega) (ev_ifp (by omega) (ev_to (Ev.now _) ?_))))
   rw [s, decide_eq_decide]
   exact ⟨fun k => ⟨by omega, h, k⟩, fun k => k.2.2⟩
 · exact ev_ifn (by simpa using h) (ev_to (Ev.now _) (decide_eq_false (fun k => h k.2.1)).symm)
theorem acl_fact {v : List Int} (h : SG v) (ok : (acl v).2 = true) : SG (acl v).1 ∧ ∀ n, Su (acl v).1 n ↔ AC v n := by
 have e : acl v = acr v := by unfold acl; exact if_pos h
 rw [e] at ok ⊢
 unfold acr fgr at ok ⊢
 by_cases f : FG (fl (isac v) 0 201)
 · rw [if_pos f]
   refine ⟨f.2.2, fun n => ?_⟩
   by_cases n0 : n < 1
   · by_cases z : n = 0
     · subst z; exact ⟨fun _ => .base (Su.zero v), fun _ => Su.zero _⟩
     · exact ⟨fun k => by have := k.pos f.2.2.pos; omega, fun k => by have := k.pos h.pos; omega⟩
   · rw [su_mg f.1 f.2.1 (by omega), fl_mem, isac_t]
     constructor
     · intro k
       by_cases b : n < 201
       · exact Classical.byContradiction fun q => k ⟨by omega, by omega, q⟩
       · exact .base (h.ends n (by omega))
     · rintro k ⟨_, _, q⟩; exact q k
 · rw [if_neg f] at ok; cases ok
theorem ac_arfU (v : List Int) : ArfU (AC v) := by
 intro a b c ha hb hc ca cb
 by_cases q : b ≤ a
 · exact .step ha hb hc cb q
 · have := AC.step hb ha hc ca (by omega)
   rwa [show b + a - c = a + b - c from by omega] at this
theorem acl_arfU {v : List Int} (h : SG v) (ok : (acl v).2 = true) : ArfU (Su (acl v).1) := by
 have f := (acl_fact h ok).2
 intro a b c ka kb kc ca cb
 exact (f _).2 (ac_arfU v a b c ((f _).1 ka) ((f _).1 kb) ((f _).1 kc) ca cb)
theorem acl_idem {v : List Int} (h : SG v) (ok : (acl v).2 = true) : acl (acl v).1 = ((acl v).1, true) := by
 have f := acl_fact h ok
 have au := acl_arfU h ok
 have same : ∀ n, AC (acl v).1 n ↔ AC v n := fun n => by
  constructor
  · intro k
    induction k with
    | base k => exact (f.2 _).1 k
    | step _ _ _ zy yx ix iy iz => exact .step ix iy iz zy yx
  · intro k; exact .base ((f.2 n).2 k)
 have e1 : acl (acl v).1 = acr (acl v).1 := by
  conv => lhs; unfold acl
  exact if_pos f.1
 have e2 : acl v = acr v := by
  conv => lhs; unfold acl
  exact if_pos h
 have e3 : acr (acl v).1 = acr v := by
  conv => lhs; unfold acr
  conv => rhs; unfold acr
  congr 2
  funext n
  rw [Bool.eq_iff_iff, isac_t, isac_t, same]
 rw [e1, e3, ← e2]
 exact Prod.ext rfl ok
theorem sme_in {v : List Int} (h : SG v) {i : Int} (h0 : 0 ≤ i) (h1 : i < (sme v).length) : Su v (rd (sme v) i) ∧ 0 ≤ rd (sme v) i ∧ rd (sme v) i < cd v := by
 have f := cd_fact h
 have m := rd_mem h0 h1
 have e : sme v = fl (fun n => decide (Su v n)) 0 (cd v).toNat := by unfold sme sml; exact if_pos h
 rw [e, fl_mem] at m
 rw [← e] at m
 exact ⟨by simpa using m.2.2, m.1, by omega⟩
theorem sme_of {v : List Int} (h : SG v) {n : Int} (k : Su v n) (hn : n < cd v) : ∃ i : Int, 0 ≤ i ∧ i < (sme v).length ∧ rd (sme v) i = n := by
 have p := k.pos h.pos
 refine mem_rd ?_
 have e : sme v = fl (fun n => decide (Su v n)) 0 (cd v).toNat := by unfold sme sml; exact if_pos h
 rw [e, fl_mem]
 exact ⟨p, by omega, by simpa using k⟩
theorem sme_lt {v : List Int} (h : SG v) {i j : Int} (h0 : 0 ≤ i) (hij : i < j) (hj : j < (sme v).length) : rd (sme v) i < rd (sme v) j := by
 have e : sme v = fl (fun n => decide (Su v n)) 0 (cd v).toNat := by unfold sme sml; exact if_pos h
 have a : Asc (sme v) := by rw [e]; exact fl_asc _ _ _
 exact asc_lt a (j - i - 1).toNat i j h0 (by omega) hj
theorem sme_le {v : List Int} (h : SG v) {i j : Int} (h0 : 0 ≤ i) (hij : i ≤ j) (hj : j < (sme v).length) : rd (sme v) i ≤ rd (sme v) j := by
 by_cases c : i = j
 · rw [c]; exact Int.le_refl _
 · exact Int.le_of_lt (sme_lt h h0 (by omega) hj)
theorem sme_idx {v : List Int} (h : SG v) {i j : Int} (h0 : 0 ≤ i) (j0 : 0 ≤ j) (hi : i < (sme v).length) (le : rd (sme v) i ≤ rd (sme v) j) : i ≤ j := by
 by_cases c : i ≤ j
 · exact c
 · have := sme_lt h j0 (show j < i by omega) hi
   omega
theorem arfx_ev (v : List Int) (hl : v.length ≤ 1099511627776) : ∃ r : R4, Ev (fun k => impl_ArfFailure.f k v) r ∧ Ev (fun k => spec_ArfFailure.f k v) r ∧ Ev (fun k => impl_IsArf.f k v) (decide (SG v) && !r.2.2.2) ∧ Ev (fun k => spec_IsArf.f k v) (decide (SG v) && !r.2.2.2) ∧ (r.2.2.2 = true → SG v ∧ ¬ Con v (wrap64 (wrap64 (r.1 + r.2.1) - r.2.2.1))) ∧ (SG v → ArfU (Su v) → r.2.2.2 = false) ∧ (SG v → r.2.2.2 = false → ArfU (Su v)) := by
 obtain ⟨r, e1, e2, ans, no, bad⟩ := arf_ev v hl
 refine ⟨r, e1, e2, ?_, ?_, ?_, ?_, ?_⟩
 · unfold impl_IsArf.f
   refine ev_bind _ e1 (ev_bind _ (sgI_ev hl) ?_)
   by_cases c : SG v
   · exact ev_ifp (by simpa using c) (ev_to (Ev.now _) (by simp [c]))
   · exact ev_ifn (by simpa using c) (ev_to (Ev.now _) (by simp [c]))
 · unfold spec_IsArf.f
   refine ev_bind _ e2 (ev_bind _ (sgS_ev hl) ?_)
   by_cases c : SG v
   · exact ev_ifp (by simpa using c) (ev_to (Ev.now _) (by simp [c]))
   · exact ev_ifn (by simpa using c) (ev_to (Ev.now _) (by simp [c]))
 · intro b
   have c : SG v := Classical.byContradiction fun q => by rw [bad q] at b; cases b
   refine ⟨c, fun q => ?_⟩
   rcases ans with e | ⟨i, j, z, z0, zj, ji, il, e, ns⟩
   · rw [e] at b; cases b
   · have f := cd_fact c
     have m1 := sme_in c (show 0 ≤ i by omega) il
     have m2 := sme_in c (show 0 ≤ j by omega) (by omega)
     have m3 := sme_in c z0 (by omega)
     rw [e] at q
     simp only at q
     rw [w64 (x := rd (sme v) i + rd (sme v) j) (by omega) (by omega), w64 (by omega) (by omega)] at q
     exact ns q.2.2
 · intro c au
   rcases ans with e | ⟨i, j, z, z0, zj, ji, il, e, ns⟩
   · rw [e]
   · exact absurd (au _ _ _ (sme_in c (show 0 ≤ i by omega) il).1 (sme_in c (show 0 ≤ j by omega) (by omega)).1 (sme_in c z0 (by omega)).1 (sme_le c z0 (by omega) il) (sme_le c z0 zj (by omega))) ns
 · intro c b x y z kx ky kz zx zy
   have f := cd_fact c
   have n := no c b
   by_cases bx : cd v ≤ x
   · exact f.2.2.2.1 _ (by have := ky.pos c.pos; omega)
   by_cases by_ : cd v ≤ y
   · exact f.2.2.2.1 _ (by have := kx.pos c.pos; omega)
   obtain ⟨i, i0, i1, i2⟩ := sme_of c kx (by omega)
   obtain ⟨j, j0, j1, j2⟩ := sme_of c ky (by omega)
   obtain ⟨q, q0, q1, q2⟩ := sme_of c kz (by omega)
   have qi := sme_idx c q0 i0 q1 (by omega)
   have qj := sme_idx c q0 j0 q1 (by omega)
   by_cases ji : j ≤ i
   · have := n i j q q0 qj ji i1 (.inl i1)
     rwa [i2, j2, q2] at this
   · have := n j i q q0 qi (by omega) j1 (.inl j1)
     rw [i2, j2, q2] at this
     rwa [show y + x - z = x + y - z from by omega] at this
theorem within_l {s u : List Int} (hs : s.length ≤ 20) (hu : u.length ≤ 1099511627776) (h : ∀ g ∈ s, Con u g) (d : Nat) : ∀ i : Int, 0 ≤ i → i + d = s.length → Ev (fun k => impl_IsWithin.l0 k s (s.length : Int) i u) true := by
 induction d with
 | zero =>
  intro i h0 h1
  exact Ev.step (fun k => by rw [impl_IsWithin.l0]) (ev_ifn (by omega) (Ev.now _))
 | succ d ih =>
  intro i h0 h1
  refine Ev.step (fun k => by rw [impl_IsWithin.l0]) (ev_ifp (by omega) (ev_ifp h0 (ev_ifp (by omega) (ev_bind _ (conI_ev _ hu) (ev_ifp (decide_eq_true (h _ (rd_mem (l := s) h0 (by omega)))) ?_)))))
  rw [w64 (x := i + 1) (by omega) (by omega)]
  exact ih (i + 1) (by omega) (by omega)
theorem within_ev {s u : List Int} (hs : SG s) (hu : SG u) (h : ∀ g ∈ s, Su u g) : Ev (fun k => impl_IsWithin.f k s u) true := by
 have l1 := hs.len
 have l2 := hu.len
 unfold impl_IsWithin.f
 refine ev_bind _ (sgI_ev (by omega)) (ev_ifp (by simpa using hs) (ev_bind _ (sgI_ev (by omega)) ?_))
 rw [show (!decide (SG u)) = false from by simp [hu]]
 refine Ev.step (fun k => by rw [impl_IsWithin.j0]) (ev_ifn (by simp) ?_)
 exact within_l (by omega) (by omega) (fun g hg => ⟨by have := (hs.ul.2 g hg).1; omega, hu, h g hg⟩) s.length 0 (by omega) (by omega)
theorem fl_split (p : Int → Bool) (d : Nat) : ∀ i : Int, (fl p i d).length + (fl (fun n => !p n) i d).length = d := by
 induction d with
 | zero => intro i; simp [fl]
 | succ d ih =>
  intro i
  have := ih (i + 1)
  by_cases c : p i = true
  · rw [fl_yes c, fl_no (by simp [c]), List.length_cons]; omega
  · rw [fl_no c, fl_yes (p := fun n => !p n) (by simpa using c), List.length_cons]; omega
theorem gap_few {v : List Int} (h : SG v) (d : Nat) : (fl (isgap v) 0 d).length ≤ 199 := by
 have w := gp_wide h
 have g := gp_len v
 by_cases c : d ≤ 201
 · have e := fl_app (isgap v) d (201 - d) 0
   rw [show d + (201 - d) = 201 from by omega, w] at e
   have := congrArg List.length e
   rw [List.length_append] at this
   omega
 · have e := fl_app (isgap v) 201 (d - 201) 0
   rw [show 201 + (d - 201) = d from by omega, w] at e
   have z : fl (isgap v) (0 + ((201 : Nat) : Int)) (d - 201) = [] := fl_nil _ _ fun n hn _ => by
    rw [isgap_t]; exact fun k => k (h.ends n (by omega))
   rw [e, z, List.append_nil]; exact g
theorem nth_bound {v : List Int} (h : SG v) {k : Nat} {n : Int} (hn : Nth v k n) : n ≤ k + 199 := by
 obtain ⟨n0, n1, n2⟩ := hn
 have a := fl_split (fun n => decide (Su v n)) n.toNat 0
 have b := gap_few h n.toNat
 have e : (fl (fun n => !(decide (Su v n))) 0 n.toNat).length = (fl (isgap v) 0 n.toNat).length := rfl
 omega
theorem elem_l {v : List Int} {n : Int} (hn : Su v n) (n6 : n ≤ 600) (d : Nat) : ∀ (i x : Int), 0 ≤ i → i + d = n → x = ((fl (fun n => decide (Su v n)) i d).length : Int) → Ev (fun k => impl_ElementAt.l0 k x (stab v 600) 601 i) n := by
 have sl := stab_len (v := v) (m := 600) (by omega)
 induction d with
 | zero =>
  intro i x h0 h1 hx
  have e : i = n := by omega
  subst e
  refine Ev.step (fun k => by rw [impl_ElementAt.l0]) (ev_ifp (by omega) (ev_ifp h0 (ev_ifp (by omega) (ev_ifp ((stab_iff h0 n6).2 hn) (ev_ifp (by rw [hx]; rfl) (Ev.now _))))))
 | succ d ih =>
  intro i x h0 h1 hx
  refine Ev.step (fun k => by rw [impl_ElementAt.l0]) ?_
  rw [w64 (x := i + 1) (by omega) (by omega)]
  by_cases c : Su v i
  · rw [fl_yes (by simpa using c), List.length_cons] at hx
    have fll := fl_len (fun n => decide (Su v n)) d (i + 1)
    rw [w64 (x := x - 1) (by omega) (by omega)]
    exact ev_ifp (by omega) (ev_ifp h0 (ev_ifp (by omega) (ev_ifp ((stab_iff h0 (by omega)).2 c) (ev_ifn (by omega) (ih (i + 1) (x - 1) (by omega) (by omega) (by omega))))))
  · rw [fl_no (by simpa using c)] at hx
    exact ev_ifp (by omega) (ev_ifp h0 (ev_ifp (by omega) (ev_ifn (fun q => c ((stab_iff h0 (by omega)).1 q)) (ih (i + 1) x (by omega) (by omega) hx))))
theorem elemAt_ev {v : List Int} (h : SG v) {k : Nat} {n : Int} (hk : k ≤ 200) (hn : Nth v k n) : Ev (fun K => impl_ElementAt.f K v (k : Int)) n := by
 have l := h.len
 have b := nth_bound h hn
 have sl := stab_len (v := v) (m := 600) (by omega)
 obtain ⟨n0, n1, n2⟩ := hn
 unfold impl_ElementAt.f
 refine ev_bind _ (sgI_ev (by omega)) (ev_ifp (by simpa using h) ?_)
 rw [within_eq]
 refine ev_bind _ (Ev.now _) ?_
 rw [show (!decide ((0 : Int) ≤ (k : Int) ∧ (k : Int) ≤ 200)) = false from by simp; omega]
 refine Ev.step (fun k => by rw [impl_ElementAt.j0]) (ev_ifn (by simp) (ev_bind _ (h.sutab (by omega) (by omega)) ?_))
 rw [sl]
 exact elem_l n1 (by omega) n.toNat 0 k (by omega) (by omega) (by rw [n2])
theorem and255 (a : Int) : 0 ≤ Go.bits .and .i64 a 255 ∧ Go.bits .and .i64 a 255 ≤ 255 := by
 have h : ((BitVec.ofInt 64 a &&& BitVec.ofInt 64 255).toNat : Nat) ≤ 255 := by
  rw [BitVec.toNat_and]
  exact Nat.le_trans Nat.and_le_right (by decide)
 show 0 ≤ IntKind.i64.wrap ((BitVec.ofInt 64 a &&& BitVec.ofInt 64 255).toNat : Int) ∧ IntKind.i64.wrap ((BitVec.ofInt 64 a &&& BitVec.ofInt 64 255).toNat : Int) ≤ 255
 rw [Go.IntKind.wrap_i64]
 omega
def Cu (b : List Int) (i : Int) : Prop := 0 ≤ i ∧ i ≤ b.length ∧ (b.length : Int) ≤ 1099511627776
theorem byte_ok {b : List Int} {i : Int} (h : Int) (c : Cu b i) : ∃ x j g, spec_l1Byte.f b i h = some (x, j, g) ∧ (0 ≤ x ∧ x ≤ 255) ∧ Cu b j := by
 obtain ⟨c1, c2, c3⟩ := c
 unfold spec_l1Byte.f
 by_cases e : i < b.length
 · rw [if_pos e, if_pos c1, w64 (x := i + 1) (by omega) (by omega)]
   exact ⟨_, _, _, rfl, and255 _, by omega, by omega, c3⟩
 · rw [if_neg e]
   exact ⟨_, _, _, rfl, and255 _, c1, c2, c3⟩
theorem below_ok {b : List Int} {i : Int} (h : Int) (c : Cu b i) {n : Int} (hn : 0 < n) : ∃ x j g, spec_l1Below.f b i h n = some (x, j, g) ∧ (0 ≤ x ∧ x < n) ∧ Cu b j := by
 unfold spec_l1Below.f
 rw [if_neg (by omega)]
 by_cases e : n ≤ 256
 · obtain ⟨x, j, g, e1, hx, c'⟩ := byte_ok h c
   rw [if_pos e, e1]
   simp only [Option.bind_some]
   rw [if_neg (by omega), Int.tmod_eq_emod_of_nonneg hx.1]
   exact ⟨_, _, _, rfl, ⟨Int.emod_nonneg _ (by omega), Int.emod_lt_of_pos _ hn⟩, c'⟩
 · obtain ⟨x, j, g, e1, hx, c1⟩ := byte_ok h c
   obtain ⟨y, j2, g2, e2, hy, c2⟩ := byte_ok g c1
   obtain ⟨z, j3, g3, e3, hz, c3⟩ := byte_ok g2 c2
   obtain ⟨u, j4, g4, e4, hu, c4⟩ := byte_ok g3 c3
   rw [if_neg e, e1]
   simp only [Option.bind_some]
   rw [e2]
   simp only [Option.bind_some]
   rw [e3]
   simp only [Option.bind_some]
   rw [e4]
   simp only [Option.bind_some]
   rw [if_neg (by omega), w64 (x := x * 16777216) (by omega) (by omega), w64 (x := y * 65536) (by omega) (by omega), w64 (x := z * 256) (by omega) (by omega), w64 (x := x * 16777216 + y * 65536) (by omega) (by omega), w64 (x := x * 16777216 + y * 65536 + z * 256) (by omega) (by omega), w64 (x := x * 16777216 + y * 65536 + z * 256 + u) (by omega) (by omega), Int.tmod_eq_emod_of_nonneg (by omega)]
   exact ⟨_, _, _, rfl, ⟨Int.emod_nonneg _ (by omega), Int.emod_lt_of_pos _ hn⟩, c4⟩
theorem pick_ok {b : List Int} {i : Int} (h : Int) (c : Cu b i) {l : List Int} (hl : 0 < (l.length : Int)) : ∃ x j g, spec_l1PickInt.f b i h l = some (x, j, g) ∧ x ∈ l ∧ Cu b j := by
 obtain ⟨x, j, g, e, hx, c'⟩ := below_ok h c hl
 unfold spec_l1PickInt.f
 rw [e]
 simp only [Option.bind_some]
 rw [if_pos hx.1, if_pos hx.2]
 exact ⟨_, _, _, rfl, rd_mem hx.1 hx.2, c'⟩
theorem new_l {b : List Int} (hb : (b.length : Int) ≤ 1099511627776) (d : Nat) : ∀ i h : Int, 0 ≤ i → i + d = max i (min 4000 b.length) → ∃ g, Ev (fun k => spec_l1New.l0 k b h i) (b, 0, g) := by
 induction d with
 | zero =>
  intro i h h0 h1
  refine ⟨h, Ev.step (fun k => by rw [spec_l1New.l0]) ?_⟩
  by_cases c : i < b.length
  · exact ev_ifp c (ev_ifn (by omega) (Ev.now _))
  · exact ev_ifn c (Ev.now _)
 | succ d ih =>
  intro i h h0 h1
  obtain ⟨g, hE⟩ := ih (i + 1) (Go.bits .and .i64 (wrap64 ((wrap64 ((wrap64 (h * 131)) + (wrap64 (rd b i)))) + 7)) 1073741823) (by omega) (by omega)
  refine ⟨g, Ev.step (fun k => by rw [spec_l1New.l0]) ?_⟩
  rw [w64 (x := i + 1) (by omega) (by omega)]
  exact ev_ifp (by omega) (ev_ifp (by omega) (ev_ifp h0 hE))
theorem new_ev {b : List Int} (hb : (b.length : Int) ≤ 1099511627776) : ∃ g, Ev (fun k => spec_l1New.f k b) (b, 0, g) ∧ Cu b 0 := by
 obtain ⟨g, hE⟩ := new_l hb (min 4000 b.length) 0 (wrap64 (26583 + (b.length : Int))) (by omega) (by omega)
 exact ⟨g, hE, by omega, by omega, hb⟩
end Go.Proofs.Ytppkokbhgkeknaa.E
end
