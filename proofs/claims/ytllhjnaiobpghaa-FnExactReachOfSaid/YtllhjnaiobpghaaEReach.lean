/- Lemmas towards the laws of this seat: ReachOf on both sides. Conditions: each lemma's own premises. -/
import Derived.Test.YtllhjnaiobpghaaEAreStamps
import Derived.Test.YtllhjnaiobpghaaEBa
import Derived.Test.YtllhjnaiobpghaaEBasic
import Derived.Test.YtllhjnaiobpghaaEFewest
import Derived.Test.YtllhjnaiobpghaaETab27
import Derived.Test.YtllhjnaiobpghaaETabPlain
import Derived.Test.YtllhjnaiobpghaaEWays
import Derived.Test.YtllhjnaiobpghaaPAx11
namespace Go.Proofs.Ytllhjnaiobpghaa.E
open Go.RowKit Go.Proofs.Ytllhjnaiobpghaa.PA Go.Proofs.YtllhjnaiobpghaaW.PrintWords Go.Proofs.YtllhjnaiobpghaaW.PrintLast Go.Proofs.YtllhjnaiobpghaaW.PrintMore
set_option linter.unusedVariables false
set_option linter.unusedSimpArgs false
/-! ReachOf on both sides. -/
theorem AreSt.len {v : List Int} (h : AreSt v) : 1 ≤ v.length ∧ v.length ≤ 6 := by have := h.1; omega
theorem AreSt.vals {v : List Int} (h : AreSt v) : ∀ x ∈ v, 1 ≤ x ∧ x ≤ 1000 := fun x hx => by have := h.2.1 x hx; omega
theorem AreSt.pos {v : List Int} (h : AreSt v) : ∀ x ∈ v, 1 ≤ x := fun x hx => (h.2.1 x hx).1
theorem Way.most {v : List Int} {B : Int} (h : ∀ x ∈ v, x ≤ B) {k c : Int} (w : Way v k c) : k ≤ c * B := by
  induction w with
  | zero => simp
  | @add x k c hx _ ih => have := h x hx; rw [Int.add_mul]; omega
/-- at most h values add up to k -/
def Can (v : List Int) (h k : Int) : Prop := ∃ c, c ≤ h ∧ Way v k c
theorem can_fw {v : List Int} (hv : ∀ x ∈ v, 1 ≤ x) {k m h : Int} (hh : 0 ≤ h) (f : Fw v k m) : (0 ≤ m ∧ m ≤ h) ↔ Can v h k := by
  constructor
  · rintro ⟨h1, h2⟩; exact ⟨m, h2, (f.way h1).1⟩
  · rintro ⟨c, hc, w⟩
    have h1 : 0 ≤ m := by have := (not_congr (f.neg hv)).2 (fun hno => hno _ w); omega
    have := (f.way h1).2 _ w
    omega
theorem can_tb {v : List Int} {k m h : Int} (hh : h < 9) (f : TB 9 v k m) : m ≤ h ↔ Can v h k := by
  constructor
  · intro h1; exact ⟨m, h1, f.2.2.2 (by omega)⟩
  · rintro ⟨c, hc, w⟩
    have := f.2.2.1 _ w
    omega
/-- r is the reach: all up to it can be made, the next one can't -/
def IsReach (v : List Int) (h r : Int) : Prop := 0 ≤ r ∧ r ≤ 360 ∧ (∀ k, 1 ≤ k → k ≤ r → Can v h k) ∧ ¬ Can v h (r + 1)
theorem reach_l {v : List Int} (hs : AreSt v) {h : Int} (hh : 1 ≤ h ∧ h ≤ 6) {row tb : List Int} (hr : RowOk v 361 row) (ht1 : (tb.length : Int) = 362) (ht2 : ∀ k, 0 ≤ k → k ≤ 361 → TB 9 v k (rd tb k)) (d : Nat) :
    ∀ n : Int, 0 ≤ n → n + d = 360 → (∀ k, 1 ≤ k → k ≤ n → Can v h k) → ∃ r, IsReach v h r ∧ Ev (fun k => impl_ReachOf.l0 k h row n) r ∧ Ev (fun k => spec_l27Reach.l0 k tb h n) r := by
  have top : ¬ Can v h 361 := by
    rintro ⟨c, hc, w⟩
    have h1 := w.most (B := 60) (fun x hx => (hs.2.1 x hx).2)
    omega
  have hrl := hr.1
  have stop : ∀ n : Int, 0 ≤ n → n ≤ 360 → ¬ Can v h (n + 1) → Ev (fun k => impl_ReachOf.l0 k h row n) n ∧ Ev (fun k => spec_l27Reach.l0 k tb h n) n := by
    intro n h0 h1 hc
    have f := (not_congr (can_fw hs.pos (by omega) (hr.2 (n + 1) (by omega) (by omega)))).2 hc
    have g := (not_congr (can_tb (by omega) (ht2 (n + 1) (by omega) (by omega)))).2 hc
    constructor
    · refine Ev.step (fun k => by rw [impl_ReachOf.l0]) ?_
      rw [w64 (by omega) (by omega)]
      refine ev_ifp (by omega) (ev_ifp (by omega) ?_)
      by_cases c1 : rd row (n + 1) ≥ 0
      · exact ev_ifp c1 (ev_ifn (by omega) (Ev.now _))
      · exact ev_ifn c1 (Ev.now _)
    · refine Ev.step (fun k => by rw [spec_l27Reach.l0]) ?_
      rw [w64 (by omega) (by omega)]
      exact ev_ifp (by omega) (ev_ifp (by omega) (ev_ifn g (Ev.now _)))
  induction d with
  | zero =>
    intro n h0 h1 h2
    obtain rfl : n = 360 := by omega
    obtain ⟨a, b⟩ := stop 360 (by omega) (by omega) top
    exact ⟨360, ⟨by omega, by omega, h2, top⟩, a, b⟩
  | succ d ih =>
    intro n h0 h1 h2
    by_cases hc : Can v h (n + 1)
    · obtain ⟨r, hR, a, b⟩ := ih (n + 1) (by omega) (by omega) (fun k hk hk' => by
        by_cases e : k = n + 1
        · rw [e]; exact hc
        · exact h2 k hk (by omega))
      have f := (can_fw hs.pos (by omega) (hr.2 (n + 1) (by omega) (by omega))).2 hc
      have g := (can_tb (by omega) (ht2 (n + 1) (by omega) (by omega))).2 hc
      refine ⟨r, hR, Ev.step (fun k => by rw [impl_ReachOf.l0]) ?_, Ev.step (fun k => by rw [spec_l27Reach.l0]) ?_⟩
      · rw [w64 (by omega) (by omega)]
        exact ev_ifp (by omega) (ev_ifp (by omega) (ev_ifp f.1 (ev_ifp f.2 a)))
      · rw [w64 (by omega) (by omega)]
        exact ev_ifp (by omega) (ev_ifp (by omega) (ev_ifp g b))
    · obtain ⟨a, b⟩ := stop n h0 (by omega) hc
      exact ⟨n, ⟨h0, by omega, h2, hc⟩, a, b⟩
theorem IsReach.one {v : List Int} {h r r' : Int} (a : IsReach v h r) (b : IsReach v h r') : r = r' := by
  by_cases h1 : r < r'
  · exact absurd (b.2.2.1 (r + 1) (by have := a.1; omega) (by omega)) a.2.2.2
  · by_cases h2 : r' < r
    · exact absurd (a.2.2.1 (r' + 1) (by have := b.1; omega) (by omega)) b.2.2.2
    · omega
def ReachArg (v : List Int) (h : Int) : Prop := AreSt v ∧ 1 ≤ h ∧ h ≤ 6
theorem reach_ev (v : List Int) (h : Int) (hl : v.length ≤ 1099511627776) : ∃ r, Ev (fun k => impl_ReachOf.f k v h) r ∧ Ev (fun k => spec_ReachOf.f k v h) r ∧ (ReachArg v h → IsReach v h r) ∧ (¬ ReachArg v h → r = -1) := by
  by_cases h1 : AreSt v
  · by_cases hh : 1 ≤ h ∧ h ≤ 6
    · have hlen := h1.len
      obtain ⟨t, ht, hE⟩ := fewest_ev (n := 361) (by omega) (by omega) h1.vals (by omega)
      obtain ⟨tb, hb1, hb2, hE'⟩ := tab27_ev (v := v) (most := 361) (by omega) h1.vals h1.2.2 (by omega) (by omega)
      have hrow := ht.2 v.length (by omega) (by omega)
      rw [show ((v.length : Int)).toNat = v.length from by omega, List.take_length] at hrow
      obtain ⟨r, hR, a, b⟩ := reach_l h1 hh hrow (by omega) hb2 360 0 (by omega) (by omega) (fun k hk hk' => by omega)
      have htl := ht.1
      refine ⟨r, ?_, ?_, fun _ => hR, fun h' => absurd ⟨h1, hh⟩ h'⟩
      · unfold impl_ReachOf.f
        simp only [within_eq, Option.bind_some]
        refine ev_bind _ (areStampsI_ev hl) (ev_ifp (by simpa using h1) ?_)
        refine Ev.step (fun k => by rw [impl_ReachOf.j0]) ?_
        exact ev_ifn (nd_f hh) (ev_bind _ hE (ev_ifp (by omega) (ev_ifp (by omega) a)))
      · unfold spec_ReachOf.f
        simp only [l1In_eq, Option.bind_some]
        refine ev_bind _ (areStampsS_ev hl) (ev_ifp (by simpa using h1) (Ev.step (fun k => by rw [spec_ReachOf.j0]) (ev_ifn (by simpa using hh) (ev_bind _ hE' (ev_bind r ?_ (Ev.now _))))))
        unfold spec_l27Reach.f
        exact b
    · refine ⟨-1, ?_, ?_, fun h' => absurd h'.2 hh, fun _ => rfl⟩
      · unfold impl_ReachOf.f
        simp only [within_eq, Option.bind_some]
        exact ev_bind _ (areStampsI_ev hl) (ev_ifp (by simpa using h1) (Ev.step (fun k => by rw [impl_ReachOf.j0]) (ev_ifp (nd_t hh) (Ev.now _))))
      · unfold spec_ReachOf.f
        simp only [l1In_eq, Option.bind_some]
        exact ev_bind _ (areStampsS_ev hl) (ev_ifp (by simpa using h1) (Ev.step (fun k => by rw [spec_ReachOf.j0]) (ev_ifp (nd_t hh) (Ev.now _))))
  · refine ⟨-1, ?_, ?_, fun h' => absurd h'.1 h1, fun _ => rfl⟩
    · unfold impl_ReachOf.f
      exact ev_bind _ (areStampsI_ev hl) (ev_ifn (by simpa using h1) (Ev.step (fun k => by rw [impl_ReachOf.j0]) (ev_ifp rfl (Ev.now _))))
    · unfold spec_ReachOf.f
      exact ev_bind _ (areStampsS_ev hl) (ev_ifn (by simpa using h1) (Ev.step (fun k => by rw [spec_ReachOf.j0]) (ev_ifp rfl (Ev.now _))))

end Go.Proofs.Ytllhjnaiobpghaa.E
