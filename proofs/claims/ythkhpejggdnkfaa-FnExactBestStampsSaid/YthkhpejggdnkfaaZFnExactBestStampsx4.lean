-- Bundled by shake.py from this session's printed and written texts; Lean checks it.
import Derived.Test.YthkhpejggdnkfaaZFnExactBestStampsx1
import Derived.Test.YthkhpejggdnkfaaZFnExactBestStampsx3
section
namespace Go.Proofs.Ythkhpejggdnkfaa.E
open Go.RowKit Go.Proofs.Ythkhpejggdnkfaa.PB Go.Proofs.YthkhpejggdnkfaaW.PrintWords Go.Proofs.YthkhpejggdnkfaaW.PrintLast Go.Proofs.YthkhpejggdnkfaaW.PrintMore
set_option linter.unusedVariables false
set_option linter.unusedSimpArgs false
def IsReach (v : List Int) (h r : Int) : Prop := 0 ≤ r ∧ r ≤ 360 ∧ (∀ k, 1 ≤ k → k ≤ r → Can v h k) ∧ ¬ Can v h (r + 1)
theorem reach_l {v : List Int} (hs : AreSt v) {h : Int} (hh : 1 ≤ h ∧ h ≤ 6) {row tb : List Int} (hr : RowOk v 361 row) (ht1 : (tb.length : Int) = 362) (ht2 : ∀ k, 0 ≤ k → k ≤ 361 → TB 9 v k (rd tb k)) (d : Nat) :
 ∀ n : Int, 0 ≤ n → n + d = 360 → (∀ k, 1 ≤ k → k ≤ n → Can v h k) → ∃ r, IsReach v h r ∧ Ev (fun k => impl_ReachOf.l0 k h row n) r ∧ Ev (fun k => spec_l27Reach.l0 k tb h n) r := by
 have top : ¬ Can v h 361 := by
  rintro ⟨c, hc, w⟩
  have h1 := w.most (B := 60) (fun x hx => (hs.2.1 x hx).2)
  omega
 have hrl := hr.1
 have stop : ∀ n : Int, 0 ≤ n → n ≤ 360 → ¬ Can v h (n + 1) → Ev (fun k => impl_ReachOf.l0 k h row n) n ∧ Ev (fun k => spec_l27Reach.l0 k tb h n) n := by
  intro n h0 h1 hc
  have f := (not_congr (can_fw hs.pos (by omega) (hr.2 (n + 1) (by omega) (by omega)))).2 hc
  have g := (not_congr (can_tb (by omega) (ht2 (n + 1) (by omega) (by omega)))).2 hc
  constructor
  · refine Ev.step (fun k => by rw [impl_ReachOf.l0]) ?_
    rw [w64 (by omega) (by omega)]
    refine ev_ifp (by omega) (ev_ifp (by omega) ?_)
    by_cases c1 : rd row (n + 1) ≥ 0
    · exact ev_ifp c1 (ev_ifn (by omega) (Ev.now _))
    · exact ev_ifn c1 (Ev.now _)
  · refine Ev.step (fun k => by rw [spec_l27Reach.l0]) ?_
    rw [w64 (by omega) (by omega)]
    exact ev_ifp (by omega) (ev_ifp (by omega) (ev_ifn g (Ev.now _)))
 induction d with
 | zero =>
  intro n h0 h1 h2
  obtain rfl : n = 360 := by omega
  obtain ⟨a, b⟩ := stop 360 (by omega) (by omega) top
  exact ⟨360, ⟨by omega, by omega, h2, top⟩, a, b⟩
 | succ d ih =>
  intro n h0 h1 h2
  by_cases hc : Can v h (n + 1)
  · obtain ⟨r, hR, a, b⟩ := ih (n + 1) (by omega) (by omega) (fun k hk hk' => by
     by_cases e : k = n + 1
     · rw [e]; exact hc
     · exact h2 k hk (by omega))
    have f := (can_fw hs.pos (by omega) (hr.2 (n + 1) (by omega) (by omega))).2 hc
    have g := (can_tb (by omega) (ht2 (n + 1) (by omega) (by omega))).2 hc
    refine ⟨r, hR, Ev.step (fun k => by rw [impl_ReachOf.l0]) ?_, Ev.step (fun k => by rw [spec_l27Reach.l0]) ?_⟩
    · rw [w64 (by omega) (by omega)]
      exact ev_ifp (by omega) (ev_ifp (by omega) (ev_ifp f.1 (ev_ifp f.2 a)))
    · rw [w64 (by omega) (by omega)]
      exact ev_ifp (by omega) (ev_ifp (by omega) (ev_ifp g b))
  · obtain ⟨a, b⟩ := stop n h0 (by omega) hc
    exact ⟨n, ⟨h0, by omega, h2, hc⟩, a, b⟩
theorem IsReach.one {v : List Int} {h r r' : Int} (a : IsReach v h r) (b : IsReach v h r') : r = r' := by
 by_cases h1 : r < r'
 · exact absurd (b.2.2.1 (r + 1) (by have := a.1; omega) (by omega)) a.2.2.2
 · by_cases h2 : r' < r
   · exact absurd (a.2.2.1 (r' + 1) (by have := b.1; omega) (by omega)) b.2.2.2
   · omega
def ReachArg (v : List Int) (h : Int) : Prop := AreSt v ∧ 1 ≤ h ∧ h ≤ 6
theorem reach_ev (v : List Int) (h : Int) (hl : v.length ≤ 1099511627776) : ∃ r, Ev (fun k => impl_ReachOf.f k v h) r ∧ Ev (fun k => spec_ReachOf.f k v h) r ∧ (ReachArg v h → IsReach v h r) ∧ (¬ ReachArg v h → r = -1) := by
 by_cases h1 : AreSt v
 · by_cases hh : 1 ≤ h ∧ h ≤ 6
   · have hlen := h1.len
     obtain ⟨t, ht, hE⟩ := fewest_ev (n := 361) (by omega) (by omega) h1.vals (by omega)
     obtain ⟨tb, hb1, hb2, hE'⟩ := tab27_ev (v := v) (most := 361) (by omega) h1.vals h1.2.2 (by omega) (by omega)
     have hrow := ht.2 v.length (by omega) (by omega)
     rw [show ((v.length : Int)).toNat = v.length from by omega, List.take_length] at hrow
     obtain ⟨r, hR, a, b⟩ := reach_l h1 hh hrow (by omega) hb2 360 0 (by omega) (by omega) (fun k hk hk' => by omega)
     have htl := ht.1
     refine ⟨r, ?_, ?_, fun _ => hR, fun h' => absurd ⟨h1, hh⟩ h'⟩
     · unfold impl_ReachOf.f
       simp only [within_eq, Option.bind_some]
       refine ev_bind _ (areStampsI_ev hl) (ev_ifp (by simpa using h1) ?_)
       refine Ev.step (fun k => by rw [impl_ReachOf.j0]) ?_
       exact ev_ifn (nd_f hh) (ev_bind _ hE (ev_ifp (by omega) (ev_ifp (by omega) a)))
     · unfold spec_ReachOf.f
       simp only [l1In_eq, Option.bind_some]
       refine ev_bind _ (areStampsS_ev hl) (ev_ifp (by simpa using h1) (Ev.step (fun k => by rw [spec_ReachOf.j0]) (ev_ifn (by simpa using hh) (ev_bind _ hE' (ev_bind r ?_ (Ev.now _))))))
       unfold spec_l27Reach.f
       exact b
   · refine ⟨-1, ?_, ?_, fun h' => absurd h'.2 hh, fun _ => rfl⟩
     · unfold impl_ReachOf.f
       simp only [within_eq, Option.bind_some]
       exact ev_bind _ (areStampsI_ev hl) (ev_ifp (by simpa using h1) (Ev.step (fun k => by rw [impl_ReachOf.j0]) (ev_ifp (nd_t hh) (Ev.now _))))
     · unfold spec_ReachOf.f
       simp only [l1In_eq, Option.bind_some]
       exact ev_bind _ (areStampsS_ev hl) (ev_ifp (by simpa using h1) (Ev.step (fun k => by rw [spec_ReachOf.j0]) (ev_ifp (nd_t hh) (Ev.now _))))
 · refine ⟨-1, ?_, ?_, fun h' => absurd h'.1 h1, fun _ => rfl⟩
   · unfold impl_ReachOf.f
     exact ev_bind _ (areStampsI_ev hl) (ev_ifn (by simpa using h1) (Ev.step (fun k => by rw [impl_ReachOf.j0]) (ev_ifp rfl (Ev.now _))))
   · unfold spec_ReachOf.f
     exact ev_bind _ (areStampsS_ev hl) (ev_ifn (by simpa using h1) (Ev.step (fun k => by rw [spec_ReachOf.j0]) (ev_ifp rfl (Ev.now _))))
end Go.Proofs.Ythkhpejggdnkfaa.E
end
section
namespace Go.Proofs.Ythkhpejggdnkfaa.E
open Go.RowKit Go.Proofs.Ythkhpejggdnkfaa.PB Go.Proofs.YthkhpejggdnkfaaW.PrintWords Go.Proofs.YthkhpejggdnkfaaW.PrintLast Go.Proofs.YthkhpejggdnkfaaW.PrintMore
set_option linter.unusedVariables false
set_option linter.unusedSimpArgs false
noncomputable def rc (v : List Int) (h : Int) : Int := @dite _ (ReachArg v h ∧ ∃ r, IsReach v h r) (Classical.propDecidable _) (fun p => Classical.choose p.2) (fun _ => -1)
theorem rc_all (v : List Int) (h : Int) (hl : v.length ≤ 1099511627776) : Ev (fun k => impl_ReachOf.f k v h) (rc v h) ∧ Ev (fun k => spec_ReachOf.f k v h) (rc v h) ∧ (ReachArg v h → IsReach v h (rc v h)) := by
 obtain ⟨r, a, b, c, d⟩ := reach_ev v h hl
 have e : rc v h = r := by
  unfold rc
  by_cases q : ReachArg v h ∧ ∃ r, IsReach v h r
  · rw [dif_pos q]; exact (Classical.choose_spec q.2).one (c q.1)
  · rw [dif_neg q]; exact (d (fun k => q ⟨k, r, c k⟩)).symm
 rw [e]
 exact ⟨a, b, c⟩
theorem way_low {v : List Int} (hv : ∀ x ∈ v, 1 ≤ x) {k c : Int} (w : Way v k c) : ∀ m : Int, k ≤ m → Way (v.filter fun x => decide (x ≤ m)) k c := by
 induction w with
 | zero => intro m _; exact .zero
 | @add x k c hx hw ih =>
  intro m hm
  have p := hw.pos hv
  have px := hv x hx
  exact .add (List.mem_filter.2 ⟨hx, by simp; omega⟩) (ih m (by omega))
theorem way_ones {v : List Int} (hv : ∀ x ∈ v, x = 1) {k c : Int} (w : Way v k c) : k = c := by
 induction w with
 | zero => rfl
 | @add x k c hx _ ih => rw [hv x hx, ih]
theorem lst_app (p : List Int) (x : Int) : lst (p ++ [x]) = x := by
 unfold lst
 rw [rd_append (by simp), List.length_append, List.length_singleton, if_neg (by omega), show (((p.length + 1 : Nat) : Int) - 1 - p.length) = 0 from by omega]
 rfl
theorem areSt_app {p : List Int} {x : Int} (h : AreSt p) (hl : p.length ≤ 5) (h1 : lst p < x) (h2 : x ≤ 60) : AreSt (p ++ [x]) := by
 have l := h.len
 have lp := h.2.1 _ (rd_mem (l := p) (i := (p.length : Int) - 1) (by omega) (by omega))
 unfold lst at h1
 refine ⟨by rw [List.length_append, List.length_singleton]; omega, fun z hz => ?_, fun i i0 i1 => ?_⟩
 · rcases List.mem_append.1 hz with k | k
   · exact h.2.1 z k
   · rw [List.mem_singleton] at k; omega
 · rw [List.length_append, List.length_singleton] at i1
   rw [rd_append (by omega), rd_append (by omega), if_pos (by omega)]
   by_cases c : i < p.length
   · rw [if_pos c]; exact h.2.2 i i0 c
   · rw [if_neg c, show i - (p.length : Int) = 0 from by omega, show i - 1 = (p.length : Int) - 1 from by omega]; exact h1
structure Pre (h : Int) (j : Nat) (p : List Int) : Prop where
 are : AreSt p
 one : 1 ∈ p
 reach : lst p ≤ rc p h
 len : p.length + j ≤ 3
theorem arg_of {p : List Int} {h : Int} (a : AreSt p) (hh : 1 ≤ h ∧ h ≤ 4) : ReachArg p h := ⟨a, by omega, by omega⟩
theorem rc_is {p : List Int} {h : Int} (a : AreSt p) (hh : 1 ≤ h ∧ h ≤ 4) : IsReach p h (rc p h) := (rc_all p h (by have := a.len; omega)).2.2 (arg_of a hh)
theorem rc_ge {p : List Int} {h n : Int} (a : AreSt p) (hh : 1 ≤ h ∧ h ≤ 4) (hn : ∀ k, 1 ≤ k → k ≤ n → Can p h k) : n ≤ rc p h := by
 have i := rc_is a hh
 by_cases c : n ≤ rc p h
 · exact c
 · exact absurd (hn (rc p h + 1) (by have := i.1; omega) (by omega)) i.2.2.2
theorem can_one {p : List Int} {h x : Int} (hh : 1 ≤ h ∧ h ≤ 4) (hx : x ∈ p) : Can p h x := ⟨0 + 1, by omega, by have := Way.add hx Way.zero; rwa [Int.zero_add] at this⟩
theorem can_mono {p q : List Int} {h k : Int} (hs : ∀ x ∈ p, x ∈ q) (c : Can p h k) : Can q h k := by
 obtain ⟨n, hn, w⟩ := c; exact ⟨n, hn, w.mono hs⟩
theorem rc_pos {p : List Int} {h : Int} (a : AreSt p) (h1 : 1 ∈ p) (hh : 1 ≤ h ∧ h ≤ 4) : 1 ≤ rc p h :=
 rc_ge a hh fun k k0 k1 => by rw [show k = 1 from by omega]; exact can_one hh h1
theorem rc_up {p : List Int} {x h : Int} (a : AreSt p) (b : AreSt (p ++ [x])) (hh : 1 ≤ h ∧ h ≤ 4) : rc p h ≤ rc (p ++ [x]) h :=
 rc_ge b hh fun k k0 k1 => can_mono (fun z hz => List.mem_append_left _ hz) ((rc_is a hh).2.2.1 k k0 k1)
theorem rc_far {p t : List Int} {h : Int} (a : AreSt p) (b : AreSt (p ++ t)) (ht : ∀ x ∈ t, rc p h + 2 ≤ x) (hh : 1 ≤ h ∧ h ≤ 4) : rc (p ++ t) h ≤ rc p h := by
 have i := rc_is a hh
 have j := rc_is b hh
 by_cases c : rc (p ++ t) h ≤ rc p h
 · exact c
 · exfalso
   obtain ⟨n, hn, w⟩ := j.2.2.1 (rc p h + 1) (by have := i.1; omega) (by omega)
   refine i.2.2.2 ⟨n, hn, (way_low b.pos w _ (Int.le_refl _)).mono fun x hx => ?_⟩
   obtain ⟨h1, h2⟩ := List.mem_filter.1 hx
   have h2 : x ≤ rc p h + 1 := by simpa using h2
   rcases List.mem_append.1 h1 with k | k
   · exact k
   · have := ht x k; omega
theorem pair_of {p : List Int} {a b : Int} (hl : p.length ≤ 2) (ha : a ∈ p) (hb : b ∈ p) (ne : a ≠ b) : ∀ x ∈ p, x = a ∨ x = b := by
 intro x hx
 match p, hl with
 | [], _ => simp at ha
 | [y], _ =>
  simp only [List.mem_singleton] at ha hb
  exact absurd (ha.trans hb.symm) ne
 | [y, z], _ =>
  simp only [List.mem_cons, List.not_mem_nil, or_false] at ha hb hx
  rcases ha with rfl | rfl <;> rcases hb with rfl | rfl <;> rcases hx with rfl | rfl <;> simp_all
theorem rc_small {p : List Int} {h : Int} (a : AreSt p) (h1 : 1 ∈ p) (hl : p.length ≤ 2) (hh : 1 ≤ h ∧ h ≤ 4) : rc p h ≤ 20 := by
 have i := rc_is a hh
 by_cases c : ∀ x ∈ p, x ≤ 5
 · by_cases z : rc p h ≤ 20
   · exact z
   · obtain ⟨n, hn, w⟩ := i.2.2.1 21 (by omega) (by omega)
     have := w.most c
     omega
 · by_cases z : rc p h ≤ 4
   · omega
   · exfalso
     obtain ⟨b, hb⟩ := Classical.not_forall.1 c
     obtain ⟨hb, hb5⟩ := Classical.not_imp.1 hb
     obtain ⟨n, hn, w⟩ := i.2.2.1 5 (by omega) (by omega)
     have := way_ones (fun x hx => by
      obtain ⟨x1, x2⟩ := List.mem_filter.1 hx
      have x2 : x ≤ 5 := by simpa using x2
      rcases pair_of hl h1 hb (by omega) x x1 with k | k
      · exact k
      · omega) (way_low a.pos w 5 (Int.le_refl _))
     omega
theorem rng_app (n m : Nat) : ∀ a : Int, rng a (n + m) = rng a n ++ rng (a + n) m := by
 induction n with
 | zero => intro a; simp [rng]
 | succ n ih => intro a; rw [show n + 1 + m = n + m + 1 from by omega, rng, rng, ih, show a + 1 + (n : Int) = a + ((n + 1 : Nat) : Int) from by omega]; rfl
theorem rng_mem {x : Int} (n : Nat) : ∀ a : Int, x ∈ rng a n → a ≤ x ∧ x < a + n := by
 induction n with
 | zero => intro a h; simp [rng] at h
 | succ n ih =>
  intro a h
  rw [rng] at h
  rcases List.mem_cons.1 h with k | k
  · omega
  · have := ih _ k; omega
noncomputable def seeP (h : Int) (st : List Int × Int) (l : List Int) : List Int × Int := if rc l h > st.2 then (l, rc l h) else st
noncomputable def rsd (h : Int) : Nat → List Int → List Int × Int → List Int × Int
 | 0, l, st => seeP h st l
 | j + 1, l, st => (nexts l).foldl (fun st n => rsd h j (l ++ [n]) st) st
noncomputable def sbt (h : Int) : Nat → List Int → List Int → List Int
 | 0, p, best => @ite _ (best.length = 0 ∨ rc p h > rc best h) (Classical.propDecidable _) p best
 | j + 1, p, best => (if p = [] then [1] else rng (lst p + 1) (rc p h + 1 - lst p).toNat).foldl (fun b x => sbt h j (p ++ [x]) b) best
def Cs (h : Int) (st : List Int × Int) : Prop := (st.1 = [] ∧ st.2 = -1) ∨ (st.1 ≠ [] ∧ st.2 = rc st.1 h)
theorem rsd_skip {h : Int} (hh : 1 ≤ h ∧ h ≤ 4) {p : List Int} (a : AreSt p) (j : Nat) : ∀ (t : List Int) (st : List Int × Int), t ≠ [] → AreSt (p ++ t) → (p ++ t).length + j ≤ 6 → (∀ x ∈ t, rc p h + 2 ≤ x) → rc p h ≤ st.2 → rsd h j (p ++ t) st = st := by
 induction j with
 | zero =>
  intro t st _ b _ ht hs
  have := rc_far a b ht hh
  unfold rsd seeP
  rw [if_neg (by omega)]
 | succ j ih =>
  intro t st nt b hl ht hs
  rw [rsd]
  have lt : rc p h + 2 ≤ lst (p ++ t) := by
   unfold lst
   have tl := List.length_pos_iff.2 nt
   rw [List.length_append, rd_append (by omega), if_neg (by omega)]
   exact ht _ (rd_mem (by omega) (by omega))
  have ne : p ++ t ≠ [] := by
   intro k
   have q := congrArg List.length k
   rw [List.length_append, List.length_nil] at q
   have := a.len
   omega
  unfold nexts
  rw [if_neg ne]
  have bl := b.len
  have each : ∀ (u : List Int), (∀ x ∈ u, lst (p ++ t) + 1 ≤ x ∧ x ≤ 60) → ∀ st : List Int × Int, rc p h ≤ st.2 → u.foldl (fun st n => rsd h j (p ++ t ++ [n]) st) st = st := by
   intro u
   induction u with
   | nil => intro _ st _; rfl
   | cons x u ihu =>
    intro hu st hs
    have hx := hu x (by simp)
    have e := ih (t ++ [x]) st (by simp) (by rw [← List.append_assoc]; exact areSt_app b (by omega) (by omega) (by omega)) (by rw [← List.append_assoc, List.length_append, List.length_singleton]; omega) (fun z hz => by
     rcases List.mem_append.1 hz with k | k
     · exact ht z k
     · rw [List.mem_singleton] at k; omega) hs
    rw [← List.append_assoc] at e
    rw [List.foldl_cons, e]
    exact ihu (fun z hz => hu z (by simp [hz])) st hs
  refine each _ (fun x hx => ?_) st hs
  have l60 := b.2.1 _ (rd_mem (l := p ++ t) (i := ((p ++ t).length : Int) - 1) (by omega) (by omega))
  have := rng_mem _ _ hx
  unfold lst at this ⊢
  omega
theorem pre_app {h : Int} (hh : 1 ≤ h ∧ h ≤ 4) {j : Nat} {p : List Int} (a : Pre h (j + 1) p) {x : Int} (h1 : lst p < x) (h2 : x ≤ rc p h + 1) : Pre h j (p ++ [x]) := by
 have l := a.len
 have sm := rc_small a.are a.one (by omega) hh
 have b := areSt_app a.are (by omega) h1 (by omega)
 refine ⟨b, List.mem_append_left _ a.one, ?_, by rw [List.length_append, List.length_singleton]; omega⟩
 rw [lst_app]
 refine rc_ge b hh fun k k0 k1 => ?_
 by_cases e : k = x
 · rw [e]; exact can_one hh (by simp)
 · exact can_mono (fun z hz => List.mem_append_left _ hz) ((rc_is a.are hh).2.2.1 k k0 (by omega))
theorem rsd_sbt {h : Int} (hh : 1 ≤ h ∧ h ≤ 4) (j : Nat) : ∀ (p : List Int) (st : List Int × Int), Pre h j p → Cs h st → (rsd h j p st).1 = sbt h j p st.1 ∧ Cs h (rsd h j p st) ∧ st.2 ≤ (rsd h j p st).2 ∧ rc p h ≤ (rsd h j p st).2 := by
 induction j with
 | zero =>
  intro p st a c
  have pos := rc_pos a.are a.one hh
  have ne : p ≠ [] := fun k => by have := a.are.len; rw [k] at this; simp at this
  unfold rsd seeP sbt
  rcases c with ⟨c1, c2⟩ | ⟨c1, c2⟩
  · rw [if_pos (by omega), if_pos (.inl (by rw [c1]; rfl))]
    exact ⟨rfl, .inr ⟨ne, rfl⟩, by simp only; omega, Int.le_refl _⟩
  · by_cases g : rc p h > st.2
    · rw [if_pos g, if_pos (.inr (by omega))]
      exact ⟨rfl, .inr ⟨ne, rfl⟩, by simp only; omega, Int.le_refl _⟩
    · rw [if_neg g, if_neg (by
       rintro (k | k)
       · exact c1 (List.length_eq_zero_iff.1 k)
       · omega)]
      exact ⟨rfl, .inr ⟨c1, c2⟩, Int.le_refl _, by omega⟩
 | succ j ih =>
  intro p st a c
  have l := a.len
  have al := a.are.len
  have sm := rc_small a.are a.one (by omega) hh
  have ne : p ≠ [] := fun k => by rw [k] at al; simp at al
  have lp := a.reach
  have l1 := a.are.2.1 _ (rd_mem (l := p) (i := (p.length : Int) - 1) (by omega) (by omega))
  have l1 : 1 ≤ lst p := by unfold lst; exact l1.1
  rw [rsd, sbt]
  unfold nexts
  rw [if_neg ne, if_neg ne, show (60 - lst p).toNat = (rc p h + 1 - lst p).toNat + (59 - rc p h).toNat from by omega, rng_app, List.foldl_append]
  have near : ∀ (u : List Int), (∀ x ∈ u, lst p + 1 ≤ x ∧ x ≤ rc p h + 1) → ∀ st : List Int × Int, Cs h st → (u.foldl (fun st n => rsd h j (p ++ [n]) st) st).1 = u.foldl (fun b x => sbt h j (p ++ [x]) b) st.1 ∧ Cs h (u.foldl (fun st n => rsd h j (p ++ [n]) st) st) ∧ st.2 ≤ (u.foldl (fun st n => rsd h j (p ++ [n]) st) st).2 ∧ (u ≠ [] → rc p h ≤ (u.foldl (fun st n => rsd h j (p ++ [n]) st) st).2) := by
   intro u
   induction u with
   | nil => intro _ st c; exact ⟨rfl, c, Int.le_refl _, fun k => absurd rfl k⟩
   | cons x u ihu =>
    intro hu st c
    have hx := hu x (by simp)
    have b := pre_app hh a (x := x) (by omega) hx.2
    obtain ⟨i1, i2, i3, i4⟩ := ih (p ++ [x]) st b c
    obtain ⟨k1, k2, k3, k4⟩ := ihu (fun z hz => hu z (by simp [hz])) (rsd h j (p ++ [x]) st) i2
    have up := rc_up a.are b.are hh
    simp only [List.foldl_cons]
    rw [← i1]
    exact ⟨k1, k2, by omega, fun _ => by omega⟩
  obtain ⟨n1, n2, n3, n4⟩ := near (rng (lst p + 1) (rc p h + 1 - lst p).toNat) (fun x hx => by have := rng_mem _ _ hx; omega) st c
  have n4 := n4 (by rw [show (rc p h + 1 - lst p).toNat = (rc p h - lst p).toNat + 1 from by omega, rng]; simp)
  have far : ∀ (u : List Int), (∀ x ∈ u, rc p h + 2 ≤ x ∧ x ≤ 60) → ∀ st : List Int × Int, rc p h ≤ st.2 → u.foldl (fun st n => rsd h j (p ++ [n]) st) st = st := by
   intro u
   induction u with
   | nil => intro _ st _; rfl
   | cons x u ihu =>
    intro hu st hs
    have hx := hu x (by simp)
    have e := rsd_skip hh a.are j [x] st (by simp) (areSt_app a.are (by omega) (by omega) (by omega)) (by rw [List.length_append, List.length_singleton]; omega) (fun z hz => by rw [List.mem_singleton] at hz; omega) hs
    rw [List.foldl_cons, e]
    exact ihu (fun z hz => hu z (by simp [hz])) st hs
  rw [far (rng (lst p + 1 + ((rc p h + 1 - lst p).toNat : Int)) (59 - rc p h).toNat) (fun x hx => by have := rng_mem _ _ hx; omega) _ n4]
  exact ⟨n1, n2, n3, n4⟩
theorem areSt_one : AreSt [1] := ⟨by simp, fun x hx => by rw [List.mem_singleton] at hx; omega, fun i i0 i1 => by simp at i1; omega⟩
theorem best_both {h : Int} (hh : 1 ≤ h ∧ h ≤ 4) {j : Nat} (h1 : 1 ≤ j) (h3 : j ≤ 3) : rsd h j [] ([], -1) = (sbt h j [] [], rc (sbt h j [] []) h) := by
 obtain ⟨i, rfl⟩ : ∃ i, j = i + 1 := ⟨j - 1, by omega⟩
 have pos := rc_pos areSt_one (by simp) hh
 have pre : Pre h i [1] := ⟨areSt_one, by simp, by have : lst [1] = 1 := rfl; omega, by simp; omega⟩
 obtain ⟨a, b, c, d⟩ := rsd_sbt hh i [1] ([], -1) pre (.inl ⟨rfl, rfl⟩)
 have e1 : rsd h (i + 1) [] ([], -1) = rsd h i [1] ([], -1) := by rw [rsd]; simp [nexts]
 have e2 : sbt h (i + 1) [] [] = sbt h i [1] [] := by rw [sbt]; simp
 rw [e1, e2, ← a]
 rcases b with ⟨b1, b2⟩ | ⟨b1, b2⟩
 · omega
 · rw [← b2]
end Go.Proofs.Ythkhpejggdnkfaa.E
end
section
namespace Go.Proofs.Ythkhpejggdnkfaa.E
open Go.RowKit Go.Proofs.Ythkhpejggdnkfaa.PB Go.Proofs.YthkhpejggdnkfaaW.PrintWords Go.Proofs.YthkhpejggdnkfaaW.PrintLast Go.Proofs.YthkhpejggdnkfaaW.PrintMore
set_option linter.unusedVariables false
set_option linter.unusedSimpArgs false
theorem rc_bd (v : List Int) (h : Int) : -1 ≤ rc v h ∧ rc v h ≤ 360 := by
 unfold rc
 by_cases q : ReachArg v h ∧ ∃ r, IsReach v h r
 · rw [dif_pos q]
   have := Classical.choose_spec q.2
   exact ⟨by have := this.1; omega, this.2.1⟩
 · rw [dif_neg q]; omega
theorem raised_ev (h : Int) (j : Nat) : ∀ (l : List Int) (st : List Int × Int), l.length + j ≤ 100 → Ev (fun k => impl_raised.f k h j l st) (rsd h j l st) := by
 induction j with
 | zero =>
  intro l st hl
  unfold rsd seeP
  refine Ev.congr (fun k => by rw [impl_raised.f, impl_see.f]) ?_
  exact ev_bind _ (rc_all l h (by omega)).1 (Ev.now _)
 | succ j ih =>
  intro l st hl
  rw [rsd]
  refine Ev.congr (fun k => by rw [impl_raised.f]) ?_
  generalize nexts l = u
  induction u generalizing st with
  | nil => exact Ev.now _
  | cons n u ihu =>
   rw [List.foldl_cons]
   refine Ev.congr (fun k => by rw [List.foldlM_cons]) ?_
   exact ev_bind _ (ih (l ++ [n]) st (by rw [List.length_append, List.length_singleton]; omega)) (ihu _)
theorem sbt_ev (h : Int) (hh : 1 ≤ h ∧ h ≤ 4) (a : Int) (j : Nat) : ∀ (p best : List Int), (p.length : Int) + j = a → p.length + j ≤ 10 → best.length ≤ 10 → (p = [] ∨ (1 ≤ lst p ∧ lst p ≤ 400)) → Ev (fun k => spec_l27Best.f k p a h best) (sbt h j p best) ∧ (sbt h j p best).length ≤ 10 := by
 induction j with
 | zero =>
  intro p best ha hp hb hl
  have rp := (rc_all p h (by omega)).2.1
  have rb := (rc_all best h (by omega)).2.1
  have cp : Ev (fun _ => (some ([] : List Int)).bind fun y => if y.length + p.length < 17592186044416 then some (y ++ p) else none) p := by
   refine ev_bind [] (Ev.now _) (ev_ifp (by rw [List.length_nil]; omega) (ev_to (Ev.now _) (List.nil_append p)))
  unfold sbt
  by_cases c : best.length = 0
  · rw [if_pos (.inl c)]
    exact ⟨Ev.step (fun k => by rw [spec_l27Best.f]) (ev_ifp (by omega) (ev_ifp (by omega) cp)), by omega⟩
  · by_cases g : rc p h > rc best h
    · rw [if_pos (.inr g)]
      exact ⟨Ev.step (fun k => by rw [spec_l27Best.f]) (ev_ifp (by omega) (ev_ifn (by omega) (ev_bind _ rp (ev_bind _ rb (ev_ifp g cp))))), by omega⟩
    · rw [if_neg (fun q => q.elim c g)]
      exact ⟨Ev.step (fun k => by rw [spec_l27Best.f]) (ev_ifp (by omega) (ev_ifn (by omega) (ev_bind _ rp (ev_bind _ rb (ev_ifn g (Ev.now _)))))), hb⟩
 | succ j ih =>
  intro p best ha hp hb hl
  have loop : ∀ (d : Nat) (x most : Int) (b : List Int), 1 ≤ x → x + d = max x (most + 1) → most ≤ 400 → b.length ≤ 10 → Ev (fun k => spec_l27Best.l0 k p a h b most x) ((rng x d).foldl (fun b x => sbt h j (p ++ [x]) b) b) ∧ ((rng x d).foldl (fun b x => sbt h j (p ++ [x]) b) b).length ≤ 10 := by
   intro d
   induction d with
   | zero =>
    intro x most b h1 h2 h3 h4
    rw [rng, List.foldl_nil]
    exact ⟨Ev.step (fun k => by rw [spec_l27Best.l0]) (ev_ifn (by omega) (Ev.now _)), h4⟩
   | succ d ihd =>
    intro x most b h1 h2 h3 h4
    obtain ⟨i1, i2⟩ := ih (p ++ [x]) b (by rw [List.length_append, List.length_singleton]; omega) (by rw [List.length_append, List.length_singleton]; omega) h4 (.inr (by rw [lst_app]; omega))
    obtain ⟨k1, k2⟩ := ihd (x + 1) most (sbt h j (p ++ [x]) b) (by omega) (by omega) h3 i2
    rw [rng, List.foldl_cons]
    refine ⟨Ev.step (fun k => by rw [spec_l27Best.l0]) ?_, k2⟩
    rw [w64 (x := x + 1) (by omega) (by omega)]
    refine ev_ifp (by omega) (ev_bind [] (Ev.now _) (ev_ifp (by simp only [List.length_nil]; omega) (ev_bind p (ev_eq (by rw [List.nil_append])) (ev_ifp (by omega) ?_))))
    exact ev_bind _ i1 k1
  have rb := rc_bd p h
  rw [sbt]
  by_cases c : p = []
  · subst c
    obtain ⟨k1, k2⟩ := loop 1 1 1 best (by omega) (by omega) (by omega) hb
    rw [if_pos rfl]
    refine ⟨Ev.step (fun k => by rw [spec_l27Best.f]) ?_, k2⟩
    refine ev_ifn (by simp only [List.length_nil] at ha ⊢; omega) (ev_ifn (by simp) ?_)
    exact Ev.step (fun k => by rw [spec_l27Best.j0]) k1
  · have lp : 0 < p.length := List.length_pos_iff.2 c
    have l1 : 1 ≤ lst p ∧ lst p ≤ 400 := hl.resolve_left c
    have lr : rd p ((p.length : Int) - 1) = lst p := rfl
    obtain ⟨k1, k2⟩ := loop (rc p h + 1 - lst p).toNat (lst p + 1) (rc p h + 1) best (by omega) (by omega) (by omega) hb
    rw [if_neg c]
    refine ⟨Ev.step (fun k => by rw [spec_l27Best.f]) ?_, k2⟩
    rw [w64 (x := (p.length : Int) - 1) (by omega) (by omega), lr, w64 (x := lst p + 1) (by omega) (by omega)]
    refine ev_ifn (by omega) (ev_ifp (by omega) (ev_ifp (by omega) (ev_ifp (by omega) (ev_bind _ (rc_all p h (by omega)).2.1 ?_))))
    rw [w64 (x := rc p h + 1) (by omega) (by omega)]
    exact Ev.step (fun k => by rw [spec_l27Best.j0]) k1
noncomputable def bst (a h : Int) : List Int × Int := @ite _ ((1 ≤ a ∧ a ≤ 3) ∧ 1 ≤ h ∧ h ≤ 4) (Classical.propDecidable _) (sbt h a.toNat [] [], rc (sbt h a.toNat [] []) h) ([], 0)
theorem bst_ev (a h : Int) : Ev (fun k => impl_BestStamps.f k a h) (bst a h) ∧ Ev (fun k => spec_BestStamps.f k a h) (bst a h) ∧ (bst a h).1.length ≤ 10 := by
 have no : ¬ ((1 ≤ a ∧ a ≤ 3) ∧ 1 ≤ h ∧ h ≤ 4) → bst a h = ([], 0) := fun c => if_neg c
 have sno : ¬ ((1 ≤ a ∧ a ≤ 3) ∧ 1 ≤ h ∧ h ≤ 4) → Ev (fun k => spec_BestStamps.j0 k a h true) (bst a h) := fun c => by
  rw [no c]
  exact Ev.step (fun k => by rw [spec_BestStamps.j0]) (ev_ifp rfl (Ev.now _))
 by_cases c : (1 ≤ a ∧ a ≤ 3) ∧ 1 ≤ h ∧ h ≤ 4
 · have e : bst a h = (sbt h a.toNat [] [], rc (sbt h a.toNat [] []) h) := if_pos c
   obtain ⟨k1, k2⟩ := sbt_ev h c.2 a a.toNat [] [] (by simp only [List.length_nil]; omega) (by simp only [List.length_nil]; omega) (by simp) (.inl rfl)
   rw [e]
   refine ⟨?_, ?_, k2⟩
   · unfold impl_BestStamps.f
     refine ev_ifp c ?_
     rw [← best_both c.2 (j := a.toNat) (by omega) (by omega)]
     exact raised_ev h a.toNat [] ([], -1) (by simp only [List.length_nil]; omega)
   · unfold spec_BestStamps.f
     simp only [l1In_eq, Option.bind_some]
     refine ev_ifp (by simpa using c.1) ?_
     refine Ev.step (fun k => by rw [spec_BestStamps.j0]) (ev_ifn (by simpa using c.2) ?_)
     refine ev_bind [] (Ev.now _) (ev_bind _ k1 (ev_ifp (by simp only [List.length_nil]; omega) ?_))
     refine ev_bind (sbt h a.toNat [] []) (ev_eq (by rw [List.nil_append])) (ev_bind _ (rc_all _ h (by omega)).2.1 (Ev.now _))
 · refine ⟨?_, ?_, by rw [no c]; simp⟩
   · rw [no c]
     unfold impl_BestStamps.f
     exact ev_ifn c (Ev.now _)
   · unfold spec_BestStamps.f
     simp only [l1In_eq, Option.bind_some]
     by_cases c1 : 1 ≤ a ∧ a ≤ 3
     · have c2 : ¬ (1 ≤ h ∧ h ≤ 4) := fun q => c ⟨c1, q⟩
       refine ev_ifp (by simpa using c1) ?_
       rw [decide_eq_false c2]
       exact sno c
     · refine ev_ifn (by simpa using c1) ?_
       exact sno c
end Go.Proofs.Ythkhpejggdnkfaa.E
end
section
namespace Go.Proofs.Ythkhpejggdnkfaa.E
open Go.RowKit Go.Proofs.Ythkhpejggdnkfaa.PB Go.Proofs.YthkhpejggdnkfaaW.PrintWords Go.Proofs.YthkhpejggdnkfaaW.PrintLast Go.Proofs.YthkhpejggdnkfaaW.PrintMore
set_option linter.unusedVariables false
set_option linter.unusedSimpArgs false
theorem eqIntS_l {l m : List Int} (hl : l.length ≤ 1099511627776) (e : l.length = m.length) (d : Nat) : ∀ (i : Int), 0 ≤ i → i + d = l.length → Ev (fun k => laws_eqIntS.l0 k l m i) (decide (l.drop i.toNat = m.drop i.toNat)) := by
 induction d with
 | zero =>
  intro i h0 h1
  refine Ev.step (fun k => by rw [laws_eqIntS.l0]) ?_
  simp (disch := omega) only [if_neg]
  refine ev_to (Ev.now _) ?_
  rw [List.drop_of_length_le (by omega), List.drop_of_length_le (by omega)]; simp
 | succ d ih =>
  intro i h0 h1
  refine Ev.step (fun k => by rw [laws_eqIntS.l0]) ?_
  simp (disch := omega) only [if_pos, w64]
  rw [drop_rd h0 (by omega), drop_rd (l := m) h0 (by omega)]
  by_cases h : rd l i = rd m i
  · refine ev_ifp h (ev_to (ih (i + 1) (by omega) (by omega)) ?_)
    simp [h]
  · refine ev_ifn h (ev_to (Ev.now _) ?_)
    simp [h]
theorem eqIntS_ev {l m : List Int} (hl : l.length ≤ 1099511627776) : Ev (fun k => laws_eqIntS.f k l m) (decide (l = m)) := by
 unfold laws_eqIntS.f
 by_cases e : l.length = m.length
 · refine ev_ifp (by omega) (ev_to (eqIntS_l hl e l.length 0 (by omega) (by omega)) ?_)
   simp
 · refine ev_ifn (by omega) (ev_to (Ev.now _) ?_)
   simp; intro h; exact e (by rw [h])
theorem eqIntS_same {l : List Int} (hl : l.length ≤ 1099511627776) : Ev (fun k => laws_eqIntS.f k l l) true := ev_to (eqIntS_ev hl) (by simp)
end Go.Proofs.Ythkhpejggdnkfaa.E
end
section
namespace Go.Proofs.Ythkhpejggdnkfaa.E
open Go.RowKit Go.Proofs.Ythkhpejggdnkfaa.PB Go.Proofs.YthkhpejggdnkfaaW.PrintWords Go.Proofs.YthkhpejggdnkfaaW.PrintLast Go.Proofs.YthkhpejggdnkfaaW.PrintMore
set_option linter.unusedVariables false
set_option linter.unusedSimpArgs false
theorem markIntS_l {n : Nat} (a : Int) (ha : 0 ≤ a) (hn : a + n ≤ 4611686018427387904) (d : Nat) : ∀ (i : Int) (l : List Int), 0 ≤ i → i + d = n → l.length = n → (∀ j, 0 ≤ j → j < i → rd l j = a + j) → Ev (fun k => laws_markIntS.l0 k l (a + i) i) (a + n, marks a n) := by
 induction d with
 | zero =>
  intro i l h0 h1 h2 h3
  refine Ev.step (fun k => by rw [laws_markIntS.l0]) ?_
  simp (disch := omega) only [if_neg]
  refine ev_to (Ev.now _) ?_
  rw [show a + i = a + n from by omega]
  congr 1
  refine rd_ext (by rw [h2, marks_len]) fun j hj hj' => ?_
  rw [h3 j hj (by omega), marks_rd _ _ _ hj (by omega)]
 | succ d ih =>
  intro i l h0 h1 h2 h3
  refine Ev.step (fun k => by rw [laws_markIntS.l0]) ?_
  simp (disch := omega) only [if_pos, w64]
  rw [Int.add_assoc]
  refine ih (i + 1) _ (by omega) (by omega) (by simpa using h2) fun j hj hj' => ?_
  rw [rd_set _ h0 (by omega) hj]
  by_cases e : j = i
  · rw [if_pos e, e]
  · rw [if_neg e]; exact h3 j hj (by omega)
theorem markIntS_ev {l : List Int} {a : Int} (ha : 0 ≤ a) (hl : a + l.length ≤ 4611686018427387904) : Ev (fun k => laws_markIntS.f k l a) (a + l.length, marks a l.length) := by
 unfold laws_markIntS.f
 have := markIntS_l a ha hl l.length 0 l (by omega) (by omega) rfl (fun j h h' => by omega)
 rwa [Int.add_zero] at this
theorem heldIntS_l {n : Nat} (a : Int) (ha : 0 ≤ a) (hn : a + n ≤ 4611686018427387904) (d : Nat) : ∀ (i : Int), 0 ≤ i → i + d = n → Ev (fun k => laws_heldIntS.l0 k (marks a n) (a + i) i) (a + n) := by
 have hm := marks_len a n
 induction d with
 | zero =>
  intro i h0 h1
  refine Ev.step (fun k => by rw [laws_heldIntS.l0]) ?_
  simp (disch := omega) only [if_neg]
  exact ev_to (Ev.now _) (by omega)
 | succ d ih =>
  intro i h0 h1
  refine Ev.step (fun k => by rw [laws_heldIntS.l0]) ?_
  simp (disch := omega) only [if_pos, w64]
  refine ev_ifp (marks_rd _ _ _ h0 (by omega)) ?_
  rw [Int.add_assoc]
  exact ih (i + 1) (by omega) (by omega)
theorem heldIntS_ev {n : Nat} {a : Int} (ha : 0 ≤ a) (hn : a + n ≤ 4611686018427387904) : Ev (fun k => laws_heldIntS.f k (marks a n) a) (a + n) := by
 unfold laws_heldIntS.f
 have := heldIntS_l a ha hn n 0 (by omega) (by omega)
 rwa [Int.add_zero] at this
end Go.Proofs.Ythkhpejggdnkfaa.E
end
section
namespace Go.Proofs.Ythkhpejggdnkfaa.Pure
open Go.RowKit Go.Proofs.Ythkhpejggdnkfaa.PB Go.Proofs.Ythkhpejggdnkfaa.E Go.Proofs.YthkhpejggdnkfaaW.PrintWords Go.Proofs.YthkhpejggdnkfaaW.PrintLast Go.Proofs.YthkhpejggdnkfaaW.PrintMore
set_option linter.unusedVariables false
set_option linter.unusedSimpArgs false
theorem FnExactBestStamps : laws_FnExactBestStamps.Pure := by
 intro a0 a1 h1 h2
 apply Ev.rounds
 unfold laws_FnExactBestStamps.f
 obtain ⟨hi, hs, ll⟩ := bst_ev a0 a1
 have es := eqIntS_same (l := (bst a0 a1).1) (by omega)
 have ea := markIntS_ev (l := (bst a0 a1).1) (a := 1) (by omega) (by omega)
 have eh := heldIntS_ev (n := (bst a0 a1).1.length) (a := 1) (by omega) (by omega)
 refine ev_bind _ hs ?_
 refine ev_bind _ hi ?_
 refine ev_bind _ es ?_
 refine ev_ifp rfl ?_
 refine Ev.step (fun k => by rw [laws_FnExactBestStamps.j0]) ?_
 refine ev_ifn (by simp) ?_
 refine ev_bind _ ea ?_
 refine ev_bind _ eh ?_
 refine ev_ifn (show ¬ (1 + ((bst a0 a1).1.length : Int) < 0) by omega) ?_
 refine ev_ifp rfl ?_
 refine ev_bind _ hi ?_
 refine ev_bind _ es ?_
 refine ev_ifp rfl ?_
 refine Ev.step (fun k => by rw [laws_FnExactBestStamps.j1]) ?_
 refine ev_ifn (by simp) ?_
 refine ev_bind _ eh ?_
 refine ev_ifn (show ¬ (1 + ((bst a0 a1).1.length : Int) < 0) by omega) ?_
 refine ev_ifp rfl ?_
 exact Ev.now _
end Go.Proofs.Ythkhpejggdnkfaa.Pure
end
