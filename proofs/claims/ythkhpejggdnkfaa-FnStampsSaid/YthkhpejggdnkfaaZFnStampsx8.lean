-- Bundled by shake.py from this session's printed and written texts; Lean checks it.
import Derived.ChangeSlices
import Derived.SizedLaws
import Derived.Test.YthkhpejggdnkfaaZFnStampsx1
import Derived.Test.YthkhpejggdnkfaaZFnStampsx2
import Derived.Test.YthkhpejggdnkfaaZFnStampsx3
import Derived.Test.YthkhpejggdnkfaaZFnStampsx4
import Derived.Test.YthkhpejggdnkfaaZFnStampsx5
import Derived.Test.YthkhpejggdnkfaaZFnStampsx6
import Derived.Test.YthkhpejggdnkfaaZFnStampsx7
section
namespace Go.Proofs.Ythkhpejggdnkfaa.E
open Go.RowKit Go.Proofs.Ythkhpejggdnkfaa.PB Go.Proofs.YthkhpejggdnkfaaW.PrintWords Go.Proofs.YthkhpejggdnkfaaW.PrintLast Go.Proofs.YthkhpejggdnkfaaW.PrintMore
set_option linter.unusedVariables false
set_option linter.unusedSimpArgs false
noncomputable def rc (v : List Int) (h : Int) : Int := @dite _ (ReachArg v h ∧ ∃ r, IsReach v h r) (Classical.propDecidable _) (fun p => Classical.choose p.2) (fun _ => -1)
theorem rc_all (v : List Int) (h : Int) (hl : v.length ≤ 1099511627776) : Ev (fun k => impl_ReachOf.f k v h) (rc v h) ∧ Ev (fun k => spec_ReachOf.f k v h) (rc v h) ∧ (ReachArg v h → IsReach v h (rc v h)) := by
 obtain ⟨r, a, b, c, d⟩ := reach_ev v h hl
 have e : rc v h = r := by
  unfold rc
  by_cases q : ReachArg v h ∧ ∃ r, IsReach v h r
  · rw [dif_pos q]; exact (Classical.choose_spec q.2).one (c q.1)
  · rw [dif_neg q]; exact (d (fun k => q ⟨k, r, c k⟩)).symm
 rw [e]
 exact ⟨a, b, c⟩
theorem way_low {v : List Int} (hv : ∀ x ∈ v, 1 ≤ x) {k c : Int} (w : Way v k c) : ∀ m : Int, k ≤ m → Way (v.filter fun x => decide (x ≤ m)) k c := by
 induction w with
 | zero => intro m _; exact .zero
 | @add x k c hx hw ih =>
  intro m hm
  have p := hw.pos hv
  have px := hv x hx
  exact .add (List.mem_filter.2 ⟨hx, by simp; omega⟩) (ih m (by omega))
theorem way_ones {v : List Int} (hv : ∀ x ∈ v, x = 1) {k c : Int} (w : Way v k c) : k = c := by
 induction w with
 | zero => rfl
 | @add x k c hx _ ih => rw [hv x hx, ih]
theorem lst_app (p : List Int) (x : Int) : lst (p ++ [x]) = x := by
 unfold lst
 rw [rd_append (by simp), List.length_append, List.length_singleton, if_neg (by omega), show (((p.length + 1 : Nat) : Int) - 1 - p.length) = 0 from by omega]
 rfl
theorem areSt_app {p : List Int} {x : Int} (h : AreSt p) (hl : p.length ≤ 5) (h1 : lst p < x) (h2 : x ≤ 60) : AreSt (p ++ [x]) := by
 have l := h.len
 have lp := h.2.1 _ (rd_mem (l := p) (i := (p.length : Int) - 1) (by omega) (by omega))
 unfold lst at h1
 refine ⟨by rw [List.length_append, List.length_singleton]; omega, fun z hz => ?_, fun i i0 i1 => ?_⟩
 · rcases List.mem_append.1 hz with k | k
   · exact h.2.1 z k
   · rw [List.mem_singleton] at k; omega
 · rw [List.length_append, List.length_singleton] at i1
   rw [rd_append (by omega), rd_append (by omega), if_pos (by omega)]
   by_cases c : i < p.length
   · rw [if_pos c]; exact h.2.2 i i0 c
   · rw [if_neg c, show i - (p.length : Int) = 0 from by omega, show i - 1 = (p.length : Int) - 1 from by omega]; exact h1
structure Pre (h : Int) (j : Nat) (p : List Int) : Prop where
 are : AreSt p
 one : 1 ∈ p
 reach : lst p ≤ rc p h
 len : p.length + j ≤ 3
theorem arg_of {p : List Int} {h : Int} (a : AreSt p) (hh : 1 ≤ h ∧ h ≤ 4) : ReachArg p h := ⟨a, by omega, by omega⟩
theorem rc_is {p : List Int} {h : Int} (a : AreSt p) (hh : 1 ≤ h ∧ h ≤ 4) : IsReach p h (rc p h) := (rc_all p h (by have := a.len; omega)).2.2 (arg_of a hh)
theorem rc_ge {p : List Int} {h n : Int} (a : AreSt p) (hh : 1 ≤ h ∧ h ≤ 4) (hn : ∀ k, 1 ≤ k → k ≤ n → Can p h k) : n ≤ rc p h := by
 have i := rc_is a hh
 by_cases c : n ≤ rc p h
 · exact c
 · exact absurd (hn (rc p h + 1) (by have := i.1; omega) (by omega)) i.2.2.2
theorem can_one {p : List Int} {h x : Int} (hh : 1 ≤ h ∧ h ≤ 4) (hx : x ∈ p) : Can p h x := ⟨0 + 1, by omega, by have := Way.add hx Way.zero; rwa [Int.zero_add] at this⟩
theorem can_mono {p q : List Int} {h k : Int} (hs : ∀ x ∈ p, x ∈ q) (c : Can p h k) : Can q h k := by
 obtain ⟨n, hn, w⟩ := c; exact ⟨n, hn, w.mono hs⟩
theorem rc_pos {p : List Int} {h : Int} (a : AreSt p) (h1 : 1 ∈ p) (hh : 1 ≤ h ∧ h ≤ 4) : 1 ≤ rc p h :=
 rc_ge a hh fun k k0 k1 => by rw [show k = 1 from by omega]; exact can_one hh h1
theorem rc_up {p : List Int} {x h : Int} (a : AreSt p) (b : AreSt (p ++ [x])) (hh : 1 ≤ h ∧ h ≤ 4) : rc p h ≤ rc (p ++ [x]) h :=
 rc_ge b hh fun k k0 k1 => can_mono (fun z hz => List.mem_append_left _ hz) ((rc_is a hh).2.2.1 k k0 k1)
theorem rc_far {p t : List Int} {h : Int} (a : AreSt p) (b : AreSt (p ++ t)) (ht : ∀ x ∈ t, rc p h + 2 ≤ x) (hh : 1 ≤ h ∧ h ≤ 4) : rc (p ++ t) h ≤ rc p h := by
 have i := rc_is a hh
 have j := rc_is b hh
 by_cases c : rc (p ++ t) h ≤ rc p h
 · exact c
 · exfalso
   obtain ⟨n, hn, w⟩ := j.2.2.1 (rc p h + 1) (by have := i.1; omega) (by omega)
   refine i.2.2.2 ⟨n, hn, (way_low b.pos w _ (Int.le_refl _)).mono fun x hx => ?_⟩
   obtain ⟨h1, h2⟩ := List.mem_filter.1 hx
   have h2 : x ≤ rc p h + 1 := by simpa using h2
   rcases List.mem_append.1 h1 with k | k
   · exact k
   · have := ht x k; omega
theorem pair_of {p : List Int} {a b : Int} (hl : p.length ≤ 2) (ha : a ∈ p) (hb : b ∈ p) (ne : a ≠ b) : ∀ x ∈ p, x = a ∨ x = b := by
 intro x hx
 match p, hl with
 | [], _ => simp at ha
 | [y], _ =>
  simp only [List.mem_singleton] at ha hb
  exact absurd (ha.trans hb.symm) ne
 | [y, z], _ =>
  simp only [List.mem_cons, List.not_mem_nil, or_false] at ha hb hx
  rcases ha with rfl | rfl <;> rcases hb with rfl | rfl <;> rcases hx with rfl | rfl <;> simp_all
theorem rc_small {p : List Int} {h : Int} (a : AreSt p) (h1 : 1 ∈ p) (hl : p.length ≤ 2) (hh : 1 ≤ h ∧ h ≤ 4) : rc p h ≤ 20 := by
 have i := rc_is a hh
 by_cases c : ∀ x ∈ p, x ≤ 5
 · by_cases z : rc p h ≤ 20
   · exact z
   · obtain ⟨n, hn, w⟩ := i.2.2.1 21 (by omega) (by omega)
     have := w.most c
     omega
 · by_cases z : rc p h ≤ 4
   · omega
   · exfalso
     obtain ⟨b, hb⟩ := Classical.not_forall.1 c
     obtain ⟨hb, hb5⟩ := Classical.not_imp.1 hb
     obtain ⟨n, hn, w⟩ := i.2.2.1 5 (by omega) (by omega)
     have := way_ones (fun x hx => by
      obtain ⟨x1, x2⟩ := List.mem_filter.1 hx
      have x2 : x ≤ 5 := by simpa using x2
      rcases pair_of hl h1 hb (by omega) x x1 with k | k
      · exact k
      · omega) (way_low a.pos w 5 (Int.le_refl _))
     omega
theorem rng_app (n m : Nat) : ∀ a : Int, rng a (n + m) = rng a n ++ rng (a + n) m := by
 induction n with
 | zero => intro a; simp [rng]
 | succ n ih => intro a; rw [show n + 1 + m = n + m + 1 from by omega, rng, rng, ih, show a + 1 + (n : Int) = a + ((n + 1 : Nat) : Int) from by omega]; rfl
theorem rng_mem {x : Int} (n : Nat) : ∀ a : Int, x ∈ rng a n → a ≤ x ∧ x < a + n := by
 induction n with
 | zero => intro a h; simp [rng] at h
 | succ n ih =>
  intro a h
  rw [rng] at h
  rcases List.mem_cons.1 h with k | k
  · omega
  · have := ih _ k; omega
noncomputable def seeP (h : Int) (st : List Int × Int) (l : List Int) : List Int × Int := if rc l h > st.2 then (l, rc l h) else st
noncomputable def rsd (h : Int) : Nat → List Int → List Int × Int → List Int × Int
 | 0, l, st => seeP h st l
 | j + 1, l, st => (nexts l).foldl (fun st n => rsd h j (l ++ [n]) st) st
noncomputable def sbt (h : Int) : Nat → List Int → List Int → List Int
 | 0, p, best => @ite _ (best.length = 0 ∨ rc p h > rc best h) (Classical.propDecidable _) p best
 | j + 1, p, best => (if p = [] then [1] else rng (lst p + 1) (rc p h + 1 - lst p).toNat).foldl (fun b x => sbt h j (p ++ [x]) b) best
def Cs (h : Int) (st : List Int × Int) : Prop := (st.1 = [] ∧ st.2 = -1) ∨ (st.1 ≠ [] ∧ st.2 = rc st.1 h)
theorem rsd_skip {h : Int} (hh : 1 ≤ h ∧ h ≤ 4) {p : List Int} (a : AreSt p) (j : Nat) : ∀ (t : List Int) (st : List Int × Int), t ≠ [] → AreSt (p ++ t) → (p ++ t).length + j ≤ 6 → (∀ x ∈ t, rc p h + 2 ≤ x) → rc p h ≤ st.2 → rsd h j (p ++ t) st = st := by
 induction j with
 | zero =>
  intro t st _ b _ ht hs
  have := rc_far a b ht hh
  unfold rsd seeP
  rw [if_neg (by omega)]
 | succ j ih =>
  intro t st nt b hl ht hs
  rw [rsd]
  have lt : rc p h + 2 ≤ lst (p ++ t) := by
   unfold lst
   have tl := List.length_pos_iff.2 nt
   rw [List.length_append, rd_append (by omega), if_neg (by omega)]
   exact ht _ (rd_mem (by omega) (by omega))
  have ne : p ++ t ≠ [] := by
   intro k
   have q := congrArg List.length k
   rw [List.length_append, List.length_nil] at q
   have := a.len
   omega
  unfold nexts
  rw [if_neg ne]
  have bl := b.len
  have each : ∀ (u : List Int), (∀ x ∈ u, lst (p ++ t) + 1 ≤ x ∧ x ≤ 60) → ∀ st : List Int × Int, rc p h ≤ st.2 → u.foldl (fun st n => rsd h j (p ++ t ++ [n]) st) st = st := by
   intro u
   induction u with
   | nil => intro _ st _; rfl
   | cons x u ihu =>
    intro hu st hs
    have hx := hu x (by simp)
    have e := ih (t ++ [x]) st (by simp) (by rw [← List.append_assoc]; exact areSt_app b (by omega) (by omega) (by omega)) (by rw [← List.append_assoc, List.length_append, List.length_singleton]; omega) (fun z hz => by
     rcases List.mem_append.1 hz with k | k
     · exact ht z k
     · rw [List.mem_singleton] at k; omega) hs
    rw [← List.append_assoc] at e
    rw [List.foldl_cons, e]
    exact ihu (fun z hz => hu z (by simp [hz])) st hs
  refine each _ (fun x hx => ?_) st hs
  have l60 := b.2.1 _ (rd_mem (l := p ++ t) (i := ((p ++ t).length : Int) - 1) (by omega) (by omega))
  have := rng_mem _ _ hx
  unfold lst at this ⊢
  omega
theorem pre_app {h : Int} (hh : 1 ≤ h ∧ h ≤ 4) {j : Nat} {p : List Int} (a : Pre h (j + 1) p) {x : Int} (h1 : lst p < x) (h2 : x ≤ rc p h + 1) : Pre h j (p ++ [x]) := by
 have l := a.len
 have sm := rc_small a.are a.one (by omega) hh
 have b := areSt_app a.are (by omega) h1 (by omega)
 refine ⟨b, List.mem_append_left _ a.one, ?_, by rw [List.length_append, List.length_singleton]; omega⟩
 rw [lst_app]
 refine rc_ge b hh fun k k0 k1 => ?_
 by_cases e : k = x
 · rw [e]; exact can_one hh (by simp)
 · exact can_mono (fun z hz => List.mem_append_left _ hz) ((rc_is a.are hh).2.2.1 k k0 (by omega))
theorem rsd_sbt {h : Int} (hh : 1 ≤ h ∧ h ≤ 4) (j : Nat) : ∀ (p : List Int) (st : List Int × Int), Pre h j p → Cs h st → (rsd h j p st).1 = sbt h j p st.1 ∧ Cs h (rsd h j p st) ∧ st.2 ≤ (rsd h j p st).2 ∧ rc p h ≤ (rsd h j p st).2 := by
 induction j with
 | zero =>
  intro p st a c
  have pos := rc_pos a.are a.one hh
  have ne : p ≠ [] := fun k => by have := a.are.len; rw [k] at this; simp at this
  unfold rsd seeP sbt
  rcases c with ⟨c1, c2⟩ | ⟨c1, c2⟩
  · rw [if_pos (by omega), if_pos (.inl (by rw [c1]; rfl))]
    exact ⟨rfl, .inr ⟨ne, rfl⟩, by simp only; omega, Int.le_refl _⟩
  · by_cases g : rc p h > st.2
    · rw [if_pos g, if_pos (.inr (by omega))]
      exact ⟨rfl, .inr ⟨ne, rfl⟩, by simp only; omega, Int.le_refl _⟩
    · rw [if_neg g, if_neg (by
       rintro (k | k)
       · exact c1 (List.length_eq_zero_iff.1 k)
       · omega)]
      exact ⟨rfl, .inr ⟨c1, c2⟩, Int.le_refl _, by omega⟩
 | succ j ih =>
  intro p st a c
  have l := a.len
  have al := a.are.len
  have sm := rc_small a.are a.one (by omega) hh
  have ne : p ≠ [] := fun k => by rw [k] at al; simp at al
  have lp := a.reach
  have l1 := a.are.2.1 _ (rd_mem (l := p) (i := (p.length : Int) - 1) (by omega) (by omega))
  have l1 : 1 ≤ lst p := by unfold lst; exact l1.1
  rw [rsd, sbt]
  unfold nexts
  rw [if_neg ne, if_neg ne, show (60 - lst p).toNat = (rc p h + 1 - lst p).toNat + (59 - rc p h).toNat from by omega, rng_app, List.foldl_append]
  have near : ∀ (u : List Int), (∀ x ∈ u, lst p + 1 ≤ x ∧ x ≤ rc p h + 1) → ∀ st : List Int × Int, Cs h st → (u.foldl (fun st n => rsd h j (p ++ [n]) st) st).1 = u.foldl (fun b x => sbt h j (p ++ [x]) b) st.1 ∧ Cs h (u.foldl (fun st n => rsd h j (p ++ [n]) st) st) ∧ st.2 ≤ (u.foldl (fun st n => rsd h j (p ++ [n]) st) st).2 ∧ (u ≠ [] → rc p h ≤ (u.foldl (fun st n => rsd h j (p ++ [n]) st) st).2) := by
   intro u
   induction u with
   | nil => intro _ st c; exact ⟨rfl, c, Int.le_refl _, fun k => absurd rfl k⟩
   | cons x u ihu =>
    intro hu st c
    have hx := hu x (by simp)
    have b := pre_app hh a (x := x) (by omega) hx.2
    obtain ⟨i1, i2, i3, i4⟩ := ih (p ++ [x]) st b c
    obtain ⟨k1, k2, k3, k4⟩ := ihu (fun z hz => hu z (by simp [hz])) (rsd h j (p ++ [x]) st) i2
    have up := rc_up a.are b.are hh
    simp only [List.foldl_cons]
    rw [← i1]
    exact ⟨k1, k2, by omega, fun _ => by omega⟩
  obtain ⟨n1, n2, n3, n4⟩ := near (rng (lst p + 1) (rc p h + 1 - lst p).toNat) (fun x hx => by have := rng_mem _ _ hx; omega) st c
  have n4 := n4 (by rw [show (rc p h + 1 - lst p).toNat = (rc p h - lst p).toNat + 1 from by omega, rng]; simp)
  have far : ∀ (u : List Int), (∀ x ∈ u, rc p h + 2 ≤ x ∧ x ≤ 60) → ∀ st : List Int × Int, rc p h ≤ st.2 → u.foldl (fun st n => rsd h j (p ++ [n]) st) st = st := by
   intro u
   induction u with
   | nil => intro _ st _; rfl
   | cons x u ihu =>
    intro hu st hs
    have hx := hu x (by simp)
    have e := rsd_skip hh a.are j [x] st (by simp) (areSt_app a.are (by omega) (by omega) (by omega)) (by rw [List.length_append, List.length_singleton]; omega) (fun z hz => by rw [List.mem_singleton] at hz; omega) hs
    rw [List.foldl_cons, e]
    exact ihu (fun z hz => hu z (by simp [hz])) st hs
  rw [far (rng (lst p + 1 + ((rc p h + 1 - lst p).toNat : Int)) (59 - rc p h).toNat) (fun x hx => by have := rng_mem _ _ hx; omega) _ n4]
  exact ⟨n1, n2, n3, n4⟩
theorem areSt_one : AreSt [1] := ⟨by simp, fun x hx => by rw [List.mem_singleton] at hx; omega, fun i i0 i1 => by simp at i1; omega⟩
theorem best_both {h : Int} (hh : 1 ≤ h ∧ h ≤ 4) {j : Nat} (h1 : 1 ≤ j) (h3 : j ≤ 3) : rsd h j [] ([], -1) = (sbt h j [] [], rc (sbt h j [] []) h) := by
 obtain ⟨i, rfl⟩ : ∃ i, j = i + 1 := ⟨j - 1, by omega⟩
 have pos := rc_pos areSt_one (by simp) hh
 have pre : Pre h i [1] := ⟨areSt_one, by simp, by have : lst [1] = 1 := rfl; omega, by simp; omega⟩
 obtain ⟨a, b, c, d⟩ := rsd_sbt hh i [1] ([], -1) pre (.inl ⟨rfl, rfl⟩)
 have e1 : rsd h (i + 1) [] ([], -1) = rsd h i [1] ([], -1) := by rw [rsd]; simp [nexts]
 have e2 : sbt h (i + 1) [] [] = sbt h i [1] [] := by rw [sbt]; simp
 rw [e1, e2, ← a]
 rcases b with ⟨b1, b2⟩ | ⟨b1, b2⟩
 · omega
 · rw [← b2]
end Go.Proofs.Ythkhpejggdnkfaa.E
end
section
namespace Go.Proofs.Ythkhpejggdnkfaa.E
open Go.RowKit Go.Proofs.Ythkhpejggdnkfaa.PB Go.Proofs.YthkhpejggdnkfaaW.PrintWords Go.Proofs.YthkhpejggdnkfaaW.PrintLast Go.Proofs.YthkhpejggdnkfaaW.PrintMore
set_option linter.unusedVariables false
set_option linter.unusedSimpArgs false
theorem rc_bd (v : List Int) (h : Int) : -1 ≤ rc v h ∧ rc v h ≤ 360 := by
 unfold rc
 by_cases q : ReachArg v h ∧ ∃ r, IsReach v h r
 · rw [dif_pos q]
   have := Classical.choose_spec q.2
   exact ⟨by have := this.1; omega, this.2.1⟩
 · rw [dif_neg q]; omega
theorem raised_ev (h : Int) (j : Nat) : ∀ (l : List Int) (st : List Int × Int), l.length + j ≤ 100 → Ev (fun k => impl_raised.f k h j l st) (rsd h j l st) := by
 induction j with
 | zero =>
  intro l st hl
  unfold rsd seeP
  refine Ev.congr (fun k => by rw [impl_raised.f, impl_see.f]) ?_
  exact ev_bind _ (rc_all l h (by omega)).1 (Ev.now _)
 | succ j ih =>
  intro l st hl
  rw [rsd]
  refine Ev.congr (fun k => by rw [impl_raised.f]) ?_
  generalize nexts l = u
  induction u generalizing st with
  | nil => exact Ev.now _
  | cons n u ihu =>
   rw [List.foldl_cons]
   refine Ev.congr (fun k => by rw [List.foldlM_cons]) ?_
   exact ev_bind _ (ih (l ++ [n]) st (by rw [List.length_append, List.length_singleton]; omega)) (ihu _)
theorem sbt_ev (h : Int) (hh : 1 ≤ h ∧ h ≤ 4) (a : Int) (j : Nat) : ∀ (p best : List Int), (p.length : Int) + j = a → p.length + j ≤ 10 → best.length ≤ 10 → (p = [] ∨ (1 ≤ lst p ∧ lst p ≤ 400)) → Ev (fun k => spec_l27Best.f k p a h best) (sbt h j p best) ∧ (sbt h j p best).length ≤ 10 := by
 induction j with
 | zero =>
  intro p best ha hp hb hl
  have rp := (rc_all p h (by omega)).2.1
  have rb := (rc_all best h (by omega)).2.1
  have cp : Ev (fun _ => (some ([] : List Int)).bind fun y => if y.length + p.length < 17592186044416 then some (y ++ p) else none) p := by
   refine ev_bind [] (Ev.now _) (ev_ifp (by rw [List.length_nil]; omega) (ev_to (Ev.now _) (List.nil_append p)))
  unfold sbt
  by_cases c : best.length = 0
  · rw [if_pos (.inl c)]
    exact ⟨Ev.step (fun k => by rw [spec_l27Best.f]) (ev_ifp (by omega) (ev_ifp (by omega) cp)), by omega⟩
  · by_cases g : rc p h > rc best h
    · rw [if_pos (.inr g)]
      exact ⟨Ev.step (fun k => by rw [spec_l27Best.f]) (ev_ifp (by omega) (ev_ifn (by omega) (ev_bind _ rp (ev_bind _ rb (ev_ifp g cp))))), by omega⟩
    · rw [if_neg (fun q => q.elim c g)]
      exact ⟨Ev.step (fun k => by rw [spec_l27Best.f]) (ev_ifp (by omega) (ev_ifn (by omega) (ev_bind _ rp (ev_bind _ rb (ev_ifn g (Ev.now _)))))), hb⟩
 | succ j ih =>
  intro p best ha hp hb hl
  have loop : ∀ (d : Nat) (x most : Int) (b : List Int), 1 ≤ x → x + d = max x (most + 1) → most ≤ 400 → b.length ≤ 10 → Ev (fun k => spec_l27Best.l0 k p a h b most x) ((rng x d).foldl (fun b x => sbt h j (p ++ [x]) b) b) ∧ ((rng x d).foldl (fun b x => sbt h j (p ++ [x]) b) b).length ≤ 10 := by
   intro d
   induction d with
   | zero =>
    intro x most b h1 h2 h3 h4
    rw [rng, List.foldl_nil]
    exact ⟨Ev.step (fun k => by rw [spec_l27Best.l0]) (ev_ifn (by omega) (Ev.now _)), h4⟩
   | succ d ihd =>
    intro x most b h1 h2 h3 h4
    obtain ⟨i1, i2⟩ := ih (p ++ [x]) b (by rw [List.length_append, List.length_singleton]; omega) (by rw [List.length_append, List.length_singleton]; omega) h4 (.inr (by rw [lst_app]; omega))
    obtain ⟨k1, k2⟩ := ihd (x + 1) most (sbt h j (p ++ [x]) b) (by omega) (by omega) h3 i2
    rw [rng, List.foldl_cons]
    refine ⟨Ev.step (fun k => by rw [spec_l27Best.l0]) ?_, k2⟩
    rw [w64 (x := x + 1) (by omega) (by omega)]
    refine ev_ifp (by omega) (ev_bind [] (Ev.now _) (ev_ifp (by simp only [List.length_nil]; omega) (ev_bind p (ev_eq (by rw [List.nil_append])) (ev_ifp (by omega) ?_))))
    exact ev_bind _ i1 k1
  have rb := rc_bd p h
  rw [sbt]
  by_cases c : p = []
  · subst c
    obtain ⟨k1, k2⟩ := loop 1 1 1 best (by omega) (by omega) (by omega) hb
    rw [if_pos rfl]
    refine ⟨Ev.step (fun k => by rw [spec_l27Best.f]) ?_, k2⟩
    refine ev_ifn (by simp only [List.length_nil] at ha ⊢; omega) (ev_ifn (by simp) ?_)
    exact Ev.step (fun k => by rw [spec_l27Best.j0]) k1
  · have lp : 0 < p.length := List.length_pos_iff.2 c
    have l1 : 1 ≤ lst p ∧ lst p ≤ 400 := hl.resolve_left c
    have lr : rd p ((p.length : Int) - 1) = lst p := rfl
    obtain ⟨k1, k2⟩ := loop (rc p h + 1 - lst p).toNat (lst p + 1) (rc p h + 1) best (by omega) (by omega) (by omega) hb
    rw [if_neg c]
    refine ⟨Ev.step (fun k => by rw [spec_l27Best.f]) ?_, k2⟩
    rw [w64 (x := (p.length : Int) - 1) (by omega) (by omega), lr, w64 (x := lst p + 1) (by omega) (by omega)]
    refine ev_ifn (by omega) (ev_ifp (by omega) (ev_ifp (by omega) (ev_ifp (by omega) (ev_bind _ (rc_all p h (by omega)).2.1 ?_))))
    rw [w64 (x := rc p h + 1) (by omega) (by omega)]
    exact Ev.step (fun k => by rw [spec_l27Best.j0]) k1
noncomputable def bst (a h : Int) : List Int × Int := @ite _ ((1 ≤ a ∧ a ≤ 3) ∧ 1 ≤ h ∧ h ≤ 4) (Classical.propDecidable _) (sbt h a.toNat [] [], rc (sbt h a.toNat [] []) h) ([], 0)
theorem bst_ev (a h : Int) : Ev (fun k => impl_BestStamps.f k a h) (bst a h) ∧ Ev (fun k => spec_BestStamps.f k a h) (bst a h) ∧ (bst a h).1.length ≤ 10 := by
 have no : ¬ ((1 ≤ a ∧ a ≤ 3) ∧ 1 ≤ h ∧ h ≤ 4) → bst a h = ([], 0) := fun c => if_neg c
 have sno : ¬ ((1 ≤ a ∧ a ≤ 3) ∧ 1 ≤ h ∧ h ≤ 4) → Ev (fun k => spec_BestStamps.j0 k a h true) (bst a h) := fun c => by
  rw [no c]
  exact Ev.step (fun k => by rw [spec_BestStamps.j0]) (ev_ifp rfl (Ev.now _))
 by_cases c : (1 ≤ a ∧ a ≤ 3) ∧ 1 ≤ h ∧ h ≤ 4
 · have e : bst a h = (sbt h a.toNat [] [], rc (sbt h a.toNat [] []) h) := if_pos c
   obtain ⟨k1, k2⟩ := sbt_ev h c.2 a a.toNat [] [] (by simp only [List.length_nil]; omega) (by simp only [List.length_nil]; omega) (by simp) (.inl rfl)
   rw [e]
   refine ⟨?_, ?_, k2⟩
   · unfold impl_BestStamps.f
     refine ev_ifp c ?_
     rw [← best_both c.2 (j := a.toNat) (by omega) (by omega)]
     exact raised_ev h a.toNat [] ([], -1) (by simp only [List.length_nil]; omega)
   · unfold spec_BestStamps.f
     simp only [l1In_eq, Option.bind_some]
     refine ev_ifp (by simpa using c.1) ?_
     refine Ev.step (fun k => by rw [spec_BestStamps.j0]) (ev_ifn (by simpa using c.2) ?_)
     refine ev_bind [] (Ev.now _) (ev_bind _ k1 (ev_ifp (by simp only [List.length_nil]; omega) ?_))
     refine ev_bind (sbt h a.toNat [] []) (ev_eq (by rw [List.nil_append])) (ev_bind _ (rc_all _ h (by omega)).2.1 (Ev.now _))
 · refine ⟨?_, ?_, by rw [no c]; simp⟩
   · rw [no c]
     unfold impl_BestStamps.f
     exact ev_ifn c (Ev.now _)
   · unfold spec_BestStamps.f
     simp only [l1In_eq, Option.bind_some]
     by_cases c1 : 1 ≤ a ∧ a ≤ 3
     · have c2 : ¬ (1 ≤ h ∧ h ≤ 4) := fun q => c ⟨c1, q⟩
       refine ev_ifp (by simpa using c1) ?_
       rw [decide_eq_false c2]
       exact sno c
     · refine ev_ifn (by simpa using c1) ?_
       exact sno c
end Go.Proofs.Ythkhpejggdnkfaa.E
end
section
namespace Go.Proofs.Ythkhpejggdnkfaa.E
open Go.RowKit Go.Proofs.YthkhpejggdnkfaaW.PrintWords Go.Proofs.YthkhpejggdnkfaaW.PrintLast Go.Proofs.YthkhpejggdnkfaaW.PrintMore
set_option linter.unusedVariables false
set_option linter.unusedSimpArgs false
def dot : List Int → List Int → Int
 | a :: r, b :: v => a * b + dot r v
 | [], _ => 0
 | _ :: _, [] => 0
theorem dot_set : ∀ (r v : List Int) (i : Nat) (J : Int), r.length = v.length → i < r.length → dot (r.set i J) v = dot r v + (J - rd r i) * rd v i
 | a :: r, b :: v, 0, J, _, _ => by simp only [z2_, dot, rd]; simp only [Int.toNat_natCast, List.getD_cons_zero]; rw [Int.sub_mul]; omega
 | a :: r, b :: v, i + 1, J, h1, h2 => by
  have := dot_set r v i J (by simpa using h1) (by simpa using h2)
  simp only [z3_, dot, rd, Int.toNat_natCast, List.getD_cons_succ] at this ⊢
  rw [this]; omega
 | [], _, _, _, _, h => by simp at h
 | _ :: _, [], _, _, h, _ => by simp at h
theorem sum_set : ∀ (r : List Int) (i : Nat) (J : Int), i < r.length → (r.set i J).sum = r.sum + (J - rd r i)
 | a :: r, 0, J, _ => by simp only [z2_, List.sum_cons, rd, Int.toNat_natCast, List.getD_cons_zero]; omega
 | a :: r, i + 1, J, h => by
  have := sum_set r i J (by simpa using h)
  simp only [z3_, List.sum_cons, rd, Int.toNat_natCast, List.getD_cons_succ] at this ⊢
  omega
 | [], _, _, h => by simp at h
theorem dot_zeros (n : Nat) (v : List Int) : dot (List.replicate n 0) v = 0 := by
 induction n generalizing v with
 | zero => cases v <;> rfl
 | succ n ih => cases v with
  | nil => rfl
  | cons b v => simp [List.replicate_succ, dot, ih]
theorem sum_zeros (n : Nat) : (List.replicate n (0 : Int)).sum = 0 := by
 induction n with
 | zero => rfl
 | succ n ih => simp [List.replicate_succ]
theorem nonneg_set {r : List Int} {i : Nat} {J : Int} (h : ∀ x ∈ r, 0 ≤ x) (hJ : 0 ≤ J) : ∀ x ∈ r.set i J, 0 ≤ x := by
 intro x hx
 rcases List.mem_or_eq_of_mem_set hx with h1 | h1
 · exact h x h1
 · omega
theorem dot_nonneg : ∀ {r v : List Int}, (∀ x ∈ r, 0 ≤ x) → (∀ x ∈ v, 1 ≤ x) → 0 ≤ dot r v
 | [], _, _, _ => by simp [dot]
 | _ :: _, [], _, _ => by simp [dot]
 | a :: r, b :: v, h, k => by
  have h1 := dot_nonneg (r := r) (v := v) (fun x hx => h x (by simp [hx])) (fun x hx => k x (by simp [hx]))
  have h2 := Int.mul_nonneg (h a (by simp)) (show 0 ≤ b by have := k b (by simp); omega)
  simp only [dot]; omega
theorem sum_nonneg : ∀ {r : List Int}, (∀ x ∈ r, 0 ≤ x) → 0 ≤ r.sum
 | [], _ => by simp
 | a :: r, h => by
  have h1 := sum_nonneg (r := r) (fun x hx => h x (by simp [hx]))
  have h2 := h a (by simp)
  simp only [List.sum_cons]; omega
theorem sum_bound {B : Int} (hB : 0 ≤ B) : ∀ {l : List Int}, (∀ x ∈ l, -B ≤ x ∧ x ≤ B) → -(l.length * B) ≤ l.sum ∧ l.sum ≤ l.length * B
 | [], _ => by simp
 | a :: l, h => by
  have h1 := sum_bound hB (l := l) (fun x hx => h x (by simp [hx]))
  have h2 := h a (by simp)
  have e : (((a :: l).length : Nat) : Int) * B = l.length * B + B := by rw [List.length_cons, show ((l.length + 1 : Nat) : Int) = l.length + 1 from by omega, Int.add_mul]; omega
  rw [e, List.sum_cons]
  omega
theorem mem_le_sum : ∀ {l : List Int}, (∀ x ∈ l, 0 ≤ x) → ∀ x ∈ l, x ≤ l.sum
 | [], _, _, h => by simp at h
 | a :: l, h, x, hx => by
  have h1 := sum_nonneg (r := l) (fun x hx => h x (by simp [hx]))
  have h2 := h a (by simp)
  rcases List.mem_cons.1 hx with rfl | hx
  · simp only [List.sum_cons]; omega
  · have := mem_le_sum (l := l) (fun x hx => h x (by simp [hx])) x hx
    simp only [List.sum_cons]; omega
theorem sum_le_dot : ∀ {r v : List Int}, r.length = v.length → (∀ x ∈ r, 0 ≤ x) → (∀ x ∈ v, 1 ≤ x) → r.sum ≤ dot r v
 | [], _, _, _, _ => by simp [dot]
 | _ :: _, [], h, _, _ => by simp at h
 | a :: r, b :: v, e, h, k => by
  have h1 := sum_le_dot (r := r) (v := v) (by simpa using e) (fun x hx => h x (by simp [hx])) (fun x hx => k x (by simp [hx]))
  have h2 : a * 1 ≤ a * b := Int.mul_le_mul_of_nonneg_left (k b (by simp)) (h a (by simp))
  simp only [dot, List.sum_cons]; omega
end Go.Proofs.Ythkhpejggdnkfaa.E
end
section
namespace Go.Proofs.Ythkhpejggdnkfaa.E
open Go.RowKit Go.Proofs.Ythkhpejggdnkfaa.PB Go.Proofs.YthkhpejggdnkfaaW.PrintWords Go.Proofs.YthkhpejggdnkfaaW.PrintLast Go.Proofs.YthkhpejggdnkfaaW.PrintMore
set_option linter.unusedVariables false
set_option linter.unusedSimpArgs false
theorem and255 (a : Int) : 0 ≤ Go.bits .and .i64 a 255 ∧ Go.bits .and .i64 a 255 ≤ 255 := by
 have h : ((BitVec.ofInt 64 a &&& BitVec.ofInt 64 255).toNat : Nat) ≤ 255 := by
  rw [BitVec.toNat_and]
  exact Nat.le_trans Nat.and_le_right (by decide)
 show 0 ≤ IntKind.i64.wrap ((BitVec.ofInt 64 a &&& BitVec.ofInt 64 255).toNat : Int) ∧ IntKind.i64.wrap ((BitVec.ofInt 64 a &&& BitVec.ofInt 64 255).toNat : Int) ≤ 255
 rw [Go.IntKind.wrap_i64]
 omega
def Cu (b : List Int) (i : Int) : Prop := 0 ≤ i ∧ i ≤ b.length ∧ (b.length : Int) ≤ 1099511627776
theorem byte_ok {b : List Int} {i : Int} (h : Int) (c : Cu b i) : ∃ x j g, spec_l1Byte.f b i h = some (x, j, g) ∧ (0 ≤ x ∧ x ≤ 255) ∧ Cu b j := by
 obtain ⟨c1, c2, c3⟩ := c
 unfold spec_l1Byte.f
 by_cases e : i < b.length
 · rw [if_pos e, if_pos c1, w64 (x := i + 1) (by omega) (by omega)]
   exact ⟨_, _, _, rfl, and255 _, by omega, by omega, c3⟩
 · rw [if_neg e]
   exact ⟨_, _, _, rfl, and255 _, c1, c2, c3⟩
theorem below_ok {b : List Int} {i : Int} (h : Int) (c : Cu b i) {n : Int} (hn : 0 < n) : ∃ x j g, spec_l1Below.f b i h n = some (x, j, g) ∧ (0 ≤ x ∧ x < n) ∧ Cu b j := by
 unfold spec_l1Below.f
 rw [if_neg (by omega)]
 by_cases e : n ≤ 256
 · obtain ⟨x, j, g, e1, hx, c'⟩ := byte_ok h c
   rw [if_pos e, e1]
   simp only [Option.bind_some]
   rw [if_neg (by omega), Int.tmod_eq_emod_of_nonneg hx.1]
   exact ⟨_, _, _, rfl, ⟨Int.emod_nonneg _ (by omega), Int.emod_lt_of_pos _ hn⟩, c'⟩
 · obtain ⟨x, j, g, e1, hx, c1⟩ := byte_ok h c
   obtain ⟨y, j2, g2, e2, hy, c2⟩ := byte_ok g c1
   obtain ⟨z, j3, g3, e3, hz, c3⟩ := byte_ok g2 c2
   obtain ⟨u, j4, g4, e4, hu, c4⟩ := byte_ok g3 c3
   rw [if_neg e, e1]
   simp only [Option.bind_some]
   rw [e2]
   simp only [Option.bind_some]
   rw [e3]
   simp only [Option.bind_some]
   rw [e4]
   simp only [Option.bind_some]
   rw [if_neg (by omega), w64 (x := x * 16777216) (by omega) (by omega), w64 (x := y * 65536) (by omega) (by omega), w64 (x := z * 256) (by omega) (by omega), w64 (x := x * 16777216 + y * 65536) (by omega) (by omega), w64 (x := x * 16777216 + y * 65536 + z * 256) (by omega) (by omega), w64 (x := x * 16777216 + y * 65536 + z * 256 + u) (by omega) (by omega), Int.tmod_eq_emod_of_nonneg (by omega)]
   exact ⟨_, _, _, rfl, ⟨Int.emod_nonneg _ (by omega), Int.emod_lt_of_pos _ hn⟩, c4⟩
theorem pick_ok {b : List Int} {i : Int} (h : Int) (c : Cu b i) {l : List Int} (hl : 0 < (l.length : Int)) : ∃ x j g, spec_l1PickInt.f b i h l = some (x, j, g) ∧ x ∈ l ∧ Cu b j := by
 obtain ⟨x, j, g, e, hx, c'⟩ := below_ok h c hl
 unfold spec_l1PickInt.f
 rw [e]
 simp only [Option.bind_some]
 rw [if_pos hx.1, if_pos hx.2]
 exact ⟨_, _, _, rfl, rd_mem hx.1 hx.2, c'⟩
theorem new_l {b : List Int} (hb : (b.length : Int) ≤ 1099511627776) (d : Nat) : ∀ i h : Int, 0 ≤ i → i + d = max i (min 4000 b.length) → ∃ g, Ev (fun k => spec_l1New.l0 k b h i) (b, 0, g) := by
 induction d with
 | zero =>
  intro i h h0 h1
  refine ⟨h, Ev.step (fun k => by rw [spec_l1New.l0]) ?_⟩
  by_cases c : i < b.length
  · exact ev_ifp c (ev_ifn (by omega) (Ev.now _))
  · exact ev_ifn c (Ev.now _)
 | succ d ih =>
  intro i h h0 h1
  obtain ⟨g, hE⟩ := ih (i + 1) (Go.bits .and .i64 (wrap64 ((wrap64 ((wrap64 (h * 131)) + (wrap64 (rd b i)))) + 7)) 1073741823) (by omega) (by omega)
  refine ⟨g, Ev.step (fun k => by rw [spec_l1New.l0]) ?_⟩
  rw [w64 (x := i + 1) (by omega) (by omega)]
  exact ev_ifp (by omega) (ev_ifp (by omega) (ev_ifp h0 hE))
theorem new_ev {b : List Int} (hb : (b.length : Int) ≤ 1099511627776) : ∃ g, Ev (fun k => spec_l1New.f k b) (b, 0, g) ∧ Cu b 0 := by
 obtain ⟨g, hE⟩ := new_l hb (min 4000 b.length) 0 (wrap64 (26583 + (b.length : Int))) (by omega) (by omega)
 exact ⟨g, hE, by omega, by omega, hb⟩
end Go.Proofs.Ythkhpejggdnkfaa.E
end
section
namespace Go.Proofs.Ythkhpejggdnkfaa.E
open Go.RowKit Go.Proofs.Ythkhpejggdnkfaa.PB Go.Proofs.YthkhpejggdnkfaaW.PrintWords Go.Proofs.YthkhpejggdnkfaaW.PrintLast Go.Proofs.YthkhpejggdnkfaaW.PrintMore
set_option linter.unusedVariables false
set_option linter.unusedSimpArgs false
theorem draw27_l {b : List Int} {m : Int} (hm : m ≤ 4) (d : Nat) : ∀ (i j h : Int) (out : List Int), 0 ≤ i → i + d = max i m → (out.length : Int) = i + 1 → Cu b j → i ≤ 4 → ∃ l j' h', l.length ≤ 7 ∧ Cu b j' ∧ Ev (fun k => spec_l27Draw.l0 k out m i b j h) (l, j', h') := by
 induction d with
 | zero =>
  intro i j h out h0 h1 h2 c h3
  obtain ⟨x, j1, g1, e1, hx, c1⟩ := below_ok h c (n := 14) (by omega)
  obtain ⟨y, j2, g2, e2, hy, c2⟩ := pick_ok g1 c1 (l := [0, 60, 61, 1]) (by simp)
  by_cases a : x = 0
  · refine ⟨out ++ [y], j2, g2, by simp; omega, c2, Ev.step (fun k => by rw [spec_l27Draw.l0]) ?_⟩
    refine ev_ifn (by omega) (ev_bind _ (ev_eq e1) (ev_ifp a (ev_bind _ (ev_eq e2) (ev_ifp (by omega) (Ev.now _)))))
  · by_cases a1 : x = 1
    · refine ⟨out.drop 1, j1, g1, by simp; omega, c1, Ev.step (fun k => by rw [spec_l27Draw.l0]) ?_⟩
      exact ev_ifn (by omega) (ev_bind _ (ev_eq e1) (ev_ifn a (ev_ifp a1 (ev_ifp (by omega) (Ev.now _)))))
    · refine ⟨out, j1, g1, by omega, c1, Ev.step (fun k => by rw [spec_l27Draw.l0]) ?_⟩
      exact ev_ifn (by omega) (ev_bind _ (ev_eq e1) (ev_ifn a (ev_ifn a1 (Ev.now _))))
 | succ d ih =>
  intro i j h out h0 h1 h2 c h3
  obtain ⟨x, j1, g1, e1, hx, c1⟩ := below_ok h c (n := 8) (by omega)
  obtain ⟨l, j', h', a1, a2, a3⟩ := ih (i + 1) j1 g1 (out ++ [wrap64 ((wrap64 ((rd out i) + 1)) + x)]) (by omega) (by omega) (by simp; omega) c1 (by omega)
  refine ⟨l, j', h', a1, a2, Ev.step (fun k => by rw [spec_l27Draw.l0]) ?_⟩
  rw [w64 (x := i + 1) (by omega) (by omega)]
  exact ev_ifp (by omega) (ev_ifp h0 (ev_ifp (by omega) (ev_bind _ (ev_eq e1) (ev_ifp (by omega) a3))))
theorem draw27_ev {b : List Int} {j : Int} (h : Int) (c : Cu b j) : ∃ l j' h', l.length ≤ 7 ∧ Cu b j' ∧ Ev (fun k => spec_l27Draw.f k b j h) (l, j', h') := by
 obtain ⟨x, j1, g1, e1, hx, c1⟩ := below_ok h c (n := 5) (by omega)
 obtain ⟨l, j', h', a1, a2, a3⟩ := draw27_l (b := b) (m := x) (by omega) x.toNat 0 j1 g1 [1] (by omega) (by omega) (by simp) c1 (by omega)
 refine ⟨l, j', h', a1, a2, ?_⟩
 unfold spec_l27Draw.f
 exact ev_bind _ (ev_eq e1) a3
theorem drawReach_ev {b : List Int} (hb : (b.length : Int) ≤ 1099511627776) : ∃ l n, l.length ≤ 7 ∧ Ev (fun k => spec_DrawReachOf.f k b) (l, n) := by
 obtain ⟨g, hE, c⟩ := new_ev hb
 obtain ⟨l, j1, g1, a1, c1, a3⟩ := draw27_ev g c
 obtain ⟨x, j2, g2, e2, _, c2⟩ := below_ok g1 c1 (n := 8) (by omega)
 refine ⟨l, x, a1, ?_⟩
 unfold spec_DrawReachOf.f
 exact ev_bind _ hE (ev_bind _ a3 (ev_bind _ (ev_eq e2) (Ev.now _)))
theorem drawFor_ev {b : List Int} (hb : (b.length : Int) ≤ 1099511627776) : ∃ l h n, l.length ≤ 7 ∧ Ev (fun k => spec_DrawStampsFor.f k b) (l, h, n) := by
 obtain ⟨g, hE, c⟩ := new_ev hb
 obtain ⟨l, j1, g1, a1, c1, a3⟩ := draw27_ev g c
 obtain ⟨u, j2, g2, e2, _, c2⟩ := below_ok g1 c1 (n := 8) (by omega)
 obtain ⟨x, j3, g3, e3, _, c3⟩ := below_ok g2 c2 (n := 60) (by omega)
 obtain ⟨y, j4, g4, e4, _, c4⟩ := below_ok g3 c3 (n := 40) (by omega)
 obtain ⟨z, j5, g5, e5, _, c5⟩ := pick_ok g4 c4 (l := [x, y, 400, 401, (-1)]) (by simp)
 refine ⟨l, u, z, a1, ?_⟩
 unfold spec_DrawStampsFor.f
 exact ev_bind _ hE (ev_bind _ a3 (ev_bind _ (ev_eq e2) (ev_bind _ (ev_eq e3) (ev_bind _ (ev_eq e4) (ev_bind _ (ev_eq e5) (Ev.now _))))))
theorem drawBst_ev {b : List Int} (hb : (b.length : Int) ≤ 1099511627776) : ∃ k g, Ev (fun q => spec_DrawBestStamps.f q b) (k, g) := by
 obtain ⟨g, hE, c⟩ := new_ev hb
 obtain ⟨x, j1, g1, e1, _, c1⟩ := pick_ok g c (l := [1, 2, 3, 2, 3, 0, 4]) (by simp)
 obtain ⟨y, j2, g2, e2, _, c2⟩ := below_ok g1 c1 (n := 6) (by omega)
 refine ⟨x, y, ?_⟩
 unfold spec_DrawBestStamps.f
 exact ev_bind _ hE (ev_bind _ (ev_eq e1) (ev_bind _ (ev_eq e2) (Ev.now _)))
end Go.Proofs.Ythkhpejggdnkfaa.E
end
section
namespace Go.Proofs.Ythkhpejggdnkfaa.E
open Go.RowKit Go.Proofs.Ythkhpejggdnkfaa.PB Go.Proofs.YthkhpejggdnkfaaW.PrintWords Go.Proofs.YthkhpejggdnkfaaW.PrintLast Go.Proofs.YthkhpejggdnkfaaW.PrintMore
set_option linter.unusedVariables false
set_option linter.unusedSimpArgs false
theorem fold_up {f : List Int × Int → Int → List Int × Int} (hf : ∀ st n, st.2 ≤ (f st n).2) (u : List Int) : ∀ st, st.2 ≤ (u.foldl f st).2 := by
 induction u with
 | nil => intro st; exact Int.le_refl _
 | cons n u ih => intro st; rw [List.foldl_cons]; have := hf st n; have := ih (f st n); omega
theorem fold_at {f : List Int × Int → Int → List Int × Int} (hf : ∀ st n, st.2 ≤ (f st n).2) {x c : Int} (hx : ∀ st, c ≤ (f st x).2) (u : List Int) : x ∈ u → ∀ st, c ≤ (u.foldl f st).2 := by
 induction u with
 | nil => intro h; simp at h
 | cons n u ih =>
  intro h st
  rw [List.foldl_cons]
  rcases List.mem_cons.1 h with k | k
  · subst k
    have := hx st; have := fold_up hf u (f st x); omega
  · exact ih k _
theorem rsd_up (h : Int) (j : Nat) : ∀ (p : List Int) (st : List Int × Int), st.2 ≤ (rsd h j p st).2 := by
 induction j with
 | zero =>
  intro p st
  unfold rsd seeP
  split
  · simp only; omega
  · exact Int.le_refl _
 | succ j ih =>
  intro p st
  rw [rsd]
  exact fold_up (fun st n => ih (p ++ [n]) st) _ st
theorem mem_rng {x : Int} (n : Nat) : ∀ a : Int, a ≤ x → x < a + n → x ∈ rng a n := by
 induction n with
 | zero => intro a h0 h1; omega
 | succ n ih =>
  intro a h0 h1
  rw [rng]
  by_cases c : x = a
  · rw [c]; exact List.mem_cons_self ..
  · exact List.mem_cons_of_mem _ (ih (a + 1) (by omega) (by omega))
theorem rsd_cover (h : Int) (j : Nat) : ∀ (p t : List Int) (st : List Int × Int), p ≠ [] → t.length = j → AreSt (p ++ t) → rc (p ++ t) h ≤ (rsd h j p st).2 := by
 induction j with
 | zero =>
  intro p t st hp ht a
  obtain rfl := List.eq_nil_of_length_eq_zero ht
  rw [List.append_nil]
  unfold rsd seeP
  split
  · simp only; omega
  · omega
 | succ j ih =>
  intro p t st hp ht a
  cases t with
  | nil => simp at ht
  | cons x t =>
   have lp : 0 < p.length := List.length_pos_iff.2 hp
   have xm := a.2.1 x (by simp)
   have asc := a.2.2 (p.length : Int) (by omega) (by rw [List.length_append, List.length_cons]; omega)
   rw [rd_append (by omega), rd_append (by omega), if_pos (by omega), if_neg (by omega), Int.sub_self] at asc
   have e : rd (x :: t) 0 = x := rfl
   rw [e] at asc
   have asc : lst p < x := asc
   rw [rsd]
   unfold nexts
   rw [if_neg hp]
   refine fold_at (fun st n => rsd_up h j (p ++ [n]) st) (x := x) (fun st => ?_) _ (mem_rng _ _ (by omega) (by omega)) st
   have := ih (p ++ [x]) t st (by simp) (by simpa using ht) (by rw [List.append_assoc]; exact a)
   rw [List.append_assoc] at this
   exact this
theorem sbt_size (h : Int) (n : Nat) (j : Nat) : ∀ (p best : List Int), p.length + j = n → (best = [] ∨ best.length = n) → sbt h j p best = [] ∨ (sbt h j p best).length = n := by
 induction j with
 | zero =>
  intro p best hp hb
  unfold sbt
  split
  · exact .inr (by omega)
  · exact hb
 | succ j ih =>
  intro p best hp hb
  rw [sbt]
  generalize (if p = [] then [1] else rng (lst p + 1) (rc p h + 1 - lst p).toNat) = u
  induction u generalizing best with
  | nil => exact hb
  | cons x u ihu =>
   rw [List.foldl_cons]
   exact ihu _ (ih (p ++ [x]) best (by rw [List.length_append, List.length_singleton]; omega) hb)
theorem bst_max {a h : Int} (c : (1 ≤ a ∧ a ≤ 3) ∧ 1 ≤ h ∧ h ≤ 4) (v : List Int) (hv : (v.length : Int) = a) : rc v h ≤ (bst a h).2 := by
 have e : bst a h = rsd h a.toNat [] ([], -1) := by
  rw [best_both c.2 (j := a.toNat) (by omega) (by omega)]
  exact if_pos c
 rw [e]
 obtain ⟨i, hi⟩ : ∃ i, a.toNat = i + 1 := ⟨a.toNat - 1, by omega⟩
 have pos := rc_pos areSt_one (by simp) c.2
 have e1 : rsd h a.toNat [] ([], -1) = rsd h i [1] ([], -1) := by rw [hi, rsd]; simp [nexts]
 rw [e1]
 have pre : Pre h i [1] := ⟨areSt_one, by simp, by have : lst [1] = 1 := rfl; omega, by simp; omega⟩
 have least := (rsd_sbt c.2 i [1] ([], -1) pre (.inl ⟨rfl, rfl⟩)).2.2.2
 by_cases q : AreSt v
 · have is := rc_is q c.2
   by_cases z : 1 ≤ rc v h
   · obtain ⟨n, hn, w⟩ := is.2.2.1 1 (Int.le_refl 1) z
     have one : (1 : Int) ∈ v := by
      rcases w.last with k | ⟨x, hx, w'⟩
      · omega
      · have p1 := q.pos x hx
        have p2 := w'.pos q.pos
        rwa [show x = 1 from by omega] at hx
     cases v with
     | nil => simp at one
     | cons x t =>
      have hx : x = 1 := by
       rcases List.mem_cons.1 one with k | k
       · exact k.symm
       · obtain ⟨i', i0, i1, i2⟩ := mem_rd k
         have p1 := q.pos x (by simp)
         have up : ∀ m : Nat, (m : Int) < (x :: t).length → x ≤ rd (x :: t) (m : Int) := by
          intro m
          induction m with
          | zero => intro _; exact Int.le_refl _
          | succ m ihm =>
           intro hm
           have a1 := ihm (by omega)
           have a2 := q.2.2 ((m + 1 : Nat) : Int) (by omega) hm
           rw [show ((m + 1 : Nat) : Int) - 1 = (m : Int) from by omega] at a2
           omega
         have a2 := q.2.2 (i' + 1) (by omega) (by rw [List.length_cons]; omega)
         have a1 := up i'.toNat (by rw [List.length_cons]; omega)
         rw [show ((i'.toNat : Nat) : Int) = i' from by omega] at a1
         rw [show i' + 1 - 1 = i' from by omega] at a2
         have a3 : rd (x :: t) (i' + 1) = rd t i' := by
          unfold rd
          rw [show (i' + 1).toNat = i'.toNat + 1 from by omega, List.getD_cons_succ]
         omega
      subst hx
      exact rsd_cover h i [1] t ([], -1) (by simp) (by rw [List.length_cons] at hv; omega) q
   · omega
 · have : rc v h = -1 := by
    unfold rc
    rw [dif_neg (fun k => q k.1.1)]
   omega
theorem bst_fact {a h : Int} : (bst a h).1 = [] ∨ ((bst a h).2 = rc (bst a h).1 h ∧ ((bst a h).1.length : Int) = a ∧ ∀ v : List Int, (v.length : Int) = a → rc v h ≤ (bst a h).2) := by
 by_cases c : (1 ≤ a ∧ a ≤ 3) ∧ 1 ≤ h ∧ h ≤ 4
 · have e : bst a h = (sbt h a.toNat [] [], rc (sbt h a.toNat [] []) h) := if_pos c
   rcases sbt_size h a.toNat a.toNat [] [] (by simp) (.inl rfl) with k | k
   · exact .inl (by rw [e]; exact k)
   · refine .inr ⟨by rw [e], by rw [e]; simp only; omega, fun v hv => bst_max c v hv⟩
 · have e : bst a h = ([], 0) := if_neg c
   exact .inl (by rw [e])
end Go.Proofs.Ythkhpejggdnkfaa.E
end
section
namespace Go.Proofs.Ythkhpejggdnkfaa.E
open Go.RowKit Go.Proofs.YthkhpejggdnkfaaW.PrintWords Go.Proofs.YthkhpejggdnkfaaW.PrintLast Go.Proofs.YthkhpejggdnkfaaW.PrintMore
set_option linter.unusedVariables false
set_option linter.unusedSimpArgs false
theorem exists_max {P : Nat → Prop} {B j0 : Nat} (h0 : P j0) (hB : ∀ j, P j → j ≤ B) : ∃ J, P J ∧ ∀ j, J < j → ¬ P j := by
 induction hd : B - j0 using Nat.strongRecOn generalizing j0 with
 | _ d ih =>
  by_cases h : ∃ j, j0 < j ∧ P j
  · obtain ⟨j, hj, hp⟩ := h
    have := hB j hp
    exact ih (B - j) (by omega) hp rfl
  · exact ⟨j0, h0, fun j hj hp => h ⟨j, hj, hp⟩⟩
structure Lev (v : List Int) (n need i : Int) : Prop where
 way : Way v n need
 least : ∀ c, Way v n c → need ≤ c
 no : ∀ y ∈ v.drop (i + 1).toNat, ¬ Way v (n - y) (need - 1)
theorem take_drop_mem {v : List Int} {m : Nat} {y : Int} (h : y ∈ v) (hn : y ∉ v.take m) : y ∈ v.drop m := by
 rw [← List.take_append_drop m v] at h
 rcases List.mem_append.1 h with h | h
 · exact absurd h hn
 · exact h
theorem Way.more {v : List Int} {x : Int} (hx : x ∈ v) {k c : Int} (w : Way v k c) (j : Nat) : Way v (k + j * x) (c + j) := w.plus (Way.times hx j)
structure LevStep (v : List Int) (n need i : Int) (J : Nat) : Prop where
 n0 : 0 ≤ n - J * rd v i
 c0 : (J : Int) ≤ need
 here : Way (v.take i.toNat) (n - J * rd v i) (need - J)
 above : ∀ j : Nat, J < j → ¬ Way (v.take i.toNat) (n - j * rd v i) (need - j)
 least : ∀ j : Nat, j ≤ J → Way v (n - j * rd v i) (need - j) ∧ ∀ c, Way v (n - j * rd v i) c → need - j ≤ c
 stop : ¬ Way v (n - J * rd v i - rd v i) (need - J - 1)
 next : Lev v (n - J * rd v i) (need - J) (i - 1)
theorem lev_step {v : List Int} {n need i : Int} (hv : ∀ x ∈ v, 1 ≤ x) (h0 : 0 ≤ i) (hi : i < v.length) (L : Lev v n need i) : ∃ J : Nat, LevStep v n need i J := by
 have hxm := rd_mem (l := v) h0 hi
 have hx := hv _ hxm
 have hvt : ∀ y ∈ v.take i.toNat, 1 ≤ y := fun y hy => hv y (List.mem_of_mem_take hy)
 have hsub : ∀ y ∈ v.take i.toNat, y ∈ v := fun y hy => List.mem_of_mem_take hy
 have w1 : Way (v.take (i + 1).toNat) n need := by
  rcases L.way.part (u := v.take (i + 1).toNat) with h | ⟨y, hy, hyu, h⟩
  · exact h
  · exact absurd h (L.no y (take_drop_mem hy hyu))
 rw [take_rd h0 hi] at w1
 obtain ⟨j0, hj0⟩ := w1.split
 obtain ⟨J, hJ, hmax⟩ := exists_max (P := fun j : Nat => Way (v.take i.toNat) (n - j * rd v i) (need - j)) (B := need.toNat) hj0 (fun j hj => by have := hj.pos hvt; omega)
 have hJ' : Way v (n - J * rd v i) (need - J) := hJ.mono hsub
 have hp := hJ.pos hvt
 have low : ∀ j : Nat, j ≤ J → Way v (n - j * rd v i) (need - j) ∧ ∀ c, Way v (n - j * rd v i) c → need - j ≤ c := by
  intro j hj
  constructor
  · have := hJ'.more hxm (J - j)
    have e : ((J - j : Nat) : Int) = J - j := by omega
    rw [e, show n - J * rd v i + ((J : Int) - j) * rd v i = n - j * rd v i from by rw [Int.sub_mul]; omega, show need - J + ((J : Int) - j) = need - j from by omega] at this
    exact this
  · intro c hc
    have := L.least _ (by have h := hc.more hxm j; rwa [show n - j * rd v i + j * rd v i = n from by omega] at h)
    omega
 have stop : ¬ Way v (n - J * rd v i - rd v i) (need - J - 1) := by
  intro hw
  have e1 : n - J * rd v i - rd v i = n - ((J + 1 : Nat) : Int) * rd v i := by rw [show ((J + 1 : Nat) : Int) = J + 1 from by omega, Int.add_mul]; omega
  have hw2 : Way (v.take (i + 1).toNat) (n - J * rd v i - rd v i) (need - J - 1) := by
   rcases hw.part (u := v.take (i + 1).toNat) with h | ⟨y, hy, hyu, h⟩
   · exact h
   · exfalso
     refine L.no y (take_drop_mem hy hyu) ?_
     have := h.more hxm (J + 1)
     rw [show n - J * rd v i - rd v i - y + ((J + 1 : Nat) : Int) * rd v i = n - y from by rw [show ((J + 1 : Nat) : Int) = J + 1 from by omega, Int.add_mul]; omega, show need - J - 1 - 1 + ((J + 1 : Nat) : Int) = need - 1 from by omega] at this
     exact this
  rw [take_rd h0 hi] at hw2
  obtain ⟨j, hj⟩ := hw2.split
  refine hmax (J + 1 + j) (by omega) ?_
  rw [show n - J * rd v i - rd v i - j * rd v i = n - ((J + 1 + j : Nat) : Int) * rd v i from by rw [show ((J + 1 + j : Nat) : Int) = J + 1 + j from by omega, Int.add_mul, Int.add_mul]; omega, show need - J - 1 - (j : Int) = need - ((J + 1 + j : Nat) : Int) from by omega] at hj
  exact hj
 refine ⟨J, by omega, by omega, hJ, hmax, low, stop, ⟨hJ', (low J (Nat.le_refl _)).2, fun y hy => ?_⟩⟩
 rw [show (i - 1 + 1).toNat = i.toNat from by omega, drop_rd h0 hi] at hy
 rcases List.mem_cons.1 hy with rfl | hy
 · exact stop
 · intro hw
   refine L.no y hy ?_
   have := hw.more hxm J
   rw [show n - J * rd v i - y + J * rd v i = n - y from by omega, show need - J - 1 + (J : Int) = need - 1 from by omega] at this
   exact this
end Go.Proofs.Ythkhpejggdnkfaa.E
end
section
namespace Go.Proofs.Ythkhpejggdnkfaa.E
open Go.RowKit Go.Proofs.Ythkhpejggdnkfaa.PB Go.Proofs.YthkhpejggdnkfaaW.PrintWords Go.Proofs.YthkhpejggdnkfaaW.PrintLast Go.Proofs.YthkhpejggdnkfaaW.PrintMore
set_option linter.unusedVariables false
set_option linter.unusedSimpArgs false
theorem int_ediv_mul_le {n x : Int} {j : Int} (hx : 1 ≤ x) (hj : 0 ≤ j) : j ≤ n / x ↔ j * x ≤ n := by
 rw [Int.le_ediv_iff_mul_le (by omega)]
theorem best_inner {v : List Int} {n need i most : Int} {t : List (List Int)} {out : List Int} {J : Nat} (hv : ∀ x ∈ v, 1 ≤ x ∧ x ≤ 1000) (hl : v.length ≤ 20) (h0 : 0 ≤ i) (hi : i < v.length) (hn : 0 ≤ n) (hnm : n ≤ most) (hm : most ≤ 4000) (ht : FewTab v most t) (hneed : need ≤ 4000) (ho : out.length = v.length)
 (S : LevStep v n need i J) {r : List Int} (H : Ev (fun k => impl_best.l0 k v (n - J * rd v i) t (out.set i.toNat J) (need - J) (i - 1)) r) (d : Nat) :
 ∀ kk : Int, (J : Int) + d = kk → kk * rd v i ≤ n → kk ≤ need → Ev (fun k => impl_best.l1 k v n t out need i kk) r := by
 have hx := hv _ (rd_mem (l := v) h0 hi)
 have hvt : ∀ y ∈ v.take i.toNat, 1 ≤ y := fun y hy => (hv y (List.mem_of_mem_take hy)).1
 have hrow := ht.2 i h0 (by omega)
 have htl := ht.1
 induction d with
 | zero =>
  intro kk h1 h2 h3
  obtain rfl : kk = J := by omega
  have hn0 := S.n0
  have hJx : 0 ≤ (J : Int) * rd v i := Int.mul_nonneg (by omega) (by omega)
  have hc0 := S.c0
  have e : rd (rd_L2 t i) (n - J * rd v i) = need - J :=
   (hrow.2 _ S.n0 (by omega)).one hvt (.inr ⟨S.here, fun c w => (S.least J (Nat.le_refl _)).2 c (w.mono (fun y hy => List.mem_of_mem_take hy))⟩)
  have hr1 := hrow.1
  refine Ev.step (fun k => by rw [impl_best.l1]) ?_
  rw [w64 (x := (J : Int) * rd v i) (by omega) (by omega), w64 (x := n - J * rd v i) (by omega) (by omega), w64 (x := need - J) (by omega) (by omega), w64 (x := i - 1) (by omega) (by omega)]
  exact ev_ifp h0 (ev_ifp (by omega) (ev_ifp hi (ev_ifp hn0 (ev_ifp (by omega) (ev_ifp e (ev_ifp (by omega) H))))))
 | succ d ih =>
  intro kk h1 h2 h3
  have hkx : 0 ≤ kk * rd v i := Int.mul_nonneg (by omega) (by omega)
  have hr1 := hrow.1
  have hne : rd (rd_L2 t i) (n - kk * rd v i) ≠ need - kk := by
   intro e
   have f := hrow.2 (n - kk * rd v i) (by omega) (by omega)
   have := (f.way (by omega)).1
   rw [e] at this
   have := S.above (J + (d + 1)) (by omega)
   rw [show ((J + (d + 1) : Nat) : Int) = kk from by omega] at this
   contradiction
  refine Ev.step (fun k => by rw [impl_best.l1]) ?_
  rw [w64 (x := kk * rd v i) (by omega) (by omega), w64 (x := n - kk * rd v i) (by omega) (by omega), w64 (x := need - kk) (by omega) (by omega), w64 (x := kk - 1) (by omega) (by omega)]
  refine ev_ifp h0 (ev_ifp (by omega) (ev_ifp hi (ev_ifp (by omega) (ev_ifp (by omega) (ev_ifn hne ?_)))))
  refine ih (kk - 1) (by omega) ?_ (by omega)
  rw [Int.sub_mul]; omega
end Go.Proofs.Ythkhpejggdnkfaa.E
end
section
namespace Go.Proofs.Ythkhpejggdnkfaa.E
open Go.RowKit Go.Proofs.Ythkhpejggdnkfaa.PB Go.Proofs.YthkhpejggdnkfaaW.PrintWords Go.Proofs.YthkhpejggdnkfaaW.PrintLast Go.Proofs.YthkhpejggdnkfaaW.PrintMore
set_option linter.unusedVariables false
set_option linter.unusedSimpArgs false
theorem bestT_inner {v : List Int} {n need i most C : Int} {tb : List Int} {J : Nat} (hv : ∀ x ∈ v, 1 ≤ x ∧ x ≤ 1000) (hl : v.length ≤ 20) (h0 : 0 ≤ i) (hi : i < v.length) (hn : 0 ≤ n) (hnm : n ≤ most) (hm : most ≤ 4000) (htl : (tb.length : Int) = most + 1)
 (hT1 : ∀ k c, 0 ≤ k → k ≤ most → c ≤ C → Way v k c → (∀ c', Way v k c' → c ≤ c') → rd tb k = c) (hT2 : ∀ k, 0 ≤ k → k ≤ most → rd tb k ≤ C → Way v k (rd tb k)) (hT3 : ∀ k, 0 ≤ k → k ≤ most → 0 ≤ rd tb k ∧ rd tb k ≤ 4000) (hneed : need ≤ C) (hneed' : need ≤ 4000)
 (S : LevStep v n need i J) {r : (List Int × Bool)} {out : List Int} (ho : out.length = v.length) (H : Ev (fun k => spec_StampsFor.l0 k v (n - J * rd v i) tb (out.set i.toNat J) (i - 1)) r) (d : Nat) :
 ∀ j : Nat, j + d = J → Ev (fun k => spec_StampsFor.l0 k v (n - j * rd v i) tb (out.set i.toNat j) i) r := by
 have hx := hv _ (rd_mem (l := v) h0 hi)
 have hn0 := S.n0
 have hc0 := S.c0
 have hJx : 0 ≤ (J : Int) * rd v i := Int.mul_nonneg (by omega) (by omega)
 induction d with
 | zero =>
  intro j hj
  obtain rfl : j = J := by omega
  have e1 := hT1 _ _ S.n0 (by omega) (by omega) (S.least j (Nat.le_refl _)).1 (S.least j (Nat.le_refl _)).2
  refine Ev.step (fun k => by rw [spec_StampsFor.l0]) ?_
  rw [w64 (x := i - 1) (by omega) (by omega)]
  refine ev_ifp (by omega) (ev_ifp h0 (ev_ifp hi ?_))
  by_cases c : rd v i ≤ n - j * rd v i
  · rw [w64 (x := n - j * rd v i - rd v i) (by omega) (by omega)]
    have b := hT3 (n - j * rd v i - rd v i) (by omega) (by omega)
    rw [w64 (x := rd tb (n - j * rd v i - rd v i) + 1) (by omega) (by omega)]
    refine ev_ifp c (ev_ifp (by omega) (ev_ifp (by omega) (ev_ifp (by omega) (ev_ifp (by omega) (ev_ifn ?_ H)))))
    intro e
    have := hT2 (n - j * rd v i - rd v i) (by omega) (by omega) (by omega)
    rw [show rd tb (n - j * rd v i - rd v i) = need - j - 1 from by omega] at this
    exact S.stop this
  · exact ev_ifn c H
 | succ d ih =>
  intro j hj
  have hjJ : j + 1 ≤ J := by omega
  have hle : ((j + 1 : Nat) : Int) * rd v i ≤ J * rd v i := Int.mul_le_mul_of_nonneg_right (by omega) (by omega)
  have hle' : ((j + 1 : Nat) : Int) * rd v i = j * rd v i + rd v i := by rw [show ((j + 1 : Nat) : Int) = j + 1 from by omega, Int.add_mul]; omega
  have hj0 : 0 ≤ (j : Int) * rd v i := Int.mul_nonneg (by omega) (by omega)
  have e1 := hT1 (n - j * rd v i) (need - j) (by omega) (by omega) (by omega) (S.least j (by omega)).1 (S.least j (by omega)).2
  have e2 := hT1 (n - ((j + 1 : Nat) : Int) * rd v i) (need - ((j + 1 : Nat) : Int)) (by omega) (by omega) (by omega) (S.least (j + 1) hjJ).1 (S.least (j + 1) hjJ).2
  have e3 : n - j * rd v i - rd v i = n - ((j + 1 : Nat) : Int) * rd v i := by omega
  refine Ev.step (fun k => by rw [spec_StampsFor.l0]) ?_
  rw [w64 (x := n - j * rd v i - rd v i) (by omega) (by omega), e3, e2, w64 (x := need - ((j + 1 : Nat) : Int) + 1) (by omega) (by omega), rd_set _ h0 (by omega) h0, if_pos rfl, w64 (x := (j : Int) + 1) (by omega) (by omega)]
  refine ev_ifp (by omega) (ev_ifp h0 (ev_ifp hi (ev_ifp (by omega) (ev_ifp (by omega) (ev_ifp (by omega) (ev_ifp (by omega) (ev_ifp (by omega) (ev_ifp (by omega) (ev_ifp (by simpa using by omega) ?_)))))))))
  rw [List.set_set]
  exact ih (j + 1) (by omega)
theorem bestT_levels {v : List Int} {most C : Int} {tb : List Int} {t : List (List Int)} (hv : ∀ x ∈ v, 1 ≤ x ∧ x ≤ 1000) (hl : v.length ≤ 20) (hm : most ≤ 4000) (ht : FewTab v most t) (htl : (tb.length : Int) = most + 1)
 (hT1 : ∀ k c, 0 ≤ k → k ≤ most → c ≤ C → Way v k c → (∀ c', Way v k c' → c ≤ c') → rd tb k = c) (hT2 : ∀ k, 0 ≤ k → k ≤ most → rd tb k ≤ C → Way v k (rd tb k)) (hT3 : ∀ k, 0 ≤ k → k ≤ most → 0 ≤ rd tb k ∧ rd tb k ≤ 4000) (d : Nat) :
 ∀ (i n need : Int) (out : List Int), i + 1 = d → i < v.length → 0 ≤ n → n ≤ most → 0 ≤ need → need ≤ C → need ≤ 4000 → Lev v n need i → out.length = v.length → (∀ j, 0 ≤ j → j ≤ i → rd out j = 0) → (∀ x ∈ out, 0 ≤ x) →
  ∃ r : List Int, r.length = v.length ∧ Ev (fun k => impl_best.l0 k v n t out need i) r ∧ Ev (fun k => spec_StampsFor.l0 k v n tb out i) (r, true) ∧ (∀ x ∈ r, 0 ≤ x) ∧ dot r v = dot out v + n ∧ r.sum = out.sum + need := by
 induction d with
 | zero =>
  intro i n need out h1 h2 h3 h4 h5 h6 h7 L h8 h9 h10
  have h00 : n = 0 ∧ need = 0 := by
   rcases L.way.last with e | ⟨y, hy, w⟩
   · exact e
   · exact absurd w (L.no y (by rw [show (i + 1).toNat = 0 from by omega]; simpa using hy))
  obtain ⟨rfl, rfl⟩ := h00
  refine ⟨out, h8, Ev.step (fun k => by rw [impl_best.l0]) (ev_ifn (by omega) (Ev.now _)), Ev.step (fun k => by rw [spec_StampsFor.l0]) (ev_ifn (by omega) (Ev.now _)), h10, by omega, by omega⟩
 | succ d ih =>
  intro i n need out h1 h2 h3 h4 h5 h6 h7 L h8 h9 h10
  have h0 : 0 ≤ i := by omega
  have hx := hv _ (rd_mem (l := v) h0 h2)
  obtain ⟨J, S⟩ := lev_step (fun x hx => (hv x hx).1) h0 h2 L
  have hJx : 0 ≤ (J : Int) * rd v i := Int.mul_nonneg (by omega) (by omega)
  have hn0 := S.n0
  have hc0 := S.c0
  obtain ⟨r, hr, a, b, b1, b2, b3⟩ := ih (i - 1) (n - J * rd v i) (need - J) (out.set i.toNat J) (by omega) (by omega) S.n0 (by omega) (by omega) (by omega) (by omega) S.next (by simpa using h8) (by
   intro j hj hj'
   rw [rd_set _ h0 (by omega) hj, if_neg (by omega)]
   exact h9 j hj (by omega)) (nonneg_set h10 (by omega))
  have ez : rd out i = 0 := h9 i h0 (by omega)
  have ei : ((i.toNat : Nat) : Int) = i := by omega
  have d1 := dot_set out v i.toNat J h8 (by omega)
  have d2 := sum_set out i.toNat J (by omega)
  rw [ei, ez, Int.sub_zero] at d1 d2
  refine ⟨r, hr, Ev.step (fun k => by rw [impl_best.l0]) ?_, ?_, b1, by omega, by omega⟩
  · have hd1 : 0 ≤ n / rd v i := Int.ediv_nonneg h3 (by omega)
    have hd2 : n / rd v i ≤ n := Int.ediv_le_self _ h3
    rw [Int.tdiv_eq_ediv_of_nonneg h3, w64 (x := n / rd v i) (by omega) (by omega)]
    refine ev_ifp (by omega) (ev_ifp h0 (ev_ifp h2 (ev_ifn (by omega) ?_)))
    have hmn : mn (n / rd v i) need = min (n / rd v i) need := by unfold mn; omega
    rw [hmn]
    have hJ1 : (J : Int) ≤ n / rd v i := (int_ediv_mul_le hx.1 (by omega)).2 (by omega)
    refine best_inner hv hl h0 h2 h3 h4 hm ht h7 h8 S a (min (n / rd v i) need - J).toNat _ (by omega) ?_ (by omega)
    have h1 : min (n / rd v i) need * rd v i ≤ n / rd v i * rd v i := Int.mul_le_mul_of_nonneg_right (by omega) (by omega)
    have h2' := Int.ediv_mul_le n (b := rd v i) (by omega)
    omega
  · have := bestT_inner hv hl h0 h2 h3 h4 hm htl hT1 hT2 hT3 h6 h7 S h8 b J 0 (by omega)
    rw [show n - ((0 : Nat) : Int) * rd v i = n from by simp] at this
    have e : out.set i.toNat ((0 : Nat) : Int) = out := by
     refine rd_ext (by simp) fun j hj hj' => ?_
     rw [rd_set _ h0 (by omega) hj]
     by_cases e : j = i
     · rw [if_pos e, e, h9 i h0 (by omega)]; rfl
     · rw [if_neg e]
    rw [e] at this
    exact this
end Go.Proofs.Ythkhpejggdnkfaa.E
end
section
namespace Go.Proofs.Ythkhpejggdnkfaa.E
open Go.RowKit Go.Proofs.Ythkhpejggdnkfaa.PB Go.Proofs.YthkhpejggdnkfaaW.PrintWords Go.Proofs.YthkhpejggdnkfaaW.PrintLast Go.Proofs.YthkhpejggdnkfaaW.PrintMore
set_option linter.unusedVariables false
set_option linter.unusedSimpArgs false
theorem bestI_start {v : List Int} {n : Int} (hn : 0 ≤ n) (hn' : n ≤ 4000) (hv : ∀ y ∈ v, 1 ≤ y ∧ y ≤ 1000) (hl : v.length ≤ 20) {t : List (List Int)} (ht : FewTab v n t) (hE : Ev (fun k => impl_fewest.f k v n) t) {need : Int} (hf : rd (rd_L2 t v.length) n = need) {r : List Int}
 (H : Ev (fun k => impl_best.l0 k v n t (List.replicate v.length 0) need (v.length - 1)) r) : Ev (fun k => impl_best.f k v n) r := by
 have hrow := ht.2 v.length (by omega) (by omega)
 have htl := ht.1
 have hrl := hrow.1
 unfold impl_best.f
 rw [hf.symm] at H
 refine ev_bind _ hE (ev_ifp (by omega) (ev_ifp (by omega) (ev_ifp (by omega) (ev_ifp hn (ev_ifp (by omega) ?_)))))
 rw [w64 (by omega) (by omega), show ((v.length : Int)).toNat = v.length from by omega]
 exact H
end Go.Proofs.Ythkhpejggdnkfaa.E
end
section
namespace Go.Proofs.Ythkhpejggdnkfaa.E
open Go.RowKit Go.Proofs.Ythkhpejggdnkfaa.PB Go.Proofs.YthkhpejggdnkfaaW.PrintWords Go.Proofs.YthkhpejggdnkfaaW.PrintLast Go.Proofs.YthkhpejggdnkfaaW.PrintMore
set_option linter.unusedVariables false
set_option linter.unusedSimpArgs false
def StArg (v : List Int) (h n : Int) : Prop := AreSt v ∧ (1 ≤ h ∧ h ≤ 6) ∧ (0 ≤ n ∧ n ≤ 400)
noncomputable instance (v : List Int) (h n : Int) : Decidable (StArg v h n) := Classical.propDecidable _
theorem stampsI_arg {v : List Int} (h n : Int) (hl : v.length ≤ 1099511627776) {r : List Int × Bool} (H : Ev (fun k => impl_StampsFor.j0 k v h n (!decide (StArg v h n))) r) : Ev (fun k => impl_StampsFor.f k v h n) r := by
 unfold impl_StampsFor.f
 simp only [within_eq, Option.bind_some]
 by_cases h1 : AreSt v
 · by_cases h2 : 1 ≤ h ∧ h ≤ 6
   · refine ev_bind _ (areStampsI_ev hl) (ev_ifp (by simpa using h1) (ev_ifp (by simpa using h2) ?_))
     rwa [show decide (0 ≤ n ∧ n ≤ 400) = decide (StArg v h n) from by simp only [StArg, h1, h2, true_and]]
   · refine ev_bind _ (areStampsI_ev hl) (ev_ifp (by simpa using h1) (ev_ifn (by simpa using h2) ?_))
     rwa [show (!decide (StArg v h n)) = true from nd_t (fun e => h2 e.2.1)] at H
 · refine ev_bind _ (areStampsI_ev hl) (ev_ifn (by simpa using h1) ?_)
   rwa [show (!decide (StArg v h n)) = true from nd_t (fun e => h1 e.1)] at H
theorem stampsS_arg {v : List Int} (h n : Int) (hl : v.length ≤ 1099511627776) {r : List Int × Bool} (H : Ev (fun k => spec_StampsFor.j0 k v h n (!decide (StArg v h n))) r) : Ev (fun k => spec_StampsFor.f k v h n) r := by
 unfold spec_StampsFor.f
 simp only [l1In_eq, Option.bind_some]
 by_cases h1 : AreSt v
 · by_cases h2 : 1 ≤ h ∧ h ≤ 6
   · refine ev_bind _ (areStampsS_ev hl) (ev_ifp (by simpa using h1) (ev_ifp (by simpa using h2) ?_))
     rwa [show decide (0 ≤ n ∧ n ≤ 400) = decide (StArg v h n) from by simp only [StArg, h1, h2, true_and]]
   · refine ev_bind _ (areStampsS_ev hl) (ev_ifp (by simpa using h1) (ev_ifn (by simpa using h2) ?_))
     rwa [show (!decide (StArg v h n)) = true from nd_t (fun e => h2 e.2.1)] at H
 · refine ev_bind _ (areStampsS_ev hl) (ev_ifn (by simpa using h1) ?_)
   rwa [show (!decide (StArg v h n)) = true from nd_t (fun e => h1 e.1)] at H
theorem stamps_ev (v : List Int) (h n : Int) (hl : v.length ≤ 1099511627776) : ∃ (r : List Int) (ok : Bool), r.length ≤ 6 ∧ Ev (fun k => impl_StampsFor.f k v h n) (r, ok) ∧ Ev (fun k => spec_StampsFor.f k v h n) (r, ok) ∧ (ok = true ↔ StArg v h n ∧ Can v h n) ∧ (ok = true → r.length = v.length ∧ (∀ x ∈ r, 0 ≤ x) ∧ dot r v = n ∧ r.sum ≤ h) ∧ (ok = false → r = []) := by
 by_cases hA : StArg v h n
 · obtain ⟨h1, h2, h3⟩ := id hA
   have hlen := h1.len
   obtain ⟨t, ht, hE⟩ := fewest_ev (n := n) h3.1 (by omega) h1.vals (by omega)
   obtain ⟨tb, hb1, hb2, hE'⟩ := tab27_ev (v := v) (most := n) (by omega) h1.vals h1.2.2 h3.1 (by omega)
   have hrow := ht.2 v.length (by omega) (by omega)
   rw [show ((v.length : Int)).toNat = v.length from by omega, List.take_length] at hrow
   have f := hrow.2 n h3.1 (by omega)
   have g := hb2 n h3.1 (Int.le_refl _)
   have cf := can_fw h1.pos (h := h) (by omega) f
   have cg := can_tb (h := h) (by omega) g
   have htl := ht.1
   have hrl := hrow.1
   by_cases hc : Can v h n
   · have c1 := cf.2 hc
     have c2 := cg.2 hc
     obtain ⟨w, hw⟩ := f.way c1.1
     obtain ⟨r, hr, a, b, b1, b2, b3⟩ := bestT_levels (C := 8) (most := n) (tb := tb) h1.vals (by omega) (by omega) ht hb1 (fun k c hk hk' hC hw hm => by
      have T := hb2 k hk hk'
      have e1 := T.2.2.1 c hw
      have e2 := hm _ (T.2.2.2 (by unfold CAP27; omega))
      omega)
      (fun k hk hk' hC => (hb2 k hk hk').2.2.2 (by unfold CAP27; omega)) (fun k hk hk' => ⟨(hb2 k hk hk').1, by have := (hb2 k hk hk').2.1; unfold CAP27 at this; omega⟩) v.length (v.length - 1) n _ (List.replicate v.length 0) (by omega) (by omega) h3.1 (Int.le_refl _) c1.1 (by omega) (by omega)
      ⟨w, hw, fun y hy => by rw [List.drop_of_length_le (by omega)] at hy; simp at hy⟩ (by simp) (fun j hj hj' => rd_rep hj (by omega)) (fun x hx => by have := List.eq_of_mem_replicate hx; omega)
     rw [dot_zeros, Int.zero_add] at b2
     rw [sum_zeros, Int.zero_add] at b3
     refine ⟨r, true, by omega, stampsI_arg h n hl ?_, stampsS_arg h n hl ?_, ⟨fun _ => ⟨hA, hc⟩, fun _ => rfl⟩, fun _ => ⟨hr, b1, b2, by omega⟩, fun h => (by cases h)⟩
     · refine Ev.step (fun k => by rw [impl_StampsFor.j0]) ?_
       refine ev_ifn (nd_f hA) (ev_bind _ hE (ev_ifp (by omega) (ev_ifp (by omega) (ev_ifp h3.1 (ev_ifp (by omega) (ev_ifn (by omega) (ev_ifn (by omega) (ev_bind _ (bestI_start h3.1 (by omega) h1.vals (by omega) ht hE rfl a) (Ev.now _)))))))))
     · refine Ev.step (fun k => by rw [spec_StampsFor.j0]) ?_
       refine ev_ifn (nd_f hA) (ev_bind _ hE' (ev_ifp h3.1 (ev_ifp (by omega) (ev_ifn (by omega) (ev_ifp (by omega) (ev_ifp (by omega) ?_))))))
       rw [w64 (by omega) (by omega), show ((v.length : Int)).toNat = v.length from by omega]
       exact b
   · have c1 := (not_congr cf).2 hc
     have c2 := (not_congr cg).2 hc
     refine ⟨[], false, by simp, stampsI_arg h n hl ?_, stampsS_arg h n hl ?_, ⟨fun h => (by cases h), fun h' => absurd h'.2 hc⟩, fun h => (by cases h), fun _ => rfl⟩
     · refine Ev.step (fun k => by rw [impl_StampsFor.j0]) ?_
       refine ev_ifn (nd_f hA) (ev_bind _ hE (ev_ifp (by omega) (ev_ifp (by omega) (ev_ifp h3.1 (ev_ifp (by omega) ?_)))))
       by_cases e : rd (rd_L2 t v.length) n < 0
       · exact ev_ifp e (Ev.now _)
       · exact ev_ifn e (ev_ifp (by omega) (Ev.now _))
     · refine Ev.step (fun k => by rw [spec_StampsFor.j0]) ?_
       exact ev_ifn (nd_f hA) (ev_bind _ hE' (ev_ifp h3.1 (ev_ifp (by omega) (ev_ifp (by omega) (Ev.now _)))))
 · refine ⟨[], false, by simp, stampsI_arg h n hl ?_, stampsS_arg h n hl ?_, ⟨fun h => (by cases h), fun h' => absurd h'.1 hA⟩, fun h => (by cases h), fun _ => rfl⟩
   · refine Ev.step (fun k => by rw [impl_StampsFor.j0]) ?_
     exact ev_ifp (nd_t hA) (Ev.now _)
   · refine Ev.step (fun k => by rw [spec_StampsFor.j0]) ?_
     exact ev_ifp (nd_t hA) (Ev.now _)
end Go.Proofs.Ythkhpejggdnkfaa.E
end
section
namespace Go.Proofs.Ythkhpejggdnkfaa.E
open Go.RowKit Go.Proofs.Ythkhpejggdnkfaa.PB Go.Proofs.YthkhpejggdnkfaaW.PrintWords Go.Proofs.YthkhpejggdnkfaaW.PrintLast Go.Proofs.YthkhpejggdnkfaaW.PrintMore
set_option linter.unusedVariables false
set_option linter.unusedSimpArgs false
theorem lawTotal_l {l : List Int} (hl : l.length ≤ 1048576) (hb : ∀ x ∈ l, -1099511627776 ≤ x ∧ x ≤ 1099511627776) (d : Nat) : ∀ i : Int, 0 ≤ i → i + d = l.length → Ev (fun k => laws_total.l0 k l (l.take i.toNat).sum i) l.sum := by
 induction d with
 | zero =>
  intro i h0 h1
  refine Ev.step (fun k => by rw [laws_total.l0]) ?_
  rw [List.take_of_length_le (by omega)]
  exact ev_ifn (by omega) (Ev.now _)
 | succ d ih =>
  intro i h0 h1
  have b := sum_bound (l := l.take i.toNat) (B := 1099511627776) (by omega) (fun x hx => hb x (List.mem_of_mem_take hx))
  have c := hb _ (rd_mem (l := l) h0 (by omega))
  have hlen : ((l.take i.toNat).length : Int) ≤ 1048576 := by rw [List.length_take]; omega
  have := ih (i + 1) (by omega) (by omega)
  rw [take_rd h0 (by omega), List.sum_append] at this
  refine Ev.step (fun k => by rw [laws_total.l0]) ?_
  rw [w64 (x := (l.take i.toNat).sum + rd l i) (by omega) (by omega), w64 (x := i + 1) (by omega) (by omega)]
  refine ev_ifp (by omega) (ev_ifp h0 ?_)
  simpa using this
theorem lawTotal_ev {l : List Int} (hl : l.length ≤ 1048576) (hb : ∀ x ∈ l, -1099511627776 ≤ x ∧ x ≤ 1099511627776) : Ev (fun k => laws_total.f k l) l.sum := by
 unfold laws_total.f
 have := lawTotal_l hl hb l.length 0 (by omega) (by omega)
 simpa using this
end Go.Proofs.Ythkhpejggdnkfaa.E
end
section
namespace Go.Proofs.Ythkhpejggdnkfaa.E
open Go.RowKit Go.Proofs.Ythkhpejggdnkfaa.PB Go.Proofs.YthkhpejggdnkfaaW.PrintWords Go.Proofs.YthkhpejggdnkfaaW.PrintLast Go.Proofs.YthkhpejggdnkfaaW.PrintMore
set_option linter.unusedVariables false
set_option linter.unusedSimpArgs false
theorem same_l {l : List Int} (hl : l.length ≤ 1099511627776) (d : Nat) : ∀ i : Int, 0 ≤ i → i + d = l.length → Ev (fun k => laws_sameInts.l0 k l l i) true := by
 induction d with
 | zero => intro i h0 h1; exact Ev.step (fun k => by rw [laws_sameInts.l0]) (ev_ifn (by omega) (Ev.now _))
 | succ d ih =>
  intro i h0 h1
  refine Ev.step (fun k => by rw [laws_sameInts.l0]) ?_
  rw [w64 (by omega) (by omega)]
  exact ev_ifp (by omega) (ev_ifp h0 (ev_ifp (by omega) (ev_ifp rfl (ih (i + 1) (by omega) (by omega)))))
theorem same_ev {l : List Int} (hl : l.length ≤ 1099511627776) : Ev (fun k => laws_sameInts.f k l l) true := by
 unfold laws_sameInts.f
 exact ev_ifp rfl (same_l hl l.length 0 (by omega) (by omega))
theorem dot_append : ∀ {r v r' v' : List Int}, r.length = v.length → dot (r ++ r') (v ++ v') = dot r v + dot r' v'
 | [], [], _, _, _ => by simp [dot]
 | [], _ :: _, _, _, h => by simp at h
 | _ :: _, [], _, _, h => by simp at h
 | a :: r, b :: v, r', v', h => by
  have := dot_append (r := r) (v := v) (r' := r') (v' := v') (by simpa using h)
  simp only [List.cons_append, dot, this]; omega
theorem worth_l {r v : List Int} (hl : r.length ≤ 1048576) (e : r.length = v.length) (hr : ∀ x ∈ r, 0 ≤ x) (hv : ∀ x ∈ v, 1 ≤ x) (hd : dot r v ≤ 1099511627776) (d : Nat) : ∀ i : Int, 0 ≤ i → i + d = r.length → Ev (fun k => laws_worth.l0 k r v (dot (r.take i.toNat) (v.take i.toNat)) i) (dot r v) := by
 induction d with
 | zero =>
  intro i h0 h1
  refine Ev.step (fun k => by rw [laws_worth.l0]) ?_
  rw [List.take_of_length_le (by omega), List.take_of_length_le (by omega)]
  exact ev_ifn (by omega) (Ev.now _)
 | succ d ih =>
  intro i h0 h1
  have t1 := take_rd (l := r) h0 (by omega)
  have t2 := take_rd (l := v) h0 (by omega)
  have el : (r.take i.toNat).length = (v.take i.toNat).length := by rw [List.length_take, List.length_take]; omega
  have el' : (r.take (i + 1).toNat).length = (v.take (i + 1).toNat).length := by rw [List.length_take, List.length_take]; omega
  have s1 : dot (r.take (i + 1).toNat) (v.take (i + 1).toNat) = dot (r.take i.toNat) (v.take i.toNat) + rd r i * rd v i := by
   rw [t1, t2, dot_append el]; simp [dot]
  have s2 : dot r v = dot (r.take (i + 1).toNat) (v.take (i + 1).toNat) + dot (r.drop (i + 1).toNat) (v.drop (i + 1).toNat) := by
   rw [← dot_append el', List.take_append_drop, List.take_append_drop]
  have n1 := dot_nonneg (r := r.take i.toNat) (v := v.take i.toNat) (fun x hx => hr x (List.mem_of_mem_take hx)) (fun x hx => hv x (List.mem_of_mem_take hx))
  have n2 := dot_nonneg (r := r.drop (i + 1).toNat) (v := v.drop (i + 1).toNat) (fun x hx => hr x (List.mem_of_mem_drop hx)) (fun x hx => hv x (List.mem_of_mem_drop hx))
  have n3 : 0 ≤ rd r i * rd v i := Int.mul_nonneg (hr _ (rd_mem h0 (by omega))) (by have := hv _ (rd_mem (l := v) h0 (by omega)); omega)
  have := ih (i + 1) (by omega) (by omega)
  rw [s1] at this
  refine Ev.step (fun k => by rw [laws_worth.l0]) ?_
  rw [w64 (x := rd r i * rd v i) (by omega) (by omega), w64 (x := dot (r.take i.toNat) (v.take i.toNat) + rd r i * rd v i) (by omega) (by omega), w64 (x := i + 1) (by omega) (by omega)]
  exact ev_ifp (by omega) (ev_ifp (by omega) (ev_ifp h0 this))
theorem worth_ev {r v : List Int} (hl : r.length ≤ 1048576) (e : r.length = v.length) (hr : ∀ x ∈ r, 0 ≤ x) (hv : ∀ x ∈ v, 1 ≤ x) (hd : dot r v ≤ 1099511627776) : Ev (fun k => laws_worth.f k r v) (dot r v) := by
 unfold laws_worth.f
 have := worth_l hl e hr hv hd r.length 0 (by omega) (by omega)
 simpa [dot] using this
end Go.Proofs.Ythkhpejggdnkfaa.E
end
section
namespace Go.Proofs.Ythkhpejggdnkfaa.Pure
open Go.RowKit Go.Proofs.Ythkhpejggdnkfaa.PB Go.Proofs.Ythkhpejggdnkfaa.E Go.Proofs.YthkhpejggdnkfaaW.PrintWords Go.Proofs.YthkhpejggdnkfaaW.PrintLast Go.Proofs.YthkhpejggdnkfaaW.PrintMore
set_option linter.unusedVariables false
set_option linter.unusedSimpArgs false
theorem stamps_last {s b : List Int} {g k most : Int} (hs : s.length ≤ 7) (hb : b.length ≤ 10) (f : b = [] ∨ (most = rc b g ∧ (b.length : Int) = k ∧ ∀ v : List Int, (v.length : Int) = k → rc v g ≤ most)) (h r i : Int) : Ev (fun q => laws_FnStamps.j3 q s h r k g b most i false) true := by
 refine Ev.step (fun q => by rw [laws_FnStamps.j3]) (ev_ifn (by simp) ?_)
 rcases f with e | ⟨f1, f2, f3⟩
 · subst e
   exact ev_ifp (by simp) (Ev.now _)
 · by_cases z : (b.length : Int) = 0
   · exact ev_ifp z (Ev.now _)
   · refine ev_ifn z (ev_bind _ (rc_all b g (by omega)).1 (ev_ifp f1.symm (ev_ifp f2 ?_)))
     by_cases y : (s.length : Int) = k
     · exact ev_ifp y (ev_bind _ (rc_all s g (by omega)).1 (ev_to (Ev.now _) (d_t (f3 s y))))
     · exact ev_ifn y (Ev.now _)
theorem stamps_loop {s b : List Int} {g k most h : Int} (hs : s.length ≤ 7) (hb : b.length ≤ 10) (f : b = [] ∨ (most = rc b g ∧ (b.length : Int) = k ∧ ∀ v : List Int, (v.length : Int) = k → rc v g ≤ most)) (d : Nat) : ∀ i : Int, 1 ≤ i → i + d = max i (rc s h + 2) → Ev (fun q => laws_FnStamps.l0 q s h (rc s h) k g b most i) true := by
 have bd := rc_bd s h
 induction d with
 | zero =>
  intro i h0 h1
  refine Ev.step (fun q => by rw [laws_FnStamps.l0]) ?_
  rw [w64 (x := rc s h + 1) (by omega) (by omega)]
  exact ev_ifn (by omega) (stamps_last hs hb f h _ i)
 | succ d ih =>
  intro i h0 h1
  have nx := ih (i + 1) (by omega) (by omega)
  refine Ev.step (fun q => by rw [laws_FnStamps.l0]) ?_
  rw [w64 (x := rc s h + 1) (by omega) (by omega)]
  refine ev_ifp (by omega) ?_
  by_cases z : rc s h ≥ 0
  · have arg : ReachArg s h := by
     by_cases c : ReachArg s h
     · exact c
     · exfalso
       have : rc s h = -1 := by unfold rc; rw [dif_neg (fun q => c q.1)]
       omega
    have is := (rc_all s h (by omega)).2.2 arg
    obtain ⟨r, ok, r1, r2, r3, r4, _⟩ := stamps_ev s h i (by omega)
    have e : ok = decide (i ≤ rc s h) := by
     rw [Bool.eq_iff_iff, r4, decide_eq_true_eq]
     constructor
     · rintro ⟨_, c⟩
       by_cases y : i ≤ rc s h
       · exact y
       · exact absurd (by rwa [show i = rc s h + 1 from by omega] at c) is.2.2.2
     · intro y; exact ⟨⟨arg.1, arg.2, by omega, by omega⟩, is.2.2.1 i (by omega) y⟩
    rw [d_t z]
    refine Ev.step (fun q => by rw [laws_FnStamps.j3]) ?_
    refine ev_ifp rfl ?_
    refine ev_bind _ r2 ?_
    refine ev_ifn (by simp [e]) ?_
    rw [w64 (x := i + 1) (by omega) (by omega)]
    exact nx
  · rw [show decide (rc s h ≥ 0) = false from decide_eq_false z]
    exact stamps_last hs hb f h _ i
theorem FnStamps : laws_FnStamps.Pure := by
 intro l0 h1 h2 h3
 apply Ev.rounds
 unfold laws_FnStamps.f laws_big.f
 simp only [Option.bind_some]
 by_cases h : (l0.length : Int) > 1048576
 · exact ev_ifp (by simpa using h) (Ev.now _)
 obtain ⟨s, e, hs, ds⟩ := drawReach_ev (b := l0) (by omega)
 obtain ⟨a, b, n, ha, da⟩ := drawFor_ev (b := l0) (by omega)
 obtain ⟨k, g, dk⟩ := drawBst_ev (b := l0) (by omega)
 obtain ⟨l, ok, l1, l2, l3, l4, l5, _⟩ := stamps_ev a b n (by omega)
 obtain ⟨b1, b2, b3⟩ := bst_ev k g
 have R := rc_all s e (by omega)
 refine ev_ifn (by simpa using h) ?_
 refine ev_bind _ ds ?_
 refine ev_bind _ R.1 ?_
 refine ev_bind _ da ?_
 refine ev_bind _ l2 ?_
 refine ev_bind _ l3 ?_
 refine ev_bind _ dk ?_
 refine ev_bind _ b1 ?_
 refine ev_bind _ b2 ?_
 refine ev_bind _ R.2.1 ?_
 refine ev_ifp rfl ?_
 refine ev_ifn (by simp) ?_
 refine ev_bind _ (same_ev (l := l) (by omega)) ?_
 refine ev_ifp rfl ?_
 refine ev_bind _ (same_ev (l := (bst k g).1) (by omega)) ?_
 refine ev_ifp rfl ?_
 refine ev_ifp rfl ?_
 refine ev_bind _ (areStampsI_ev (l := s) (by omega)) ?_
 refine ev_bind _ (areStampsS_ev (l := s) (by omega)) ?_
 refine Ev.step (fun q => by rw [laws_FnStamps.j0]) ?_
 refine ev_ifn (by simp) ?_
 have tail : Ev (fun q => laws_FnStamps.j1 q s e (rc s e) k g (bst k g).1 (bst k g).2 false) true := by
  have bd := rc_bd s e
  refine Ev.step (fun q => by rw [laws_FnStamps.j1]) (ev_ifn (by simp) ?_)
  exact stamps_loop hs b3 bst_fact (rc s e + 1).toNat 1 (by omega) (by omega)
 by_cases o : ok = true
 · obtain ⟨arg, _⟩ := l4.1 o
   obtain ⟨k1, k2, k3, k4⟩ := l5 o
   have sd := sum_le_dot k1 k2 arg.1.pos
   refine ev_ifp o (ev_bind _ (worth_ev (r := l) (v := a) (by omega) k1 k2 arg.1.pos (by have := arg.2.2; omega)) (ev_ifp k3 ?_))
   refine ev_bind _ (lawTotal_ev (l := l) (by omega) (fun x hx => by have := k2 x hx; have := mem_le_sum k2 x hx; have := arg.2.1; omega)) ?_
   rw [decide_eq_false (show ¬ l.sum > b by omega)]
   exact tail
 · exact ev_ifn o tail
end Go.Proofs.Ythkhpejggdnkfaa.Pure
end
section
namespace Go.Proofs.YthkhpejggdnkfaaW.PrintWords
open Go.ChangeShapes Go.WideShapes
theorem sized_ints {H : Type} {enc : TypeId × Value → H} {P : Program} {W : World} {base : Nat} {spare : Nat → Bool} {held : Bool} {t e : TypeId} {k : IntKind} {a : Option Addr} {len cap : Nat} {d : DataW H} {ps : List MemPlace} {ts : List TypeId} {ds : List (DataW H)} {j : Nat}
 (hsz : (DataW.weightsEach P ts ds).all (· ≤ reachBytes) = true) (ht : ts[j]? = some t) (hd : ds[j]? = some d) (hu : P.underlying t = some (.slice e)) (he : P.underlying e = some (.int k)) (hc : P.cellsOf e = 1) {B : Nat} (hB : P.bytesOf e = B)
 (h : DataW.Trod enc P W base spare held t (.slice a len cap) d ps) : len * B ≤ 140737488351232 := by
 obtain ⟨fuel, hf⟩ := h
 rcases open_ints hu he hc hf with ⟨hcs, _⟩ | ⟨x, l, c, zs, hcs, _, hl, _, hz, hx, _, _⟩
 · simp [Value.cells] at hcs
   obtain ⟨rfl, rfl, rfl⟩ := hcs
   simp
 · simp [Value.cells] at hcs
   obtain ⟨rfl, rfl, rfl⟩ := hcs
   obtain ⟨hx, _⟩ := Prod.mk.inj hx
   subst hx
   have z := sized_slice hsz ht hd hu
   rw [hB] at z
   have hl2 : len ≤ zs.length := by
    rw [hz]
    split
    · exact hl
    · exact Nat.le_refl _
   have h1 : (lits (H := H) k (zs.take len)).length + (lits (H := H) k (zs.drop len)).length = zs.length := by
    simp [lits]
    omega
   rw [h1] at z
   exact Nat.le_trans (Nat.mul_le_mul_right _ hl2) z
end Go.Proofs.YthkhpejggdnkfaaW.PrintWords
end
