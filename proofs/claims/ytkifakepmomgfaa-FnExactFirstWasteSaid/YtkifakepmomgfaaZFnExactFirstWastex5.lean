-- Bundled by shake.py from this session's printed and written texts; Lean checks it.
import Derived.ChangeSlices
import Derived.SizedLaws
import Derived.Test.YtkifakepmomgfaaZFnExactFirstWastex1
import Derived.Test.YtkifakepmomgfaaZFnExactFirstWastex2
import Derived.Test.YtkifakepmomgfaaZFnExactFirstWastex3
import Derived.Test.YtkifakepmomgfaaZFnExactFirstWastex4
section
namespace Go.Proofs.Ytkifakepmomgfaa.PA
open Go.RowKit Go.Proofs.YtkifakepmomgfaaW.PrintWords Go.Proofs.YtkifakepmomgfaaW.PrintLast Go.Proofs.YtkifakepmomgfaaW.PrintMore
set_option linter.unusedVariables false
set_option linter.unusedSimpArgs false
def IsS89 (w0 W : World) (g : Nat) (f0 : List Int) (f1 : Int) (f2 : Int) : Prop := ∃ A0 c0, W.heap[g]? = some (.cells #[.slice A0 f0.length c0, .int .i64 f1, .int .i64 f2] 89 (0, 0)) ∧ w0.heap.size ≤ g ∧ Kd.C (Kd.int .u8) w0 A0 f0.length f0
theorem IsS89.grown {w0 W : World} {g : Nat} {f0 : List Int} {f1 : Int} {f2 : Int} {W1 : World} {row : Option Nat} (h : IsS89 w0 W g f0 f1 f2) (hw : W.grownBy W1 row) (hne : some g ≠ row) : IsS89 w0 W1 g f0 f1 f2 := by
  obtain ⟨A0, c0, hb, hg, hr0⟩ := h
  exact ⟨A0, c0, blk_grown hb hw hne, hg, hr0⟩
theorem IsS89.kept {w0 W : World} {g : Nat} {f0 : List Int} {f1 : Int} {f2 : Int} {W1 : World} {S : Nat → Prop} (h : IsS89 w0 W g f0 f1 f2) (hk : Kept W W1 S) (hne : ¬ S g) : IsS89 w0 W1 g f0 f1 f2 := by
  obtain ⟨A0, c0, hb, hg, hr0⟩ := h
  exact ⟨A0, c0, blk_kept hb hk hne, hg, hr0⟩
theorem IsS89.below {w0 W : World} {g : Nat} {f0 : List Int} {f1 : Int} {f2 : Int} {W1 : World} (h : IsS89 w0 W g f0 f1 f2) (hw : Below W.heap.size W W1) : IsS89 w0 W1 g f0 f1 f2 := h.grown (grown_of_below hw none) (by simp)
theorem IsS89.alloc {w0 W : World} {g : Nat} {f0 : List Int} {f1 : Int} {f2 : Int} (h : IsS89 w0 W g f0 f1 f2) (o : Obj) : IsS89 w0 (W.alloc o) g f0 f1 f2 := h.below (below_alloc (Below.refl _ _) o)
theorem IsS89.drewN {w0 W : World} {g : Nat} {f0 : List Int} {f1 : Int} {f2 : Int} (h : IsS89 w0 W g f0 f1 f2) (m : Nat) : IsS89 w0 (W.drewN m) g f0 f1 f2 := h
theorem IsS89.drew {w0 W : World} {g : Nat} {f0 : List Int} {f1 : Int} {f2 : Int} (h : IsS89 w0 W g f0 f1 f2) : IsS89 w0 W.drew g f0 f1 f2 := h
theorem IsS89.at_ {w0 W : World} {g : Nat} {f0 : List Int} {f1 : Int} {f2 : Int} {w' : World} {m : Nat} (hq : W.drewN m = w') (h : IsS89 w0 W g f0 f1 f2) : IsS89 w0 w' g f0 f1 f2 := by subst hq; exact IsS89.drewN h m
theorem IsS89.apart {w0 W : World} {g : Nat} {f0 : List Int} {f1 : Int} {f2 : Int} {α : Type} {d : Kd α} {e : Nat} {base : Nat} {ok : Nat → Prop} {v : Value} {xs : List α} (h : IsS89 w0 W g f0 f1 f2) (ho : d.R e W base ok v xs) (ht : ∀ q, q ∈ e :: d.E → q ≠ 89) : d.R e W base (fun k => ok k ∧ k ≠ g) v xs := by
  obtain ⟨A0, c0, hb, hg, hr0⟩ := h
  exact Kd.R_types ho hb ht
theorem IsS89.lt {w0 W : World} {g : Nat} {f0 : List Int} {f1 : Int} {f2 : Int} (h : IsS89 w0 W g f0 f1 f2) : g < W.heap.size := by
  obtain ⟨A0, c0, hb, hg, hr0⟩ := h
  exact blk_lt hb
theorem IsS89.ge {w0 W : World} {g : Nat} {f0 : List Int} {f1 : Int} {f2 : Int} (h : IsS89 w0 W g f0 f1 f2) : w0.heap.size ≤ g := by
  obtain ⟨A0, c0, hb, hg, hr0⟩ := h
  exact hg
end Go.Proofs.Ytkifakepmomgfaa.PA
end
section
namespace Go.Proofs.Ytkifakepmomgfaa.E
open Go.RowKit Go.Proofs.Ytkifakepmomgfaa.PA Go.Proofs.YtkifakepmomgfaaW.PrintWords Go.Proofs.YtkifakepmomgfaaW.PrintLast Go.Proofs.YtkifakepmomgfaaW.PrintMore
set_option linter.unusedVariables false
set_option linter.unusedSimpArgs false
theorem AreC.len {v : List Int} (h : AreC v) : 1 ≤ v.length ∧ v.length ≤ 10 := by have := h.1; omega
theorem AreC.vals {v : List Int} (h : AreC v) : ∀ x ∈ v, 1 ≤ x ∧ x ≤ 1000 := fun x hx => by have := h.2.1 x hx; omega
theorem AreC.one {v : List Int} (h : AreC v) : (1 : Int) ∈ v := by
  have := rd_mem (l := v) (i := 0) (by omega) (by have := h.1; omega)
  rwa [h.2.2.2] at this
theorem AreC.pos {v : List Int} (h : AreC v) : ∀ x ∈ v, 1 ≤ x := fun x hx => (h.vals x hx).1
end Go.Proofs.Ytkifakepmomgfaa.E
end
section
namespace Go.Proofs.Ytkifakepmomgfaa.E
open Go.RowKit Go.Proofs.YtkifakepmomgfaaW.PrintWords Go.Proofs.YtkifakepmomgfaaW.PrintLast Go.Proofs.YtkifakepmomgfaaW.PrintMore
set_option linter.unusedVariables false
set_option linter.unusedSimpArgs false
def dot : List Int → List Int → Int
  | a :: r, b :: v => a * b + dot r v
  | [], _ => 0
  | _ :: _, [] => 0
theorem dot_set : ∀ (r v : List Int) (i : Nat) (J : Int), r.length = v.length → i < r.length → dot (r.set i J) v = dot r v + (J - rd r i) * rd v i
  | a :: r, b :: v, 0, J, _, _ => by simp only [List.set_cons_zero, dot, rd]; simp only [Int.toNat_natCast, List.getD_cons_zero]; rw [Int.sub_mul]; omega
  | a :: r, b :: v, i + 1, J, h1, h2 => by
    have := dot_set r v i J (by simpa using h1) (by simpa using h2)
    simp only [List.set_cons_succ, dot, rd, Int.toNat_natCast, List.getD_cons_succ] at this ⊢
    rw [this]; omega
  | [], _, _, _, _, h => by simp at h
  | _ :: _, [], _, _, h, _ => by simp at h
theorem sum_set : ∀ (r : List Int) (i : Nat) (J : Int), i < r.length → (r.set i J).sum = r.sum + (J - rd r i)
  | a :: r, 0, J, _ => by simp only [List.set_cons_zero, List.sum_cons, rd, Int.toNat_natCast, List.getD_cons_zero]; omega
  | a :: r, i + 1, J, h => by
    have := sum_set r i J (by simpa using h)
    simp only [List.set_cons_succ, List.sum_cons, rd, Int.toNat_natCast, List.getD_cons_succ] at this ⊢
    omega
  | [], _, _, h => by simp at h
theorem dot_zeros (n : Nat) (v : List Int) : dot (List.replicate n 0) v = 0 := by
  induction n generalizing v with
  | zero => cases v <;> rfl
  | succ n ih => cases v with
    | nil => rfl
    | cons b v => simp [List.replicate_succ, dot, ih]
theorem sum_zeros (n : Nat) : (List.replicate n (0 : Int)).sum = 0 := by
  induction n with
  | zero => rfl
  | succ n ih => simp [List.replicate_succ]
theorem nonneg_set {r : List Int} {i : Nat} {J : Int} (h : ∀ x ∈ r, 0 ≤ x) (hJ : 0 ≤ J) : ∀ x ∈ r.set i J, 0 ≤ x := by
  intro x hx
  rcases List.mem_or_eq_of_mem_set hx with h1 | h1
  · exact h x h1
  · omega
theorem sum_nonneg : ∀ {r : List Int}, (∀ x ∈ r, 0 ≤ x) → 0 ≤ r.sum
  | [], _ => by simp
  | a :: r, h => by
    have h1 := sum_nonneg (r := r) (fun x hx => h x (by simp [hx]))
    have h2 := h a (by simp)
    simp only [List.sum_cons]; omega
theorem sum_bound {B : Int} (hB : 0 ≤ B) : ∀ {l : List Int}, (∀ x ∈ l, -B ≤ x ∧ x ≤ B) → -(l.length * B) ≤ l.sum ∧ l.sum ≤ l.length * B
  | [], _ => by simp
  | a :: l, h => by
    have h1 := sum_bound hB (l := l) (fun x hx => h x (by simp [hx]))
    have h2 := h a (by simp)
    have e : (((a :: l).length : Nat) : Int) * B = l.length * B + B := by rw [List.length_cons, show ((l.length + 1 : Nat) : Int) = l.length + 1 from by omega, Int.add_mul]; omega
    rw [e, List.sum_cons]
    omega
theorem mem_le_sum : ∀ {l : List Int}, (∀ x ∈ l, 0 ≤ x) → ∀ x ∈ l, x ≤ l.sum
  | [], _, _, h => by simp at h
  | a :: l, h, x, hx => by
    have h1 := sum_nonneg (r := l) (fun x hx => h x (by simp [hx]))
    have h2 := h a (by simp)
    rcases List.mem_cons.1 hx with rfl | hx
    · simp only [List.sum_cons]; omega
    · have := mem_le_sum (l := l) (fun x hx => h x (by simp [hx])) x hx
      simp only [List.sum_cons]; omega
theorem sum_le_dot : ∀ {r v : List Int}, r.length = v.length → (∀ x ∈ r, 0 ≤ x) → (∀ x ∈ v, 1 ≤ x) → r.sum ≤ dot r v
  | [], _, _, _, _ => by simp [dot]
  | _ :: _, [], h, _, _ => by simp at h
  | a :: r, b :: v, e, h, k => by
    have h1 := sum_le_dot (r := r) (v := v) (by simpa using e) (fun x hx => h x (by simp [hx])) (fun x hx => k x (by simp [hx]))
    have h2 : a * 1 ≤ a * b := Int.mul_le_mul_of_nonneg_left (k b (by simp)) (h a (by simp))
    simp only [dot, List.sum_cons]; omega
end Go.Proofs.Ytkifakepmomgfaa.E
end
section
namespace Go.Proofs.Ytkifakepmomgfaa.E
open Go.RowKit Go.Proofs.Ytkifakepmomgfaa.PA Go.Proofs.YtkifakepmomgfaaW.PrintWords Go.Proofs.YtkifakepmomgfaaW.PrintLast Go.Proofs.YtkifakepmomgfaaW.PrintMore
set_option linter.unusedVariables false
set_option linter.unusedSimpArgs false
def gr (l : List Int) : Nat → Int → Int
  | 0, _ => 0
  | i + 1, n => n / rd l i + gr l i (n % rd l i)
theorem greedy_l {l : List Int} (hl : l.length ≤ 10) (hc : ∀ x ∈ l, 1 ≤ x ∧ x ≤ 500) (d : Nat) : ∀ (i n : Int) (out : List Int), i + 1 = d → i < l.length → 0 ≤ n → n ≤ 2000 → out.length = l.length → (∀ j, 0 ≤ j → j ≤ i → rd out j = 0) → (∀ x ∈ out, 0 ≤ x) → rd l 0 = 1 → (i < 0 → n = 0) → ∃ r, r.length = l.length ∧ Ev (fun k => impl_GreedyChange.l0 k l n out i) r ∧ Ev (fun k => spec_GreedyChange.l0 k l n out i) r ∧ (∀ x ∈ r, 0 ≤ x) ∧ dot r l = dot out l + n ∧ r.sum = out.sum + gr l d n := by
  induction d with
  | zero =>
    intro i n out h0 h1 h2 h3 h4 h5 h6 h7 h8
    have hn0 := h8 (by omega)
    refine ⟨out, h4, Ev.step (fun k => by rw [impl_GreedyChange.l0]) (ev_ifn (by omega) (Ev.now _)), Ev.step (fun k => by rw [spec_GreedyChange.l0]) (ev_ifn (by omega) (Ev.now _)), h6, by omega, by simp [gr]⟩
  | succ d ih =>
    intro i n out h0 h1 h2 h3 h4 h5 h6 h7 h8
    obtain ⟨hv1, hv2⟩ := hc _ (rd_mem (l := l) (i := i) (by omega) h1)
    have hm1 := Int.emod_nonneg n (b := rd l i) (by omega)
    have hm2 := Int.emod_lt_of_pos n (b := rd l i) (by omega)
    have hd1 : 0 ≤ n / rd l i := Int.ediv_nonneg h2 (by omega)
    have hd2 : n / rd l i ≤ n := Int.ediv_le_self _ h2
    have hmn : n % rd l i ≤ n := emod_le_self h2 (by omega)
    obtain ⟨r, hr, a, b, b1, b2, b3⟩ := ih (i - 1) (n % rd l i) (out.set i.toNat (n / rd l i)) (by omega) (by omega) hm1 (by omega) (by simpa using h4) (by
      intro j hj hj'
      rw [rd_set _ (by omega) (by omega) hj, if_neg (by omega)]
      exact h5 j hj (by omega)) (nonneg_set h6 hd1) h7 (by
      intro hi
      rw [show i = 0 from by omega, h7]; exact Int.emod_one n)
    have ez : rd out i = 0 := h5 i (by omega) (by omega)
    have ei : ((i.toNat : Nat) : Int) = i := by omega
    have d1 := dot_set out l i.toNat (n / rd l i) h4 (by omega)
    have d2 := sum_set out i.toNat (n / rd l i) (by omega)
    rw [ei, ez, Int.sub_zero] at d1 d2
    have dm := Int.ediv_mul_add_emod n (rd l i)
    have eg : gr l (d + 1) n = n / rd l i + gr l d (n % rd l i) := by rw [gr, show ((d : Nat) : Int) = i from by omega]
    refine ⟨r, hr, Ev.step (fun k => by rw [impl_GreedyChange.l0]) ?_, Ev.step (fun k => by rw [spec_GreedyChange.l0]) ?_, b1, by omega, by omega⟩
    · rw [Int.tmod_eq_emod_of_nonneg h2, Int.tdiv_eq_ediv_of_nonneg h2]
      simp (disch := omega) only [if_pos, if_neg, w64]
      exact a
    · rw [Int.tmod_eq_emod_of_nonneg h2, Int.tdiv_eq_ediv_of_nonneg h2]
      simp (disch := omega) only [if_pos, if_neg, w64]
      exact b
theorem greedy_ev {l : List Int} (n : Int) (hl : l.length ≤ 1099511627776) : ∃ r, r.length ≤ 10 ∧ Ev (fun k => impl_GreedyChange.f k l n) r ∧ Ev (fun k => spec_GreedyChange.f k l n) r ∧ (AreC l ∧ 0 ≤ n ∧ n ≤ 2000 → r.length = l.length ∧ (∀ x ∈ r, 0 ≤ x) ∧ dot r l = n ∧ r.sum = gr l l.length n) := by
  by_cases h : AreC l
  · by_cases hn : 0 ≤ n ∧ n ≤ 2000
    · obtain ⟨h1, h2, h3, h4⟩ := id h
      obtain ⟨r, hr, a, b, b1, b2, b3⟩ := greedy_l (l := l) (by omega) h2 l.length (l.length - 1) n (List.replicate l.length 0) (by omega) (by omega) hn.1 hn.2 (by simp) (fun j hj hj' => rd_rep hj (by omega)) (fun x hx => by have := List.eq_of_mem_replicate hx; omega) h4 (fun h => by omega)
      rw [dot_zeros, Int.zero_add] at b2
      rw [sum_zeros, Int.zero_add] at b3
      refine ⟨r, by omega, ?_, ?_, fun _ => ⟨hr, b1, b2, b3⟩⟩
      · unfold impl_GreedyChange.f
        refine ev_bind _ (areCoinsI_ev hl) (ev_ifp (by simpa using h) ?_)
        simp only [within_eq, Option.bind_some]
        refine Ev.step (fun k => by rw [impl_GreedyChange.j0]) (ev_ifn (by simpa using hn) ?_)
        simp (disch := omega) only [if_pos, w64, Int.toNat_natCast]
        exact a
      · unfold spec_GreedyChange.f spec_l26Asked.f
        refine ev_bind true ?_ (ev_ifp rfl ?_)
        · refine ev_bind _ (areCoinsS_ev hl) (ev_ifp (by simpa using h) ?_)
          simp only [l1In_eq, Option.bind_some]
          exact ev_to (Ev.now _) (by simpa using hn)
        · simp (disch := omega) only [if_pos, w64, Int.toNat_natCast]
          exact b
    · refine ⟨[], by simp, ?_, ?_, fun h' => absurd h'.2 hn⟩
      · unfold impl_GreedyChange.f
        refine ev_bind _ (areCoinsI_ev hl) (ev_ifp (by simpa using h) ?_)
        simp only [within_eq, Option.bind_some]
        exact Ev.step (fun k => by rw [impl_GreedyChange.j0]) (ev_ifp (nd_t hn) (Ev.now _))
      · unfold spec_GreedyChange.f spec_l26Asked.f
        refine ev_bind false ?_ (ev_ifn (by simp) (Ev.now _))
        refine ev_bind _ (areCoinsS_ev hl) (ev_ifp (by simpa using h) ?_)
        simp only [l1In_eq, Option.bind_some]
        exact ev_to (Ev.now _) (decide_eq_false hn)
  · refine ⟨[], by simp, ?_, ?_, fun h' => absurd h'.1 h⟩
    · unfold impl_GreedyChange.f
      refine ev_bind _ (areCoinsI_ev hl) (ev_ifn (by simpa using h) ?_)
      exact Ev.step (fun k => by rw [impl_GreedyChange.j0]) (ev_ifp rfl (Ev.now _))
    · unfold spec_GreedyChange.f spec_l26Asked.f
      refine ev_bind false ?_ (ev_ifn (by simp) (Ev.now _))
      exact ev_bind _ (areCoinsS_ev hl) (ev_ifn (by simpa using h) (Ev.now _))
end Go.Proofs.Ytkifakepmomgfaa.E
end
section
namespace Go.Proofs.Ytkifakepmomgfaa.E
open Go.RowKit Go.Proofs.Ytkifakepmomgfaa.PA Go.Proofs.YtkifakepmomgfaaW.PrintWords Go.Proofs.YtkifakepmomgfaaW.PrintLast Go.Proofs.YtkifakepmomgfaaW.PrintMore
set_option linter.unusedVariables false
set_option linter.unusedSimpArgs false
theorem l12Sum_l {l : List Int} (hl : l.length ≤ 1048576) (hb : ∀ x ∈ l, -1099511627776 ≤ x ∧ x ≤ 1099511627776) (d : Nat) : ∀ i : Int, 0 ≤ i → i + d = l.length → Ev (fun k => spec_l12Sum.l0 k l (l.take i.toNat).sum i) l.sum := by
  induction d with
  | zero =>
    intro i h0 h1
    refine Ev.step (fun k => by rw [spec_l12Sum.l0]) ?_
    rw [List.take_of_length_le (by omega)]
    exact ev_ifn (by omega) (Ev.now _)
  | succ d ih =>
    intro i h0 h1
    have b := sum_bound (l := l.take i.toNat) (B := 1099511627776) (by omega) (fun x hx => hb x (List.mem_of_mem_take hx))
    have c := hb _ (rd_mem (l := l) h0 (by omega))
    have hlen : ((l.take i.toNat).length : Int) ≤ 1048576 := by rw [List.length_take]; omega
    have := ih (i + 1) (by omega) (by omega)
    rw [take_rd h0 (by omega), List.sum_append] at this
    refine Ev.step (fun k => by rw [spec_l12Sum.l0]) ?_
    rw [w64 (x := (l.take i.toNat).sum + rd l i) (by omega) (by omega), w64 (x := i + 1) (by omega) (by omega)]
    refine ev_ifp (by omega) (ev_ifp h0 ?_)
    simpa using this
theorem l12Sum_ev {l : List Int} (hl : l.length ≤ 1048576) (hb : ∀ x ∈ l, -1099511627776 ≤ x ∧ x ≤ 1099511627776) : Ev (fun k => spec_l12Sum.f k l) l.sum := by
  unfold spec_l12Sum.f
  have := l12Sum_l hl hb l.length 0 (by omega) (by omega)
  simpa using this
end Go.Proofs.Ytkifakepmomgfaa.E
end
section
namespace Go.Proofs.Ytkifakepmomgfaa.E
open Go.RowKit Go.Proofs.Ytkifakepmomgfaa.PA Go.Proofs.YtkifakepmomgfaaW.PrintWords Go.Proofs.YtkifakepmomgfaaW.PrintLast Go.Proofs.YtkifakepmomgfaaW.PrintMore
set_option linter.unusedVariables false
set_option linter.unusedSimpArgs false
theorem total_l {l : List Int} (hl : l.length ≤ 1048576) (hb : ∀ x ∈ l, -1099511627776 ≤ x ∧ x ≤ 1099511627776) (d : Nat) : ∀ i : Int, 0 ≤ i → i + d = l.length → Ev (fun k => impl_total.l0 k (l.take i.toNat).sum l l.length i) l.sum := by
  induction d with
  | zero =>
    intro i h0 h1
    refine Ev.step (fun k => by rw [impl_total.l0]) ?_
    rw [List.take_of_length_le (by omega)]
    exact ev_ifn (by omega) (Ev.now _)
  | succ d ih =>
    intro i h0 h1
    have b := sum_bound (l := l.take i.toNat) (B := 1099511627776) (by omega) (fun x hx => hb x (List.mem_of_mem_take hx))
    have c := hb _ (rd_mem (l := l) h0 (by omega))
    have hlen : ((l.take i.toNat).length : Int) ≤ 1048576 := by rw [List.length_take]; omega
    have := ih (i + 1) (by omega) (by omega)
    rw [take_rd h0 (by omega), List.sum_append] at this
    refine Ev.step (fun k => by rw [impl_total.l0]) ?_
    rw [w64 (x := (l.take i.toNat).sum + rd l i) (by omega) (by omega), w64 (x := i + 1) (by omega) (by omega)]
    refine ev_ifp (by omega) (ev_ifp h0 (ev_ifp (by omega) ?_))
    simpa using this
theorem total_ev {l : List Int} (hl : l.length ≤ 1048576) (hb : ∀ x ∈ l, -1099511627776 ≤ x ∧ x ≤ 1099511627776) : Ev (fun k => impl_total.f k l) l.sum := by
  unfold impl_total.f
  have := total_l hl hb l.length 0 (by omega) (by omega)
  simpa using this
end Go.Proofs.Ytkifakepmomgfaa.E
end
section
namespace Go.Proofs.Ytkifakepmomgfaa.E
open Go.RowKit Go.Proofs.YtkifakepmomgfaaW.PrintWords Go.Proofs.YtkifakepmomgfaaW.PrintLast Go.Proofs.YtkifakepmomgfaaW.PrintMore
set_option linter.unusedVariables false
set_option linter.unusedSimpArgs false
theorem Way.of_dot : ∀ {r v u : List Int}, r.length = v.length → (∀ x ∈ r, 0 ≤ x) → (∀ x ∈ v, x ∈ u) → Way u (dot r v) r.sum
  | [], [], _, _, _, _ => by simpa [dot] using Way.zero
  | [], _ :: _, _, h, _, _ => by simp at h
  | _ :: _, [], _, h, _, _ => by simp at h
  | a :: r, b :: v, u, e, h, k => by
    have h1 := Way.of_dot (r := r) (v := v) (u := u) (by simpa using e) (fun x hx => h x (by simp [hx])) (fun x hx => k x (by simp [hx]))
    have h2 := Way.times (k b (by simp)) a.toNat
    have h3 := h a (by simp)
    rw [show ((a.toNat : Nat) : Int) = a from by omega] at h2
    simpa [dot] using h2.plus h1
end Go.Proofs.Ytkifakepmomgfaa.E
end
section
namespace Go.Proofs.Ytkifakepmomgfaa.E
open Go.RowKit Go.Proofs.Ytkifakepmomgfaa.PA Go.Proofs.YtkifakepmomgfaaW.PrintWords Go.Proofs.YtkifakepmomgfaaW.PrintLast Go.Proofs.YtkifakepmomgfaaW.PrintMore
set_option linter.unusedVariables false
set_option linter.unusedSimpArgs false
theorem gr_zero (l : List Int) (i : Nat) : gr l i 0 = 0 := by
  induction i with
  | zero => rfl
  | succ i ih => simp [gr, ih]
theorem AreC.at {v : List Int} (h : AreC v) {i : Int} (h0 : 0 ≤ i) (hi : i < v.length) : 1 ≤ rd v i ∧ rd v i ≤ 500 := h.2.1 _ (rd_mem h0 hi)
def Opt (v : List Int) (n : Int) : Prop := ∀ c, Way v n c → gr v v.length n ≤ c
theorem opt_tb {v : List Int} (hc : AreC v) {n m : Int} (hn : 0 ≤ n) (h : Fw v n m) (hm : 0 ≤ m) : ¬ gr v v.length n > m ↔ Opt v n := by
  have w := h.way hm
  exact ⟨fun h1 c hw => by have := w.2 c hw; omega, fun h1 => by have := h1 _ w.1; omega⟩
theorem gr_most {v : List Int} (hc : AreC v) (hl : 2 ≤ v.length) : Opt v (rd v (v.length - 1) + rd v (v.length - 2)) := by
  intro c w
  have t := hc.at (i := v.length - 1) (by omega) (by omega)
  have s := hc.at (i := v.length - 2) (by omega) (by omega)
  have lt := hc.2.2.1 (v.length - 1) (by omega) (by omega)
  rw [show (v.length : Int) - 1 - 1 = v.length - 2 from by omega] at lt
  have hm := w.most (B := rd v (v.length - 1)) (fun x hx => by
    obtain ⟨j, hj, hj', rfl⟩ := mem_rd hx
    exact hc.2.2.1.le hj (by omega) (by omega))
  have h2 : gr v v.length (rd v (v.length - 1) + rd v (v.length - 2)) = 2 := by
    obtain ⟨n, hn⟩ : ∃ n, v.length = n + 2 := ⟨v.length - 2, by omega⟩
    rw [hn, gr, gr, show ((n + 1 : Nat) : Int) = v.length - 1 from by omega, show ((n : Nat) : Int) = v.length - 2 from by omega, show (((n + 2 : Nat) : Int) - 1) = v.length - 1 from by omega, show (((n + 2 : Nat) : Int) - 2) = v.length - 2 from by omega]
    have e1 : (rd v (v.length - 1) + rd v (v.length - 2)) / rd v (v.length - 1) = 1 := by
      rw [Int.add_comm, Int.add_ediv_of_dvd_right (Int.dvd_refl _), Int.ediv_self (by omega), Int.ediv_eq_zero_of_lt (by omega) (by omega)]; rfl
    have e2 : (rd v (v.length - 1) + rd v (v.length - 2)) % rd v (v.length - 1) = rd v (v.length - 2) := by
      rw [Int.add_comm, Int.add_emod_right, Int.emod_eq_of_lt (by omega) (by omega)]
    rw [e1, e2, Int.ediv_self (by omega), Int.emod_self, gr_zero]; rfl
  rw [h2]
  by_cases h : c ≤ 1
  · have : c * rd v (v.length - 1) ≤ 1 * rd v (v.length - 1) := Int.mul_le_mul_of_nonneg_right h (by omega)
    omega
  · omega
theorem gr_one {v : List Int} (hc : AreC v) (hl : v.length = 1) (n : Int) : Opt v n := by
  intro c w
  have hm := w.most (B := 1) (fun x hx => by
    obtain ⟨j, hj, hj', rfl⟩ := mem_rd hx
    rw [show j = 0 from by omega, hc.2.2.2]; omega)
  rw [hl, gr, gr, show rd v ((0 : Nat) : Int) = 1 from hc.2.2.2]
  omega
theorem gr_top {v : List Int} (hc : AreC v) {n : Int} (hn : rd v (v.length - 1) ≤ n) : gr v v.length n = 1 + gr v v.length (n - rd v (v.length - 1)) := by
  have hl := hc.1
  have t := hc.at (i := v.length - 1) (by omega) (by omega)
  obtain ⟨m, hm⟩ : ∃ m, v.length = m + 1 := ⟨v.length - 1, by omega⟩
  have e : ((m : Nat) : Int) = v.length - 1 := by omega
  rw [hm, gr, gr, show (((m + 1 : Nat) : Int) - 1) = (m : Int) from by omega]
  rw [← e] at t hn
  have e1 : n / rd v m = (n - rd v m) / rd v m + 1 := by
    have := Int.add_ediv_of_dvd_right (a := n - rd v m) (b := rd v m) (c := rd v m) (Int.dvd_refl _)
    rw [Int.ediv_self (by omega)] at this
    rw [← this]; congr 1; omega
  have e2 : n % rd v m = (n - rd v m) % rd v m := by
    have := Int.add_emod_right (n - rd v m) (rd v m)
    rw [← this]; congr 1; omega
  rw [e1, e2]; omega
theorem opt_all {v : List Int} (hc : AreC v) (hl : 2 ≤ v.length) (hw : ∀ n, 0 ≤ n → n ≤ 2000 → Way v n (gr v v.length n)) (h : ∀ n, 0 ≤ n → n ≤ rd v (v.length - 1) + rd v (v.length - 2) → Opt v n) (N : Nat) (hN : N ≤ 2000) : Opt v N := by
  induction N using Nat.strongRecOn with
  | _ N ih =>
    have t := hc.at (i := v.length - 1) (by omega) (by omega)
    by_cases hs : (N : Int) ≤ rd v (v.length - 1) + rd v (v.length - 2)
    · exact h _ (by omega) hs
    have s := hc.at (i := v.length - 2) (by omega) (by omega)
    have ih' : ∀ m : Int, 0 ≤ m → m < N → Opt v m := fun m h0 h1 => by
      have := ih m.toNat (by omega) (by omega)
      rwa [show ((m.toNat : Nat) : Int) = m from by omega] at this
    intro c w
    rcases w.last with ⟨e, _⟩ | ⟨x, hx, w'⟩
    · omega
    · have hx1 := hc.2.1 x hx
      have hwp := w'.pos (fun x hx => (hc.2.1 x hx).1)
      have g0 := gr_top hc (n := N) (by omega)
      obtain ⟨j, hj, hj', rfl⟩ := mem_rd hx
      have a := ih' ((N : Int) - rd v j) (by omega) (by omega) _ w'
      by_cases ej : j = v.length - 1
      · rw [ej] at a; omega
      · have le := hc.2.2.1.le (i := j) (j := v.length - 2) hj (by omega) (by omega)
        have g1 := gr_top hc (n := N - rd v j) (by omega)
        have w2 := Way.add hx (hw (N - rd v j - rd v (v.length - 1)) (by omega) (by omega))
        rw [show (N : Int) - rd v j - rd v (v.length - 1) + rd v j = N - rd v (v.length - 1) from by omega] at w2
        have b := ih' ((N : Int) - rd v (v.length - 1)) (by omega) (by omega) _ w2
        omega
theorem greed_sums {v : List Int} (hc : AreC v) {n : Int} (h0 : 0 ≤ n) (h1 : n ≤ 2000) : ∃ r : List Int, r.length ≤ 10 ∧ Ev (fun k => impl_GreedyChange.f k v n) r ∧ Ev (fun k => spec_GreedyChange.f k v n) r ∧ Ev (fun k => impl_total.f k r) (gr v v.length n) ∧ Ev (fun k => spec_l12Sum.f k r) (gr v v.length n) ∧ Way v n (gr v v.length n) := by
  have hlen := hc.len
  obtain ⟨r, hr, a, b, H⟩ := greedy_ev (l := v) n (by omega)
  obtain ⟨h2, h3, h4, h5⟩ := H ⟨hc, h0, h1⟩
  have hd := sum_le_dot h2 h3 hc.pos
  have hb : ∀ x ∈ r, -1099511627776 ≤ x ∧ x ≤ 1099511627776 := fun x hx => by
    have := h3 x hx; have := mem_le_sum h3 x hx; omega
  refine ⟨r, hr, a, b, ?_, ?_, ?_⟩
  · rw [← h5]; exact total_ev (by omega) hb
  · rw [← h5]; exact l12Sum_ev (by omega) hb
  · have := Way.of_dot h2 h3 (fun x hx => hx : ∀ x ∈ v, x ∈ v)
    rwa [h4, h5] at this
theorem opt_upto {v : List Int} (hc : AreC v) (hl : 2 ≤ v.length) (h : ∀ n, 0 ≤ n → n ≤ rd v (v.length - 1) + rd v (v.length - 2) → Opt v n) (N : Nat) (hN : N ≤ 2000) : Opt v N :=
  opt_all hc hl (fun n h0 h1 => by obtain ⟨_, _, _, _, _, _, w⟩ := greed_sums hc h0 h1; exact w) h N hN
theorem wasteS_none {v : List Int} (hc : AreC v) {most : Int} (hm : most ≤ 1000) {tb : List Int} (htl : (tb.length : Int) = most + 1) (ht : ∀ k, 0 ≤ k → k ≤ most → TB (CAP26 k) v k (rd tb k)) (d : Nat) :
    ∀ n : Int, 0 ≤ n → n + d = most + 1 → (∀ m, n ≤ m → m ≤ most → Opt v m) → Ev (fun k => spec_FirstWaste.l0 k v most tb n) (0, false) := by
  induction d with
  | zero =>
    intro n h0 h1 h2
    exact Ev.step (fun k => by rw [spec_FirstWaste.l0]) (ev_ifn (by omega) (Ev.now _))
  | succ d ih =>
    intro n h0 h1 h2
    obtain ⟨r, _, _, b, _, c, _⟩ := greed_sums hc h0 (by omega)
    have f := TB.fw hc.one h0 (ht n h0 (by omega))
    have g := (opt_tb hc h0 f (ht n h0 (by omega)).1).2 (h2 n (Int.le_refl _) (by omega))
    refine Ev.step (fun k => by rw [spec_FirstWaste.l0]) ?_
    rw [w64 (by omega) (by omega)]
    exact ev_ifp (by omega) (ev_bind _ b (ev_bind _ c (ev_ifp h0 (ev_ifp (by omega) (ev_ifn g (ih (n + 1) (by omega) (by omega) (fun m hm hm' => h2 m (by omega) hm')))))))
theorem waste_l {v : List Int} (hc : AreC v) {most : Int} (hm : most ≤ 1000) {tb row : List Int} (htl : (tb.length : Int) = most + 1) (ht : ∀ k, 0 ≤ k → k ≤ most → TB (CAP26 k) v k (rd tb k)) (hr : RowOk v most row) (hM : Opt v most) (d : Nat) :
    ∀ n : Int, 0 ≤ n → n + d = most → ∃ res : Int × Bool, Ev (fun k => impl_FirstWaste.l0 k v row most n) res ∧ Ev (fun k => spec_FirstWaste.l0 k v most tb n) res ∧ (res.2 = true → 0 ≤ res.1 ∧ res.1 ≤ 1000 ∧ ¬ Opt v res.1) ∧ (res.2 = false → res.1 = 0 ∧ ∀ m, n ≤ m → m ≤ most → Opt v m) := by
  induction d with
  | zero =>
    intro n h0 h1
    obtain rfl : n = most := by omega
    refine ⟨(0, false), Ev.step (fun k => by rw [impl_FirstWaste.l0]) (ev_ifn (by omega) (Ev.now _)), wasteS_none hc hm htl ht 1 n h0 (by omega) (fun m h h' => by rw [show m = n from by omega]; exact hM), fun h => (by cases h), fun _ => ⟨rfl, fun m h h' => by rw [show m = n from by omega]; exact hM⟩⟩
  | succ d ih =>
    intro n h0 h1
    obtain ⟨r, _, a, b, a', b', _⟩ := greed_sums hc h0 (by omega)
    have T := ht n h0 (by omega)
    have f := TB.fw hc.one h0 T
    have e : rd row n = rd tb n := (hr.2 n h0 (by omega)).one hc.pos f
    have o := opt_tb hc h0 f T.1
    have hrl := hr.1
    by_cases hg : gr v v.length n > rd tb n
    · refine ⟨(n, true), ?_, ?_, fun _ => ⟨h0, by show n ≤ 1000; omega, fun ho => (o.2 ho) hg⟩, fun h => (by cases h)⟩
      · refine Ev.step (fun k => by rw [impl_FirstWaste.l0]) ?_
        exact ev_ifp (by omega) (ev_bind _ a (ev_bind _ a' (ev_ifp h0 (ev_ifp (by omega) (ev_ifp (by omega) (Ev.now _))))))
      · refine Ev.step (fun k => by rw [spec_FirstWaste.l0]) ?_
        exact ev_ifp (by omega) (ev_bind _ b (ev_bind _ b' (ev_ifp h0 (ev_ifp (by omega) (ev_ifp hg (Ev.now _))))))
    · obtain ⟨res, c1, c2, c3, c4⟩ := ih (n + 1) (by omega) (by omega)
      refine ⟨res, ?_, ?_, c3, fun h => ⟨(c4 h).1, fun m hm hm' => ?_⟩⟩
      · refine Ev.step (fun k => by rw [impl_FirstWaste.l0]) ?_
        rw [w64 (by omega) (by omega)]
        exact ev_ifp (by omega) (ev_bind _ a (ev_bind _ a' (ev_ifp h0 (ev_ifp (by omega) (ev_ifn (by omega) c1)))))
      · refine Ev.step (fun k => by rw [spec_FirstWaste.l0]) ?_
        rw [w64 (by omega) (by omega)]
        exact ev_ifp (by omega) (ev_bind _ b (ev_bind _ b' (ev_ifp h0 (ev_ifp (by omega) (ev_ifn hg c2)))))
      · by_cases em : m = n
        · rw [em]; exact o.1 hg
        · exact (c4 h).2 m (by omega) hm'
theorem firstWaste_ev (v : List Int) (hl : v.length ≤ 1099511627776) : ∃ res : Int × Bool, Ev (fun k => impl_FirstWaste.f k v) res ∧ Ev (fun k => spec_FirstWaste.f k v) res ∧ (¬ AreC v → res = (0, false)) ∧ (AreC v → (res.2 = true → 0 ≤ res.1 ∧ res.1 ≤ 1000 ∧ ¬ Opt v res.1) ∧ (res.2 = false → ∀ m, 0 ≤ m → m ≤ 2000 → Opt v m)) := by
  by_cases hc : AreC v
  · have hlen := hc.len
    have t := hc.at (i := v.length - 1) (by omega) (by omega)
    by_cases h2 : v.length < 2
    · obtain ⟨tb, hb1, hb2, hE'⟩ := tab26_ev (v := v) (most := rd v (v.length - 1)) (by omega) hc.vals hc.2.2.1 hc.one (by omega) (by omega)
      refine ⟨(0, false), ?_, ?_, fun _ => rfl, fun _ => ⟨fun h => (by cases h), fun _ m _ _ => gr_one hc (by omega) m⟩⟩
      · unfold impl_FirstWaste.f
        refine ev_bind _ (areCoinsI_ev hl) (ev_ifp (by simpa using hc) ?_)
        refine Ev.step (fun k => by rw [impl_FirstWaste.j0]) (ev_ifp (by simp; omega) (Ev.now _))
      · unfold spec_FirstWaste.f
        refine ev_bind _ (areCoinsS_ev hl) (ev_ifp (by simpa using hc) ?_)
        rw [w64 (x := (v.length : Int) - 1) (by omega) (by omega)]
        refine ev_ifp (by omega) (ev_ifp (by omega) (ev_ifn (by omega) ?_))
        refine Ev.step (fun k => by rw [spec_FirstWaste.j0]) ?_
        exact ev_bind _ hE' (wasteS_none hc (by omega) hb1 hb2 (rd v (v.length - 1) + 1).toNat 0 (by omega) (by omega) (fun m _ _ => gr_one hc (by omega) m))
    · have s := hc.at (i := v.length - 2) (by omega) (by omega)
      obtain ⟨most, hmo⟩ : ∃ most, most = rd v (v.length - 1) + rd v (v.length - 2) := ⟨_, rfl⟩
      obtain ⟨tb, hb1, hb2, hE'⟩ := tab26_ev (v := v) (most := most) (by omega) hc.vals hc.2.2.1 hc.one (by omega) (by omega)
      obtain ⟨tt, ht, hE⟩ := fewest_ev (n := most) (by omega) (by omega) hc.vals (by omega)
      have hrow := ht.2 v.length (by omega) (by omega)
      rw [show ((v.length : Int)).toNat = v.length from by omega, List.take_length] at hrow
      have htl := ht.1
      obtain ⟨res, a, b, c1, c2⟩ := waste_l hc (most := most) (by omega) hb1 hb2 hrow (by rw [hmo]; exact gr_most hc (by omega)) most.toNat 0 (by omega) (by omega)
      refine ⟨res, ?_, ?_, fun h => absurd hc h, fun _ => ⟨c1, fun h m h0 hm => ?_⟩⟩
      · unfold impl_FirstWaste.f
        refine ev_bind _ (areCoinsI_ev hl) (ev_ifp (by simpa using hc) ?_)
        refine Ev.step (fun k => by rw [impl_FirstWaste.j0]) ?_
        rw [w64 (x := (v.length : Int) - 1) (by omega) (by omega), w64 (x := (v.length : Int) - 2) (by omega) (by omega), ← hmo, w64 (x := most) (by omega) (by omega)]
        exact ev_ifn (by simp; omega) (ev_ifp (by omega) (ev_ifp (by omega) (ev_ifp (by omega) (ev_ifp (by omega) (ev_bind _ hE (ev_ifp (by omega) (ev_ifp (by omega) a)))))))
      · unfold spec_FirstWaste.f
        refine ev_bind _ (areCoinsS_ev hl) (ev_ifp (by simpa using hc) ?_)
        rw [w64 (x := (v.length : Int) - 1) (by omega) (by omega), w64 (x := (v.length : Int) - 2) (by omega) (by omega), ← hmo, w64 (x := most) (by omega) (by omega)]
        refine ev_ifp (by omega) (ev_ifp (by omega) (ev_ifp (by omega) (ev_ifp (by omega) (ev_ifp (by omega) ?_))))
        refine Ev.step (fun k => by rw [spec_FirstWaste.j0]) ?_
        exact ev_bind _ hE' b
      · have ho := (c2 h).2
        by_cases hs : m ≤ most
        · exact ho m h0 hs
        · have := opt_upto hc (by omega) (fun n h0 h1 => by rw [← hmo] at h1; exact ho n h0 h1) m.toNat (by omega)
          rwa [show ((m.toNat : Nat) : Int) = m from by omega] at this
  · refine ⟨(0, false), ?_, ?_, fun _ => rfl, fun h => absurd h hc⟩
    · unfold impl_FirstWaste.f
      refine ev_bind _ (areCoinsI_ev hl) (ev_ifn (by simpa using hc) ?_)
      exact Ev.step (fun k => by rw [impl_FirstWaste.j0]) (ev_ifp rfl (Ev.now _))
    · unfold spec_FirstWaste.f
      exact ev_bind _ (areCoinsS_ev hl) (ev_ifn (by simpa using hc) (Ev.now _))
end Go.Proofs.Ytkifakepmomgfaa.E
end
section
namespace Go.Proofs.Ytkifakepmomgfaa.Pure
open Go.RowKit Go.Proofs.Ytkifakepmomgfaa.PA Go.Proofs.Ytkifakepmomgfaa.E Go.Proofs.YtkifakepmomgfaaW.PrintWords Go.Proofs.YtkifakepmomgfaaW.PrintLast Go.Proofs.YtkifakepmomgfaaW.PrintMore
set_option linter.unusedVariables false
set_option linter.unusedSimpArgs false
theorem FnExactFirstWaste : laws_FnExactFirstWaste.Pure := by
  intro l0 h1 h2 h3
  apply Ev.rounds
  unfold laws_FnExactFirstWaste.f
  by_cases h : (l0.length : Int) > 1048576
  · exact ev_ifp h (Ev.now _)
  have hl : l0.length ≤ 1048576 := by omega
  obtain ⟨res, hi, hs, _⟩ := firstWaste_ev l0 (by omega)
  refine ev_ifn h (ev_bind _ (toIntS_ev hl) (ev_bind _ hs (ev_bind _ (toIntS_ev hl) (ev_bind _ hi (ev_ifp rfl ?_)))))
  refine Ev.step (fun k => by rw [laws_FnExactFirstWaste.j0]) ?_
  exact ev_ifn (by simp) (ev_bind _ (toIntS_ev hl) (ev_bind _ (eqIntS_same (by omega)) (ev_ifp rfl (Ev.now _))))
end Go.Proofs.Ytkifakepmomgfaa.Pure
end
section
namespace Go.Proofs.YtkifakepmomgfaaW.PrintWords
open Go.ChangeShapes Go.WideShapes
theorem sized_ints {H : Type} {enc : TypeId × Value → H} {P : Program} {W : World} {base : Nat} {spare : Nat → Bool} {held : Bool} {t e : TypeId} {k : IntKind} {a : Option Addr} {len cap : Nat} {d : DataW H} {ps : List MemPlace} {ts : List TypeId} {ds : List (DataW H)} {j : Nat}
    (hsz : (DataW.weightsEach P ts ds).all (· ≤ reachBytes) = true) (ht : ts[j]? = some t) (hd : ds[j]? = some d) (hu : P.underlying t = some (.slice e)) (he : P.underlying e = some (.int k)) (hc : P.cellsOf e = 1) {B : Nat} (hB : P.bytesOf e = B)
    (h : DataW.Trod enc P W base spare held t (.slice a len cap) d ps) : len * B ≤ 140737488351232 := by
  obtain ⟨fuel, hf⟩ := h
  rcases open_ints hu he hc hf with ⟨hcs, _⟩ | ⟨x, l, c, zs, hcs, _, hl, _, hz, hx, _, _⟩
  · simp [Value.cells] at hcs
    obtain ⟨rfl, rfl, rfl⟩ := hcs
    simp
  · simp [Value.cells] at hcs
    obtain ⟨rfl, rfl, rfl⟩ := hcs
    obtain ⟨hx, _⟩ := Prod.mk.inj hx
    subst hx
    have z := sized_slice hsz ht hd hu
    rw [hB] at z
    have hl2 : len ≤ zs.length := by
      rw [hz]
      split
      · exact hl
      · exact Nat.le_refl _
    have h1 : (lits (H := H) k (zs.take len)).length + (lits (H := H) k (zs.drop len)).length = zs.length := by
      simp [lits]
      omega
    rw [h1] at z
    exact Nat.le_trans (Nat.mul_le_mul_right _ hl2) z
end Go.Proofs.YtkifakepmomgfaaW.PrintWords
end
