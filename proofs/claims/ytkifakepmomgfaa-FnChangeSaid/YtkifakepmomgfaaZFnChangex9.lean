-- Bundled by shake.py from this session's printed and written texts; Lean checks it.
import Derived.ChangeSlices
import Derived.SizedLaws
import Derived.Test.YtkifakepmomgfaaZFnChangex1
import Derived.Test.YtkifakepmomgfaaZFnChangex2
import Derived.Test.YtkifakepmomgfaaZFnChangex3
import Derived.Test.YtkifakepmomgfaaZFnChangex4
import Derived.Test.YtkifakepmomgfaaZFnChangex5
import Derived.Test.YtkifakepmomgfaaZFnChangex6
import Derived.Test.YtkifakepmomgfaaZFnChangex7
import Derived.Test.YtkifakepmomgfaaZFnChangex8
section
namespace Go.Proofs.Ytkifakepmomgfaa.E
open Go.RowKit Go.Proofs.YtkifakepmomgfaaW.PrintWords Go.Proofs.YtkifakepmomgfaaW.PrintLast Go.Proofs.YtkifakepmomgfaaW.PrintMore
set_option linter.unusedVariables false
set_option linter.unusedSimpArgs false
theorem w64 {x : Int} (h1 : -9223372036854775808 ≤ x) (h2 : x ≤ 9223372036854775807) : wrap64 x = x := by
  unfold wrap64; omega
theorem nd_t {p : Prop} [Decidable p] (h : ¬ p) : (!decide p) = true := by simp [h]
theorem emod_le_self {n x : Int} (h : 0 ≤ n) (hx : 0 < x) : n % x ≤ n := by
  have h1 := Int.mul_ediv_add_emod n x
  have h2 : 0 ≤ x * (n / x) := Int.mul_nonneg (by omega) (Int.ediv_nonneg h (by omega))
  omega
theorem ev_ifp {α : Type} {c : Prop} [Decidable c] {a b : Nat → Option α} {r : α} (h : c) (k : Ev a r) : Ev (fun n => if c then a n else b n) r :=
  Ev.congr (fun _ => if_pos h) k
theorem ev_ifn {α : Type} {c : Prop} [Decidable c] {a b : Nat → Option α} {r : α} (h : ¬ c) (k : Ev b r) : Ev (fun n => if c then a n else b n) r :=
  Ev.congr (fun _ => if_neg h) k
theorem ev_eq {α : Type} {o : Option α} {r : α} (h : o = some r) : Ev (fun _ => o) r := ⟨0, fun _ _ => h⟩
theorem ev_bind {α β : Type} {g : Nat → Option α} {f : Nat → α → Option β} (a : α) {r : β} (h : Ev g a) (k : Ev (fun n => f n a) r) : Ev (fun n => (g n).bind (f n)) r := Ev.bind h k
theorem ev_one {α : Type} {g : Nat → Option α} {a b : α} (h : Ev g a) (k : Ev g b) : a = b := by
  obtain ⟨K, h⟩ := h
  obtain ⟨L, k⟩ := k
  have h1 := h (max K L) (by omega)
  have h2 := k (max K L) (by omega)
  rw [h1] at h2
  exact Option.some.inj h2
theorem ev_to {α : Type} {g : Nat → Option α} {a b : α} (h : Ev g a) (e : a = b) : Ev g b := e ▸ h
theorem rd_lt {l : List Int} {i : Int} (h0 : 0 ≤ i) (h : i < l.length) : rd l i = l[i.toNat]'(by omega) := by
  unfold rd; rw [List.getD_eq_getElem?_getD, List.getElem?_eq_getElem (by omega)]; rfl
theorem rd_mem {l : List Int} {i : Int} (h0 : 0 ≤ i) (h : i < l.length) : rd l i ∈ l := by
  rw [rd_lt h0 h]; exact List.getElem_mem _
theorem drop_rd {l : List Int} {i : Int} (h0 : 0 ≤ i) (h : i < l.length) : l.drop i.toNat = rd l i :: l.drop (i + 1).toNat := by
  rw [rd_lt h0 h, List.drop_eq_getElem_cons (by omega)]
  congr 2; omega
theorem take_rd {l : List Int} {i : Int} (h0 : 0 ≤ i) (h : i < l.length) : l.take (i + 1).toNat = l.take i.toNat ++ [rd l i] := by
  rw [rd_lt h0 h, show (i + 1).toNat = i.toNat + 1 from by omega, List.take_succ_eq_append_getElem (by omega)]
theorem rd_ext {l m : List Int} (hl : l.length = m.length) (h : ∀ i : Int, 0 ≤ i → i < l.length → rd l i = rd m i) : l = m := by
  refine List.ext_getElem hl fun n h1 h2 => ?_
  have := h n (by omega) (by omega)
  rw [rd_lt (by omega) (by omega), rd_lt (by omega) (by omega)] at this
  simpa using this
theorem rd_set {l : List Int} {i j : Int} (x : Int) (hi : 0 ≤ i) (hi' : i < l.length) (hj : 0 ≤ j) : rd (l.set i.toNat x) j = if j = i then x else rd l j := by
  unfold rd
  rw [List.getD_eq_getElem?_getD, List.getD_eq_getElem?_getD, List.getElem?_set]
  by_cases h : j = i
  · subst h; rw [if_pos rfl, if_pos rfl, if_pos (by omega)]; rfl
  · rw [if_neg h, if_neg (by omega)]
theorem rd_append {l m : List Int} {i : Int} (hi : 0 ≤ i) : rd (l ++ m) i = if i < l.length then rd l i else rd m (i - l.length) := by
  unfold rd
  rw [List.getD_eq_getElem?_getD, List.getD_eq_getElem?_getD, List.getD_eq_getElem?_getD, List.getElem?_append]
  by_cases h : i < l.length
  · rw [if_pos h, if_pos (by omega)]
  · rw [if_neg h, if_neg (by omega), show i.toNat - l.length = (i - l.length).toNat from by omega]
theorem rd_rep {n : Nat} {x : Int} {i : Int} (hi : 0 ≤ i) (h : i < n) : rd (List.replicate n x) i = x := by
  rw [rd_lt hi (by simpa using h)]; simp
theorem mem_rd {l : List Int} {x : Int} (h : x ∈ l) : ∃ i : Int, 0 ≤ i ∧ i < l.length ∧ rd l i = x := by
  obtain ⟨n, hn, rfl⟩ := List.mem_iff_getElem.1 h
  exact ⟨n, by omega, by omega, by rw [rd_lt (by omega) (by omega)]; simp⟩
end Go.Proofs.Ytkifakepmomgfaa.E
end
section
namespace Go.Proofs.Ytkifakepmomgfaa.E
open Go.RowKit Go.Proofs.Ytkifakepmomgfaa.PA Go.Proofs.YtkifakepmomgfaaW.PrintWords Go.Proofs.YtkifakepmomgfaaW.PrintLast Go.Proofs.YtkifakepmomgfaaW.PrintMore
set_option linter.unusedVariables false
set_option linter.unusedSimpArgs false
theorem l1In_eq (n lo hi : Int) : spec_l1In.f n lo hi = some (decide (lo ≤ n ∧ n ≤ hi)) := by
  unfold spec_l1In.f; by_cases h : n ≥ lo
  · rw [if_pos h]; simp [h]
  · rw [if_neg h]; simp [show ¬ lo ≤ n from h]
theorem within_eq (n lo hi : Int) : impl_within.f n lo hi = some (decide (lo ≤ n ∧ n ≤ hi)) := l1In_eq n lo hi
theorem allWithin_l {l : List Int} {lo hi : Int} (hl : l.length ≤ 1099511627776) (d : Nat) : ∀ (i : Int), 0 ≤ i → i + d = l.length → Ev (fun k => impl_allWithin.l0 k lo hi l l.length i) (decide (∀ x ∈ l.drop i.toNat, lo ≤ x ∧ x ≤ hi)) := by
  induction d with
  | zero =>
    intro i h0 h1
    refine Ev.step (fun k => by rw [impl_allWithin.l0]) ?_
    simp (disch := omega) only [if_neg]
    refine ev_to (Ev.now _) ?_
    rw [List.drop_of_length_le (by omega)]; simp
  | succ d ih =>
    intro i h0 h1
    refine Ev.step (fun k => by rw [impl_allWithin.l0]) ?_
    simp (disch := omega) only [if_pos, w64, within_eq, Option.bind_some]
    rw [drop_rd h0 (by omega)]
    by_cases h : lo ≤ rd l i ∧ rd l i ≤ hi
    · refine ev_ifp (by simpa using h) (ev_to (ih (i + 1) (by omega) (by omega)) ?_)
      simp [h]
    · refine ev_ifn (by simpa using h) (ev_to (Ev.now _) ?_)
      simp only [List.mem_cons, forall_eq_or_imp, h, false_and, decide_false]
theorem allWithin_ev {l : List Int} (lo hi : Int) (hl : l.length ≤ 1099511627776) : Ev (fun k => impl_allWithin.f k l lo hi) (decide (∀ x ∈ l, lo ≤ x ∧ x ≤ hi)) :=
  ev_to (allWithin_l hl l.length 0 (by omega) (by omega)) (by simp)
def Asc (l : List Int) : Prop := ∀ i : Int, 0 < i → i < l.length → rd l (i - 1) < rd l i
noncomputable instance (l : List Int) : Decidable (Asc l) := Classical.propDecidable _
theorem asc_l {l : List Int} (hl : l.length ≤ 1099511627776) (d : Nat) : ∀ (i : Int), 0 < i → i + d = max 1 l.length → (∀ j, 0 < j → j < i → rd l (j - 1) < rd l j) → Ev (fun k => impl_IsAscending.l0 k l i) (decide (Asc l)) ∧ Ev (fun k => spec_IsAscending.l0 k l i) (decide (Asc l)) := by
  induction d with
  | zero =>
    intro i h0 h1 h2
    have ha : Asc l := fun j hj hj' => h2 j hj (by omega)
    constructor
    · refine Ev.step (fun k => by rw [impl_IsAscending.l0]) ?_
      simp (disch := omega) only [if_neg]
      exact ev_to (Ev.now _) (by simp [ha])
    · refine Ev.step (fun k => by rw [spec_IsAscending.l0]) ?_
      simp (disch := omega) only [if_neg]
      exact ev_to (Ev.now _) (by simp [ha])
  | succ d ih =>
    intro i h0 h1 h2
    by_cases h : rd l (i - 1) < rd l i
    · obtain ⟨a, b⟩ := ih (i + 1) (by omega) (by omega) (fun j hj hj' => by
        by_cases e : j = i
        · subst e; exact h
        · exact h2 j hj (by omega))
      constructor
      · refine Ev.step (fun k => by rw [impl_IsAscending.l0]) ?_
        simp (disch := omega) only [if_pos, if_neg, w64]
        exact a
      · refine Ev.step (fun k => by rw [spec_IsAscending.l0]) ?_
        simp (disch := omega) only [if_pos, if_neg, w64]
        exact b
    · have hn : ¬ Asc l := fun ha => h (ha i h0 (by omega))
      constructor
      · refine Ev.step (fun k => by rw [impl_IsAscending.l0]) ?_
        simp (disch := omega) only [if_pos, w64]
        exact ev_to (Ev.now _) (by simp [hn])
      · refine Ev.step (fun k => by rw [spec_IsAscending.l0]) ?_
        simp (disch := omega) only [if_pos, w64]
        exact ev_to (Ev.now _) (by simp [hn])
theorem ascI_ev {l : List Int} (hl : l.length ≤ 1099511627776) : Ev (fun k => impl_IsAscending.f k l) (decide (Asc l)) :=
  (asc_l hl (l.length - 1) 1 (by omega) (by omega) (fun j h h' => by omega)).1
theorem ascS_ev {l : List Int} (hl : l.length ≤ 1099511627776) : Ev (fun k => spec_IsAscending.f k l) (decide (Asc l)) :=
  (asc_l hl (l.length - 1) 1 (by omega) (by omega) (fun j h h' => by omega)).2
end Go.Proofs.Ytkifakepmomgfaa.E
end
section
namespace Go.Proofs.Ytkifakepmomgfaa.E
open Go.RowKit Go.Proofs.Ytkifakepmomgfaa.PA Go.Proofs.YtkifakepmomgfaaW.PrintWords Go.Proofs.YtkifakepmomgfaaW.PrintLast Go.Proofs.YtkifakepmomgfaaW.PrintMore
set_option linter.unusedVariables false
set_option linter.unusedSimpArgs false
def AreC (l : List Int) : Prop := (1 ≤ (l.length : Int) ∧ (l.length : Int) ≤ 10) ∧ (∀ x ∈ l, 1 ≤ x ∧ x ≤ 500) ∧ Asc l ∧ rd l 0 = 1
noncomputable instance (l : List Int) : Decidable (AreC l) := Classical.propDecidable _
theorem areCoinsI_ev {l : List Int} (hl : l.length ≤ 1099511627776) : Ev (fun k => impl_AreCoins.f k l) (decide (AreC l)) := by
  unfold impl_AreCoins.f
  simp only [within_eq, Option.bind_some]
  by_cases h1 : 1 ≤ (l.length : Int) ∧ (l.length : Int) ≤ 10
  · refine ev_ifp (by simpa using h1) (ev_bind _ (allWithin_ev 1 500 hl) ?_)
    by_cases h2 : ∀ x ∈ l, 1 ≤ x ∧ x ≤ 500
    · refine ev_ifp (by simpa using h2) (ev_bind _ (ascI_ev hl) ?_)
      by_cases h3 : Asc l
      · refine ev_ifp (by simpa using h3) (ev_ifp (by omega) (ev_to (Ev.now _) ?_))
        rw [Bool.eq_iff_iff]; simp only [beq_iff_eq, decide_eq_true_eq]
        exact ⟨fun h => ⟨h1, h2, h3, h⟩, fun h => h.2.2.2⟩
      · exact ev_ifn (by simpa using h3) (ev_to (Ev.now _) (decide_eq_false (fun h => h3 h.2.2.1)).symm)
    · exact ev_ifn (by rw [decide_eq_true_eq]; exact h2) (ev_to (Ev.now _) (decide_eq_false (fun h => h2 h.2.1)).symm)
  · exact ev_ifn (by simpa using h1) (ev_to (Ev.now _) (decide_eq_false (fun h => h1 h.1)).symm)
theorem areCoinsS_l {l : List Int} (hl : l.length ≤ 1099511627776) (d : Nat) : ∀ (i : Int), 0 ≤ i → i + d = l.length → (∀ j, 0 ≤ j → j < i → 1 ≤ rd l j ∧ rd l j ≤ 500) → Ev (fun k => spec_AreCoins.l0 k l i) (decide (AreC l)) := by
  induction d with
  | zero =>
    intro i h0 h1 h2
    refine Ev.step (fun k => by rw [spec_AreCoins.l0]) (ev_ifn (by omega) ?_)
    simp only [l1In_eq, Option.bind_some]
    have h2' : ∀ x ∈ l, 1 ≤ x ∧ x ≤ 500 := fun x hx => by
      obtain ⟨j, hj, hj', rfl⟩ := mem_rd hx
      exact h2 j hj (by omega)
    by_cases h1 : 1 ≤ (l.length : Int) ∧ (l.length : Int) ≤ 10
    · refine ev_ifp (by simpa using h1) (ev_bind _ (ascS_ev hl) ?_)
      by_cases h3 : Asc l
      · refine ev_ifp (by simpa using h3) (ev_ifp (by omega) (ev_to (Ev.now _) ?_))
        rw [Bool.eq_iff_iff]; simp only [beq_iff_eq, decide_eq_true_eq]
        exact ⟨fun h => ⟨h1, h2', h3, h⟩, fun h => h.2.2.2⟩
      · exact ev_ifn (by simpa using h3) (ev_to (Ev.now _) (decide_eq_false (fun h => h3 h.2.2.1)).symm)
    · exact ev_ifn (by simpa using h1) (ev_to (Ev.now _) (decide_eq_false (fun h => h1 h.1)).symm)
  | succ d ih =>
    intro i h0 h1 h2
    refine Ev.step (fun k => by rw [spec_AreCoins.l0]) (ev_ifp (by omega) (ev_ifp h0 ?_))
    simp only [l1In_eq, Option.bind_some]
    rw [w64 (by omega) (by omega)]
    by_cases h : 1 ≤ rd l i ∧ rd l i ≤ 500
    · refine ev_ifp (by simpa using h) (ih (i + 1) (by omega) (by omega) fun j hj hj' => ?_)
      by_cases e : j = i
      · subst e; exact h
      · exact h2 j hj (by omega)
    · exact ev_ifn (by simpa using h) (ev_to (Ev.now _) (decide_eq_false (fun hc => h (hc.2.1 _ (rd_mem h0 (by omega))))).symm)
theorem areCoinsS_ev {l : List Int} (hl : l.length ≤ 1099511627776) : Ev (fun k => spec_AreCoins.f k l) (decide (AreC l)) :=
  areCoinsS_l hl l.length 0 (by omega) (by omega) (fun j h h' => by omega)
end Go.Proofs.Ytkifakepmomgfaa.E
end
section
namespace Go.Proofs.Ytkifakepmomgfaa.E
open Go.RowKit Go.Proofs.YtkifakepmomgfaaW.PrintWords Go.Proofs.YtkifakepmomgfaaW.PrintLast Go.Proofs.YtkifakepmomgfaaW.PrintMore
set_option linter.unusedVariables false
set_option linter.unusedSimpArgs false
inductive Way (v : List Int) : Int → Int → Prop
  | zero : Way v 0 0
  | add {x k c : Int} : x ∈ v → Way v k c → Way v (k + x) (c + 1)
theorem Way.mono {v u : List Int} (h : ∀ x ∈ v, x ∈ u) {k c : Int} (w : Way v k c) : Way u k c := by
  induction w with
  | zero => exact .zero
  | add hx _ ih => exact .add (h _ hx) ih
theorem Way.pos {v : List Int} (h : ∀ x ∈ v, 1 ≤ x) {k c : Int} (w : Way v k c) : 0 ≤ c ∧ c ≤ k := by
  induction w with
  | zero => omega
  | add hx _ ih => have := h _ hx; omega
theorem Way.plus {v : List Int} {k c : Int} (w : Way v k c) {k' c' : Int} (w' : Way v k' c') : Way v (k + k') (c + c') := by
  induction w' with
  | zero => simpa using w
  | @add x k1 c1 hx _ ih =>
    rw [← Int.add_assoc, ← Int.add_assoc]
    exact .add hx ih
theorem Way.times {v : List Int} {x : Int} (hx : x ∈ v) (j : Nat) : Way v (j * x) j := by
  induction j with
  | zero => simpa using Way.zero
  | succ j ih =>
    have := Way.add hx ih
    rw [show ((j + 1 : Nat) : Int) * x = j * x + x from by rw [Int.natCast_add, Int.add_mul]; simp]
    exact this
theorem Way.part {v u : List Int} {k c : Int} (w : Way v k c) : Way u k c ∨ ∃ y ∈ v, y ∉ u ∧ Way v (k - y) (c - 1) := by
  induction w with
  | zero => exact .inl .zero
  | @add x k c hx hw ih =>
    by_cases hu : x ∈ u
    · rcases ih with h | ⟨y, hy, hyu, h⟩
      · exact .inl (.add hu h)
      · refine .inr ⟨y, hy, hyu, ?_⟩
        have := Way.add hx h
        rwa [show k - y + x = k + x - y from by omega, show c - 1 + 1 = c + 1 - 1 from by omega] at this
    · exact .inr ⟨x, hx, hu, by rwa [show k + x - x = k from by omega, show c + 1 - 1 = c from by omega]⟩
theorem Way.last {v : List Int} {k c : Int} (w : Way v k c) : (k = 0 ∧ c = 0) ∨ ∃ x ∈ v, Way v (k - x) (c - 1) := by
  cases w with
  | zero => exact .inl ⟨rfl, rfl⟩
  | @add x k c hx hw => exact .inr ⟨x, hx, by rwa [show k + x - x = k from by omega, show c + 1 - 1 = c from by omega]⟩
theorem Way.split {u : List Int} {x : Int} {k c : Int} (w : Way (u ++ [x]) k c) : ∃ j : Nat, Way u (k - j * x) (c - j) := by
  induction w with
  | zero => exact ⟨0, by simpa using Way.zero⟩
  | @add y k c hy _ ih =>
    obtain ⟨j, h⟩ := ih
    rcases List.mem_append.1 hy with hu | hx
    · refine ⟨j, ?_⟩
      have := Way.add hu h
      rwa [show k - j * x + y = k + y - j * x from by omega, show c - (j : Int) + 1 = c + 1 - j from by omega] at this
    · obtain rfl : y = x := by simpa using hx
      refine ⟨j + 1, ?_⟩
      rw [show ((j + 1 : Nat) : Int) * y = j * y + y from by rw [Int.natCast_add, Int.add_mul]; simp, show k + y - (j * y + y) = k - j * y from by omega, show c + 1 - ((j + 1 : Nat) : Int) = c - j from by omega]
      exact h
def Fw (v : List Int) (k m : Int) : Prop := (m = -1 ∧ ∀ c, ¬ Way v k c) ∨ (Way v k m ∧ ∀ c, Way v k c → m ≤ c)
theorem Fw.one {v : List Int} (hv : ∀ x ∈ v, 1 ≤ x) {k m m' : Int} (h : Fw v k m) (h' : Fw v k m') : m = m' := by
  rcases h with ⟨h1, h2⟩ | ⟨h1, h2⟩ <;> rcases h' with ⟨h3, h4⟩ | ⟨h3, h4⟩
  · omega
  · exact absurd h3 (h2 _)
  · exact absurd h1 (h4 _)
  · have := h2 _ h3; have := h4 _ h1; omega
theorem Fw.neg {v : List Int} (hv : ∀ x ∈ v, 1 ≤ x) {k m : Int} (h : Fw v k m) : m < 0 ↔ ∀ c, ¬ Way v k c := by
  rcases h with ⟨h1, h2⟩ | ⟨h1, h2⟩
  · exact ⟨fun _ => h2, fun _ => by omega⟩
  · have := h1.pos hv
    exact ⟨fun h => by omega, fun h => absurd h1 (h _)⟩
theorem Fw.ge {v : List Int} (hv : ∀ x ∈ v, 1 ≤ x) {k m : Int} (h : Fw v k m) : -1 ≤ m := by
  rcases h with ⟨h1, h2⟩ | ⟨h1, h2⟩
  · omega
  · have := h1.pos hv; omega
theorem Fw.le {v : List Int} (hv : ∀ x ∈ v, 1 ≤ x) {k m : Int} (h : Fw v k m) (hk : 0 ≤ k) : m ≤ k := by
  rcases h with ⟨h1, h2⟩ | ⟨h1, h2⟩
  · omega
  · have := h1.pos hv; omega
theorem Fw.way {v : List Int} {k m : Int} (h : Fw v k m) (hm : 0 ≤ m) : Way v k m ∧ ∀ c, Way v k c → m ≤ c := by
  rcases h with ⟨h1, h2⟩ | h
  · omega
  · exact h
theorem Fw.nil {k : Int} (hk : 0 ≤ k) : Fw [] k (if k = 0 then 0 else -1) := by
  by_cases h : k = 0
  · subst h
    exact .inr ⟨.zero, fun c w => (w.pos (by simp)).1⟩
  · rw [if_neg h]
    refine .inl ⟨rfl, fun c w => ?_⟩
    rcases w.last with ⟨h1, _⟩ | ⟨x, hx, _⟩
    · exact h h1
    · simp at hx
theorem Fw.below {u : List Int} {x k m : Int} (hu : ∀ y ∈ u, 1 ≤ y) (hk : k < x) (h : Fw u k m) (h0 : 0 ≤ k) : Fw (u ++ [x]) k m := by
  have hv : ∀ y ∈ u ++ [x], 1 ≤ y := by
    intro y hy
    rcases List.mem_append.1 hy with hy | hy
    · exact hu y hy
    · have : y = x := by simpa using hy
      omega
  have key : ∀ c, Way (u ++ [x]) k c → Way u k c := by
    intro c w
    obtain ⟨j, hj⟩ := w.split
    by_cases h : j = 0
    · subst h; simpa using hj
    · exfalso
      have := hj.pos hu
      have hj1 : x ≤ (j : Int) * x := by
        have := Int.mul_le_mul_of_nonneg_right (show (1 : Int) ≤ j from by omega) (show 0 ≤ x from by omega)
        omega
      omega
  rcases h with ⟨h1, h2⟩ | ⟨h1, h2⟩
  · exact .inl ⟨h1, fun c w => h2 c (key c w)⟩
  · exact .inr ⟨h1.mono (fun y hy => List.mem_append.2 (.inl hy)), fun c w => h2 c (key c w)⟩
theorem Fw.next {u : List Int} {x k m p : Int} (hu : ∀ y ∈ u, 1 ≤ y) (hx : 1 ≤ x) (h : Fw u k m) (hp : Fw (u ++ [x]) (k - x) p) :
    Fw (u ++ [x]) k (if p ≥ 0 then (if m < 0 then p + 1 else if p + 1 < m then p + 1 else m) else m) := by
  have hv : ∀ y ∈ u ++ [x], 1 ≤ y := by
    intro y hy
    rcases List.mem_append.1 hy with hy | hy
    · exact hu y hy
    · have : y = x := by simpa using hy
      omega
  have key : ∀ c, Way (u ++ [x]) k c → Way u k c ∨ Way (u ++ [x]) (k - x) (c - 1) := by
    intro c w
    rcases w.part (u := u) with h | ⟨y, hy, hyu, h⟩
    · exact .inl h
    · rcases List.mem_append.1 hy with hy | hy
      · exact absurd hy hyu
      · obtain rfl : y = x := by simpa using hy
        exact .inr h
  have hup : ∀ c, Way u k c → Way (u ++ [x]) k c := fun c w => w.mono (fun y hy => List.mem_append.2 (.inl hy))
  have hone : ∀ c, Way (u ++ [x]) (k - x) c → Way (u ++ [x]) k (c + 1) := fun c w => by
    have := Way.add (show x ∈ u ++ [x] by simp) w
    rwa [show k - x + x = k from by omega] at this
  have hm := h.neg hu
  have hpn := hp.neg hv
  by_cases c1 : p ≥ 0
  · rw [if_pos c1]
    obtain ⟨p1, p2⟩ := hp.way c1
    by_cases c2 : m < 0
    · rw [if_pos c2]
      refine .inr ⟨hone _ p1, fun c w => ?_⟩
      rcases key c w with h1 | h1
      · exact absurd h1 (hm.1 c2 c)
      · have := p2 _ h1; omega
    · rw [if_neg c2]
      obtain ⟨m1, m2⟩ := h.way (by omega)
      by_cases c3 : p + 1 < m
      · rw [if_pos c3]
        refine .inr ⟨hone _ p1, fun c w => ?_⟩
        rcases key c w with h1 | h1
        · have := m2 _ h1; omega
        · have := p2 _ h1; omega
      · rw [if_neg c3]
        refine .inr ⟨hup _ m1, fun c w => ?_⟩
        rcases key c w with h1 | h1
        · exact m2 _ h1
        · have := p2 _ h1; omega
  · rw [if_neg c1]
    rcases h with ⟨h1, h2⟩ | ⟨h1, h2⟩
    · refine .inl ⟨h1, fun c w => ?_⟩
      rcases key c w with h3 | h3
      · exact h2 _ h3
      · exact hpn.1 (by omega) _ h3
    · refine .inr ⟨hup _ h1, fun c w => ?_⟩
      rcases key c w with h3 | h3
      · exact h2 _ h3
      · exact absurd h3 (hpn.1 (by omega) _)
end Go.Proofs.Ytkifakepmomgfaa.E
end
section
namespace Go.Proofs.Ytkifakepmomgfaa.E
open Go.RowKit Go.Proofs.YtkifakepmomgfaaW.PrintWords Go.Proofs.YtkifakepmomgfaaW.PrintLast Go.Proofs.YtkifakepmomgfaaW.PrintMore
set_option linter.unusedVariables false
set_option linter.unusedSimpArgs false
theorem exists_max {P : Nat → Prop} {B j0 : Nat} (h0 : P j0) (hB : ∀ j, P j → j ≤ B) : ∃ J, P J ∧ ∀ j, J < j → ¬ P j := by
  induction hd : B - j0 using Nat.strongRecOn generalizing j0 with
  | _ d ih =>
    by_cases h : ∃ j, j0 < j ∧ P j
    · obtain ⟨j, hj, hp⟩ := h
      have := hB j hp
      exact ih (B - j) (by omega) hp rfl
    · exact ⟨j0, h0, fun j hj hp => h ⟨j, hj, hp⟩⟩
structure Lev (v : List Int) (n need i : Int) : Prop where
  way : Way v n need
  least : ∀ c, Way v n c → need ≤ c
  no : ∀ y ∈ v.drop (i + 1).toNat, ¬ Way v (n - y) (need - 1)
theorem take_drop_mem {v : List Int} {m : Nat} {y : Int} (h : y ∈ v) (hn : y ∉ v.take m) : y ∈ v.drop m := by
  rw [← List.take_append_drop m v] at h
  rcases List.mem_append.1 h with h | h
  · exact absurd h hn
  · exact h
theorem Way.more {v : List Int} {x : Int} (hx : x ∈ v) {k c : Int} (w : Way v k c) (j : Nat) : Way v (k + j * x) (c + j) := w.plus (Way.times hx j)
structure LevStep (v : List Int) (n need i : Int) (J : Nat) : Prop where
  n0 : 0 ≤ n - J * rd v i
  c0 : (J : Int) ≤ need
  here : Way (v.take i.toNat) (n - J * rd v i) (need - J)
  above : ∀ j : Nat, J < j → ¬ Way (v.take i.toNat) (n - j * rd v i) (need - j)
  least : ∀ j : Nat, j ≤ J → Way v (n - j * rd v i) (need - j) ∧ ∀ c, Way v (n - j * rd v i) c → need - j ≤ c
  stop : ¬ Way v (n - J * rd v i - rd v i) (need - J - 1)
  next : Lev v (n - J * rd v i) (need - J) (i - 1)
theorem lev_step {v : List Int} {n need i : Int} (hv : ∀ x ∈ v, 1 ≤ x) (h0 : 0 ≤ i) (hi : i < v.length) (L : Lev v n need i) : ∃ J : Nat, LevStep v n need i J := by
  have hxm := rd_mem (l := v) h0 hi
  have hx := hv _ hxm
  have hvt : ∀ y ∈ v.take i.toNat, 1 ≤ y := fun y hy => hv y (List.mem_of_mem_take hy)
  have hsub : ∀ y ∈ v.take i.toNat, y ∈ v := fun y hy => List.mem_of_mem_take hy
  have w1 : Way (v.take (i + 1).toNat) n need := by
    rcases L.way.part (u := v.take (i + 1).toNat) with h | ⟨y, hy, hyu, h⟩
    · exact h
    · exact absurd h (L.no y (take_drop_mem hy hyu))
  rw [take_rd h0 hi] at w1
  obtain ⟨j0, hj0⟩ := w1.split
  obtain ⟨J, hJ, hmax⟩ := exists_max (P := fun j : Nat => Way (v.take i.toNat) (n - j * rd v i) (need - j)) (B := need.toNat) hj0 (fun j hj => by have := hj.pos hvt; omega)
  have hJ' : Way v (n - J * rd v i) (need - J) := hJ.mono hsub
  have hp := hJ.pos hvt
  have low : ∀ j : Nat, j ≤ J → Way v (n - j * rd v i) (need - j) ∧ ∀ c, Way v (n - j * rd v i) c → need - j ≤ c := by
    intro j hj
    constructor
    · have := hJ'.more hxm (J - j)
      have e : ((J - j : Nat) : Int) = J - j := by omega
      rw [e, show n - J * rd v i + ((J : Int) - j) * rd v i = n - j * rd v i from by rw [Int.sub_mul]; omega, show need - J + ((J : Int) - j) = need - j from by omega] at this
      exact this
    · intro c hc
      have := L.least _ (by have h := hc.more hxm j; rwa [show n - j * rd v i + j * rd v i = n from by omega] at h)
      omega
  have stop : ¬ Way v (n - J * rd v i - rd v i) (need - J - 1) := by
    intro hw
    have e1 : n - J * rd v i - rd v i = n - ((J + 1 : Nat) : Int) * rd v i := by rw [show ((J + 1 : Nat) : Int) = J + 1 from by omega, Int.add_mul]; omega
    have hw2 : Way (v.take (i + 1).toNat) (n - J * rd v i - rd v i) (need - J - 1) := by
      rcases hw.part (u := v.take (i + 1).toNat) with h | ⟨y, hy, hyu, h⟩
      · exact h
      · exfalso
        refine L.no y (take_drop_mem hy hyu) ?_
        have := h.more hxm (J + 1)
        rw [show n - J * rd v i - rd v i - y + ((J + 1 : Nat) : Int) * rd v i = n - y from by rw [show ((J + 1 : Nat) : Int) = J + 1 from by omega, Int.add_mul]; omega, show need - J - 1 - 1 + ((J + 1 : Nat) : Int) = need - 1 from by omega] at this
        exact this
    rw [take_rd h0 hi] at hw2
    obtain ⟨j, hj⟩ := hw2.split
    refine hmax (J + 1 + j) (by omega) ?_
    rw [show n - J * rd v i - rd v i - j * rd v i = n - ((J + 1 + j : Nat) : Int) * rd v i from by rw [show ((J + 1 + j : Nat) : Int) = J + 1 + j from by omega, Int.add_mul, Int.add_mul]; omega, show need - J - 1 - (j : Int) = need - ((J + 1 + j : Nat) : Int) from by omega] at hj
    exact hj
  refine ⟨J, by omega, by omega, hJ, hmax, low, stop, ⟨hJ', (low J (Nat.le_refl _)).2, fun y hy => ?_⟩⟩
  rw [show (i - 1 + 1).toNat = i.toNat from by omega, drop_rd h0 hi] at hy
  rcases List.mem_cons.1 hy with rfl | hy
  · exact stop
  · intro hw
    refine L.no y hy ?_
    have := hw.more hxm J
    rw [show n - J * rd v i - y + J * rd v i = n - y from by omega, show need - J - 1 + (J : Int) = need - 1 from by omega] at this
    exact this
end Go.Proofs.Ytkifakepmomgfaa.E
end
section
namespace Go.Proofs.Ytkifakepmomgfaa.E
open Go.RowKit Go.Proofs.Ytkifakepmomgfaa.PA Go.Proofs.YtkifakepmomgfaaW.PrintWords Go.Proofs.YtkifakepmomgfaaW.PrintLast Go.Proofs.YtkifakepmomgfaaW.PrintMore
set_option linter.unusedVariables false
set_option linter.unusedSimpArgs false
def RowOk (v : List Int) (n : Int) (row : List Int) : Prop := (row.length : Int) = n + 1 ∧ ∀ k, 0 ≤ k → k ≤ n → Fw v k (rd row k)
def FewTab (v : List Int) (n : Int) (t : List (List Int)) : Prop := t.length = v.length + 1 ∧ ∀ i : Int, 0 ≤ i → i ≤ v.length → RowOk (v.take i.toNat) n (rd_L1 t i)
theorem rdLL_append {t : List (List Int)} {r : List Int} {i : Int} (h0 : 0 ≤ i) (h : i ≤ t.length) : rd_L1 (t ++ [r]) i = if i = t.length then r else rd_L1 t i := by
  unfold rd_L1
  rw [List.getD_eq_getElem?_getD, List.getD_eq_getElem?_getD, List.getElem?_append]
  by_cases e : i = t.length
  · rw [if_pos e, if_neg (by omega), e]; simp
  · rw [if_neg e, if_pos (by omega)]
theorem fewest_l2 {v vals : List Int} {n x : Int} {len i : Int} (hn : 0 ≤ n) (hn' : n ≤ 4000) (hv : ∀ y ∈ v, 1 ≤ y) (hx : 1 ≤ x) (hx' : x ≤ 1000) {out : List (List Int)} (ho : out.length ≤ 1000) (hi : 0 ≤ i) (hi' : i ≤ 1000) (d : Nat) :
    ∀ (kk : Int) (next : List Int), x ≤ kk → kk + d = max x (n + 1) → (next.length : Int) = n + 1 → (∀ k, 0 ≤ k → k ≤ n → k < kk → Fw (v ++ [x]) k (rd next k)) → (∀ k, kk ≤ k → k ≤ n → Fw v k (rd next k)) →
      ∃ next', RowOk (v ++ [x]) n next' ∧ ∀ r, Ev (fun k => impl_fewest.l1 k n next' (out ++ [next']) vals len (i + 1)) r → Ev (fun k => impl_fewest.l2 k n out x next kk vals len i) r := by
  have hv' : ∀ y ∈ v ++ [x], 1 ≤ y := by
    intro y hy
    rcases List.mem_append.1 hy with hy | hy
    · exact hv y hy
    · have : y = x := by simpa using hy
      omega
  induction d with
  | zero =>
    intro kk next h0 h1 h2 h3 h4
    refine ⟨next, ⟨h2, fun k hk hk' => h3 k hk hk' (by omega)⟩, fun r hr => Ev.step (fun k => by rw [impl_fewest.l2]) (ev_ifn (by omega) ?_)⟩
    rw [w64 (by omega) (by omega)]
    exact ev_ifp (by omega) hr
  | succ d ih =>
    intro kk next h0 h1 h2 h3 h4
    have hkn : kk ≤ n := by omega
    have f1 := h3 (kk - x) (by omega) (by omega) (by omega)
    have f2 := h4 kk (by omega) hkn
    have f3 := Fw.next hv hx f2 f1
    have b1 := f1.ge hv'
    have b2 := f1.le hv' (by omega)
    have done : ∀ (y : Int), Fw (v ++ [x]) kk y → ∃ next', RowOk (v ++ [x]) n next' ∧ ∀ r, Ev (fun k => impl_fewest.l1 k n next' (out ++ [next']) vals len (i + 1)) r → Ev (fun k => impl_fewest.l2 k n out x (next.set kk.toNat y) (kk + 1) vals len i) r := by
      intro y hy
      refine ih (kk + 1) (next.set kk.toNat y) (by omega) (by omega) (by simpa using h2) ?_ ?_
      · intro k hk hk' hk''
        rw [rd_set _ (by omega) (by omega) hk]
        by_cases e : k = kk
        · subst e; rw [if_pos rfl]; exact hy
        · rw [if_neg e]; exact h3 k hk hk' (by omega)
      · intro k hk hk'
        rw [rd_set _ (by omega) (by omega) (by omega), if_neg (by omega)]
        exact h4 k (by omega) hk'
    have same : Fw (v ++ [x]) kk (rd next kk) → ∃ next', RowOk (v ++ [x]) n next' ∧ ∀ r, Ev (fun k => impl_fewest.l1 k n next' (out ++ [next']) vals len (i + 1)) r → Ev (fun k => impl_fewest.l2 k n out x next (kk + 1) vals len i) r := by
      intro hy
      refine ih (kk + 1) next (by omega) (by omega) h2 ?_ (fun k hk hk' => h4 k (by omega) hk')
      intro k hk hk' hk''
      by_cases e : k = kk
      · subst e; exact hy
      · exact h3 k hk hk' (by omega)
    by_cases c1 : rd next (kk - x) ≥ 0
    · rw [if_pos c1] at f3
      by_cases c2 : rd next kk < 0
      · rw [if_pos c2] at f3
        obtain ⟨next', a, b⟩ := done _ f3
        refine ⟨next', a, fun r hr => Ev.step (fun k => by rw [impl_fewest.l2]) ?_⟩
        simp (disch := omega) only [if_pos, w64]
        exact b r hr
      · rw [if_neg c2] at f3
        by_cases c3 : rd next (kk - x) + 1 < rd next kk
        · rw [if_pos c3] at f3
          obtain ⟨next', a, b⟩ := done _ f3
          refine ⟨next', a, fun r hr => Ev.step (fun k => by rw [impl_fewest.l2]) ?_⟩
          simp (disch := omega) only [if_pos, if_neg, w64]
          exact b r hr
        · rw [if_neg c3] at f3
          obtain ⟨next', a, b⟩ := same f3
          refine ⟨next', a, fun r hr => Ev.step (fun k => by rw [impl_fewest.l2]) ?_⟩
          simp (disch := omega) only [if_pos, if_neg, w64]
          exact b r hr
    · rw [if_neg c1] at f3
      obtain ⟨next', a, b⟩ := same f3
      refine ⟨next', a, fun r hr => Ev.step (fun k => by rw [impl_fewest.l2]) ?_⟩
      simp (disch := omega) only [if_pos, if_neg, w64]
      exact b r hr
theorem fewest_l1 {vals : List Int} {n : Int} (hn : 0 ≤ n) (hn' : n ≤ 4000) (hv : ∀ y ∈ vals, 1 ≤ y ∧ y ≤ 1000) (hl : vals.length ≤ 20) (d : Nat) :
    ∀ (i : Int) (row : List Int) (out : List (List Int)), 0 ≤ i → i + d = vals.length → RowOk (vals.take i.toNat) n row → (out.length : Int) = i + 1 → (∀ j : Int, 0 ≤ j → j ≤ i → RowOk (vals.take j.toNat) n (rd_L1 out j)) →
      ∃ t, FewTab vals n t ∧ Ev (fun k => impl_fewest.l1 k n row out vals vals.length i) t := by
  induction d with
  | zero =>
    intro i row out h0 h1 h2 h3 h4
    exact ⟨out, ⟨by omega, fun j hj hj' => h4 j hj (by omega)⟩, Ev.step (fun k => by rw [impl_fewest.l1]) (ev_ifn (by omega) (Ev.now _))⟩
  | succ d ih =>
    intro i row out h0 h1 h2 h3 h4
    have hx := hv _ (rd_mem (l := vals) h0 (by omega))
    have ht := take_rd (l := vals) h0 (by omega)
    have hvt : ∀ y ∈ vals.take i.toNat, 1 ≤ y := fun y hy => (hv y (List.mem_of_mem_take hy)).1
    obtain ⟨next', a, b⟩ := fewest_l2 (v := vals.take i.toNat) (vals := vals) (len := vals.length) (i := i) (out := out) hn hn' hvt hx.1 hx.2 (by omega) h0 (by omega) (max (rd vals i) (n + 1) - rd vals i).toNat (rd vals i) row (by omega) (by omega) h2.1 (fun k hk hk' hk'' => (h2.2 k hk hk').below hvt hk'' hk) (fun k hk hk' => h2.2 k (by omega) hk')
    rw [← ht] at a
    obtain ⟨t, ht1, ht2⟩ := ih (i + 1) next' (out ++ [next']) (by omega) (by omega) a (by simp; omega) (by
      intro j hj hj'
      rw [rdLL_append hj (by omega)]
      by_cases e : j = out.length
      · rw [if_pos e, show j = i + 1 from by omega]; exact a
      · rw [if_neg e]; exact h4 j hj (by omega))
    refine ⟨t, ht1, Ev.step (fun k => by rw [impl_fewest.l1]) ?_⟩
    have hr := h2.1
    refine ev_ifp (by omega) (ev_ifp h0 (ev_ifp (by omega) ?_))
    simp only [Option.bind_some]
    refine ev_ifp (by simp; omega) ?_
    exact b t ht2
theorem fewest_l0 {vals : List Int} {n : Int} (hn : 0 ≤ n) (hn' : n ≤ 4000) {t : List (List Int)} (H : Ev (fun k => impl_fewest.l1 k n ((List.replicate (n + 1).toNat (-1)).set 0 0) [(List.replicate (n + 1).toNat (-1)).set 0 0] vals vals.length 0) t) (d : Nat) :
    ∀ (i : Int) (row : List Int), 0 ≤ i → i + d = n + 1 → (row.length : Int) = n + 1 → (∀ j, 0 ≤ j → j < i → rd row j = -1) → Ev (fun k => impl_fewest.l0 k vals n row (n + 1) i) t := by
  induction d with
  | zero =>
    intro i row h0 h1 h2 h3
    have e : row = List.replicate (n + 1).toNat (-1) := rd_ext (by simp; omega) fun j hj hj' => by rw [h3 j hj (by omega), rd_rep hj (by omega)]
    subst e
    refine Ev.step (fun k => by rw [impl_fewest.l0]) (ev_ifn (by omega) (ev_ifp (by omega) ?_))
    simp only [Option.bind_some]
    exact H
  | succ d ih =>
    intro i row h0 h1 h2 h3
    refine Ev.step (fun k => by rw [impl_fewest.l0]) ?_
    simp (disch := omega) only [if_pos, w64]
    refine ih (i + 1) _ (by omega) (by omega) (by simpa using h2) fun j hj hj' => ?_
    rw [rd_set _ h0 (by omega) hj]
    by_cases e : j = i
    · rw [if_pos e]
    · rw [if_neg e]; exact h3 j hj (by omega)
theorem rowOk_first {n : Int} (hn : 0 ≤ n) : RowOk [] n ((List.replicate (n + 1).toNat (-1)).set 0 0) := by
  refine ⟨by simp; omega, fun k hk hk' => ?_⟩
  have := rd_set (l := List.replicate (n + 1).toNat (-1)) (i := 0) (j := k) 0 (by omega) (by simp; omega) hk
  rw [show (0 : Int).toNat = 0 from rfl] at this
  rw [this]
  have f := Fw.nil hk
  by_cases e : k = 0
  · rw [if_pos e] at f ⊢; exact f
  · rw [if_neg e] at f ⊢; rw [rd_rep hk (by omega)]; exact f
theorem fewest_ev {vals : List Int} {n : Int} (hn : 0 ≤ n) (hn' : n ≤ 4000) (hv : ∀ y ∈ vals, 1 ≤ y ∧ y ≤ 1000) (hl : vals.length ≤ 20) : ∃ t, FewTab vals n t ∧ Ev (fun k => impl_fewest.f k vals n) t := by
  have h1 := rowOk_first hn
  obtain ⟨t, a, b⟩ := fewest_l1 hn hn' hv hl vals.length 0 _ [(List.replicate (n + 1).toNat (-1)).set 0 0] (by omega) (by omega) (by simpa using h1) (by simp) (by
    intro j hj hj'
    obtain rfl : j = 0 := by omega
    simpa [rd_L1] using h1)
  refine ⟨t, a, ?_⟩
  unfold impl_fewest.f
  rw [w64 (by omega) (by omega)]
  refine ev_ifp (by omega) (ev_ifp (by omega) ?_)
  simp only [Option.bind_some]
  rw [show ((List.replicate (n + 1).toNat (0 : Int)).length : Int) = n + 1 from by simp; omega]
  exact fewest_l0 hn hn' b (n + 1).toNat 0 _ (by omega) (by omega) (by simp; omega) (fun j h h' => by omega)
end Go.Proofs.Ytkifakepmomgfaa.E
end
section
namespace Go.Proofs.Ytkifakepmomgfaa.E
open Go.RowKit Go.Proofs.Ytkifakepmomgfaa.PA Go.Proofs.YtkifakepmomgfaaW.PrintWords Go.Proofs.YtkifakepmomgfaaW.PrintLast Go.Proofs.YtkifakepmomgfaaW.PrintMore
set_option linter.unusedVariables false
set_option linter.unusedSimpArgs false
theorem int_ediv_mul_le {n x : Int} {j : Int} (hx : 1 ≤ x) (hj : 0 ≤ j) : j ≤ n / x ↔ j * x ≤ n := by
  rw [Int.le_ediv_iff_mul_le (by omega)]
theorem best_inner {v : List Int} {n need i most : Int} {t : List (List Int)} {out : List Int} {J : Nat} (hv : ∀ x ∈ v, 1 ≤ x ∧ x ≤ 1000) (hl : v.length ≤ 20) (h0 : 0 ≤ i) (hi : i < v.length) (hn : 0 ≤ n) (hnm : n ≤ most) (hm : most ≤ 4000) (ht : FewTab v most t) (hneed : need ≤ 4000) (ho : out.length = v.length)
    (S : LevStep v n need i J) {r : List Int} (H : Ev (fun k => impl_best.l0 k v (n - J * rd v i) t (out.set i.toNat J) (need - J) (i - 1)) r) (d : Nat) :
    ∀ kk : Int, (J : Int) + d = kk → kk * rd v i ≤ n → kk ≤ need → Ev (fun k => impl_best.l1 k v n t out need i kk) r := by
  have hx := hv _ (rd_mem (l := v) h0 hi)
  have hvt : ∀ y ∈ v.take i.toNat, 1 ≤ y := fun y hy => (hv y (List.mem_of_mem_take hy)).1
  have hrow := ht.2 i h0 (by omega)
  have htl := ht.1
  induction d with
  | zero =>
    intro kk h1 h2 h3
    obtain rfl : kk = J := by omega
    have hn0 := S.n0
    have hJx : 0 ≤ (J : Int) * rd v i := Int.mul_nonneg (by omega) (by omega)
    have hc0 := S.c0
    have e : rd (rd_L1 t i) (n - J * rd v i) = need - J :=
      (hrow.2 _ S.n0 (by omega)).one hvt (.inr ⟨S.here, fun c w => (S.least J (Nat.le_refl _)).2 c (w.mono (fun y hy => List.mem_of_mem_take hy))⟩)
    have hr1 := hrow.1
    refine Ev.step (fun k => by rw [impl_best.l1]) ?_
    rw [w64 (x := (J : Int) * rd v i) (by omega) (by omega), w64 (x := n - J * rd v i) (by omega) (by omega), w64 (x := need - J) (by omega) (by omega), w64 (x := i - 1) (by omega) (by omega)]
    exact ev_ifp h0 (ev_ifp (by omega) (ev_ifp hi (ev_ifp hn0 (ev_ifp (by omega) (ev_ifp e (ev_ifp (by omega) H))))))
  | succ d ih =>
    intro kk h1 h2 h3
    have hkx : 0 ≤ kk * rd v i := Int.mul_nonneg (by omega) (by omega)
    have hr1 := hrow.1
    have hne : rd (rd_L1 t i) (n - kk * rd v i) ≠ need - kk := by
      intro e
      have f := hrow.2 (n - kk * rd v i) (by omega) (by omega)
      have := (f.way (by omega)).1
      rw [e] at this
      have := S.above (J + (d + 1)) (by omega)
      rw [show ((J + (d + 1) : Nat) : Int) = kk from by omega] at this
      contradiction
    refine Ev.step (fun k => by rw [impl_best.l1]) ?_
    rw [w64 (x := kk * rd v i) (by omega) (by omega), w64 (x := n - kk * rd v i) (by omega) (by omega), w64 (x := need - kk) (by omega) (by omega), w64 (x := kk - 1) (by omega) (by omega)]
    refine ev_ifp h0 (ev_ifp (by omega) (ev_ifp hi (ev_ifp (by omega) (ev_ifp (by omega) (ev_ifn hne ?_)))))
    refine ih (kk - 1) (by omega) ?_ (by omega)
    rw [Int.sub_mul]; omega
end Go.Proofs.Ytkifakepmomgfaa.E
end
section
namespace Go.Proofs.Ytkifakepmomgfaa.E
open Go.RowKit Go.Proofs.YtkifakepmomgfaaW.PrintWords Go.Proofs.YtkifakepmomgfaaW.PrintLast Go.Proofs.YtkifakepmomgfaaW.PrintMore
set_option linter.unusedVariables false
set_option linter.unusedSimpArgs false
def dot : List Int → List Int → Int
  | a :: r, b :: v => a * b + dot r v
  | [], _ => 0
  | _ :: _, [] => 0
theorem dot_set : ∀ (r v : List Int) (i : Nat) (J : Int), r.length = v.length → i < r.length → dot (r.set i J) v = dot r v + (J - rd r i) * rd v i
  | a :: r, b :: v, 0, J, _, _ => by simp only [List.set_cons_zero, dot, rd]; simp only [Int.toNat_natCast, List.getD_cons_zero]; rw [Int.sub_mul]; omega
  | a :: r, b :: v, i + 1, J, h1, h2 => by
    have := dot_set r v i J (by simpa using h1) (by simpa using h2)
    simp only [List.set_cons_succ, dot, rd, Int.toNat_natCast, List.getD_cons_succ] at this ⊢
    rw [this]; omega
  | [], _, _, _, _, h => by simp at h
  | _ :: _, [], _, _, h, _ => by simp at h
theorem sum_set : ∀ (r : List Int) (i : Nat) (J : Int), i < r.length → (r.set i J).sum = r.sum + (J - rd r i)
  | a :: r, 0, J, _ => by simp only [List.set_cons_zero, List.sum_cons, rd, Int.toNat_natCast, List.getD_cons_zero]; omega
  | a :: r, i + 1, J, h => by
    have := sum_set r i J (by simpa using h)
    simp only [List.set_cons_succ, List.sum_cons, rd, Int.toNat_natCast, List.getD_cons_succ] at this ⊢
    omega
  | [], _, _, h => by simp at h
theorem dot_zeros (n : Nat) (v : List Int) : dot (List.replicate n 0) v = 0 := by
  induction n generalizing v with
  | zero => cases v <;> rfl
  | succ n ih => cases v with
    | nil => rfl
    | cons b v => simp [List.replicate_succ, dot, ih]
theorem sum_zeros (n : Nat) : (List.replicate n (0 : Int)).sum = 0 := by
  induction n with
  | zero => rfl
  | succ n ih => simp [List.replicate_succ]
theorem nonneg_set {r : List Int} {i : Nat} {J : Int} (h : ∀ x ∈ r, 0 ≤ x) (hJ : 0 ≤ J) : ∀ x ∈ r.set i J, 0 ≤ x := by
  intro x hx
  rcases List.mem_or_eq_of_mem_set hx with h1 | h1
  · exact h x h1
  · omega
theorem dot_nonneg : ∀ {r v : List Int}, (∀ x ∈ r, 0 ≤ x) → (∀ x ∈ v, 1 ≤ x) → 0 ≤ dot r v
  | [], _, _, _ => by simp [dot]
  | _ :: _, [], _, _ => by simp [dot]
  | a :: r, b :: v, h, k => by
    have h1 := dot_nonneg (r := r) (v := v) (fun x hx => h x (by simp [hx])) (fun x hx => k x (by simp [hx]))
    have h2 := Int.mul_nonneg (h a (by simp)) (show 0 ≤ b by have := k b (by simp); omega)
    simp only [dot]; omega
theorem sum_nonneg : ∀ {r : List Int}, (∀ x ∈ r, 0 ≤ x) → 0 ≤ r.sum
  | [], _ => by simp
  | a :: r, h => by
    have h1 := sum_nonneg (r := r) (fun x hx => h x (by simp [hx]))
    have h2 := h a (by simp)
    simp only [List.sum_cons]; omega
theorem sum_bound {B : Int} (hB : 0 ≤ B) : ∀ {l : List Int}, (∀ x ∈ l, -B ≤ x ∧ x ≤ B) → -(l.length * B) ≤ l.sum ∧ l.sum ≤ l.length * B
  | [], _ => by simp
  | a :: l, h => by
    have h1 := sum_bound hB (l := l) (fun x hx => h x (by simp [hx]))
    have h2 := h a (by simp)
    have e : (((a :: l).length : Nat) : Int) * B = l.length * B + B := by rw [List.length_cons, show ((l.length + 1 : Nat) : Int) = l.length + 1 from by omega, Int.add_mul]; omega
    rw [e, List.sum_cons]
    omega
theorem mem_le_sum : ∀ {l : List Int}, (∀ x ∈ l, 0 ≤ x) → ∀ x ∈ l, x ≤ l.sum
  | [], _, _, h => by simp at h
  | a :: l, h, x, hx => by
    have h1 := sum_nonneg (r := l) (fun x hx => h x (by simp [hx]))
    have h2 := h a (by simp)
    rcases List.mem_cons.1 hx with rfl | hx
    · simp only [List.sum_cons]; omega
    · have := mem_le_sum (l := l) (fun x hx => h x (by simp [hx])) x hx
      simp only [List.sum_cons]; omega
theorem sum_le_dot : ∀ {r v : List Int}, r.length = v.length → (∀ x ∈ r, 0 ≤ x) → (∀ x ∈ v, 1 ≤ x) → r.sum ≤ dot r v
  | [], _, _, _, _ => by simp [dot]
  | _ :: _, [], h, _, _ => by simp at h
  | a :: r, b :: v, e, h, k => by
    have h1 := sum_le_dot (r := r) (v := v) (by simpa using e) (fun x hx => h x (by simp [hx])) (fun x hx => k x (by simp [hx]))
    have h2 : a * 1 ≤ a * b := Int.mul_le_mul_of_nonneg_left (k b (by simp)) (h a (by simp))
    simp only [dot, List.sum_cons]; omega
end Go.Proofs.Ytkifakepmomgfaa.E
end
section
namespace Go.Proofs.Ytkifakepmomgfaa.E
open Go.RowKit Go.Proofs.Ytkifakepmomgfaa.PA Go.Proofs.YtkifakepmomgfaaW.PrintWords Go.Proofs.YtkifakepmomgfaaW.PrintLast Go.Proofs.YtkifakepmomgfaaW.PrintMore
set_option linter.unusedVariables false
set_option linter.unusedSimpArgs false
theorem bestC_inner {v : List Int} {n need i most C : Int} {tb : List Int} {J : Nat} (hv : ∀ x ∈ v, 1 ≤ x ∧ x ≤ 1000) (hl : v.length ≤ 20) (h0 : 0 ≤ i) (hi : i < v.length) (hn : 0 ≤ n) (hnm : n ≤ most) (hm : most ≤ 4000) (htl : (tb.length : Int) = most + 1)
    (hT1 : ∀ k c, 0 ≤ k → k ≤ most → c ≤ C → Way v k c → (∀ c', Way v k c' → c ≤ c') → rd tb k = c) (hT2 : ∀ k, 0 ≤ k → k ≤ most → rd tb k ≤ C → Way v k (rd tb k)) (hT3 : ∀ k, 0 ≤ k → k ≤ most → 0 ≤ rd tb k ∧ rd tb k ≤ 4000) (hneed : need ≤ C) (hneed' : need ≤ 4000)
    (S : LevStep v n need i J) {r : (List Int)} {out : List Int} (ho : out.length = v.length) (H : Ev (fun k => spec_BestChange.l0 k v (n - J * rd v i) tb (out.set i.toNat J) (i - 1)) r) (d : Nat) :
    ∀ j : Nat, j + d = J → Ev (fun k => spec_BestChange.l0 k v (n - j * rd v i) tb (out.set i.toNat j) i) r := by
  have hx := hv _ (rd_mem (l := v) h0 hi)
  have hn0 := S.n0
  have hc0 := S.c0
  have hJx : 0 ≤ (J : Int) * rd v i := Int.mul_nonneg (by omega) (by omega)
  induction d with
  | zero =>
    intro j hj
    obtain rfl : j = J := by omega
    have e1 := hT1 _ _ S.n0 (by omega) (by omega) (S.least j (Nat.le_refl _)).1 (S.least j (Nat.le_refl _)).2
    refine Ev.step (fun k => by rw [spec_BestChange.l0]) ?_
    rw [w64 (x := i - 1) (by omega) (by omega)]
    refine ev_ifp (by omega) (ev_ifp h0 (ev_ifp hi ?_))
    by_cases c : rd v i ≤ n - j * rd v i
    · rw [w64 (x := n - j * rd v i - rd v i) (by omega) (by omega)]
      have b := hT3 (n - j * rd v i - rd v i) (by omega) (by omega)
      rw [w64 (x := rd tb (n - j * rd v i - rd v i) + 1) (by omega) (by omega)]
      refine ev_ifp c (ev_ifp (by omega) (ev_ifp (by omega) (ev_ifp (by omega) (ev_ifp (by omega) (ev_ifn ?_ H)))))
      intro e
      have := hT2 (n - j * rd v i - rd v i) (by omega) (by omega) (by omega)
      rw [show rd tb (n - j * rd v i - rd v i) = need - j - 1 from by omega] at this
      exact S.stop this
    · exact ev_ifn c H
  | succ d ih =>
    intro j hj
    have hjJ : j + 1 ≤ J := by omega
    have hle : ((j + 1 : Nat) : Int) * rd v i ≤ J * rd v i := Int.mul_le_mul_of_nonneg_right (by omega) (by omega)
    have hle' : ((j + 1 : Nat) : Int) * rd v i = j * rd v i + rd v i := by rw [show ((j + 1 : Nat) : Int) = j + 1 from by omega, Int.add_mul]; omega
    have hj0 : 0 ≤ (j : Int) * rd v i := Int.mul_nonneg (by omega) (by omega)
    have e1 := hT1 (n - j * rd v i) (need - j) (by omega) (by omega) (by omega) (S.least j (by omega)).1 (S.least j (by omega)).2
    have e2 := hT1 (n - ((j + 1 : Nat) : Int) * rd v i) (need - ((j + 1 : Nat) : Int)) (by omega) (by omega) (by omega) (S.least (j + 1) hjJ).1 (S.least (j + 1) hjJ).2
    have e3 : n - j * rd v i - rd v i = n - ((j + 1 : Nat) : Int) * rd v i := by omega
    refine Ev.step (fun k => by rw [spec_BestChange.l0]) ?_
    rw [w64 (x := n - j * rd v i - rd v i) (by omega) (by omega), e3, e2, w64 (x := need - ((j + 1 : Nat) : Int) + 1) (by omega) (by omega), rd_set _ h0 (by omega) h0, if_pos rfl, w64 (x := (j : Int) + 1) (by omega) (by omega)]
    refine ev_ifp (by omega) (ev_ifp h0 (ev_ifp hi (ev_ifp (by omega) (ev_ifp (by omega) (ev_ifp (by omega) (ev_ifp (by omega) (ev_ifp (by omega) (ev_ifp (by omega) (ev_ifp (by simpa using by omega) ?_)))))))))
    rw [List.set_set]
    exact ih (j + 1) (by omega)
theorem bestC_levels {v : List Int} {most C : Int} {tb : List Int} {t : List (List Int)} (hv : ∀ x ∈ v, 1 ≤ x ∧ x ≤ 1000) (hl : v.length ≤ 20) (hm : most ≤ 4000) (ht : FewTab v most t) (htl : (tb.length : Int) = most + 1)
    (hT1 : ∀ k c, 0 ≤ k → k ≤ most → c ≤ C → Way v k c → (∀ c', Way v k c' → c ≤ c') → rd tb k = c) (hT2 : ∀ k, 0 ≤ k → k ≤ most → rd tb k ≤ C → Way v k (rd tb k)) (hT3 : ∀ k, 0 ≤ k → k ≤ most → 0 ≤ rd tb k ∧ rd tb k ≤ 4000) (d : Nat) :
    ∀ (i n need : Int) (out : List Int), i + 1 = d → i < v.length → 0 ≤ n → n ≤ most → 0 ≤ need → need ≤ C → need ≤ 4000 → Lev v n need i → out.length = v.length → (∀ j, 0 ≤ j → j ≤ i → rd out j = 0) → (∀ x ∈ out, 0 ≤ x) →
      ∃ r : List Int, r.length = v.length ∧ Ev (fun k => impl_best.l0 k v n t out need i) r ∧ Ev (fun k => spec_BestChange.l0 k v n tb out i) (r) ∧ (∀ x ∈ r, 0 ≤ x) ∧ dot r v = dot out v + n ∧ r.sum = out.sum + need := by
  induction d with
  | zero =>
    intro i n need out h1 h2 h3 h4 h5 h6 h7 L h8 h9 h10
    have h00 : n = 0 ∧ need = 0 := by
      rcases L.way.last with e | ⟨y, hy, w⟩
      · exact e
      · exact absurd w (L.no y (by rw [show (i + 1).toNat = 0 from by omega]; simpa using hy))
    obtain ⟨rfl, rfl⟩ := h00
    refine ⟨out, h8, Ev.step (fun k => by rw [impl_best.l0]) (ev_ifn (by omega) (Ev.now _)), Ev.step (fun k => by rw [spec_BestChange.l0]) (ev_ifn (by omega) (Ev.now _)), h10, by omega, by omega⟩
  | succ d ih =>
    intro i n need out h1 h2 h3 h4 h5 h6 h7 L h8 h9 h10
    have h0 : 0 ≤ i := by omega
    have hx := hv _ (rd_mem (l := v) h0 h2)
    obtain ⟨J, S⟩ := lev_step (fun x hx => (hv x hx).1) h0 h2 L
    have hJx : 0 ≤ (J : Int) * rd v i := Int.mul_nonneg (by omega) (by omega)
    have hn0 := S.n0
    have hc0 := S.c0
    obtain ⟨r, hr, a, b, b1, b2, b3⟩ := ih (i - 1) (n - J * rd v i) (need - J) (out.set i.toNat J) (by omega) (by omega) S.n0 (by omega) (by omega) (by omega) (by omega) S.next (by simpa using h8) (by
      intro j hj hj'
      rw [rd_set _ h0 (by omega) hj, if_neg (by omega)]
      exact h9 j hj (by omega)) (nonneg_set h10 (by omega))
    have ez : rd out i = 0 := h9 i h0 (by omega)
    have ei : ((i.toNat : Nat) : Int) = i := by omega
    have d1 := dot_set out v i.toNat J h8 (by omega)
    have d2 := sum_set out i.toNat J (by omega)
    rw [ei, ez, Int.sub_zero] at d1 d2
    refine ⟨r, hr, Ev.step (fun k => by rw [impl_best.l0]) ?_, ?_, b1, by omega, by omega⟩
    · have hd1 : 0 ≤ n / rd v i := Int.ediv_nonneg h3 (by omega)
      have hd2 : n / rd v i ≤ n := Int.ediv_le_self _ h3
      rw [Int.tdiv_eq_ediv_of_nonneg h3, w64 (x := n / rd v i) (by omega) (by omega)]
      refine ev_ifp (by omega) (ev_ifp h0 (ev_ifp h2 (ev_ifn (by omega) ?_)))
      have hmn : mn (n / rd v i) need = min (n / rd v i) need := by unfold mn; omega
      rw [hmn]
      have hJ1 : (J : Int) ≤ n / rd v i := (int_ediv_mul_le hx.1 (by omega)).2 (by omega)
      refine best_inner hv hl h0 h2 h3 h4 hm ht h7 h8 S a (min (n / rd v i) need - J).toNat _ (by omega) ?_ (by omega)
      have h1 : min (n / rd v i) need * rd v i ≤ n / rd v i * rd v i := Int.mul_le_mul_of_nonneg_right (by omega) (by omega)
      have h2' := Int.ediv_mul_le n (b := rd v i) (by omega)
      omega
    · have := bestC_inner hv hl h0 h2 h3 h4 hm htl hT1 hT2 hT3 h6 h7 S h8 b J 0 (by omega)
      rw [show n - ((0 : Nat) : Int) * rd v i = n from by simp] at this
      have e : out.set i.toNat ((0 : Nat) : Int) = out := by
        refine rd_ext (by simp) fun j hj hj' => ?_
        rw [rd_set _ h0 (by omega) hj]
        by_cases e : j = i
        · rw [if_pos e, e, h9 i h0 (by omega)]; rfl
        · rw [if_neg e]
      rw [e] at this
      exact this
end Go.Proofs.Ytkifakepmomgfaa.E
end
section
namespace Go.Proofs.Ytkifakepmomgfaa.E
open Go.RowKit Go.Proofs.Ytkifakepmomgfaa.PA Go.Proofs.YtkifakepmomgfaaW.PrintWords Go.Proofs.YtkifakepmomgfaaW.PrintLast Go.Proofs.YtkifakepmomgfaaW.PrintMore
set_option linter.unusedVariables false
set_option linter.unusedSimpArgs false
theorem bestI_start {v : List Int} {n : Int} (hn : 0 ≤ n) (hn' : n ≤ 4000) (hv : ∀ y ∈ v, 1 ≤ y ∧ y ≤ 1000) (hl : v.length ≤ 20) {t : List (List Int)} (ht : FewTab v n t) (hE : Ev (fun k => impl_fewest.f k v n) t) {need : Int} (hf : rd (rd_L1 t v.length) n = need) {r : List Int}
    (H : Ev (fun k => impl_best.l0 k v n t (List.replicate v.length 0) need (v.length - 1)) r) : Ev (fun k => impl_best.f k v n) r := by
  have hrow := ht.2 v.length (by omega) (by omega)
  have htl := ht.1
  have hrl := hrow.1
  unfold impl_best.f
  rw [hf.symm] at H
  refine ev_bind _ hE (ev_ifp (by omega) (ev_ifp (by omega) (ev_ifp (by omega) (ev_ifp hn (ev_ifp (by omega) ?_)))))
  rw [w64 (by omega) (by omega), show ((v.length : Int)).toNat = v.length from by omega]
  exact H
end Go.Proofs.Ytkifakepmomgfaa.E
end
section
namespace Go.Proofs.Ytkifakepmomgfaa.E
open Go.RowKit Go.Proofs.YtkifakepmomgfaaW.PrintWords Go.Proofs.YtkifakepmomgfaaW.PrintLast Go.Proofs.YtkifakepmomgfaaW.PrintMore
set_option linter.unusedVariables false
set_option linter.unusedSimpArgs false
def TB (B : Int) (v : List Int) (k m : Int) : Prop := 0 ≤ m ∧ m ≤ B ∧ (∀ c, Way v k c → m ≤ c) ∧ (m < B → Way v k m)
theorem TB.end_ {B : Int} {v : List Int} (hv : ∀ x ∈ v, 1 ≤ x) (ha : Asc v) {n best i : Int} {out : List Int} (hn : 1 ≤ n) (h0 : 0 ≤ best) (h1 : best ≤ B) (h2 : best < B → Way v n best) (h3 : ∀ j, 0 ≤ j → j < i → rd v j ≤ n → best ≤ rd out (n - rd v j) + 1)
    (h4 : ∀ k, 0 ≤ k → k < n → ∀ c, Way v k c → rd out k ≤ c ∨ best ≤ c + 1) (hi : ∀ j, i ≤ j → j < v.length → n < rd v j) : TB B v n best := by
  refine ⟨h0, h1, fun c w => ?_, h2⟩
  rcases w.last with ⟨e, _⟩ | ⟨x, hx, w'⟩
  · omega
  · have hp := w'.pos hv
    have hx1 := hv x hx
    obtain ⟨j, hj, hj', rfl⟩ := mem_rd hx
    by_cases hji : j < i
    · have := h3 j hj hji (by omega)
      rcases h4 (n - rd v j) (by omega) (by omega) _ w' with h | h <;> omega
    · have := hi j (by omega) hj'
      omega
theorem Asc.lt {v : List Int} (ha : Asc v) {i : Int} (h0 : 0 ≤ i) (d : Nat) : i + d < v.length → rd v i ≤ rd v (i + d) := by
  induction d with
  | zero => intro _; simp
  | succ d ih =>
    intro h
    have h1 := ih (by omega)
    have h2 := ha (i + (d + 1 : Nat)) (by omega) h
    rw [show i + ((d + 1 : Nat) : Int) - 1 = i + d from by omega] at h2
    omega
theorem Asc.le {v : List Int} (ha : Asc v) {i j : Int} (h0 : 0 ≤ i) (hij : i ≤ j) (hj : j < v.length) : rd v i ≤ rd v j := by
  have := ha.lt h0 (j - i).toNat (by omega)
  rwa [show i + ((j - i).toNat : Int) = j from by omega] at this
theorem TB.fw {v : List Int} {k m : Int} (h1 : (1 : Int) ∈ v) (hk : 0 ≤ k) (h : TB k v k m) : Fw v k m := by
  refine .inr ⟨?_, h.2.2.1⟩
  by_cases e : m < k
  · exact h.2.2.2 e
  · have := Way.times h1 k.toNat
    have e2 : m = k := by have := h.2.1; omega
    rw [e2]
    rwa [show ((k.toNat : Nat) : Int) = k from by omega, Int.mul_one] at this
end Go.Proofs.Ytkifakepmomgfaa.E
end
section
namespace Go.Proofs.Ytkifakepmomgfaa.E
open Go.RowKit Go.Proofs.Ytkifakepmomgfaa.PA Go.Proofs.YtkifakepmomgfaaW.PrintWords Go.Proofs.YtkifakepmomgfaaW.PrintLast Go.Proofs.YtkifakepmomgfaaW.PrintMore
set_option linter.unusedVariables false
set_option linter.unusedSimpArgs false
def CAP26 (n : Int) : Int := n
theorem l1Min_eq (a b : Int) : spec_l1Min.f a b = some (min a b) := by
  unfold spec_l1Min.f
  by_cases h : a < b
  · rw [if_pos h, Int.min_eq_left (by omega)]
  · rw [if_neg h, Int.min_eq_right (by omega)]
theorem tab26_l1 {v : List Int} {most n : Int} {out : List Int} (hl : v.length ≤ 20) (hv : ∀ x ∈ v, 1 ≤ x ∧ x ≤ 1000) (ha : Asc v) (hn : 1 ≤ n) (hn' : n ≤ 4000) (ho : (out.length : Int) = n) (hout : ∀ k, 0 ≤ k → k < n → TB (CAP26 k) v k (rd out k)) (hw : ∀ k m, 0 ≤ k → TB (CAP26 k) v k m → Way v k m ∨ ∀ n, CAP26 n ≤ m + 1) (d : Nat) :
    ∀ (i best : Int), 0 ≤ i → i + d = v.length → 0 ≤ best → best ≤ CAP26 n → (best < CAP26 n → Way v n best) → (∀ j, 0 ≤ j → j < i → rd v j ≤ n → best ≤ rd out (n - rd v j) + 1) →
      ∃ m, TB (CAP26 n) v n m ∧ ∀ r, Ev (fun k => spec_l26Table.l0 k v most (out ++ [m]) (n + 1)) r → Ev (fun k => spec_l26Table.l1 k v most out n best i) r := by
  have hv1 : ∀ x ∈ v, 1 ≤ x := fun x hx => (hv x hx).1
  induction d with
  | zero =>
    intro i best h0 h1 h2 h3 h4 h5
    refine ⟨best, TB.end_ (out := out) (i := i) hv1 ha hn h2 h3 h4 h5 (fun k hk hk' c w => .inl ((hout k hk hk').2.2.1 c w)) (fun j hj hj' => by omega), fun r hr => Ev.step (fun k => by rw [spec_l26Table.l1]) (ev_ifn (by omega) (ev_ifp (by omega) ?_))⟩
    rw [w64 (by omega) (by omega)]; exact hr
  | succ d ih =>
    intro i best h0 h1 h2 h3 h4 h5
    have hx := hv _ (rd_mem (l := v) h0 (by omega))
    by_cases hc : rd v i ≤ n
    · have ht := hout (n - rd v i) (by omega) (by omega)
      have hb : CAP26 (n - rd v i) ≤ 4000 := by unfold CAP26; omega
      have hm : Way v n (rd out (n - rd v i) + 1) ∨ CAP26 n ≤ rd out (n - rd v i) + 1 := by
        rcases hw _ _ (by omega) ht with e | e
        · have := Way.add (rd_mem (l := v) h0 (by omega)) e
          rw [show n - rd v i + rd v i = n from by omega] at this
          exact .inl this
        · exact .inr (e n)
      obtain ⟨m, a, b⟩ := ih (i + 1) (min best (rd out (n - rd v i) + 1)) (by omega) (by omega) (by have := ht.1; omega) (by omega) (by
        intro hlt
        by_cases e : best < rd out (n - rd v i) + 1
        · rw [Int.min_eq_left (by omega)] at hlt ⊢; exact h4 hlt
        · rw [Int.min_eq_right (by omega)] at hlt ⊢
          rcases hm with h | h
          · exact h
          · omega) (by
        intro j hj hj' hjn
        by_cases e : j = i
        · subst e; omega
        · have := h5 j hj (by omega) hjn; omega)
      refine ⟨m, a, fun r hr => Ev.step (fun k => by rw [spec_l26Table.l1]) ?_⟩
      have ht1 := ht.1
      have ht2 := ht.2.1
      simp (disch := omega) only [if_pos, w64, l1Min_eq, Option.bind_some]
      exact b r hr
    · refine ⟨best, TB.end_ (out := out) (i := i) hv1 ha hn h2 h3 h4 h5 (fun k hk hk' c w => .inl ((hout k hk hk').2.2.1 c w)) (fun j hj hj' => by have := ha.le h0 hj hj'; omega), fun r hr => Ev.step (fun k => by rw [spec_l26Table.l1]) (ev_ifp (by omega) (ev_ifp h0 (ev_ifn hc (ev_ifp (by omega) ?_))))⟩
      rw [w64 (by omega) (by omega)]; exact hr
theorem tab26_l0 {v : List Int} {most : Int} (hl : v.length ≤ 20) (hv : ∀ x ∈ v, 1 ≤ x ∧ x ≤ 1000) (ha : Asc v) (hm' : most ≤ 4000) (hw : ∀ k m, 0 ≤ k → TB (CAP26 k) v k m → Way v k m ∨ ∀ n, CAP26 n ≤ m + 1) (d : Nat) : ∀ (n : Int) (out : List Int), 1 ≤ n → n + d = most + 1 → (out.length : Int) = n → (∀ k, 0 ≤ k → k < n → TB (CAP26 k) v k (rd out k)) →
    ∃ t : List Int, (t.length : Int) = most + 1 ∧ (∀ k, 0 ≤ k → k ≤ most → TB (CAP26 k) v k (rd t k)) ∧ Ev (fun k => spec_l26Table.l0 k v most out n) t := by
  induction d with
  | zero =>
    intro n out h1 h2 h3 h4
    exact ⟨out, by omega, fun k hk hk' => h4 k hk (by omega), Ev.step (fun k => by rw [spec_l26Table.l0]) (ev_ifn (by omega) (Ev.now _))⟩
  | succ d ih =>
    intro n out h1 h2 h3 h4
    obtain ⟨m, a, b⟩ := tab26_l1 (most := most) hl hv ha h1 (by omega) h3 h4 hw v.length 0 (CAP26 n) (by omega) (by omega) (by unfold CAP26; omega) (by omega) (by omega) (fun j hj hj' => by omega)
    obtain ⟨t, t1, t2, t3⟩ := ih (n + 1) (out ++ [m]) (by omega) (by omega) (by simp; omega) (by
      intro k hk hk'
      rw [rd_append hk]
      by_cases e : k < out.length
      · rw [if_pos e]; exact h4 k hk (by omega)
      · rw [if_neg e, show k - out.length = 0 from by omega]
        rw [show k = n from by omega]; exact a)
    refine ⟨t, t1, t2, ?_⟩
    refine Ev.step (fun k => by rw [spec_l26Table.l0]) ?_
    exact ev_ifp (by omega) (b t t3)
theorem tab26_ev {v : List Int} {most : Int} (hl : v.length ≤ 20) (hv : ∀ x ∈ v, 1 ≤ x ∧ x ≤ 1000) (ha : Asc v) (h1 : (1 : Int) ∈ v) (hm : 0 ≤ most) (hm' : most ≤ 4000) :
    ∃ t : List Int, (t.length : Int) = most + 1 ∧ (∀ k, 0 ≤ k → k ≤ most → TB (CAP26 k) v k (rd t k)) ∧ Ev (fun k => spec_l26Table.f k v most) t := by
  refine tab26_l0 hl hv ha hm' (fun k m hk h => .inl ((TB.fw h1 hk h).way h.1).1) most.toNat 1 [0] (by omega) (by omega) (by simp) fun k hk hk' => ?_
  obtain rfl : k = 0 := by omega
  refine ⟨by simp [rd], by simp [rd, CAP26], fun c w => ?_, fun _ => by simpa [rd] using Way.zero⟩
  simpa [rd] using (w.pos (fun x hx => (hv x hx).1)).1
end Go.Proofs.Ytkifakepmomgfaa.E
end
section
namespace Go.Proofs.Ytkifakepmomgfaa.E
open Go.RowKit Go.Proofs.Ytkifakepmomgfaa.PA Go.Proofs.YtkifakepmomgfaaW.PrintWords Go.Proofs.YtkifakepmomgfaaW.PrintLast Go.Proofs.YtkifakepmomgfaaW.PrintMore
set_option linter.unusedVariables false
set_option linter.unusedSimpArgs false
theorem AreC.len {v : List Int} (h : AreC v) : 1 ≤ v.length ∧ v.length ≤ 10 := by have := h.1; omega
theorem AreC.vals {v : List Int} (h : AreC v) : ∀ x ∈ v, 1 ≤ x ∧ x ≤ 1000 := fun x hx => by have := h.2.1 x hx; omega
theorem AreC.one {v : List Int} (h : AreC v) : (1 : Int) ∈ v := by
  have := rd_mem (l := v) (i := 0) (by omega) (by have := h.1; omega)
  rwa [h.2.2.2] at this
theorem AreC.pos {v : List Int} (h : AreC v) : ∀ x ∈ v, 1 ≤ x := fun x hx => (h.vals x hx).1
theorem Way.ones {v : List Int} (h : (1 : Int) ∈ v) {k : Int} (hk : 0 ≤ k) : Way v k k := by
  have := Way.times h k.toNat
  rwa [Int.mul_one, show ((k.toNat : Nat) : Int) = k from by omega] at this
theorem asked_ev {v : List Int} (n : Int) (hl : v.length ≤ 1099511627776) : Ev (fun k => spec_l26Asked.f k v n) (decide (AreC v ∧ 0 ≤ n ∧ n ≤ 2000)) := by
  unfold spec_l26Asked.f
  by_cases h : AreC v
  · refine ev_bind _ (areCoinsS_ev hl) (ev_ifp (by simpa using h) ?_)
    simp only [l1In_eq, Option.bind_some]
    exact ev_to (Ev.now _) (by simp [h])
  · exact ev_bind _ (areCoinsS_ev hl) (ev_ifn (by simpa using h) (ev_to (Ev.now _) (by simp [h])))
theorem fewCoins_ev (v : List Int) (n : Int) (hl : v.length ≤ 1099511627776) : ∃ r, Ev (fun k => impl_FewestCoins.f k v n) r ∧ Ev (fun k => spec_FewestCoins.f k v n) r ∧ (AreC v ∧ 0 ≤ n ∧ n ≤ 2000 → Fw v n r) ∧ (¬ (AreC v ∧ 0 ≤ n ∧ n ≤ 2000) → r = -1) := by
  by_cases h : AreC v ∧ 0 ≤ n ∧ n ≤ 2000
  · obtain ⟨h1, h2, h3⟩ := id h
    obtain ⟨t, ht, hE⟩ := fewest_ev (n := n) h2 (by omega) h1.vals (by have := h1.len; omega)
    obtain ⟨tb, hb1, hb2, hE'⟩ := tab26_ev (v := v) (most := n) (by have := h1.len; omega) h1.vals h1.2.2.1 h1.one h2 (by omega)
    have hrow := ht.2 v.length (by omega) (by omega)
    rw [show ((v.length : Int)).toNat = v.length from by omega, List.take_length] at hrow
    have f := hrow.2 n h2 (by omega)
    have e := f.one h1.pos (TB.fw h1.one h2 (hb2 n h2 (by omega)))
    have htl := ht.1
    have hrl := hrow.1
    refine ⟨_, ?_, ?_, fun _ => f, fun h' => absurd h h'⟩
    · unfold impl_FewestCoins.f
      simp only [within_eq, Option.bind_some]
      exact ev_bind _ (areCoinsI_ev hl) (ev_ifp (by simpa using h1) (ev_ifp (by simp; omega) (ev_bind _ hE (ev_ifp (by omega) (ev_ifp (by omega) (ev_ifp h2 (ev_ifp (by omega) (Ev.now _))))))))
    · unfold spec_FewestCoins.f
      rw [e]
      exact ev_bind _ (asked_ev n hl) (ev_ifp (by simpa using h) (ev_bind _ hE' (ev_ifp h2 (ev_ifp (by omega) (Ev.now _)))))
  · refine ⟨-1, ?_, ?_, fun h' => absurd h' h, fun _ => rfl⟩
    · unfold impl_FewestCoins.f
      simp only [within_eq, Option.bind_some]
      by_cases h1 : AreC v
      · exact ev_bind _ (areCoinsI_ev hl) (ev_ifp (by simpa using h1) (ev_ifn (by simp; intro a; exact Int.not_le.1 (fun b => h ⟨h1, a, b⟩)) (Ev.now _)))
      · exact ev_bind _ (areCoinsI_ev hl) (ev_ifn (by simpa using h1) (Ev.now _))
    · unfold spec_FewestCoins.f
      exact ev_bind _ (asked_ev n hl) (ev_ifn (by simpa using h) (Ev.now _))
end Go.Proofs.Ytkifakepmomgfaa.E
end
section
namespace Go.Proofs.Ytkifakepmomgfaa.E
open Go.RowKit Go.Proofs.Ytkifakepmomgfaa.PA Go.Proofs.YtkifakepmomgfaaW.PrintWords Go.Proofs.YtkifakepmomgfaaW.PrintLast Go.Proofs.YtkifakepmomgfaaW.PrintMore
set_option linter.unusedVariables false
set_option linter.unusedSimpArgs false
theorem bestCoins_ev (v : List Int) (n : Int) (hl : v.length ≤ 1099511627776) : ∃ r : List Int, r.length ≤ 10 ∧ Ev (fun k => impl_BestChange.f k v n) r ∧ Ev (fun k => spec_BestChange.f k v n) r ∧ (AreC v ∧ 0 ≤ n ∧ n ≤ 2000 → r.length = v.length ∧ (∀ x ∈ r, 0 ≤ x) ∧ dot r v = n ∧ Fw v n r.sum) := by
  by_cases h : AreC v ∧ 0 ≤ n ∧ n ≤ 2000
  · obtain ⟨h1, h2, h3⟩ := id h
    have hlen := h1.len
    obtain ⟨t, ht, hE⟩ := fewest_ev (n := n) h2 (by omega) h1.vals (by omega)
    obtain ⟨tb, hb1, hb2, hE'⟩ := tab26_ev (v := v) (most := n) (by omega) h1.vals h1.2.2.1 h1.one h2 (by omega)
    have hrow := ht.2 v.length (by omega) (by omega)
    rw [show ((v.length : Int)).toNat = v.length from by omega, List.take_length] at hrow
    have f := hrow.2 n h2 (by omega)
    have fge : 0 ≤ rd (rd_L1 t v.length) n := by
      have := (not_congr (f.neg h1.pos)).2 (fun hno => hno _ (Way.ones h1.one h2)); omega
    have fle := f.le h1.pos h2
    obtain ⟨w, hw⟩ := f.way fge
    have hfw : ∀ k, 0 ≤ k → k ≤ n → Fw v k (rd tb k) := fun k hk hk' => TB.fw h1.one hk (hb2 k hk hk')
    obtain ⟨r, hr, a, b, b1, b2, b3⟩ := bestC_levels (C := 4000) (most := n) (tb := tb) h1.vals (by omega) (by omega) ht hb1 (fun k c hk hk' _ hw hm => (hfw k hk hk').one h1.pos (.inr ⟨hw, hm⟩))
      (fun k hk hk' _ => ((hfw k hk hk').way (hb2 k hk hk').1).1) (fun k hk hk' => ⟨(hb2 k hk hk').1, by have := (hfw k hk hk').le h1.pos hk; omega⟩) v.length (v.length - 1) n _ (List.replicate v.length 0) (by omega) (by omega) h2 (Int.le_refl _) fge (by omega) (by omega)
      ⟨w, hw, fun y hy => by rw [List.drop_of_length_le (by omega)] at hy; simp at hy⟩ (by simp) (fun j hj hj' => rd_rep hj (by omega)) (fun x hx => by have := List.eq_of_mem_replicate hx; omega)
    rw [dot_zeros, Int.zero_add] at b2
    rw [sum_zeros, Int.zero_add] at b3
    refine ⟨r, by omega, ?_, ?_, fun _ => ⟨hr, b1, b2, b3 ▸ f⟩⟩
    · unfold impl_BestChange.f
      simp only [within_eq, Option.bind_some]
      exact ev_bind _ (areCoinsI_ev hl) (ev_ifp (by simpa using h1) (ev_ifp (by simp; omega) (ev_bind _ (bestI_start h2 (by omega) h1.vals (by omega) ht hE rfl a) (Ev.now _))))
    · unfold spec_BestChange.f
      refine ev_bind _ (asked_ev n hl) (ev_ifp (by simpa using h) (ev_bind _ hE' (ev_ifp (by omega) (ev_ifp (by omega) ?_))))
      rw [w64 (by omega) (by omega), show ((v.length : Int)).toNat = v.length from by omega]
      exact b
  · refine ⟨[], by simp, ?_, ?_, fun h' => absurd h' h⟩
    · unfold impl_BestChange.f
      simp only [within_eq, Option.bind_some]
      by_cases h1 : AreC v
      · exact ev_bind _ (areCoinsI_ev hl) (ev_ifp (by simpa using h1) (ev_ifn (by simp; intro a; exact Int.not_le.1 (fun b => h ⟨h1, a, b⟩)) (Ev.now _)))
      · exact ev_bind _ (areCoinsI_ev hl) (ev_ifn (by simpa using h1) (Ev.now _))
    · unfold spec_BestChange.f
      exact ev_bind _ (asked_ev n hl) (ev_ifn (by simpa using h) (Ev.now _))
end Go.Proofs.Ytkifakepmomgfaa.E
end
section
namespace Go.Proofs.Ytkifakepmomgfaa.E
open Go.RowKit Go.Proofs.Ytkifakepmomgfaa.PA Go.Proofs.YtkifakepmomgfaaW.PrintWords Go.Proofs.YtkifakepmomgfaaW.PrintLast Go.Proofs.YtkifakepmomgfaaW.PrintMore
set_option linter.unusedVariables false
set_option linter.unusedSimpArgs false
theorem and255 (a : Int) : 0 ≤ Go.bits .and .i64 a 255 ∧ Go.bits .and .i64 a 255 ≤ 255 := by
  have h : ((BitVec.ofInt 64 a &&& BitVec.ofInt 64 255).toNat : Nat) ≤ 255 := by
    rw [BitVec.toNat_and]
    exact Nat.le_trans Nat.and_le_right (by decide)
  show 0 ≤ IntKind.i64.wrap ((BitVec.ofInt 64 a &&& BitVec.ofInt 64 255).toNat : Int) ∧ IntKind.i64.wrap ((BitVec.ofInt 64 a &&& BitVec.ofInt 64 255).toNat : Int) ≤ 255
  rw [Go.IntKind.wrap_i64]
  omega
def Cu (b : List Int) (i : Int) : Prop := 0 ≤ i ∧ i ≤ b.length ∧ (b.length : Int) ≤ 1099511627776
theorem byte_ok {b : List Int} {i : Int} (h : Int) (c : Cu b i) : ∃ x j g, spec_l1Byte.f b i h = some (x, j, g) ∧ (0 ≤ x ∧ x ≤ 255) ∧ Cu b j := by
  obtain ⟨c1, c2, c3⟩ := c
  unfold spec_l1Byte.f
  by_cases e : i < b.length
  · rw [if_pos e, if_pos c1, w64 (x := i + 1) (by omega) (by omega)]
    exact ⟨_, _, _, rfl, and255 _, by omega, by omega, c3⟩
  · rw [if_neg e]
    exact ⟨_, _, _, rfl, and255 _, c1, c2, c3⟩
theorem below_ok {b : List Int} {i : Int} (h : Int) (c : Cu b i) {n : Int} (hn : 0 < n) : ∃ x j g, spec_l1Below.f b i h n = some (x, j, g) ∧ (0 ≤ x ∧ x < n) ∧ Cu b j := by
  unfold spec_l1Below.f
  rw [if_neg (by omega)]
  by_cases e : n ≤ 256
  · obtain ⟨x, j, g, e1, hx, c'⟩ := byte_ok h c
    rw [if_pos e, e1]
    simp only [Option.bind_some]
    rw [if_neg (by omega), Int.tmod_eq_emod_of_nonneg hx.1]
    exact ⟨_, _, _, rfl, ⟨Int.emod_nonneg _ (by omega), Int.emod_lt_of_pos _ hn⟩, c'⟩
  · obtain ⟨x, j, g, e1, hx, c1⟩ := byte_ok h c
    obtain ⟨y, j2, g2, e2, hy, c2⟩ := byte_ok g c1
    obtain ⟨z, j3, g3, e3, hz, c3⟩ := byte_ok g2 c2
    obtain ⟨u, j4, g4, e4, hu, c4⟩ := byte_ok g3 c3
    rw [if_neg e, e1]
    simp only [Option.bind_some]
    rw [e2]
    simp only [Option.bind_some]
    rw [e3]
    simp only [Option.bind_some]
    rw [e4]
    simp only [Option.bind_some]
    rw [if_neg (by omega), w64 (x := x * 16777216) (by omega) (by omega), w64 (x := y * 65536) (by omega) (by omega), w64 (x := z * 256) (by omega) (by omega), w64 (x := x * 16777216 + y * 65536) (by omega) (by omega), w64 (x := x * 16777216 + y * 65536 + z * 256) (by omega) (by omega), w64 (x := x * 16777216 + y * 65536 + z * 256 + u) (by omega) (by omega), Int.tmod_eq_emod_of_nonneg (by omega)]
    exact ⟨_, _, _, rfl, ⟨Int.emod_nonneg _ (by omega), Int.emod_lt_of_pos _ hn⟩, c4⟩
theorem pick_ok {b : List Int} {i : Int} (h : Int) (c : Cu b i) {l : List Int} (hl : 0 < (l.length : Int)) : ∃ x j g, spec_l1PickInt.f b i h l = some (x, j, g) ∧ x ∈ l ∧ Cu b j := by
  obtain ⟨x, j, g, e, hx, c'⟩ := below_ok h c hl
  unfold spec_l1PickInt.f
  rw [e]
  simp only [Option.bind_some]
  rw [if_pos hx.1, if_pos hx.2]
  exact ⟨_, _, _, rfl, rd_mem hx.1 hx.2, c'⟩
theorem new_l {b : List Int} (hb : (b.length : Int) ≤ 1099511627776) (d : Nat) : ∀ i h : Int, 0 ≤ i → i + d = max i (min 4000 b.length) → ∃ g, Ev (fun k => spec_l1New.l0 k b h i) (b, 0, g) := by
  induction d with
  | zero =>
    intro i h h0 h1
    refine ⟨h, Ev.step (fun k => by rw [spec_l1New.l0]) ?_⟩
    by_cases c : i < b.length
    · exact ev_ifp c (ev_ifn (by omega) (Ev.now _))
    · exact ev_ifn c (Ev.now _)
  | succ d ih =>
    intro i h h0 h1
    obtain ⟨g, hE⟩ := ih (i + 1) (Go.bits .and .i64 (wrap64 ((wrap64 ((wrap64 (h * 131)) + (wrap64 (rd b i)))) + 7)) 1073741823) (by omega) (by omega)
    refine ⟨g, Ev.step (fun k => by rw [spec_l1New.l0]) ?_⟩
    rw [w64 (x := i + 1) (by omega) (by omega)]
    exact ev_ifp (by omega) (ev_ifp (by omega) (ev_ifp h0 hE))
theorem new_ev {b : List Int} (hb : (b.length : Int) ≤ 1099511627776) : ∃ g, Ev (fun k => spec_l1New.f k b) (b, 0, g) ∧ Cu b 0 := by
  obtain ⟨g, hE⟩ := new_l hb (min 4000 b.length) 0 (wrap64 (26583 + (b.length : Int))) (by omega) (by omega)
  exact ⟨g, hE, by omega, by omega, hb⟩
end Go.Proofs.Ytkifakepmomgfaa.E
end
section
namespace Go.Proofs.Ytkifakepmomgfaa.E
open Go.RowKit Go.Proofs.Ytkifakepmomgfaa.PA Go.Proofs.YtkifakepmomgfaaW.PrintWords Go.Proofs.YtkifakepmomgfaaW.PrintLast Go.Proofs.YtkifakepmomgfaaW.PrintMore
set_option linter.unusedVariables false
set_option linter.unusedSimpArgs false
theorem draw26_l {b : List Int} {m : Int} (hm : m ≤ 4) (d : Nat) : ∀ (i j h : Int) (out : List Int), 0 ≤ i → i + d = max i m → (out.length : Int) = i + 1 → Cu b j → i ≤ 4 → ∃ l j' h', l.length ≤ 7 ∧ Cu b j' ∧ Ev (fun k => spec_l26Draw.l0 k out m i b j h) (l, j', h') := by
  induction d with
  | zero =>
    intro i j h out h0 h1 h2 c h3
    obtain ⟨x, j1, g1, e1, hx, c1⟩ := below_ok h c (n := 14) (by omega)
    obtain ⟨y, j2, g2, e2, hy, c2⟩ := pick_ok g1 c1 (l := [0, 500, 501, 1]) (by simp)
    by_cases a : x = 0
    · refine ⟨out ++ [y], j2, g2, by simp; omega, c2, Ev.step (fun k => by rw [spec_l26Draw.l0]) ?_⟩
      refine ev_ifn (by omega) (ev_bind _ (ev_eq e1) (ev_ifp a (ev_bind _ (ev_eq e2) (ev_ifp (by omega) (Ev.now _)))))
    · by_cases a1 : x = 1
      · refine ⟨out.drop 1, j1, g1, by simp; omega, c1, Ev.step (fun k => by rw [spec_l26Draw.l0]) ?_⟩
        exact ev_ifn (by omega) (ev_bind _ (ev_eq e1) (ev_ifn a (ev_ifp a1 (ev_ifp (by omega) (Ev.now _)))))
      · refine ⟨out, j1, g1, by omega, c1, Ev.step (fun k => by rw [spec_l26Draw.l0]) ?_⟩
        exact ev_ifn (by omega) (ev_bind _ (ev_eq e1) (ev_ifn a (ev_ifn a1 (Ev.now _))))
  | succ d ih =>
    intro i j h out h0 h1 h2 c h3
    obtain ⟨x, j1, g1, e1, hx, c1⟩ := below_ok h c (n := 12) (by omega)
    obtain ⟨l, j', h', a1, a2, a3⟩ := ih (i + 1) j1 g1 (out ++ [wrap64 ((wrap64 ((rd out i) + 1)) + x)]) (by omega) (by omega) (by simp; omega) c1 (by omega)
    refine ⟨l, j', h', a1, a2, Ev.step (fun k => by rw [spec_l26Draw.l0]) ?_⟩
    rw [w64 (x := i + 1) (by omega) (by omega)]
    exact ev_ifp (by omega) (ev_ifp h0 (ev_ifp (by omega) (ev_bind _ (ev_eq e1) (ev_ifp (by omega) a3))))
theorem draw26_ev {b : List Int} {j : Int} (h : Int) (c : Cu b j) : ∃ l j' h', l.length ≤ 7 ∧ Cu b j' ∧ Ev (fun k => spec_l26Draw.f k b j h) (l, j', h') := by
  obtain ⟨x, j1, g1, e1, hx, c1⟩ := below_ok h c (n := 5) (by omega)
  obtain ⟨l, j', h', a1, a2, a3⟩ := draw26_l (b := b) (m := x) (by omega) x.toNat 0 j1 g1 [1] (by omega) (by omega) (by simp) c1 (by omega)
  refine ⟨l, j', h', a1, a2, ?_⟩
  unfold spec_l26Draw.f
  exact ev_bind _ (ev_eq e1) a3
theorem drawBest_ev {b : List Int} (hb : (b.length : Int) ≤ 1099511627776) : ∃ l n, l.length ≤ 7 ∧ Ev (fun k => spec_DrawBestChange.f k b) (l, n) := by
  obtain ⟨g, hE, c⟩ := new_ev hb
  obtain ⟨l, j1, g1, a1, c1, a3⟩ := draw26_ev g c
  obtain ⟨x, j2, g2, e2, _, c2⟩ := below_ok g1 c1 (n := 100) (by omega)
  obtain ⟨y, j3, g3, e3, _, c3⟩ := below_ok g2 c2 (n := 60) (by omega)
  obtain ⟨z, j4, g4, e4, _, c4⟩ := pick_ok g3 c3 (l := [x, y, 2000, 2001, (-1)]) (by simp)
  refine ⟨l, z, a1, ?_⟩
  unfold spec_DrawBestChange.f spec_l26Case.f
  exact ev_bind (l, z) (ev_bind _ hE (ev_bind _ a3 (ev_bind _ (ev_eq e2) (ev_bind _ (ev_eq e3) (ev_bind _ (ev_eq e4) (Ev.now _)))))) (Ev.now _)
theorem drawWaste_ev {b : List Int} (hb : (b.length : Int) ≤ 1099511627776) : ∃ l, l.length ≤ 7 ∧ Ev (fun k => spec_DrawFirstWaste.f k b) l := by
  obtain ⟨g, hE, c⟩ := new_ev hb
  obtain ⟨l, j1, g1, a1, c1, a3⟩ := draw26_ev g c
  refine ⟨l, a1, ?_⟩
  unfold spec_DrawFirstWaste.f
  exact ev_bind _ hE (ev_bind _ a3 (Ev.now _))
end Go.Proofs.Ytkifakepmomgfaa.E
end
section
namespace Go.Proofs.Ytkifakepmomgfaa.E
open Go.RowKit Go.Proofs.Ytkifakepmomgfaa.PA Go.Proofs.YtkifakepmomgfaaW.PrintWords Go.Proofs.YtkifakepmomgfaaW.PrintLast Go.Proofs.YtkifakepmomgfaaW.PrintMore
set_option linter.unusedVariables false
set_option linter.unusedSimpArgs false
def gr (l : List Int) : Nat → Int → Int
  | 0, _ => 0
  | i + 1, n => n / rd l i + gr l i (n % rd l i)
theorem greedy_l {l : List Int} (hl : l.length ≤ 10) (hc : ∀ x ∈ l, 1 ≤ x ∧ x ≤ 500) (d : Nat) : ∀ (i n : Int) (out : List Int), i + 1 = d → i < l.length → 0 ≤ n → n ≤ 2000 → out.length = l.length → (∀ j, 0 ≤ j → j ≤ i → rd out j = 0) → (∀ x ∈ out, 0 ≤ x) → rd l 0 = 1 → (i < 0 → n = 0) → ∃ r, r.length = l.length ∧ Ev (fun k => impl_GreedyChange.l0 k l n out i) r ∧ Ev (fun k => spec_GreedyChange.l0 k l n out i) r ∧ (∀ x ∈ r, 0 ≤ x) ∧ dot r l = dot out l + n ∧ r.sum = out.sum + gr l d n := by
  induction d with
  | zero =>
    intro i n out h0 h1 h2 h3 h4 h5 h6 h7 h8
    have hn0 := h8 (by omega)
    refine ⟨out, h4, Ev.step (fun k => by rw [impl_GreedyChange.l0]) (ev_ifn (by omega) (Ev.now _)), Ev.step (fun k => by rw [spec_GreedyChange.l0]) (ev_ifn (by omega) (Ev.now _)), h6, by omega, by simp [gr]⟩
  | succ d ih =>
    intro i n out h0 h1 h2 h3 h4 h5 h6 h7 h8
    obtain ⟨hv1, hv2⟩ := hc _ (rd_mem (l := l) (i := i) (by omega) h1)
    have hm1 := Int.emod_nonneg n (b := rd l i) (by omega)
    have hm2 := Int.emod_lt_of_pos n (b := rd l i) (by omega)
    have hd1 : 0 ≤ n / rd l i := Int.ediv_nonneg h2 (by omega)
    have hd2 : n / rd l i ≤ n := Int.ediv_le_self _ h2
    have hmn : n % rd l i ≤ n := emod_le_self h2 (by omega)
    obtain ⟨r, hr, a, b, b1, b2, b3⟩ := ih (i - 1) (n % rd l i) (out.set i.toNat (n / rd l i)) (by omega) (by omega) hm1 (by omega) (by simpa using h4) (by
      intro j hj hj'
      rw [rd_set _ (by omega) (by omega) hj, if_neg (by omega)]
      exact h5 j hj (by omega)) (nonneg_set h6 hd1) h7 (by
      intro hi
      rw [show i = 0 from by omega, h7]; exact Int.emod_one n)
    have ez : rd out i = 0 := h5 i (by omega) (by omega)
    have ei : ((i.toNat : Nat) : Int) = i := by omega
    have d1 := dot_set out l i.toNat (n / rd l i) h4 (by omega)
    have d2 := sum_set out i.toNat (n / rd l i) (by omega)
    rw [ei, ez, Int.sub_zero] at d1 d2
    have dm := Int.ediv_mul_add_emod n (rd l i)
    have eg : gr l (d + 1) n = n / rd l i + gr l d (n % rd l i) := by rw [gr, show ((d : Nat) : Int) = i from by omega]
    refine ⟨r, hr, Ev.step (fun k => by rw [impl_GreedyChange.l0]) ?_, Ev.step (fun k => by rw [spec_GreedyChange.l0]) ?_, b1, by omega, by omega⟩
    · rw [Int.tmod_eq_emod_of_nonneg h2, Int.tdiv_eq_ediv_of_nonneg h2]
      simp (disch := omega) only [if_pos, if_neg, w64]
      exact a
    · rw [Int.tmod_eq_emod_of_nonneg h2, Int.tdiv_eq_ediv_of_nonneg h2]
      simp (disch := omega) only [if_pos, if_neg, w64]
      exact b
theorem greedy_ev {l : List Int} (n : Int) (hl : l.length ≤ 1099511627776) : ∃ r, r.length ≤ 10 ∧ Ev (fun k => impl_GreedyChange.f k l n) r ∧ Ev (fun k => spec_GreedyChange.f k l n) r ∧ (AreC l ∧ 0 ≤ n ∧ n ≤ 2000 → r.length = l.length ∧ (∀ x ∈ r, 0 ≤ x) ∧ dot r l = n ∧ r.sum = gr l l.length n) := by
  by_cases h : AreC l
  · by_cases hn : 0 ≤ n ∧ n ≤ 2000
    · obtain ⟨h1, h2, h3, h4⟩ := id h
      obtain ⟨r, hr, a, b, b1, b2, b3⟩ := greedy_l (l := l) (by omega) h2 l.length (l.length - 1) n (List.replicate l.length 0) (by omega) (by omega) hn.1 hn.2 (by simp) (fun j hj hj' => rd_rep hj (by omega)) (fun x hx => by have := List.eq_of_mem_replicate hx; omega) h4 (fun h => by omega)
      rw [dot_zeros, Int.zero_add] at b2
      rw [sum_zeros, Int.zero_add] at b3
      refine ⟨r, by omega, ?_, ?_, fun _ => ⟨hr, b1, b2, b3⟩⟩
      · unfold impl_GreedyChange.f
        refine ev_bind _ (areCoinsI_ev hl) (ev_ifp (by simpa using h) ?_)
        simp only [within_eq, Option.bind_some]
        refine Ev.step (fun k => by rw [impl_GreedyChange.j0]) (ev_ifn (by simpa using hn) ?_)
        simp (disch := omega) only [if_pos, w64, Int.toNat_natCast]
        exact a
      · unfold spec_GreedyChange.f spec_l26Asked.f
        refine ev_bind true ?_ (ev_ifp rfl ?_)
        · refine ev_bind _ (areCoinsS_ev hl) (ev_ifp (by simpa using h) ?_)
          simp only [l1In_eq, Option.bind_some]
          exact ev_to (Ev.now _) (by simpa using hn)
        · simp (disch := omega) only [if_pos, w64, Int.toNat_natCast]
          exact b
    · refine ⟨[], by simp, ?_, ?_, fun h' => absurd h'.2 hn⟩
      · unfold impl_GreedyChange.f
        refine ev_bind _ (areCoinsI_ev hl) (ev_ifp (by simpa using h) ?_)
        simp only [within_eq, Option.bind_some]
        exact Ev.step (fun k => by rw [impl_GreedyChange.j0]) (ev_ifp (nd_t hn) (Ev.now _))
      · unfold spec_GreedyChange.f spec_l26Asked.f
        refine ev_bind false ?_ (ev_ifn (by simp) (Ev.now _))
        refine ev_bind _ (areCoinsS_ev hl) (ev_ifp (by simpa using h) ?_)
        simp only [l1In_eq, Option.bind_some]
        exact ev_to (Ev.now _) (decide_eq_false hn)
  · refine ⟨[], by simp, ?_, ?_, fun h' => absurd h'.1 h⟩
    · unfold impl_GreedyChange.f
      refine ev_bind _ (areCoinsI_ev hl) (ev_ifn (by simpa using h) ?_)
      exact Ev.step (fun k => by rw [impl_GreedyChange.j0]) (ev_ifp rfl (Ev.now _))
    · unfold spec_GreedyChange.f spec_l26Asked.f
      refine ev_bind false ?_ (ev_ifn (by simp) (Ev.now _))
      exact ev_bind _ (areCoinsS_ev hl) (ev_ifn (by simpa using h) (Ev.now _))
end Go.Proofs.Ytkifakepmomgfaa.E
end
section
namespace Go.Proofs.Ytkifakepmomgfaa.E
open Go.RowKit Go.Proofs.Ytkifakepmomgfaa.PA Go.Proofs.YtkifakepmomgfaaW.PrintWords Go.Proofs.YtkifakepmomgfaaW.PrintLast Go.Proofs.YtkifakepmomgfaaW.PrintMore
set_option linter.unusedVariables false
set_option linter.unusedSimpArgs false
theorem lawTotal_l {l : List Int} (hl : l.length ≤ 1048576) (hb : ∀ x ∈ l, -1099511627776 ≤ x ∧ x ≤ 1099511627776) (d : Nat) : ∀ i : Int, 0 ≤ i → i + d = l.length → Ev (fun k => laws_total.l0 k l (l.take i.toNat).sum i) l.sum := by
  induction d with
  | zero =>
    intro i h0 h1
    refine Ev.step (fun k => by rw [laws_total.l0]) ?_
    rw [List.take_of_length_le (by omega)]
    exact ev_ifn (by omega) (Ev.now _)
  | succ d ih =>
    intro i h0 h1
    have b := sum_bound (l := l.take i.toNat) (B := 1099511627776) (by omega) (fun x hx => hb x (List.mem_of_mem_take hx))
    have c := hb _ (rd_mem (l := l) h0 (by omega))
    have hlen : ((l.take i.toNat).length : Int) ≤ 1048576 := by rw [List.length_take]; omega
    have := ih (i + 1) (by omega) (by omega)
    rw [take_rd h0 (by omega), List.sum_append] at this
    refine Ev.step (fun k => by rw [laws_total.l0]) ?_
    rw [w64 (x := (l.take i.toNat).sum + rd l i) (by omega) (by omega), w64 (x := i + 1) (by omega) (by omega)]
    refine ev_ifp (by omega) (ev_ifp h0 ?_)
    simpa using this
theorem lawTotal_ev {l : List Int} (hl : l.length ≤ 1048576) (hb : ∀ x ∈ l, -1099511627776 ≤ x ∧ x ≤ 1099511627776) : Ev (fun k => laws_total.f k l) l.sum := by
  unfold laws_total.f
  have := lawTotal_l hl hb l.length 0 (by omega) (by omega)
  simpa using this
end Go.Proofs.Ytkifakepmomgfaa.E
end
section
namespace Go.Proofs.Ytkifakepmomgfaa.E
open Go.RowKit Go.Proofs.Ytkifakepmomgfaa.PA Go.Proofs.YtkifakepmomgfaaW.PrintWords Go.Proofs.YtkifakepmomgfaaW.PrintLast Go.Proofs.YtkifakepmomgfaaW.PrintMore
set_option linter.unusedVariables false
set_option linter.unusedSimpArgs false
def AreSt (l : List Int) : Prop := (1 ≤ (l.length : Int) ∧ (l.length : Int) ≤ 6) ∧ (∀ x ∈ l, 1 ≤ x ∧ x ≤ 60) ∧ Asc l
noncomputable instance (l : List Int) : Decidable (AreSt l) := Classical.propDecidable _
end Go.Proofs.Ytkifakepmomgfaa.E
end
section
namespace Go.Proofs.Ytkifakepmomgfaa.E
open Go.RowKit Go.Proofs.YtkifakepmomgfaaW.PrintWords Go.Proofs.YtkifakepmomgfaaW.PrintLast Go.Proofs.YtkifakepmomgfaaW.PrintMore
set_option linter.unusedVariables false
set_option linter.unusedSimpArgs false
theorem AreSt.len {v : List Int} (h : AreSt v) : 1 ≤ v.length ∧ v.length ≤ 6 := by have := h.1; omega
theorem AreSt.vals {v : List Int} (h : AreSt v) : ∀ x ∈ v, 1 ≤ x ∧ x ≤ 1000 := fun x hx => by have := h.2.1 x hx; omega
theorem AreSt.pos {v : List Int} (h : AreSt v) : ∀ x ∈ v, 1 ≤ x := fun x hx => (h.2.1 x hx).1
theorem Way.most {v : List Int} {B : Int} (h : ∀ x ∈ v, x ≤ B) {k c : Int} (w : Way v k c) : k ≤ c * B := by
  induction w with
  | zero => simp
  | @add x k c hx _ ih => have := h x hx; rw [Int.add_mul]; omega
end Go.Proofs.Ytkifakepmomgfaa.E
end
section
namespace Go.Proofs.Ytkifakepmomgfaa.E
open Go.RowKit Go.Proofs.Ytkifakepmomgfaa.PA Go.Proofs.YtkifakepmomgfaaW.PrintWords Go.Proofs.YtkifakepmomgfaaW.PrintLast Go.Proofs.YtkifakepmomgfaaW.PrintMore
set_option linter.unusedVariables false
set_option linter.unusedSimpArgs false
theorem l12Sum_l {l : List Int} (hl : l.length ≤ 1048576) (hb : ∀ x ∈ l, -1099511627776 ≤ x ∧ x ≤ 1099511627776) (d : Nat) : ∀ i : Int, 0 ≤ i → i + d = l.length → Ev (fun k => spec_l12Sum.l0 k l (l.take i.toNat).sum i) l.sum := by
  induction d with
  | zero =>
    intro i h0 h1
    refine Ev.step (fun k => by rw [spec_l12Sum.l0]) ?_
    rw [List.take_of_length_le (by omega)]
    exact ev_ifn (by omega) (Ev.now _)
  | succ d ih =>
    intro i h0 h1
    have b := sum_bound (l := l.take i.toNat) (B := 1099511627776) (by omega) (fun x hx => hb x (List.mem_of_mem_take hx))
    have c := hb _ (rd_mem (l := l) h0 (by omega))
    have hlen : ((l.take i.toNat).length : Int) ≤ 1048576 := by rw [List.length_take]; omega
    have := ih (i + 1) (by omega) (by omega)
    rw [take_rd h0 (by omega), List.sum_append] at this
    refine Ev.step (fun k => by rw [spec_l12Sum.l0]) ?_
    rw [w64 (x := (l.take i.toNat).sum + rd l i) (by omega) (by omega), w64 (x := i + 1) (by omega) (by omega)]
    refine ev_ifp (by omega) (ev_ifp h0 ?_)
    simpa using this
theorem l12Sum_ev {l : List Int} (hl : l.length ≤ 1048576) (hb : ∀ x ∈ l, -1099511627776 ≤ x ∧ x ≤ 1099511627776) : Ev (fun k => spec_l12Sum.f k l) l.sum := by
  unfold spec_l12Sum.f
  have := l12Sum_l hl hb l.length 0 (by omega) (by omega)
  simpa using this
end Go.Proofs.Ytkifakepmomgfaa.E
end
section
namespace Go.Proofs.Ytkifakepmomgfaa.E
open Go.RowKit Go.Proofs.Ytkifakepmomgfaa.PA Go.Proofs.YtkifakepmomgfaaW.PrintWords Go.Proofs.YtkifakepmomgfaaW.PrintLast Go.Proofs.YtkifakepmomgfaaW.PrintMore
set_option linter.unusedVariables false
set_option linter.unusedSimpArgs false
theorem total_l {l : List Int} (hl : l.length ≤ 1048576) (hb : ∀ x ∈ l, -1099511627776 ≤ x ∧ x ≤ 1099511627776) (d : Nat) : ∀ i : Int, 0 ≤ i → i + d = l.length → Ev (fun k => impl_total.l0 k (l.take i.toNat).sum l l.length i) l.sum := by
  induction d with
  | zero =>
    intro i h0 h1
    refine Ev.step (fun k => by rw [impl_total.l0]) ?_
    rw [List.take_of_length_le (by omega)]
    exact ev_ifn (by omega) (Ev.now _)
  | succ d ih =>
    intro i h0 h1
    have b := sum_bound (l := l.take i.toNat) (B := 1099511627776) (by omega) (fun x hx => hb x (List.mem_of_mem_take hx))
    have c := hb _ (rd_mem (l := l) h0 (by omega))
    have hlen : ((l.take i.toNat).length : Int) ≤ 1048576 := by rw [List.length_take]; omega
    have := ih (i + 1) (by omega) (by omega)
    rw [take_rd h0 (by omega), List.sum_append] at this
    refine Ev.step (fun k => by rw [impl_total.l0]) ?_
    rw [w64 (x := (l.take i.toNat).sum + rd l i) (by omega) (by omega), w64 (x := i + 1) (by omega) (by omega)]
    refine ev_ifp (by omega) (ev_ifp h0 (ev_ifp (by omega) ?_))
    simpa using this
theorem total_ev {l : List Int} (hl : l.length ≤ 1048576) (hb : ∀ x ∈ l, -1099511627776 ≤ x ∧ x ≤ 1099511627776) : Ev (fun k => impl_total.f k l) l.sum := by
  unfold impl_total.f
  have := total_l hl hb l.length 0 (by omega) (by omega)
  simpa using this
end Go.Proofs.Ytkifakepmomgfaa.E
end
section
namespace Go.Proofs.Ytkifakepmomgfaa.E
open Go.RowKit Go.Proofs.YtkifakepmomgfaaW.PrintWords Go.Proofs.YtkifakepmomgfaaW.PrintLast Go.Proofs.YtkifakepmomgfaaW.PrintMore
set_option linter.unusedVariables false
set_option linter.unusedSimpArgs false
theorem Way.of_dot : ∀ {r v u : List Int}, r.length = v.length → (∀ x ∈ r, 0 ≤ x) → (∀ x ∈ v, x ∈ u) → Way u (dot r v) r.sum
  | [], [], _, _, _, _ => by simpa [dot] using Way.zero
  | [], _ :: _, _, h, _, _ => by simp at h
  | _ :: _, [], _, h, _, _ => by simp at h
  | a :: r, b :: v, u, e, h, k => by
    have h1 := Way.of_dot (r := r) (v := v) (u := u) (by simpa using e) (fun x hx => h x (by simp [hx])) (fun x hx => k x (by simp [hx]))
    have h2 := Way.times (k b (by simp)) a.toNat
    have h3 := h a (by simp)
    rw [show ((a.toNat : Nat) : Int) = a from by omega] at h2
    simpa [dot] using h2.plus h1
end Go.Proofs.Ytkifakepmomgfaa.E
end
section
namespace Go.Proofs.Ytkifakepmomgfaa.E
open Go.RowKit Go.Proofs.Ytkifakepmomgfaa.PA Go.Proofs.YtkifakepmomgfaaW.PrintWords Go.Proofs.YtkifakepmomgfaaW.PrintLast Go.Proofs.YtkifakepmomgfaaW.PrintMore
set_option linter.unusedVariables false
set_option linter.unusedSimpArgs false
theorem gr_zero (l : List Int) (i : Nat) : gr l i 0 = 0 := by
  induction i with
  | zero => rfl
  | succ i ih => simp [gr, ih]
theorem AreC.at {v : List Int} (h : AreC v) {i : Int} (h0 : 0 ≤ i) (hi : i < v.length) : 1 ≤ rd v i ∧ rd v i ≤ 500 := h.2.1 _ (rd_mem h0 hi)
def Opt (v : List Int) (n : Int) : Prop := ∀ c, Way v n c → gr v v.length n ≤ c
theorem opt_tb {v : List Int} (hc : AreC v) {n m : Int} (hn : 0 ≤ n) (h : Fw v n m) (hm : 0 ≤ m) : ¬ gr v v.length n > m ↔ Opt v n := by
  have w := h.way hm
  exact ⟨fun h1 c hw => by have := w.2 c hw; omega, fun h1 => by have := h1 _ w.1; omega⟩
theorem gr_most {v : List Int} (hc : AreC v) (hl : 2 ≤ v.length) : Opt v (rd v (v.length - 1) + rd v (v.length - 2)) := by
  intro c w
  have t := hc.at (i := v.length - 1) (by omega) (by omega)
  have s := hc.at (i := v.length - 2) (by omega) (by omega)
  have lt := hc.2.2.1 (v.length - 1) (by omega) (by omega)
  rw [show (v.length : Int) - 1 - 1 = v.length - 2 from by omega] at lt
  have hm := w.most (B := rd v (v.length - 1)) (fun x hx => by
    obtain ⟨j, hj, hj', rfl⟩ := mem_rd hx
    exact hc.2.2.1.le hj (by omega) (by omega))
  have h2 : gr v v.length (rd v (v.length - 1) + rd v (v.length - 2)) = 2 := by
    obtain ⟨n, hn⟩ : ∃ n, v.length = n + 2 := ⟨v.length - 2, by omega⟩
    rw [hn, gr, gr, show ((n + 1 : Nat) : Int) = v.length - 1 from by omega, show ((n : Nat) : Int) = v.length - 2 from by omega, show (((n + 2 : Nat) : Int) - 1) = v.length - 1 from by omega, show (((n + 2 : Nat) : Int) - 2) = v.length - 2 from by omega]
    have e1 : (rd v (v.length - 1) + rd v (v.length - 2)) / rd v (v.length - 1) = 1 := by
      rw [Int.add_comm, Int.add_ediv_of_dvd_right (Int.dvd_refl _), Int.ediv_self (by omega), Int.ediv_eq_zero_of_lt (by omega) (by omega)]; rfl
    have e2 : (rd v (v.length - 1) + rd v (v.length - 2)) % rd v (v.length - 1) = rd v (v.length - 2) := by
      rw [Int.add_comm, Int.add_emod_right, Int.emod_eq_of_lt (by omega) (by omega)]
    rw [e1, e2, Int.ediv_self (by omega), Int.emod_self, gr_zero]; rfl
  rw [h2]
  by_cases h : c ≤ 1
  · have : c * rd v (v.length - 1) ≤ 1 * rd v (v.length - 1) := Int.mul_le_mul_of_nonneg_right h (by omega)
    omega
  · omega
theorem gr_one {v : List Int} (hc : AreC v) (hl : v.length = 1) (n : Int) : Opt v n := by
  intro c w
  have hm := w.most (B := 1) (fun x hx => by
    obtain ⟨j, hj, hj', rfl⟩ := mem_rd hx
    rw [show j = 0 from by omega, hc.2.2.2]; omega)
  rw [hl, gr, gr, show rd v ((0 : Nat) : Int) = 1 from hc.2.2.2]
  omega
theorem gr_top {v : List Int} (hc : AreC v) {n : Int} (hn : rd v (v.length - 1) ≤ n) : gr v v.length n = 1 + gr v v.length (n - rd v (v.length - 1)) := by
  have hl := hc.1
  have t := hc.at (i := v.length - 1) (by omega) (by omega)
  obtain ⟨m, hm⟩ : ∃ m, v.length = m + 1 := ⟨v.length - 1, by omega⟩
  have e : ((m : Nat) : Int) = v.length - 1 := by omega
  rw [hm, gr, gr, show (((m + 1 : Nat) : Int) - 1) = (m : Int) from by omega]
  rw [← e] at t hn
  have e1 : n / rd v m = (n - rd v m) / rd v m + 1 := by
    have := Int.add_ediv_of_dvd_right (a := n - rd v m) (b := rd v m) (c := rd v m) (Int.dvd_refl _)
    rw [Int.ediv_self (by omega)] at this
    rw [← this]; congr 1; omega
  have e2 : n % rd v m = (n - rd v m) % rd v m := by
    have := Int.add_emod_right (n - rd v m) (rd v m)
    rw [← this]; congr 1; omega
  rw [e1, e2]; omega
theorem opt_all {v : List Int} (hc : AreC v) (hl : 2 ≤ v.length) (hw : ∀ n, 0 ≤ n → n ≤ 2000 → Way v n (gr v v.length n)) (h : ∀ n, 0 ≤ n → n ≤ rd v (v.length - 1) + rd v (v.length - 2) → Opt v n) (N : Nat) (hN : N ≤ 2000) : Opt v N := by
  induction N using Nat.strongRecOn with
  | _ N ih =>
    have t := hc.at (i := v.length - 1) (by omega) (by omega)
    by_cases hs : (N : Int) ≤ rd v (v.length - 1) + rd v (v.length - 2)
    · exact h _ (by omega) hs
    have s := hc.at (i := v.length - 2) (by omega) (by omega)
    have ih' : ∀ m : Int, 0 ≤ m → m < N → Opt v m := fun m h0 h1 => by
      have := ih m.toNat (by omega) (by omega)
      rwa [show ((m.toNat : Nat) : Int) = m from by omega] at this
    intro c w
    rcases w.last with ⟨e, _⟩ | ⟨x, hx, w'⟩
    · omega
    · have hx1 := hc.2.1 x hx
      have hwp := w'.pos (fun x hx => (hc.2.1 x hx).1)
      have g0 := gr_top hc (n := N) (by omega)
      obtain ⟨j, hj, hj', rfl⟩ := mem_rd hx
      have a := ih' ((N : Int) - rd v j) (by omega) (by omega) _ w'
      by_cases ej : j = v.length - 1
      · rw [ej] at a; omega
      · have le := hc.2.2.1.le (i := j) (j := v.length - 2) hj (by omega) (by omega)
        have g1 := gr_top hc (n := N - rd v j) (by omega)
        have w2 := Way.add hx (hw (N - rd v j - rd v (v.length - 1)) (by omega) (by omega))
        rw [show (N : Int) - rd v j - rd v (v.length - 1) + rd v j = N - rd v (v.length - 1) from by omega] at w2
        have b := ih' ((N : Int) - rd v (v.length - 1)) (by omega) (by omega) _ w2
        omega
theorem greed_sums {v : List Int} (hc : AreC v) {n : Int} (h0 : 0 ≤ n) (h1 : n ≤ 2000) : ∃ r : List Int, r.length ≤ 10 ∧ Ev (fun k => impl_GreedyChange.f k v n) r ∧ Ev (fun k => spec_GreedyChange.f k v n) r ∧ Ev (fun k => impl_total.f k r) (gr v v.length n) ∧ Ev (fun k => spec_l12Sum.f k r) (gr v v.length n) ∧ Way v n (gr v v.length n) := by
  have hlen := hc.len
  obtain ⟨r, hr, a, b, H⟩ := greedy_ev (l := v) n (by omega)
  obtain ⟨h2, h3, h4, h5⟩ := H ⟨hc, h0, h1⟩
  have hd := sum_le_dot h2 h3 hc.pos
  have hb : ∀ x ∈ r, -1099511627776 ≤ x ∧ x ≤ 1099511627776 := fun x hx => by
    have := h3 x hx; have := mem_le_sum h3 x hx; omega
  refine ⟨r, hr, a, b, ?_, ?_, ?_⟩
  · rw [← h5]; exact total_ev (by omega) hb
  · rw [← h5]; exact l12Sum_ev (by omega) hb
  · have := Way.of_dot h2 h3 (fun x hx => hx : ∀ x ∈ v, x ∈ v)
    rwa [h4, h5] at this
theorem opt_upto {v : List Int} (hc : AreC v) (hl : 2 ≤ v.length) (h : ∀ n, 0 ≤ n → n ≤ rd v (v.length - 1) + rd v (v.length - 2) → Opt v n) (N : Nat) (hN : N ≤ 2000) : Opt v N :=
  opt_all hc hl (fun n h0 h1 => by obtain ⟨_, _, _, _, _, _, w⟩ := greed_sums hc h0 h1; exact w) h N hN
theorem wasteS_none {v : List Int} (hc : AreC v) {most : Int} (hm : most ≤ 1000) {tb : List Int} (htl : (tb.length : Int) = most + 1) (ht : ∀ k, 0 ≤ k → k ≤ most → TB (CAP26 k) v k (rd tb k)) (d : Nat) :
    ∀ n : Int, 0 ≤ n → n + d = most + 1 → (∀ m, n ≤ m → m ≤ most → Opt v m) → Ev (fun k => spec_FirstWaste.l0 k v most tb n) (0, false) := by
  induction d with
  | zero =>
    intro n h0 h1 h2
    exact Ev.step (fun k => by rw [spec_FirstWaste.l0]) (ev_ifn (by omega) (Ev.now _))
  | succ d ih =>
    intro n h0 h1 h2
    obtain ⟨r, _, _, b, _, c, _⟩ := greed_sums hc h0 (by omega)
    have f := TB.fw hc.one h0 (ht n h0 (by omega))
    have g := (opt_tb hc h0 f (ht n h0 (by omega)).1).2 (h2 n (Int.le_refl _) (by omega))
    refine Ev.step (fun k => by rw [spec_FirstWaste.l0]) ?_
    rw [w64 (by omega) (by omega)]
    exact ev_ifp (by omega) (ev_bind _ b (ev_bind _ c (ev_ifp h0 (ev_ifp (by omega) (ev_ifn g (ih (n + 1) (by omega) (by omega) (fun m hm hm' => h2 m (by omega) hm')))))))
theorem waste_l {v : List Int} (hc : AreC v) {most : Int} (hm : most ≤ 1000) {tb row : List Int} (htl : (tb.length : Int) = most + 1) (ht : ∀ k, 0 ≤ k → k ≤ most → TB (CAP26 k) v k (rd tb k)) (hr : RowOk v most row) (hM : Opt v most) (d : Nat) :
    ∀ n : Int, 0 ≤ n → n + d = most → ∃ res : Int × Bool, Ev (fun k => impl_FirstWaste.l0 k v row most n) res ∧ Ev (fun k => spec_FirstWaste.l0 k v most tb n) res ∧ (res.2 = true → 0 ≤ res.1 ∧ res.1 ≤ 1000 ∧ ¬ Opt v res.1) ∧ (res.2 = false → res.1 = 0 ∧ ∀ m, n ≤ m → m ≤ most → Opt v m) := by
  induction d with
  | zero =>
    intro n h0 h1
    obtain rfl : n = most := by omega
    refine ⟨(0, false), Ev.step (fun k => by rw [impl_FirstWaste.l0]) (ev_ifn (by omega) (Ev.now _)), wasteS_none hc hm htl ht 1 n h0 (by omega) (fun m h h' => by rw [show m = n from by omega]; exact hM), fun h => (by cases h), fun _ => ⟨rfl, fun m h h' => by rw [show m = n from by omega]; exact hM⟩⟩
  | succ d ih =>
    intro n h0 h1
    obtain ⟨r, _, a, b, a', b', _⟩ := greed_sums hc h0 (by omega)
    have T := ht n h0 (by omega)
    have f := TB.fw hc.one h0 T
    have e : rd row n = rd tb n := (hr.2 n h0 (by omega)).one hc.pos f
    have o := opt_tb hc h0 f T.1
    have hrl := hr.1
    by_cases hg : gr v v.length n > rd tb n
    · refine ⟨(n, true), ?_, ?_, fun _ => ⟨h0, by show n ≤ 1000; omega, fun ho => (o.2 ho) hg⟩, fun h => (by cases h)⟩
      · refine Ev.step (fun k => by rw [impl_FirstWaste.l0]) ?_
        exact ev_ifp (by omega) (ev_bind _ a (ev_bind _ a' (ev_ifp h0 (ev_ifp (by omega) (ev_ifp (by omega) (Ev.now _))))))
      · refine Ev.step (fun k => by rw [spec_FirstWaste.l0]) ?_
        exact ev_ifp (by omega) (ev_bind _ b (ev_bind _ b' (ev_ifp h0 (ev_ifp (by omega) (ev_ifp hg (Ev.now _))))))
    · obtain ⟨res, c1, c2, c3, c4⟩ := ih (n + 1) (by omega) (by omega)
      refine ⟨res, ?_, ?_, c3, fun h => ⟨(c4 h).1, fun m hm hm' => ?_⟩⟩
      · refine Ev.step (fun k => by rw [impl_FirstWaste.l0]) ?_
        rw [w64 (by omega) (by omega)]
        exact ev_ifp (by omega) (ev_bind _ a (ev_bind _ a' (ev_ifp h0 (ev_ifp (by omega) (ev_ifn (by omega) c1)))))
      · refine Ev.step (fun k => by rw [spec_FirstWaste.l0]) ?_
        rw [w64 (by omega) (by omega)]
        exact ev_ifp (by omega) (ev_bind _ b (ev_bind _ b' (ev_ifp h0 (ev_ifp (by omega) (ev_ifn hg c2)))))
      · by_cases em : m = n
        · rw [em]; exact o.1 hg
        · exact (c4 h).2 m (by omega) hm'
theorem firstWaste_ev (v : List Int) (hl : v.length ≤ 1099511627776) : ∃ res : Int × Bool, Ev (fun k => impl_FirstWaste.f k v) res ∧ Ev (fun k => spec_FirstWaste.f k v) res ∧ (¬ AreC v → res = (0, false)) ∧ (AreC v → (res.2 = true → 0 ≤ res.1 ∧ res.1 ≤ 1000 ∧ ¬ Opt v res.1) ∧ (res.2 = false → ∀ m, 0 ≤ m → m ≤ 2000 → Opt v m)) := by
  by_cases hc : AreC v
  · have hlen := hc.len
    have t := hc.at (i := v.length - 1) (by omega) (by omega)
    by_cases h2 : v.length < 2
    · obtain ⟨tb, hb1, hb2, hE'⟩ := tab26_ev (v := v) (most := rd v (v.length - 1)) (by omega) hc.vals hc.2.2.1 hc.one (by omega) (by omega)
      refine ⟨(0, false), ?_, ?_, fun _ => rfl, fun _ => ⟨fun h => (by cases h), fun _ m _ _ => gr_one hc (by omega) m⟩⟩
      · unfold impl_FirstWaste.f
        refine ev_bind _ (areCoinsI_ev hl) (ev_ifp (by simpa using hc) ?_)
        refine Ev.step (fun k => by rw [impl_FirstWaste.j0]) (ev_ifp (by simp; omega) (Ev.now _))
      · unfold spec_FirstWaste.f
        refine ev_bind _ (areCoinsS_ev hl) (ev_ifp (by simpa using hc) ?_)
        rw [w64 (x := (v.length : Int) - 1) (by omega) (by omega)]
        refine ev_ifp (by omega) (ev_ifp (by omega) (ev_ifn (by omega) ?_))
        refine Ev.step (fun k => by rw [spec_FirstWaste.j0]) ?_
        exact ev_bind _ hE' (wasteS_none hc (by omega) hb1 hb2 (rd v (v.length - 1) + 1).toNat 0 (by omega) (by omega) (fun m _ _ => gr_one hc (by omega) m))
    · have s := hc.at (i := v.length - 2) (by omega) (by omega)
      obtain ⟨most, hmo⟩ : ∃ most, most = rd v (v.length - 1) + rd v (v.length - 2) := ⟨_, rfl⟩
      obtain ⟨tb, hb1, hb2, hE'⟩ := tab26_ev (v := v) (most := most) (by omega) hc.vals hc.2.2.1 hc.one (by omega) (by omega)
      obtain ⟨tt, ht, hE⟩ := fewest_ev (n := most) (by omega) (by omega) hc.vals (by omega)
      have hrow := ht.2 v.length (by omega) (by omega)
      rw [show ((v.length : Int)).toNat = v.length from by omega, List.take_length] at hrow
      have htl := ht.1
      obtain ⟨res, a, b, c1, c2⟩ := waste_l hc (most := most) (by omega) hb1 hb2 hrow (by rw [hmo]; exact gr_most hc (by omega)) most.toNat 0 (by omega) (by omega)
      refine ⟨res, ?_, ?_, fun h => absurd hc h, fun _ => ⟨c1, fun h m h0 hm => ?_⟩⟩
      · unfold impl_FirstWaste.f
        refine ev_bind _ (areCoinsI_ev hl) (ev_ifp (by simpa using hc) ?_)
        refine Ev.step (fun k => by rw [impl_FirstWaste.j0]) ?_
        rw [w64 (x := (v.length : Int) - 1) (by omega) (by omega), w64 (x := (v.length : Int) - 2) (by omega) (by omega), ← hmo, w64 (x := most) (by omega) (by omega)]
        exact ev_ifn (by simp; omega) (ev_ifp (by omega) (ev_ifp (by omega) (ev_ifp (by omega) (ev_ifp (by omega) (ev_bind _ hE (ev_ifp (by omega) (ev_ifp (by omega) a)))))))
      · unfold spec_FirstWaste.f
        refine ev_bind _ (areCoinsS_ev hl) (ev_ifp (by simpa using hc) ?_)
        rw [w64 (x := (v.length : Int) - 1) (by omega) (by omega), w64 (x := (v.length : Int) - 2) (by omega) (by omega), ← hmo, w64 (x := most) (by omega) (by omega)]
        refine ev_ifp (by omega) (ev_ifp (by omega) (ev_ifp (by omega) (ev_ifp (by omega) (ev_ifp (by omega) ?_))))
        refine Ev.step (fun k => by rw [spec_FirstWaste.j0]) ?_
        exact ev_bind _ hE' b
      · have ho := (c2 h).2
        by_cases hs : m ≤ most
        · exact ho m h0 hs
        · have := opt_upto hc (by omega) (fun n h0 h1 => by rw [← hmo] at h1; exact ho n h0 h1) m.toNat (by omega)
          rwa [show ((m.toNat : Nat) : Int) = m from by omega] at this
  · refine ⟨(0, false), ?_, ?_, fun _ => rfl, fun h => absurd h hc⟩
    · unfold impl_FirstWaste.f
      refine ev_bind _ (areCoinsI_ev hl) (ev_ifn (by simpa using hc) ?_)
      exact Ev.step (fun k => by rw [impl_FirstWaste.j0]) (ev_ifp rfl (Ev.now _))
    · unfold spec_FirstWaste.f
      exact ev_bind _ (areCoinsS_ev hl) (ev_ifn (by simpa using hc) (Ev.now _))
theorem orderly_ev (v : List Int) (hl : v.length ≤ 1099511627776) : ∃ (w : Int × Bool) (r : Bool), Ev (fun k => impl_FirstWaste.f k v) w ∧ Ev (fun k => impl_IsOrderly.f k v) r ∧ Ev (fun k => spec_IsOrderly.f k v) r ∧ (r = true ↔ AreC v ∧ w.2 = false) := by
  obtain ⟨w, a, b, _⟩ := firstWaste_ev v hl
  by_cases hc : AreC v
  · refine ⟨w, !w.2, a, ?_, ?_, by simp [hc]⟩
    · unfold impl_IsOrderly.f
      exact ev_bind _ a (ev_bind _ (areCoinsI_ev hl) (ev_ifp (by simpa using hc) (Ev.now _)))
    · unfold spec_IsOrderly.f
      exact ev_bind _ b (ev_bind _ (areCoinsS_ev hl) (ev_ifp (by simpa using hc) (Ev.now _)))
  · refine ⟨w, false, a, ?_, ?_, by simp [hc]⟩
    · unfold impl_IsOrderly.f
      exact ev_bind _ a (ev_bind _ (areCoinsI_ev hl) (ev_ifn (by simpa using hc) (Ev.now _)))
    · unfold spec_IsOrderly.f
      exact ev_bind _ b (ev_bind _ (areCoinsS_ev hl) (ev_ifn (by simpa using hc) (Ev.now _)))
end Go.Proofs.Ytkifakepmomgfaa.E
end
section
namespace Go.Proofs.Ytkifakepmomgfaa.E
open Go.RowKit Go.Proofs.Ytkifakepmomgfaa.PA Go.Proofs.YtkifakepmomgfaaW.PrintWords Go.Proofs.YtkifakepmomgfaaW.PrintLast Go.Proofs.YtkifakepmomgfaaW.PrintMore
set_option linter.unusedVariables false
set_option linter.unusedSimpArgs false
theorem same_l {l : List Int} (hl : l.length ≤ 1099511627776) (d : Nat) : ∀ i : Int, 0 ≤ i → i + d = l.length → Ev (fun k => laws_sameInts.l0 k l l i) true := by
  induction d with
  | zero => intro i h0 h1; exact Ev.step (fun k => by rw [laws_sameInts.l0]) (ev_ifn (by omega) (Ev.now _))
  | succ d ih =>
    intro i h0 h1
    refine Ev.step (fun k => by rw [laws_sameInts.l0]) ?_
    rw [w64 (by omega) (by omega)]
    exact ev_ifp (by omega) (ev_ifp h0 (ev_ifp (by omega) (ev_ifp rfl (ih (i + 1) (by omega) (by omega)))))
theorem same_ev {l : List Int} (hl : l.length ≤ 1099511627776) : Ev (fun k => laws_sameInts.f k l l) true := by
  unfold laws_sameInts.f
  exact ev_ifp rfl (same_l hl l.length 0 (by omega) (by omega))
theorem dot_append : ∀ {r v r' v' : List Int}, r.length = v.length → dot (r ++ r') (v ++ v') = dot r v + dot r' v'
  | [], [], _, _, _ => by simp [dot]
  | [], _ :: _, _, _, h => by simp at h
  | _ :: _, [], _, _, h => by simp at h
  | a :: r, b :: v, r', v', h => by
    have := dot_append (r := r) (v := v) (r' := r') (v' := v') (by simpa using h)
    simp only [List.cons_append, dot, this]; omega
theorem worth_l {r v : List Int} (hl : r.length ≤ 1048576) (e : r.length = v.length) (hr : ∀ x ∈ r, 0 ≤ x) (hv : ∀ x ∈ v, 1 ≤ x) (hd : dot r v ≤ 1099511627776) (d : Nat) : ∀ i : Int, 0 ≤ i → i + d = r.length → Ev (fun k => laws_worth.l0 k r v (dot (r.take i.toNat) (v.take i.toNat)) i) (dot r v) := by
  induction d with
  | zero =>
    intro i h0 h1
    refine Ev.step (fun k => by rw [laws_worth.l0]) ?_
    rw [List.take_of_length_le (by omega), List.take_of_length_le (by omega)]
    exact ev_ifn (by omega) (Ev.now _)
  | succ d ih =>
    intro i h0 h1
    have t1 := take_rd (l := r) h0 (by omega)
    have t2 := take_rd (l := v) h0 (by omega)
    have el : (r.take i.toNat).length = (v.take i.toNat).length := by rw [List.length_take, List.length_take]; omega
    have el' : (r.take (i + 1).toNat).length = (v.take (i + 1).toNat).length := by rw [List.length_take, List.length_take]; omega
    have s1 : dot (r.take (i + 1).toNat) (v.take (i + 1).toNat) = dot (r.take i.toNat) (v.take i.toNat) + rd r i * rd v i := by
      rw [t1, t2, dot_append el]; simp [dot]
    have s2 : dot r v = dot (r.take (i + 1).toNat) (v.take (i + 1).toNat) + dot (r.drop (i + 1).toNat) (v.drop (i + 1).toNat) := by
      rw [← dot_append el', List.take_append_drop, List.take_append_drop]
    have n1 := dot_nonneg (r := r.take i.toNat) (v := v.take i.toNat) (fun x hx => hr x (List.mem_of_mem_take hx)) (fun x hx => hv x (List.mem_of_mem_take hx))
    have n2 := dot_nonneg (r := r.drop (i + 1).toNat) (v := v.drop (i + 1).toNat) (fun x hx => hr x (List.mem_of_mem_drop hx)) (fun x hx => hv x (List.mem_of_mem_drop hx))
    have n3 : 0 ≤ rd r i * rd v i := Int.mul_nonneg (hr _ (rd_mem h0 (by omega))) (by have := hv _ (rd_mem (l := v) h0 (by omega)); omega)
    have := ih (i + 1) (by omega) (by omega)
    rw [s1] at this
    refine Ev.step (fun k => by rw [laws_worth.l0]) ?_
    rw [w64 (x := rd r i * rd v i) (by omega) (by omega), w64 (x := dot (r.take i.toNat) (v.take i.toNat) + rd r i * rd v i) (by omega) (by omega), w64 (x := i + 1) (by omega) (by omega)]
    exact ev_ifp (by omega) (ev_ifp (by omega) (ev_ifp h0 this))
theorem worth_ev {r v : List Int} (hl : r.length ≤ 1048576) (e : r.length = v.length) (hr : ∀ x ∈ r, 0 ≤ x) (hv : ∀ x ∈ v, 1 ≤ x) (hd : dot r v ≤ 1099511627776) : Ev (fun k => laws_worth.f k r v) (dot r v) := by
  unfold laws_worth.f
  have := worth_l hl e hr hv hd r.length 0 (by omega) (by omega)
  simpa [dot] using this
end Go.Proofs.Ytkifakepmomgfaa.E
end
section
namespace Go.Proofs.Ytkifakepmomgfaa.Pure
open Go.RowKit Go.Proofs.Ytkifakepmomgfaa.PA Go.Proofs.Ytkifakepmomgfaa.E Go.Proofs.YtkifakepmomgfaaW.PrintWords Go.Proofs.YtkifakepmomgfaaW.PrintLast Go.Proofs.YtkifakepmomgfaaW.PrintMore
set_option linter.unusedVariables false
set_option linter.unusedSimpArgs false
theorem change_tail {l : List Int} {n few : Int} {gs : List Int} (hl : l.length ≤ 7) (hf : Ev (fun k => spec_FewestCoins.f k l n) few) (hg : Ev (fun k => spec_GreedyChange.f k l n) gs) : Ev (fun k => laws_FnChange.j2 k l gs few false) true := by
  obtain ⟨few', f1, f2, f3, f4⟩ := fewCoins_ev l n (by omega)
  obtain rfl := ev_one hf f2
  obtain ⟨gs', g1, g2, g3, g4⟩ := greedy_ev (l := l) n (by omega)
  obtain rfl := ev_one hg g3
  obtain ⟨w, w1, w2, w3, w4⟩ := firstWaste_ev l (by omega)
  refine Ev.step (fun k => by rw [laws_FnChange.j2]) ?_
  refine ev_ifn (by simp) (ev_bind _ w2 ?_)
  by_cases a : few < 0
  · exact ev_ifp a (Ev.now _)
  · by_cases hA : AreC l ∧ 0 ≤ n ∧ n ≤ 2000
    · by_cases bw : w.2 = true
      · exact ev_ifn a (ev_ifp bw (Ev.now _))
      · have F := f3 hA
        obtain ⟨k1, k2, k3, k4⟩ := g4 hA
        have sd := sum_le_dot k1 k2 hA.1.pos
        have O := (w4 hA.1).2 (by simpa using bw) n hA.2.1 hA.2.2
        have W := F.way (by omega)
        have le1 := O _ W.1
        have le2 := W.2 _ (by have := Way.of_dot k1 k2 (fun x hx => hx : ∀ x ∈ l, x ∈ l); rwa [k3] at this)
        refine ev_ifn a (ev_ifn bw (ev_bind _ (lawTotal_ev (l := gs) (by omega) (fun x hx => by have := k2 x hx; have := mem_le_sum k2 x hx; omega)) (ev_to (Ev.now _) ?_)))
        simp only [beq_iff_eq]; omega
    · exact absurd (f4 hA) (by omega)
theorem change_mid {l c : List Int} {n few x : Int} {gs : List Int} {w : Bool} (hl : l.length ≤ 7) (hc : c.length ≤ 7) (hf : Ev (fun k => spec_FewestCoins.f k l n) few) (hg : Ev (fun k => spec_GreedyChange.f k l n) gs) (hw : Ev (fun k => impl_FirstWaste.f k c) (x, w)) : Ev (fun k => laws_FnChange.j1 k l gs few c x w false) true := by
  obtain ⟨w', w1, w2, w3, w4⟩ := firstWaste_ev c (by omega)
  obtain rfl := ev_one hw w1
  obtain ⟨w', o, o1, o2, o3, o4⟩ := orderly_ev c (by omega)
  obtain rfl := ev_one hw o1
  refine Ev.step (fun k => by rw [laws_FnChange.j1]) ?_
  refine ev_ifn (by simp) ?_
  by_cases bw : w = true
  · subst bw
    have ho : o = false := by
      cases o with
      | false => rfl
      | true => have := (o4.1 rfl).2; simp at this
    subst ho
    by_cases hA : AreC c
    · obtain ⟨h0, h1, hN⟩ := (w4 hA).1 rfl
      simp only at h0 h1 hN
      obtain ⟨r, r1, r2, r3, r4⟩ := greedy_ev (l := c) x (by omega)
      obtain ⟨q, q1, q2, q3, q4⟩ := fewCoins_ev c x (by omega)
      have hq := q3 ⟨hA, h0, by omega⟩
      obtain ⟨k1, k2, k3, k4⟩ := r4 ⟨hA, h0, by omega⟩
      have sd := sum_le_dot k1 k2 hA.pos
      have hlt : ¬ gr c c.length x ≤ q := fun hle => hN fun c' hw' => by
        have h00 : 0 ≤ q := by
          have := (not_congr (hq.neg hA.pos)).2 (fun hno => hno _ hw'); omega
        have := (hq.way h00).2 _ hw'
        omega
      refine ev_ifp rfl (ev_bind _ o2 (ev_ifn (by simp) (ev_bind _ r3 (ev_bind _ (lawTotal_ev (l := r) (by omega) (fun x hx => by have := k2 x hx; have := mem_le_sum k2 x hx; omega)) (ev_bind _ q2 ?_)))))
      rw [k4, decide_eq_false hlt]
      exact change_tail hl hf hg
    · have := w3 hA; simp at this
  · exact ev_ifn bw (change_tail hl hf hg)
theorem FnChange : laws_FnChange.Pure := by
  intro l0 h1 h2 h3
  apply Ev.rounds
  unfold laws_FnChange.f laws_big.f
  simp only [Option.bind_some]
  by_cases h : (l0.length : Int) > 1048576
  · exact ev_ifp (by simpa using h) (Ev.now _)
  obtain ⟨l, n, hl, dl⟩ := drawBest_ev (b := l0) (by omega)
  obtain ⟨c, hc, dc⟩ := drawWaste_ev (b := l0) (by omega)
  obtain ⟨r, r1, r2, r3, r4⟩ := bestCoins_ev l n (by omega)
  obtain ⟨gs, g1, g2, g3, g4⟩ := greedy_ev (l := l) n (by omega)
  obtain ⟨few, f1, f2, f3, f4⟩ := fewCoins_ev l n (by omega)
  obtain ⟨⟨x, w⟩, w1, w2, _⟩ := firstWaste_ev c (by omega)
  obtain ⟨_, o, _, o2, o3, _⟩ := orderly_ev c (by omega)
  refine ev_ifn (by simpa using h) (ev_bind _ dl (ev_bind _ r2 (ev_bind _ g2 (ev_bind _ f1 (ev_bind _ dc (ev_bind _ w1 (ev_bind _ w2 (ev_bind _ r3 (ev_bind _ (same_ev (l := r) (by omega)) (ev_ifp rfl (ev_bind _ g3 (ev_bind _ (same_ev (l := gs) (by omega)) (ev_ifp rfl (ev_bind _ f2 (ev_ifp rfl (ev_ifp rfl (ev_ifn (by simp) (ev_bind _ o2 (ev_bind _ o3 (ev_ifn (by simp) (ev_bind _ (areCoinsI_ev (by omega)) (ev_bind _ (areCoinsS_ev (by omega)) ?_))))))))))))))))))))))
  refine Ev.step (fun k => by rw [laws_FnChange.j0]) ?_
  refine ev_ifn (by simp) ?_
  by_cases a : few ≥ 0
  · by_cases hA : AreC l ∧ 0 ≤ n ∧ n ≤ 2000
    · have F := f3 hA
      have W := F.way a
      obtain ⟨b1, b2, b3, b4⟩ := r4 hA
      obtain ⟨k1, k2, k3, k4⟩ := g4 hA
      have e := b4.one hA.1.pos F
      have sd := sum_le_dot b1 b2 hA.1.pos
      have sd' := sum_le_dot k1 k2 hA.1.pos
      have le2 := W.2 _ (by have := Way.of_dot k1 k2 (fun x hx => hx : ∀ x ∈ l, x ∈ l); rwa [k3] at this)
      refine ev_ifp a (ev_bind _ (worth_ev (r := r) (v := l) (by omega) b1 b2 hA.1.pos (by omega)) (ev_ifp b3 (ev_bind _ (worth_ev (r := gs) (v := l) (by omega) k1 k2 hA.1.pos (by omega)) (ev_ifp k3 (ev_bind _ (lawTotal_ev (l := r) (by omega) (fun x hx => by have := b2 x hx; have := mem_le_sum b2 x hx; omega)) (ev_ifp e (ev_bind _ (lawTotal_ev (l := gs) (by omega) (fun x hx => by have := k2 x hx; have := mem_le_sum k2 x hx; omega)) ?_)))))))
      rw [decide_eq_false (show ¬ gs.sum < few by omega)]
      exact change_mid hl hc f2 g3 w1
    · exact absurd (f4 hA) (by omega)
  · exact ev_ifn a (change_mid hl hc f2 g3 w1)
end Go.Proofs.Ytkifakepmomgfaa.Pure
end
section
namespace Go.Proofs.YtkifakepmomgfaaW.PrintWords
open Go.ChangeShapes Go.WideShapes
theorem sized_ints {H : Type} {enc : TypeId × Value → H} {P : Program} {W : World} {base : Nat} {spare : Nat → Bool} {held : Bool} {t e : TypeId} {k : IntKind} {a : Option Addr} {len cap : Nat} {d : DataW H} {ps : List MemPlace} {ts : List TypeId} {ds : List (DataW H)} {j : Nat}
    (hsz : (DataW.weightsEach P ts ds).all (· ≤ reachBytes) = true) (ht : ts[j]? = some t) (hd : ds[j]? = some d) (hu : P.underlying t = some (.slice e)) (he : P.underlying e = some (.int k)) (hc : P.cellsOf e = 1) {B : Nat} (hB : P.bytesOf e = B)
    (h : DataW.Trod enc P W base spare held t (.slice a len cap) d ps) : len * B ≤ 140737488351232 := by
  obtain ⟨fuel, hf⟩ := h
  rcases open_ints hu he hc hf with ⟨hcs, _⟩ | ⟨x, l, c, zs, hcs, _, hl, _, hz, hx, _, _⟩
  · simp [Value.cells] at hcs
    obtain ⟨rfl, rfl, rfl⟩ := hcs
    simp
  · simp [Value.cells] at hcs
    obtain ⟨rfl, rfl, rfl⟩ := hcs
    obtain ⟨hx, _⟩ := Prod.mk.inj hx
    subst hx
    have z := sized_slice hsz ht hd hu
    rw [hB] at z
    have hl2 : len ≤ zs.length := by
      rw [hz]
      split
      · exact hl
      · exact Nat.le_refl _
    have h1 : (lits (H := H) k (zs.take len)).length + (lits (H := H) k (zs.drop len)).length = zs.length := by
      simp [lits]
      omega
    rw [h1] at z
    exact Nat.le_trans (Nat.mul_le_mul_right _ hl2) z
end Go.Proofs.YtkifakepmomgfaaW.PrintWords
end
