-- Bundled by shake.py from this session's printed and written texts; Lean checks it.
import Derived.Test.YtjodlkbhaofkkaaGreatZFnTreex9
section
namespace Go.Proofs.YtjodlkbhaofkkaaGreat.E
open Go.RowKit Go.Proofs.YtjodlkbhaofkkaaGreat.PA Go.Proofs.YtjodlkbhaofkkaaGreatW.PrintWords Go.Proofs.YtjodlkbhaofkkaaGreatW.PrintLast Go.Proofs.YtjodlkbhaofkkaaGreatW.PrintMore
set_option linter.unusedVariables false
set_option linter.unusedSimpArgs false
theorem n4 (n lo hi : Int) : fv.f n lo hi = some (decide (lo ≤ n ∧ n ≤ hi)) := by
 unfold fv.f; by_cases h : n ≥ lo
 · rw [if_pos h]; simp [h]
 · rw [if_neg h]; simp [show ¬ lo ≤ n from h]
theorem lG (n lo hi : Int) : dG.f n lo hi = some (decide (lo ≤ n ∧ n ≤ hi)) := n4 n lo hi
theorem F6 {l : List Int} {lo hi : Int} (hl : l.length ≤ 1099511627776) (d : Nat) : ∀ (i : Int), 0 ≤ i → i + d = l.length → Ev (fun k => a6.l0 k lo hi l l.length i) (decide (∀ x ∈ l.drop i.toNat, lo ≤ x ∧ x ≤ hi)) := by
 induction d with
 | zero =>
  intro i h0 h1
  refine Ev.step (fun k => by rw [a6.l0]) ?_
  simp (disch := omega) only [if_neg]
  refine en (Ev.now _) ?_
  rw [List.drop_of_length_le (by omega)]; simp
 | succ d ih =>
  intro i h0 h1
  refine Ev.step (fun k => by rw [a6.l0]) ?_
  simp (disch := omega) only [if_pos, iw, lG, Option.bind_some]
  rw [jj h0 (by omega)]
  by_cases h : lo ≤ rd l i ∧ rd l i ≤ hi
  · refine ab (by simpa using h) (en (ih (i + 1) (by omega) (by omega)) ?_)
    simp [h]
  · refine ax (by simpa using h) (en (Ev.now _) ?_)
    simp only [List.mem_cons, forall_eq_or_imp, h, false_and, decide_false]
theorem mq {l : List Int} (lo hi : Int) (hl : l.length ≤ 1099511627776) : Ev (fun k => a6.f k l lo hi) (decide (∀ x ∈ l, lo ≤ x ∧ x ≤ hi)) :=
 en (F6 hl l.length 0 (by omega) (by omega)) (by simp)
def AJ (l : List Int) : Prop := ∀ i : Int, 0 < i → i < l.length → rd l (i - 1) < rd l i
noncomputable instance (l : List Int) : Decidable (AJ l) := Classical.propDecidable _
theorem aak {l : List Int} (hl : l.length ≤ 1099511627776) (d : Nat) : ∀ (i : Int), 0 < i → i + d = max 1 l.length → (∀ j, 0 < j → j < i → rd l (j - 1) < rd l j) → Ev (fun k => bb.l0 k l i) (decide (AJ l)) ∧ Ev (fun k => bf.l0 k l i) (decide (AJ l)) := by
 induction d with
 | zero =>
  intro i h0 h1 h2
  have ha : AJ l := fun j hj hj' => h2 j hj (by omega)
  constructor
  · refine Ev.step (fun k => by rw [bb.l0]) ?_
    simp (disch := omega) only [if_neg]
    exact en (Ev.now _) (by simp [ha])
  · refine Ev.step (fun k => by rw [bf.l0]) ?_
    simp (disch := omega) only [if_neg]
    exact en (Ev.now _) (by simp [ha])
 | succ d ih =>
  intro i h0 h1 h2
  by_cases h : rd l (i - 1) < rd l i
  · obtain ⟨a, b⟩ := ih (i + 1) (by omega) (by omega) (fun j hj hj' => by
     by_cases e : j = i
     · subst e; exact h
     · exact h2 j hj (by omega))
    constructor
    · refine Ev.step (fun k => by rw [bb.l0]) ?_
      simp (disch := omega) only [if_pos, if_neg, iw]
      exact a
    · refine Ev.step (fun k => by rw [bf.l0]) ?_
      simp (disch := omega) only [if_pos, if_neg, iw]
      exact b
  · have hn : ¬ AJ l := fun ha => h (ha i h0 (by omega))
    constructor
    · refine Ev.step (fun k => by rw [bb.l0]) ?_
      simp (disch := omega) only [if_pos, iw]
      exact en (Ev.now _) (by simp [hn])
    · refine Ev.step (fun k => by rw [bf.l0]) ?_
      simp (disch := omega) only [if_pos, iw]
      exact en (Ev.now _) (by simp [hn])
theorem DB {l : List Int} (hl : l.length ≤ 1099511627776) : Ev (fun k => bb.f k l) (decide (AJ l)) :=
 (aak hl (l.length - 1) 1 (by omega) (by omega) (fun j h h' => by omega)).1
theorem DC {l : List Int} (hl : l.length ≤ 1099511627776) : Ev (fun k => bf.f k l) (decide (AJ l)) :=
 (aak hl (l.length - 1) 1 (by omega) (by omega) (fun j h h' => by omega)).2
theorem S_ (a : Int) : 0 ≤ Go.bits .and .i64 a 255 ∧ Go.bits .and .i64 a 255 ≤ 255 := by
 have h : ((BitVec.ofInt 64 a &&& BitVec.ofInt 64 255).toNat : Nat) ≤ 255 := by
  rw [BitVec.toNat_and]
  exact Nat.le_trans Nat.and_le_right (by decide)
 show 0 ≤ IntKind.i64.wrap ((BitVec.ofInt 64 a &&& BitVec.ofInt 64 255).toNat : Int) ∧ IntKind.i64.wrap ((BitVec.ofInt 64 a &&& BitVec.ofInt 64 255).toNat : Int) ≤ 255
 rw [Go.IntKind.wrap_i64]
 omega
def Cu (b : List Int) (i : Int) : Prop := 0 ≤ i ∧ i ≤ b.length ∧ (b.length : Int) ≤ 1099511627776
theorem vp {b : List Int} {i : Int} (h : Int) (c : Cu b i) : ∃ x j g, fM.f b i h = some (x, j, g) ∧ (0 ≤ x ∧ x ≤ 255) ∧ Cu b j := by
 obtain ⟨c1, c2, c3⟩ := c
 unfold fM.f
 by_cases e : i < b.length
 · rw [if_pos e, if_pos c1, iw (x := i + 1) (by omega) (by omega)]
   exact ⟨_, _, _, rfl, S_ _, by omega, by omega, c3⟩
 · rw [if_neg e]
   exact ⟨_, _, _, rfl, S_ _, c1, c2, c3⟩
theorem mr {b : List Int} {i : Int} (h : Int) (c : Cu b i) {n : Int} (hn : 0 < n) : ∃ x j g, bS.f b i h n = some (x, j, g) ∧ (0 ≤ x ∧ x < n) ∧ Cu b j := by
 unfold bS.f
 rw [if_neg (by omega)]
 by_cases e : n ≤ 256
 · obtain ⟨x, j, g, e1, hx, c'⟩ := vp h c
   rw [if_pos e, e1]
   simp only [Option.bind_some]
   rw [if_neg (by omega), Int.tmod_eq_emod_of_nonneg hx.1]
   exact ⟨_, _, _, rfl, ⟨Int.emod_nonneg _ (by omega), Int.emod_lt_of_pos _ hn⟩, c'⟩
 · obtain ⟨x, j, g, e1, hx, c1⟩ := vp h c
   obtain ⟨y, j2, g2, e2, hy, c2⟩ := vp g c1
   obtain ⟨z, j3, g3, e3, hz, c3⟩ := vp g2 c2
   obtain ⟨u, j4, g4, e4, hu, c4⟩ := vp g3 c3
   rw [if_neg e, e1]
   simp only [Option.bind_some]
   rw [e2]
   simp only [Option.bind_some]
   rw [e3]
   simp only [Option.bind_some]
   rw [e4]
   simp only [Option.bind_some]
   rw [if_neg (by omega), iw (x := x * 16777216) (by omega) (by omega), iw (x := y * 65536) (by omega) (by omega), iw (x := z * 256) (by omega) (by omega), iw (x := x * 16777216 + y * 65536) (by omega) (by omega), iw (x := x * 16777216 + y * 65536 + z * 256) (by omega) (by omega), iw (x := x * 16777216 + y * 65536 + z * 256 + u) (by omega) (by omega), Int.tmod_eq_emod_of_nonneg (by omega)]
   exact ⟨_, _, _, rfl, ⟨Int.emod_nonneg _ (by omega), Int.emod_lt_of_pos _ hn⟩, c4⟩
theorem yo {b : List Int} {i : Int} (h : Int) (c : Cu b i) {l : List Int} (hl : 0 < (l.length : Int)) : ∃ x j g, dQ.f b i h l = some (x, j, g) ∧ x ∈ l ∧ Cu b j := by
 obtain ⟨x, j, g, e, hx, c'⟩ := mr h c hl
 unfold dQ.f
 rw [e]
 simp only [Option.bind_some]
 rw [if_pos hx.1, if_pos hx.2]
 exact ⟨_, _, _, rfl, jh hx.1 hx.2, c'⟩
theorem anB {b : List Int} (hb : (b.length : Int) ≤ 1099511627776) (d : Nat) : ∀ i h : Int, 0 ≤ i → i + d = max i (min 4000 b.length) → ∃ g, Ev (fun k => eh.l0 k b h i) (b, 0, g) := by
 induction d with
 | zero =>
  intro i h h0 h1
  refine ⟨h, Ev.step (fun k => by rw [eh.l0]) ?_⟩
  by_cases c : i < b.length
  · exact ab c (ax (by omega) (Ev.now _))
  · exact ax c (Ev.now _)
 | succ d ih =>
  intro i h h0 h1
  obtain ⟨g, hE⟩ := ih (i + 1) (Go.bits .and .i64 (wrap64 ((wrap64 ((wrap64 (h * 131)) + (wrap64 (rd b i)))) + 7)) 1073741823) (by omega) (by omega)
  refine ⟨g, Ev.step (fun k => by rw [eh.l0]) ?_⟩
  rw [iw (x := i + 1) (by omega) (by omega)]
  exact ab (by omega) (ab (by omega) (ab h0 hE))
theorem Ar {b : List Int} (hb : (b.length : Int) ≤ 1099511627776) : ∃ g, Ev (fun k => eh.f k b) (b, 0, g) ∧ Cu b 0 := by
 obtain ⟨g, hE⟩ := anB hb (min 4000 b.length) 0 (wrap64 (26583 + (b.length : Int))) (by omega) (by omega)
 exact ⟨g, hE, by omega, by omega, hb⟩
end Go.Proofs.YtjodlkbhaofkkaaGreat.E
end
section
namespace Go.Proofs.YtjodlkbhaofkkaaGreat.E
open Go.RowKit Go.Proofs.YtjodlkbhaofkkaaGreatW.PrintWords Go.Proofs.YtjodlkbhaofkkaaGreatW.PrintLast Go.Proofs.YtjodlkbhaofkkaaGreatW.PrintMore
set_option linter.unusedVariables false
set_option linter.unusedSimpArgs false
inductive Way (v : List Int) : Int → Int → Prop
 | zero : Way v 0 0
 | add {x k c : Int} : x ∈ v → Way v k c → Way v (k + x) (c + 1)
theorem Way.mono {v u : List Int} (h : ∀ x ∈ v, x ∈ u) {k c : Int} (w : Way v k c) : Way u k c := by
 induction w with
 | zero => exact .zero
 | add hx _ ih => exact .add (h _ hx) ih
theorem Way.pos {v : List Int} (h : ∀ x ∈ v, 1 ≤ x) {k c : Int} (w : Way v k c) : 0 ≤ c ∧ c ≤ k := by
 induction w with
 | zero => omega
 | add hx _ ih => have := h _ hx; omega
theorem Way.plus {v : List Int} {k c : Int} (w : Way v k c) {k' c' : Int} (w' : Way v k' c') : Way v (k + k') (c + c') := by
 induction w' with
 | zero => simpa using w
 | @add x k1 c1 hx _ ih =>
  rw [← Int.add_assoc, ← Int.add_assoc]
  exact .add hx ih
theorem Way.times {v : List Int} {x : Int} (hx : x ∈ v) (j : Nat) : Way v (j * x) j := by
 induction j with
 | zero => simpa using Way.zero
 | succ j ih =>
  have := Way.add hx ih
  rw [show ((j + 1 : Nat) : Int) * x = j * x + x from by rw [Int.natCast_add, Int.add_mul]; simp]
  exact this
theorem Way.part {v u : List Int} {k c : Int} (w : Way v k c) : Way u k c ∨ ∃ y ∈ v, y ∉ u ∧ Way v (k - y) (c - 1) := by
 induction w with
 | zero => exact .inl .zero
 | @add x k c hx hw ih =>
  by_cases hu : x ∈ u
  · rcases ih with h | ⟨y, hy, hyu, h⟩
    · exact .inl (.add hu h)
    · refine .inr ⟨y, hy, hyu, ?_⟩
      have := Way.add hx h
      rwa [show k - y + x = k + x - y from by omega, show c - 1 + 1 = c + 1 - 1 from by omega] at this
  · exact .inr ⟨x, hx, hu, by rwa [show k + x - x = k from by omega, show c + 1 - 1 = c from by omega]⟩
theorem Way.last {v : List Int} {k c : Int} (w : Way v k c) : (k = 0 ∧ c = 0) ∨ ∃ x ∈ v, Way v (k - x) (c - 1) := by
 cases w with
 | zero => exact .inl ⟨rfl, rfl⟩
 | @add x k c hx hw => exact .inr ⟨x, hx, by rwa [show k + x - x = k from by omega, show c + 1 - 1 = c from by omega]⟩
theorem Way.split {u : List Int} {x : Int} {k c : Int} (w : Way (u ++ [x]) k c) : ∃ j : Nat, Way u (k - j * x) (c - j) := by
 induction w with
 | zero => exact ⟨0, by simpa using Way.zero⟩
 | @add y k c hy _ ih =>
  obtain ⟨j, h⟩ := ih
  rcases List.mem_append.1 hy with hu | hx
  · refine ⟨j, ?_⟩
    have := Way.add hu h
    rwa [show k - j * x + y = k + y - j * x from by omega, show c - (j : Int) + 1 = c + 1 - j from by omega] at this
  · obtain rfl : y = x := by simpa using hx
    refine ⟨j + 1, ?_⟩
    rw [show ((j + 1 : Nat) : Int) * y = j * y + y from by rw [Int.natCast_add, Int.add_mul]; simp, show k + y - (j * y + y) = k - j * y from by omega, show c + 1 - ((j + 1 : Nat) : Int) = c - j from by omega]
    exact h
def Fw (v : List Int) (k m : Int) : Prop := (m = -1 ∧ ∀ c, ¬ Way v k c) ∨ (Way v k m ∧ ∀ c, Way v k c → m ≤ c)
theorem Fw.one {v : List Int} (hv : ∀ x ∈ v, 1 ≤ x) {k m m' : Int} (h : Fw v k m) (h' : Fw v k m') : m = m' := by
 rcases h with ⟨h1, h2⟩ | ⟨h1, h2⟩ <;> rcases h' with ⟨h3, h4⟩ | ⟨h3, h4⟩
 · omega
 · exact absurd h3 (h2 _)
 · exact absurd h1 (h4 _)
 · have := h2 _ h3; have := h4 _ h1; omega
theorem Fw.neg {v : List Int} (hv : ∀ x ∈ v, 1 ≤ x) {k m : Int} (h : Fw v k m) : m < 0 ↔ ∀ c, ¬ Way v k c := by
 rcases h with ⟨h1, h2⟩ | ⟨h1, h2⟩
 · exact ⟨fun _ => h2, fun _ => by omega⟩
 · have := h1.pos hv
   exact ⟨fun h => by omega, fun h => absurd h1 (h _)⟩
theorem Fw.ge {v : List Int} (hv : ∀ x ∈ v, 1 ≤ x) {k m : Int} (h : Fw v k m) : -1 ≤ m := by
 rcases h with ⟨h1, h2⟩ | ⟨h1, h2⟩
 · omega
 · have := h1.pos hv; omega
theorem Fw.le {v : List Int} (hv : ∀ x ∈ v, 1 ≤ x) {k m : Int} (h : Fw v k m) (hk : 0 ≤ k) : m ≤ k := by
 rcases h with ⟨h1, h2⟩ | ⟨h1, h2⟩
 · omega
 · have := h1.pos hv; omega
theorem Fw.MV {v : List Int} {k m : Int} (h : Fw v k m) (hm : 0 ≤ m) : Way v k m ∧ ∀ c, Way v k c → m ≤ c := by
 rcases h with ⟨h1, h2⟩ | h
 · omega
 · exact h
theorem Fw.nil {k : Int} (hk : 0 ≤ k) : Fw [] k (if k = 0 then 0 else -1) := by
 by_cases h : k = 0
 · subst h
   exact .inr ⟨.zero, fun c w => (w.pos (by simp)).1⟩
 · rw [if_neg h]
   refine .inl ⟨rfl, fun c w => ?_⟩
   rcases w.last with ⟨h1, _⟩ | ⟨x, hx, _⟩
   · exact h h1
   · simp at hx
theorem Fw.below {u : List Int} {x k m : Int} (hu : ∀ y ∈ u, 1 ≤ y) (hk : k < x) (h : Fw u k m) (h0 : 0 ≤ k) : Fw (u ++ [x]) k m := by
 have hv : ∀ y ∈ u ++ [x], 1 ≤ y := by
  intro y hy
  rcases List.mem_append.1 hy with hy | hy
  · exact hu y hy
  · have : y = x := by simpa using hy
    omega
 have key : ∀ c, Way (u ++ [x]) k c → Way u k c := by
  intro c w
  obtain ⟨j, hj⟩ := w.split
  by_cases h : j = 0
  · subst h; simpa using hj
  · exfalso
    have := hj.pos hu
    have TT : x ≤ (j : Int) * x := by
     have := Int.mul_le_mul_of_nonneg_right (show (1 : Int) ≤ j from by omega) (show 0 ≤ x from by omega)
     omega
    omega
 rcases h with ⟨h1, h2⟩ | ⟨h1, h2⟩
 · exact .inl ⟨h1, fun c w => h2 c (key c w)⟩
 · exact .inr ⟨h1.mono (fun y hy => List.mem_append.2 (.inl hy)), fun c w => h2 c (key c w)⟩
theorem Fw.next {u : List Int} {x k m p : Int} (hu : ∀ y ∈ u, 1 ≤ y) (hx : 1 ≤ x) (h : Fw u k m) (hp : Fw (u ++ [x]) (k - x) p) :
 Fw (u ++ [x]) k (if p ≥ 0 then (if m < 0 then p + 1 else if p + 1 < m then p + 1 else m) else m) := by
 have hv : ∀ y ∈ u ++ [x], 1 ≤ y := by
  intro y hy
  rcases List.mem_append.1 hy with hy | hy
  · exact hu y hy
  · have : y = x := by simpa using hy
    omega
 have key : ∀ c, Way (u ++ [x]) k c → Way u k c ∨ Way (u ++ [x]) (k - x) (c - 1) := by
  intro c w
  rcases w.part (u := u) with h | ⟨y, hy, hyu, h⟩
  · exact .inl h
  · rcases List.mem_append.1 hy with hy | hy
    · exact absurd hy hyu
    · obtain rfl : y = x := by simpa using hy
      exact .inr h
 have hup : ∀ c, Way u k c → Way (u ++ [x]) k c := fun c w => w.mono (fun y hy => List.mem_append.2 (.inl hy))
 have hone : ∀ c, Way (u ++ [x]) (k - x) c → Way (u ++ [x]) k (c + 1) := fun c w => by
  have := Way.add (show x ∈ u ++ [x] by simp) w
  rwa [show k - x + x = k from by omega] at this
 have hm := h.neg hu
 have hpn := hp.neg hv
 by_cases c1 : p ≥ 0
 · rw [if_pos c1]
   obtain ⟨p1, p2⟩ := hp.MV c1
   by_cases c2 : m < 0
   · rw [if_pos c2]
     refine .inr ⟨hone _ p1, fun c w => ?_⟩
     rcases key c w with h1 | h1
     · exact absurd h1 (hm.1 c2 c)
     · have := p2 _ h1; omega
   · rw [if_neg c2]
     obtain ⟨m1, m2⟩ := h.MV (by omega)
     by_cases c3 : p + 1 < m
     · rw [if_pos c3]
       refine .inr ⟨hone _ p1, fun c w => ?_⟩
       rcases key c w with h1 | h1
       · have := m2 _ h1; omega
       · have := p2 _ h1; omega
     · rw [if_neg c3]
       refine .inr ⟨hup _ m1, fun c w => ?_⟩
       rcases key c w with h1 | h1
       · exact m2 _ h1
       · have := p2 _ h1; omega
 · rw [if_neg c1]
   rcases h with ⟨h1, h2⟩ | ⟨h1, h2⟩
   · refine .inl ⟨h1, fun c w => ?_⟩
     rcases key c w with h3 | h3
     · exact h2 _ h3
     · exact hpn.1 (by omega) _ h3
   · refine .inr ⟨hup _ h1, fun c w => ?_⟩
     rcases key c w with h3 | h3
     · exact h2 _ h3
     · exact absurd h3 (hpn.1 (by omega) _)
structure F7 (v : List Int) (a G : Int) (t : List Int) : Prop where
 len : (t.length : Int) = a
 ge : ∀ r, 0 ≤ r → r < a → -1 ≤ rd t r
 MV : ∀ r, 0 ≤ r → r < a → 0 ≤ rd t r → (∃ c, Way v (rd t r) c) ∧ rd t r % a = r
 least : ∀ n c, Way v n c → 0 ≤ rd t (n % a) ∧ rd t (n % a) ≤ n
 bound : ∀ r, 0 ≤ r → r < a → rd t r ≤ (a - 1) * G
def oL (t : List Int) : Nat := t.countP (fun x => decide (0 ≤ x))
theorem K_ (t : List Int) : oL t ≤ t.length := List.countP_le_length
def weight (B : Int) (t : List Int) : Int := (t.map fun x => if x < 0 then B else x).sum
theorem nc {B : Int} (hB : 0 ≤ B) (t : List Int) : 0 ≤ weight B t := by
 induction t with
 | nil => simp [weight]
 | cons x t ih =>
  unfold weight at *
  rw [List.map_cons, List.sum_cons]
  by_cases h : x < 0
  · rw [if_pos h]; omega
  · rw [if_neg h]; omega
theorem I2 (B : Int) (t : List Int) (i : Nat) (h : i < t.length) (x : Int) : weight B (t.set i x) + (if t[i] < 0 then B else t[i]) = weight B t + (if x < 0 then B else x) := by
 induction t generalizing i with
 | nil => simp at h
 | cons y t ih =>
  unfold weight at *
  cases i with
  | zero => simp only [jA, List.map_cons, List.sum_cons, List.getElem_cons_zero]; omega
  | succ i =>
   have := ih i (by simpa using h)
   simp only [jB, List.map_cons, List.sum_cons, List.getElem_cons_succ]
   omega
theorem F8 (t : List Int) (i : Nat) (h : i < t.length) (x : Int) (hx : 0 ≤ x) : oL (t.set i x) + (if 0 ≤ t[i] then 1 else 0) = oL t + 1 := by
 induction t generalizing i with
 | nil => simp at h
 | cons y t ih =>
  unfold oL at *
  cases i with
  | zero =>
   simp only [jA, List.countP_cons, List.getElem_cons_zero]
   by_cases e : 0 ≤ y <;> simp [e, hx]
  | succ i =>
   have := ih i (by simpa using h)
   simp only [jB, List.countP_cons, List.getElem_cons_succ]
   omega
structure tY (v : List Int) (a G : Int) (t : List Int) : Prop where
 len : (t.length : Int) = a
 zero : rd t 0 = 0
 ge : ∀ r, 0 ≤ r → r < a → -1 ≤ rd t r
 MV : ∀ r, 0 ≤ r → r < a → 0 ≤ rd t r → (∃ c, Way v (rd t r) c) ∧ rd t r % a = r
 bound : ∀ r, 0 ≤ r → r < a → rd t r ≤ ((oL t : Int) - 1) * G
theorem wy {x y G : Int} (hG : 0 ≤ G) (h : x ≤ y) : x * G ≤ y * G := Int.mul_le_mul_of_nonneg_right h hG
theorem tY.top {v : List Int} {a G : Int} {t : List Int} (hG : 0 ≤ G) (h : tY v a G t) {r : Int} (h0 : 0 ≤ r) (h1 : r < a) : rd t r ≤ (a - 1) * G := by
 have := h.bound r h0 h1
 have := K_ t
 have := h.len
 have := wy (x := (oL t : Int) - 1) (y := a - 1) hG (by omega)
 omega
theorem tY.step {v : List Int} {a G : Int} {t : List Int} (hv : ∀ x ∈ v, 1 ≤ x ∧ x ≤ G) (ha : 1 ≤ a) (h : tY v a G t) {r g : Int} (fH : 0 ≤ r) (uh : r < a) (hg : g ∈ v) (hs : 0 ≤ rd t r)
 (hc : rd t ((rd t r + g) % a) < 0 ∨ rd t r + g < rd t ((rd t r + g) % a)) :
 tY v a G (t.set ((rd t r + g) % a).toNat (rd t r + g)) ∧ weight (a * G + 1) (t.set ((rd t r + g) % a).toNat (rd t r + g)) < weight (a * G + 1) t ∧ rd t r + g ≤ a * G ∧ (rd t r + g) % a ≠ r := by
 have hgv := hv g hg
 have hG : 0 ≤ G := by omega
 have q0 := Int.emod_nonneg (rd t r + g) (b := a) (by omega)
 have q1 := Int.emod_lt_of_pos (rd t r + g) (b := a) (by omega)
 generalize hto : (rd t r + g) % a = y0 at *
 have hl := h.len
 have hb := h.bound r fH uh
 have hbt := h.bound y0 q0 q1
 have hsl := K_ t
 have hne : y0 ≠ r := by rintro rfl; omega
 have h00 : y0 ≠ 0 := by rintro rfl; rw [h.zero] at hc; omega
 have hrd : rd t y0 = t[y0.toNat]'(by omega) := nL q0 (by omega)
 have hss := F8 t y0.toNat (by omega) (rd t r + g) (by omega)
 have hws := I2 (a * G + 1) t y0.toNat (by omega) (rd t r + g)
 rw [← hrd] at hss hws
 have aal : (oL (t.set y0.toNat (rd t r + g)) : Int) + (if 0 ≤ rd t y0 then 1 else 0) = oL t + 1 := by
  split at hss <;> omega
 have hm : a * G = (a - 1) * G + G := by rw [Int.sub_mul]; omega
 have hm2 : ((oL t : Int)) * G = ((oL t : Int) - 1) * G + G := by rw [Int.sub_mul]; omega
 have hm3 := wy (x := (oL t : Int) - 1) (y := a - 1) hG (by omega)
 obtain ⟨⟨c, hw⟩, hmod⟩ := h.MV r fH uh hs
 have hset : (oL (t.set y0.toNat (rd t r + g)) : Int) = if rd t y0 < 0 then (oL t : Int) + 1 else oL t := by
  by_cases e : rd t y0 < 0
  · rw [if_pos e]; rw [if_neg (by omega)] at aal; omega
  · rw [if_neg e]; rw [if_pos (by omega)] at aal; omega
 have hsets : (oL t : Int) ≤ oL (t.set y0.toNat (rd t r + g)) := by rw [hset]; split <;> omega
 have hup : ((oL t : Int) - 1) * G ≤ ((oL (t.set y0.toNat (rd t r + g)) : Int) - 1) * G := wy hG (by omega)
 have hy : rd t r + g ≤ ((oL (t.set y0.toNat (rd t r + g)) : Int) - 1) * G := by
  by_cases e : rd t y0 < 0
  · rw [hset, if_pos e, show (oL t : Int) + 1 - 1 = oL t from by omega]; omega
  · omega
 refine ⟨⟨by simpa using hl, ?_, ?_, ?_, ?_⟩, ?_, by omega, hne⟩
 · have := tV (l := t) (rd t r + g) q0 (by omega) (show (0 : Int) ≤ 0 by omega)
   rw [this, if_neg (fun e => h00 e.symm)]; exact h.zero
 · intro s om Xa
   rw [tV _ q0 (by omega) om]
   by_cases e : s = y0
   · rw [if_pos e]; omega
   · rw [if_neg e]; exact h.ge s om Xa
 · intro s om Xa hpos
   rw [tV _ q0 (by omega) om] at hpos ⊢
   by_cases e : s = y0
   · rw [if_pos e] at hpos ⊢
     exact ⟨⟨c + 1, .add hg hw⟩, by rw [hto, e]⟩
   · rw [if_neg e] at hpos ⊢; exact h.MV s om Xa hpos
 · intro s om Xa
   rw [tV _ q0 (by omega) om]
   by_cases e : s = y0
   · rw [if_pos e]; exact hy
   · rw [if_neg e]; have := h.bound s om Xa; omega
 · rw [if_neg (show ¬ rd t r + g < 0 by omega)] at hws
   by_cases e : rd t y0 < 0
   · rw [if_pos e] at hws; omega
   · rw [if_neg e] at hws; omega
def Cv (v : List Int) (a : Int) (t : List Int) : Prop := ∀ r, 0 ≤ r → r < a → 0 ≤ rd t r → ∀ g ∈ v, 0 ≤ rd t ((rd t r + g) % a) ∧ rd t ((rd t r + g) % a) ≤ rd t r + g
theorem tY.done {v : List Int} {a G : Int} {t : List Int} (hv : ∀ x ∈ v, 1 ≤ x ∧ x ≤ G) (hG : 0 ≤ G) (ha : 1 ≤ a) (h : tY v a G t) (hc : Cv v a t) : F7 v a G t := by
 refine ⟨h.len, h.ge, h.MV, fun n c w => ?_, fun r h0 h1 => h.top hG h0 h1⟩
 induction w with
 | zero => simp [h.zero]
 | @add g k c hg hw ih =>
  have q0 := Int.emod_nonneg k (b := a) (by omega)
  have q1 := Int.emod_lt_of_pos k (b := a) (by omega)
  obtain ⟨c1, c2⟩ := hc (k % a) q0 q1 ih.1 g hg
  have hmod := (h.MV (k % a) q0 q1 ih.1).2
  have e : (rd t (k % a) + g) % a = (k + g) % a := by
   rw [Int.add_emod, hmod, ← Int.add_emod]
  rw [e] at c1 c2
  exact ⟨c1, by omega⟩
theorem F7.one {v : List Int} {a G G' : Int} {t u : List Int} (h : F7 v a G t) (k : F7 v a G' u) : t = u := by
 refine Rg (by have := h.len; have := k.len; omega) fun r h0 h1 => ?_
 have ha : r < a := by have := h.len; omega
 have g1 := h.ge r h0 ha
 have g2 := k.ge r h0 ha
 have l1 : 0 ≤ rd t r → 0 ≤ rd u r ∧ rd u r ≤ rd t r := fun hs => by
  obtain ⟨⟨c, w⟩, e⟩ := h.MV r h0 ha hs
  have := k.least _ _ w
  rwa [e] at this
 have l2 : 0 ≤ rd u r → 0 ≤ rd t r ∧ rd t r ≤ rd u r := fun hs => by
  obtain ⟨⟨c, w⟩, e⟩ := k.MV r h0 ha hs
  have := h.least _ _ w
  rwa [e] at this
 by_cases e1 : 0 ≤ rd t r
 · have := l1 e1; have := l2 (by omega); omega
 · by_cases e2 : 0 ≤ rd u r
   · have := l2 e2; omega
   · omega
theorem tY.first {v : List Int} {a G : Int} (ha : 1 ≤ a) (hG : 0 ≤ G) : tY v a G ((List.replicate a.toNat (-1)).set 0 0) := by
 have hl : ((List.replicate a.toNat (-1 : Int)).length : Int) = a := by simp; omega
 have hr : ∀ r, 0 ≤ r → r < a → rd ((List.replicate a.toNat (-1)).set 0 0) r = if r = 0 then 0 else -1 := fun r h0 h1 => by
  have := tV (l := List.replicate a.toNat (-1)) (i := 0) (j := r) 0 (by omega) (by omega) h0
  rw [show (0 : Int).toNat = 0 from rfl] at this
  rw [this]
  by_cases e : r = 0
  · rw [if_pos e, if_pos e]
  · rw [if_neg e, if_neg e, Rh h0 (by omega)]
 have hs : 1 ≤ oL ((List.replicate a.toNat (-1)).set 0 0) := by
  have := F8 (List.replicate a.toNat (-1)) 0 (by simp; omega) 0 (by omega)
  simp at this
  omega
 have hp : 0 ≤ ((oL ((List.replicate a.toNat (-1)).set 0 0) : Int) - 1) * G := Int.mul_nonneg (by omega) hG
 refine ⟨by simp; omega, by rw [hr 0 (by omega) (by omega)]; rfl, fun r h0 h1 => ?_, fun r h0 h1 h2 => ?_, fun r h0 h1 => ?_⟩
 · rw [hr r h0 h1]; split <;> omega
 · rw [hr r h0 h1] at h2 ⊢
   by_cases e : r = 0
   · rw [if_pos e]; exact ⟨⟨0, .zero⟩, by rw [e]; rfl⟩
   · rw [if_neg e] at h2; omega
 · rw [hr r h0 h1]; split <;> omega
def Su (v : List Int) (n : Int) : Prop := ∃ c, Way v n c
noncomputable instance (v : List Int) (n : Int) : Decidable (Su v n) := Classical.propDecidable _
theorem Su.zero (v : List Int) : Su v 0 := ⟨0, .zero⟩
theorem Su.add {v : List Int} {n m : Int} (h : Su v n) (k : Su v m) : Su v (n + m) := by
 obtain ⟨c, h⟩ := h; obtain ⟨d, k⟩ := k; exact ⟨c + d, h.plus k⟩
theorem Su.mem {v : List Int} {x : Int} (h : x ∈ v) : Su v x := ⟨0 + 1, by have := Way.add h Way.zero; rwa [Int.zero_add] at this⟩
theorem Su.pos {v : List Int} (hv : ∀ x ∈ v, 1 ≤ x) {n : Int} (h : Su v n) : 0 ≤ n := by
 obtain ⟨c, h⟩ := h; have := h.pos hv; omega
theorem Su.mono {v u : List Int} (h : ∀ x ∈ v, x ∈ u) {n : Int} (k : Su v n) : Su u n := by
 obtain ⟨c, k⟩ := k; exact ⟨c, k.mono h⟩
theorem Su.last {v : List Int} {n : Int} (hn : n ≠ 0) : Su v n ↔ ∃ x ∈ v, Su v (n - x) := by
 constructor
 · rintro ⟨c, w⟩
   rcases w.last with h | ⟨x, hx, h⟩
   · exact absurd h.1 hn
   · exact ⟨x, hx, _, h⟩
 · rintro ⟨x, hx, h⟩
   have := h.add (Su.mem hx)
   rwa [show n - x + x = n from by omega] at this
theorem Su.times {v : List Int} {x : Int} (h : Su v x) (j : Nat) : Su v (j * x) := by
 induction j with
 | zero => simpa using Su.zero v
 | succ j ih =>
  have := ih.add h
  rwa [show (j : Int) * x + x = ((j + 1 : Nat) : Int) * x from by rw [Int.natCast_add, Int.add_mul]; simp] at this
theorem Su.up {v : List Int} {a : Int} (ha : 1 ≤ a) (h : Su v a) {n m : Int} (hn : Su v n) (hle : n ≤ m) (hm : n % a = m % a) : Su v m := by
 have e1 := Int.mul_ediv_add_emod n a
 have e2 := Int.mul_ediv_add_emod m a
 have hq : n / a ≤ m / a := Int.ediv_le_ediv (by omega) hle
 have := hn.add (h.times (m / a - n / a).toNat)
 rw [show (((m / a - n / a).toNat : Nat) : Int) = m / a - n / a from by omega] at this
 rwa [show n + (m / a - n / a) * a = m from by rw [Int.sub_mul, Int.mul_comm (m / a), Int.mul_comm (n / a)]; omega] at this
theorem F7.su {v : List Int} {a G : Int} {t : List Int} (h : F7 v a G t) (ha : 1 ≤ a) (hav : Su v a) {n : Int} : Su v n ↔ 0 ≤ rd t (n % a) ∧ rd t (n % a) ≤ n := by
 have q0 := Int.emod_nonneg n (b := a) (by omega)
 have q1 := Int.emod_lt_of_pos n (b := a) (by omega)
 constructor
 · rintro ⟨c, w⟩; exact h.least _ _ w
 · rintro ⟨h1, h2⟩
   obtain ⟨w, e⟩ := h.MV _ q0 q1 h1
   exact Su.up ha hav w h2 (by omega)
def UL (v : List Int) : Prop := (1 ≤ (v.length : Int) ∧ (v.length : Int) ≤ 20) ∧ ∀ x ∈ v, 1 ≤ x ∧ x ≤ 60
noncomputable instance (v : List Int) : Decidable (UL v) := Classical.propDecidable _
theorem UL.pos {v : List Int} (h : UL v) : ∀ x ∈ v, 1 ≤ x := fun x hx => (h.2 x hx).1
theorem UL.first {v : List Int} (h : UL v) : rd v 0 ∈ v ∧ 1 ≤ rd v 0 ∧ rd v 0 ≤ 60 := by
 have := jh (l := v) (i := 0) (by omega) (by have := h.1; omega)
 exact ⟨this, h.2 _ this⟩
theorem UL.ne {v : List Int} (h : UL v) : v ≠ [] := by rintro rfl; have := h.1; simp at this
theorem F7.far {v : List Int} {a : Int} {t : List Int} (h : F7 v a 60 t) (ha : 1 ≤ a) (ha' : a ≤ 60) (hav : Su v a) {n m : Int} (hn : Su v n) (hm : 3540 ≤ m) (e : n % a = m % a) : Su v m := by
 have q0 := Int.emod_nonneg n (b := a) (by omega)
 have q1 := Int.emod_lt_of_pos n (b := a) (by omega)
 have k := (h.su ha hav).1 hn
 have b := h.bound _ q0 q1
 exact (h.su ha hav).2 (by rw [← e]; omega)
end Go.Proofs.YtjodlkbhaofkkaaGreat.E
end
section
namespace Go.Proofs.YtjodlkbhaofkkaaGreat.E
open Go.RowKit Go.Proofs.YtjodlkbhaofkkaaGreat.PA Go.Proofs.YtjodlkbhaofkkaaGreatW.PrintWords Go.Proofs.YtjodlkbhaofkkaaGreatW.PrintLast Go.Proofs.YtjodlkbhaofkkaaGreatW.PrintMore
set_option linter.unusedVariables false
set_option linter.unusedSimpArgs false
theorem q3 {l : List Bool} {i j : Int} (x : Bool) (hi : 0 ≤ i) (hi' : i < l.length) (hj : 0 ≤ j) : e6 false (l.set i.toNat x) j = if j = i then x else e6 false l j := by
 unfold e6
 rw [List.getD_eq_getElem?_getD, List.getD_eq_getElem?_getD, List.getElem?_set]
 by_cases h : j = i
 · subst h; rw [if_pos rfl, if_pos rfl, if_pos (by omega)]; rfl
 · rw [if_neg h, if_neg (by omega)]
theorem La {n : Nat} {i : Int} : e6 false (List.replicate n false) i = false := by
 unfold e6
 rw [List.getD_eq_getElem?_getD, List.getElem?_replicate]
 split <;> rfl
def Ta (v : List Int) (n : Int) (t : List Bool) : Prop := (∀ j, 0 ≤ j → j < n → (e6 false t j = true ↔ Su v j)) ∧ ∀ j, n ≤ j → e6 false t j = false
theorem ae7 {v : List Int} (hl : v.length ≤ 1048576) (hv : ∀ x ∈ v, 1 ≤ x ∧ x ≤ 1048576) {most n : Int} (hm : most ≤ 1048576) (hn : 1 ≤ n) (hn' : n ≤ most) {r : List Bool}
 (H : ∀ t : List Bool, (t.length : Int) = most + 1 → Ta v (n + 1) t → Ev (fun k => aD.l0 k v most t (n + 1)) r → True) (d : Nat) :
 ∀ (i : Int) (t : List Bool), 0 ≤ i → i + d = v.length → (t.length : Int) = most + 1 → (∀ j, 0 ≤ j → j < n → (e6 false t j = true ↔ Su v j)) → (∀ j, n < j → e6 false t j = false) → (e6 false t n = true ↔ ∃ j, 0 ≤ j ∧ j < i ∧ rd v j ≤ n ∧ Su v (n - rd v j)) →
  ∃ t' : List Bool, (t'.length : Int) = most + 1 ∧ Ta v (n + 1) t' ∧ ∀ r, Ev (fun k => aD.l0 k v most t' (n + 1)) r → Ev (fun k => aD.l1 k v most t n i) r := by
 have hv1 : ∀ x ∈ v, 1 ≤ x := fun x hx => (hv x hx).1
 induction d with
 | zero =>
  intro i t h0 h1 h2 h3 h4 h5
  refine ⟨t, h2, ⟨fun j hj hj' => ?_, fun j hj => h4 j (by omega)⟩, fun r hr => Ev.step (fun k => by rw [aD.l1]) (ax (by omega) ?_)⟩
  · by_cases e : j = n
    · subst e
      rw [h5, Su.last (by omega)]
      constructor
      · rintro ⟨q, a, b, _, c⟩; exact ⟨_, jh a (by omega), c⟩
      · rintro ⟨x, hx, c⟩
        obtain ⟨q, a, b, rfl⟩ := pO hx
        have := c.pos hv1
        exact ⟨q, a, by omega, by omega, c⟩
    · exact h3 j hj (by omega)
  · rw [iw (by omega) (by omega)]; exact hr
 | succ d ih =>
  intro i t h0 h1 h2 h3 h4 h5
  have hx := hv _ (jh (l := v) h0 (by omega))
  by_cases c : n ≥ rd v i
  · have e := h3 (n - rd v i) (by omega) (by omega)
    by_cases b : e6 false t (n - rd v i) = true
    · obtain ⟨t', a1, a2, a3⟩ := ih (i + 1) (t.set n.toNat true) (by omega) (by omega) (by simpa using h2) (fun j hj hj' => by rw [q3 _ (by omega) (by omega) hj, if_neg (by omega)]; exact h3 j hj hj') (fun j hj => by rw [q3 _ (by omega) (by omega) (by omega), if_neg (by omega)]; exact h4 j hj)
       (by rw [q3 _ (by omega) (by omega) (by omega), if_pos rfl]; exact ⟨fun _ => ⟨i, h0, by omega, c, e.1 b⟩, fun _ => rfl⟩)
      refine ⟨t', a1, a2, fun r hr => Ev.step (fun k => by rw [aD.l1]) ?_⟩
      rw [iw (x := n - rd v i) (by omega) (by omega), iw (x := i + 1) (by omega) (by omega)]
      exact ab (by omega) (ab h0 (ab c (ab (by omega) (ab (by omega) (ab b (ab (by omega) (ab (by omega) (a3 r hr))))))))
    · obtain ⟨t', a1, a2, a3⟩ := ih (i + 1) t (by omega) (by omega) h2 h3 h4 (by
       rw [h5]
       constructor
       · rintro ⟨q, u1, u2, u3⟩; exact ⟨q, u1, by omega, u3⟩
       · rintro ⟨q, u1, u2, u3, u4⟩
         by_cases eq : q = i
         · subst eq; exact absurd (e.2 u4) b
         · exact ⟨q, u1, by omega, u3, u4⟩)
      refine ⟨t', a1, a2, fun r hr => Ev.step (fun k => by rw [aD.l1]) ?_⟩
      rw [iw (x := n - rd v i) (by omega) (by omega), iw (x := i + 1) (by omega) (by omega)]
      exact ab (by omega) (ab h0 (ab c (ab (by omega) (ab (by omega) (ax b (a3 r hr))))))
  · obtain ⟨t', a1, a2, a3⟩ := ih (i + 1) t (by omega) (by omega) h2 h3 h4 (by
     rw [h5]
     constructor
     · rintro ⟨q, u1, u2, u3⟩; exact ⟨q, u1, by omega, u3⟩
     · rintro ⟨q, u1, u2, u3, u4⟩
       by_cases eq : q = i
       · subst eq; omega
       · exact ⟨q, u1, by omega, u3, u4⟩)
    refine ⟨t', a1, a2, fun r hr => Ev.step (fun k => by rw [aD.l1]) ?_⟩
    rw [iw (x := i + 1) (by omega) (by omega)]
    exact ab (by omega) (ab h0 (ax c (a3 r hr)))
theorem ae8 {v : List Int} (hl : v.length ≤ 1048576) (hv : ∀ x ∈ v, 1 ≤ x ∧ x ≤ 1048576) {most : Int} (hm : most ≤ 1048576) (d : Nat) : ∀ (n : Int) (t : List Bool), 1 ≤ n → n + d = most + 1 → (t.length : Int) = most + 1 → Ta v n t →
 ∃ t' : List Bool, (t'.length : Int) = most + 1 ∧ (∀ j, 0 ≤ j → j ≤ most → (e6 false t' j = true ↔ Su v j)) ∧ Ev (fun k => aD.l0 k v most t n) t' := by
 induction d with
 | zero =>
  intro n t h0 h1 h2 h3
  exact ⟨t, h2, fun j hj hj' => h3.1 j hj (by omega), Ev.step (fun k => by rw [aD.l0]) (ax (by omega) (Ev.now _))⟩
 | succ d ih =>
  intro n t h0 h1 h2 h3
  obtain ⟨t', a1, a2, a3⟩ := ae7 (r := t) hl hv hm h0 (by omega) (fun _ _ _ _ => trivial) v.length 0 t (by omega) (by omega) h2 h3.1 (fun j hj => h3.2 j (by omega)) (by
   rw [h3.2 n (Int.le_refl _)]
   exact ⟨fun h => (by cases h), fun ⟨j, u1, u2, _⟩ => by omega⟩)
  obtain ⟨t'', b1, b2, b3⟩ := ih (n + 1) t' (by omega) (by omega) a1 a2
  refine ⟨t'', b1, b2, Ev.step (fun k => by rw [aD.l0]) ?_⟩
  exact ab (by omega) (a3 _ b3)
theorem Lb {v : List Int} (hl : v.length ≤ 1048576) (hv : ∀ x ∈ v, 1 ≤ x ∧ x ≤ 1048576) {most : Int} (hm0 : 0 ≤ most) (hm : most ≤ 1048576) :
 ∃ t : List Bool, (t.length : Int) = most + 1 ∧ (∀ j, 0 ≤ j → j ≤ most → (e6 false t j = true ↔ Su v j)) ∧ Ev (fun k => aD.f k v most) t := by
 have e0 : ((List.replicate (most + 1).toNat false).length : Int) = most + 1 := by simp; omega
 obtain ⟨t, a, b, c⟩ := ae8 hl hv hm most.toNat 1 ((List.replicate (most + 1).toNat false).set (0 : Int).toNat true) (by omega) (by omega) (by rw [List.length_set]; exact e0) ⟨fun j hj hj' => by
  rw [q3 _ (by omega) (by omega) hj, if_pos (by omega), show j = 0 from by omega]
  exact ⟨fun _ => Su.zero v, fun _ => rfl⟩, fun j hj => by
  rw [q3 _ (by omega) (by omega) (by omega), if_neg (by omega)]; exact La⟩
 refine ⟨t, a, b, ?_⟩
 unfold aD.f
 rw [iw (by omega) (by omega)]
 simp only [Option.bind_some]
 exact ab (by omega) (ab (by omega) (ab (by omega) c))
theorem yq {v : List Int} (hl : v.length ≤ 20) (hv : ∀ x ∈ v, 1 ≤ x ∧ x ≤ 60) {most : Int} (hm0 : 0 ≤ most) (hm : most ≤ 1048576) :
 ∃ t : List Bool, (t.length : Int) = most + 1 ∧ (∀ j, 0 ≤ j → j ≤ most → (e6 false t j = true ↔ Su v j)) ∧ Ev (fun k => aD.f k v most) t :=
 Lb (by omega) (fun x hx => ⟨(hv x hx).1, by have := (hv x hx).2; omega⟩) hm0 hm
theorem I3 (n : Int) : iq.f n = some (decide (-1000000 ≤ n ∧ n ≤ 1000000)) := by
 unfold iq.f; rw [n4]; rfl
theorem Tb (a b : Int) : j7.f a b = some (max a b) := by
 unfold j7.f
 by_cases h : a > b
 · rw [if_pos h, Int.max_eq_left (by omega)]
 · rw [if_neg h, Int.max_eq_right (by omega)]
theorem aam (a b : Int) : mx a b = max a b := by unfold mx; omega
theorem ae9 (m : Nat) : ∀ n : Nat, Ev (fun k => de.l0 k (m : Int) (n : Int)) (Nat.gcd m n : Int) := by
 induction m using Nat.strongRecOn with
 | _ m ih =>
  intro n
  refine Ev.step (fun k => by rw [de.l0]) ?_
  by_cases h : m = 0
  · subst h
    refine ab (by rfl) (en (Ev.now _) (by simp))
  · refine ax (by omega) ?_
    rw [show Int.tmod (n : Int) (m : Int) = ((n % m : Nat) : Int) from rfl, Nat.gcd_rec]
    exact ih _ (Nat.mod_lt _ (by omega)) m
theorem ae_ (n : Nat) : ∀ m : Nat, Ev (fun k => b8.l0 k (m : Int) (n : Int)) (Nat.gcd m n : Int) := by
 induction n using Nat.strongRecOn with
 | _ n ih =>
  intro m
  refine Ev.step (fun k => by rw [b8.l0]) ?_
  by_cases h : n = 0
  · subst h
    refine ax (by simp) (en (Ev.now _) (by simp))
  · refine ab (by omega) (ax (by omega) ?_)
    rw [show Int.tmod (m : Int) (n : Int) = ((m % n : Nat) : Int) from rfl, Nat.gcd_comm, Nat.gcd_rec, Nat.gcd_comm]
    exact ih _ (Nat.mod_lt _ (by omega)) n
def nO (a b : Int) : Int := if (-1000000 ≤ a ∧ a ≤ 1000000) ∧ -1000000 ≤ b ∧ b ≤ 1000000 then (Int.gcd a b : Int) else 0
theorem vq (a : Int) : max a (-a) = ((a.natAbs : Nat) : Int) := by omega
theorem Xb (a b : Int) : Ev (fun k => de.f k a b) (nO a b) := by
 unfold de.f nO
 refine au _ (mq _ _ (by simp)) ?_
 by_cases h : (-1000000 ≤ a ∧ a ≤ 1000000) ∧ -1000000 ≤ b ∧ b ≤ 1000000
 · rw [if_pos h]
   refine ab (by simpa using h) ?_
   obtain ⟨h1, h2⟩ := h
   rw [iw (by omega) (by omega), iw (by omega) (by omega), aam, aam, vq, vq]
   exact ae9 _ _
 · rw [if_neg h]
   refine ax (by simpa using h) (Ev.now _)
theorem Xc (a b : Int) : Ev (fun k => b8.f k a b) (nO a b) := by
 unfold b8.f nO
 simp only [I3, Option.bind_some]
 by_cases h1 : -1000000 ≤ a ∧ a ≤ 1000000
 · refine ab (by simpa using h1) (Ev.step (fun k => by rw [b8.j0]) ?_)
   by_cases h2 : -1000000 ≤ b ∧ b ≤ 1000000
   · rw [if_pos ⟨h1, h2⟩]
     refine ax (by simpa using h2) ?_
     simp only [Tb, Option.bind_some]
     rw [iw (by omega) (by omega), iw (by omega) (by omega), vq, vq]
     exact ae_ _ _
   · rw [if_neg (fun h => h2 h.2)]
     exact ab (aln h2) (Ev.now _)
 · rw [if_neg (fun h => h1 h.1)]
   refine ax (by simpa using h1) (Ev.step (fun k => by rw [b8.j0]) ?_)
   exact ab rfl (Ev.now _)
def gl (l : List Int) : Int := l.foldl nO 0
theorem I4 {l : List Int} (hl : l.length ≤ 1099511627776) (d : Nat) : ∀ (i acc : Int), 0 ≤ i → i + d = l.length → Ev (fun k => bI.l0 k acc l l.length i) ((l.drop i.toNat).foldl nO acc) := by
 induction d with
 | zero =>
  intro i acc h0 h1
  refine Ev.step (fun k => by rw [bI.l0]) ?_
  rw [List.drop_of_length_le (by omega)]
  exact ax (by omega) (Ev.now _)
 | succ d ih =>
  intro i acc h0 h1
  refine Ev.step (fun k => by rw [bI.l0]) ?_
  rw [jj h0 (by omega), List.foldl_cons, iw (by omega) (by omega)]
  exact ab (by omega) (ab h0 (ab (by omega) (au _ (Xb _ _) (ih (i + 1) _ (by omega) (by omega)))))
theorem F9 {l : List Int} (hl : l.length ≤ 1099511627776) : Ev (fun k => bI.f k l) (gl l) := by
 unfold bI.f
 have := I4 hl l.length 0 0 (by omega) (by omega)
 simpa [gl] using this
theorem I5 {l : List Int} (hl : l.length ≤ 1099511627776) (d : Nat) : ∀ (i acc : Int), 0 ≤ i → i + d = l.length → Ev (fun k => bN.l0 k l acc i) ((l.drop i.toNat).foldl nO acc) := by
 induction d with
 | zero =>
  intro i acc h0 h1
  refine Ev.step (fun k => by rw [bN.l0]) ?_
  rw [List.drop_of_length_le (by omega)]
  exact ax (by omega) (Ev.now _)
 | succ d ih =>
  intro i acc h0 h1
  refine Ev.step (fun k => by rw [bN.l0]) ?_
  rw [jj h0 (by omega), List.foldl_cons, iw (by omega) (by omega)]
  exact ab (by omega) (ab h0 (au _ (Xc _ _) (ih (i + 1) _ (by omega) (by omega))))
theorem F_ {l : List Int} (hl : l.length ≤ 1099511627776) : Ev (fun k => bN.f k l) (gl l) := by
 unfold bN.f
 have := I5 hl l.length 0 0 (by omega) (by omega)
 simpa [gl] using this
theorem Ga {a x : Int} (h0 : 0 ≤ a) (h1 : a ≤ 60) (hx : 1 ≤ x ∧ x ≤ 60) : 1 ≤ nO a x ∧ nO a x ≤ 60 ∧ nO a x ∣ a ∧ nO a x ∣ x := by
 have e : nO a x = (Int.gcd a x : Int) := by unfold nO; rw [if_pos ⟨⟨by omega, by omega⟩, by omega, by omega⟩]
 have d1 := Int.gcd_dvd_left a x
 have d2 := Int.gcd_dvd_right a x
 have p : 0 < Int.gcd a x := Int.gcd_pos_of_ne_zero_right _ (by omega)
 have le := Int.le_of_dvd (by omega) d2
 rw [e]
 exact ⟨by omega, by omega, d1, d2⟩
end Go.Proofs.YtjodlkbhaofkkaaGreat.E
end
section
namespace Go.Proofs.YtjodlkbhaofkkaaGreat.E
open Go.RowKit Go.Proofs.YtjodlkbhaofkkaaGreatW.PrintWords Go.Proofs.YtjodlkbhaofkkaaGreatW.PrintLast Go.Proofs.YtjodlkbhaofkkaaGreatW.PrintMore
set_option linter.unusedVariables false
set_option linter.unusedSimpArgs false
def Dn (v : List Int) (a z : Int) : Prop := ∃ n, Su v n ∧ n % a = z % a
theorem Dn.add {v : List Int} {a z y : Int} (h : Dn v a z) (k : Dn v a y) : Dn v a (z + y) := by
 obtain ⟨n, h1, h2⟩ := h; obtain ⟨m, k1, k2⟩ := k
 exact ⟨n + m, h1.add k1, by rw [Int.add_emod, h2, k2, ← Int.add_emod]⟩
theorem Dn.mul {v : List Int} {a z : Int} (ha : 1 ≤ a) (h : Dn v a z) (k : Int) : Dn v a (z * k) := by
 obtain ⟨n, h1, h2⟩ := h
 have q := Int.emod_nonneg k (b := a) (by omega)
 have := h1.times (k % a).toNat
 rw [show (((k % a).toNat : Nat) : Int) = k % a from by omega] at this
 refine ⟨_, this, ?_⟩
 rw [Int.mul_comm, Int.mul_emod, h2, Int.emod_emod_of_dvd _ (Int.dvd_refl a), ← Int.mul_emod]
theorem Dn.gcd {v : List Int} {a : Int} (ha : 1 ≤ a) (m : Nat) : ∀ n : Nat, Dn v a m → Dn v a n → Dn v a (Nat.gcd m n : Int) := by
 induction m using Nat.strongRecOn with
 | _ m ih =>
  intro n hm hn
  by_cases h : m = 0
  · subst h; simpa using hn
  · rw [Nat.gcd_rec]
    refine ih _ (Nat.mod_lt _ (by omega)) m ?_ hm
    have := hn.add (hm.mul ha (-((n / m : Nat) : Int)))
    have e : (n : Int) + (m : Int) * -((n / m : Nat) : Int) = ((n % m : Nat) : Int) := by
     have := Nat.div_add_mod n m
     have e2 : ((m * (n / m) + n % m : Nat) : Int) = (n : Int) := by rw [this]
     rw [Int.natCast_add, Int.natCast_mul] at e2
     rw [Int.mul_neg]; omega
    rwa [e] at this
theorem Dn.fold {v : List Int} {a : Int} (ha : 1 ≤ a) {l : List Int} (hl : ∀ x ∈ l, (1 ≤ x ∧ x ≤ 60) ∧ Dn v a x) : ∀ acc : Int, 0 ≤ acc → acc ≤ 60 → Dn v a acc → Dn v a (l.foldl nO acc) := by
 induction l with
 | nil => intro acc _ _ h; exact h
 | cons x l ih =>
  intro acc h0 h1 h
  have hx := hl x (by simp)
  have g := Ga h0 h1 hx.1
  rw [List.foldl_cons]
  refine ih (fun y hy => hl y (by simp [hy])) _ (by omega) g.2.1 ?_
  have e : nO acc x = (Int.gcd acc x : Int) := by unfold nO; rw [if_pos ⟨⟨by omega, by omega⟩, by omega, by omega⟩]
  rw [e, show Int.gcd acc x = Nat.gcd acc.toNat x.toNat from by unfold Int.gcd; congr 1 <;> omega]
  refine Dn.gcd ha _ _ ?_ ?_
  · rwa [show ((acc.toNat : Nat) : Int) = acc from by omega]
  · rw [show ((x.toNat : Nat) : Int) = x from by omega]; exact hx.2
theorem Gb {v : List Int} {a : Int} (ha : 1 ≤ a) (hv : ∀ x ∈ v, 1 ≤ x ∧ x ≤ 60) (hg : gl v = 1) (z : Int) : Dn v a z := by
 have h1 : Dn v a 1 := by
  rw [← hg]
  exact Dn.fold ha (fun x hx => ⟨hv x hx, x, Su.mem hx, rfl⟩) 0 (by omega) (by omega) ⟨0, Su.zero v, rfl⟩
 have := h1.mul ha z
 rwa [Int.one_mul] at this
end Go.Proofs.YtjodlkbhaofkkaaGreat.E
end
section
namespace Go.Proofs.YtjodlkbhaofkkaaGreat.E
open Go.RowKit Go.Proofs.YtjodlkbhaofkkaaGreat.PA Go.Proofs.YtjodlkbhaofkkaaGreatW.PrintWords Go.Proofs.YtjodlkbhaofkkaaGreatW.PrintLast Go.Proofs.YtjodlkbhaofkkaaGreatW.PrintMore
set_option linter.unusedVariables false
set_option linter.unusedSimpArgs false
theorem MW {v : List Int} {a G M : Int} (hv : ∀ x ∈ v, 1 ≤ x ∧ x ≤ G) (hG : 0 ≤ G) (hG' : G ≤ 1000) (ha : 1 ≤ a) (ha' : a ≤ 200) (hl : v.length ≤ 20) {r n : Int} (fH : 0 ≤ r) (uh : r < a) {P : List Int → Prop}
 (H : ∀ (t : List Int) (ch : Bool), tY v a G t → weight (a * G + 1) t ≤ M → (ch = true → weight (a * G + 1) t < M) → (ch = false → ∀ s, 0 ≤ s → s < r + 1 → 0 ≤ rd t s → ∀ g ∈ v, 0 ≤ rd t ((rd t s + g) % a) ∧ rd t ((rd t s + g) % a) ≤ rd t s + g) → ∃ u, P u ∧ Ev (fun k => ar.l2 k v a t ch a (r + 1)) u) (d : Nat) :
 ∀ (t : List Int) (ch : Bool) (i : Int), 0 ≤ i → i + d = v.length → tY v a G t → rd t r = n → 0 ≤ n → weight (a * G + 1) t ≤ M → (ch = true → weight (a * G + 1) t < M) →
  (ch = false → ∀ s, 0 ≤ s → s < r → 0 ≤ rd t s → ∀ g ∈ v, 0 ≤ rd t ((rd t s + g) % a) ∧ rd t ((rd t s + g) % a) ≤ rd t s + g) → (ch = false → ∀ j, 0 ≤ j → j < i → 0 ≤ rd t ((rd t r + rd v j) % a) ∧ rd t ((rd t r + rd v j) % a) ≤ rd t r + rd v j) →
  ∃ u, P u ∧ Ev (fun k => ar.l3 k v a t ch r n a r v v.length i) u := by
 have hm : a * G = (a - 1) * G + G := by rw [Int.sub_mul]; omega
 have haG : a * G ≤ 200 * 1000 := Int.mul_le_mul ha' hG' hG (by omega)
 induction d with
 | zero =>
  intro t ch i h0 h1 I hn hn0 hM h2 h3 h4
  obtain ⟨u, hu, hE⟩ := H t ch I hM h2 (by
   intro hc s om Xa hs g hg
   by_cases e : s = r
   · subst e
     obtain ⟨j, hj0, TT, rfl⟩ := pO hg
     exact h4 hc j hj0 (by omega)
   · exact h3 hc s om (by omega) hs g hg)
  refine ⟨u, hu, Ev.step (fun k => by rw [ar.l3]) (ax (by omega) ?_)⟩
  rw [iw (by omega) (by omega)]; exact hE
 | succ d ih =>
  intro t ch i h0 h1 I hn hn0 hM h2 h3 h4
  have hgm := jh (l := v) h0 (by omega)
  have hg := hv _ hgm
  have hb := I.top hG fH uh
  have hlen := I.len
  have hto : Int.tmod (r + rd v i) a = (rd t r + rd v i) % a := by
   rw [Int.tmod_eq_emod_of_nonneg (by omega), Int.add_emod (rd t r), (I.MV r fH uh (by omega)).2, Int.add_emod, Int.emod_eq_of_lt fH uh]
  have q0 := Int.emod_nonneg (rd t r + rd v i) (b := a) (by omega)
  have q1 := Int.emod_lt_of_pos (rd t r + rd v i) (b := a) (by omega)
  have change : (rd t ((rd t r + rd v i) % a) < 0 ∨ rd t r + rd v i < rd t ((rd t r + rd v i) % a)) → ∃ u, P u ∧ Ev (fun k => ar.l3 k v a (t.set ((rd t r + rd v i) % a).toNat (n + rd v i)) true r n a r v v.length (i + 1)) u := by
   intro hc
   obtain ⟨I', w', _, hne⟩ := I.step hv ha fH uh hgm (by omega) hc
   rw [show n + rd v i = rd t r + rd v i from by omega]
   refine ih _ true (i + 1) (by omega) (by omega) I' ?_ (by omega) (by omega) (fun _ => by omega) (fun h => by cases h) (fun h => by cases h)
   rw [tV _ q0 (by omega) fH, if_neg (fun e => hne e.symm)]; exact hn
  have stay : ¬ (rd t ((rd t r + rd v i) % a) < 0 ∨ rd t r + rd v i < rd t ((rd t r + rd v i) % a)) → ∃ u, P u ∧ Ev (fun k => ar.l3 k v a t ch r n a r v v.length (i + 1)) u := by
   intro hc
   refine ih t ch (i + 1) (by omega) (by omega) I hn hn0 hM h2 h3 (fun hf j hj0 TT => ?_)
   by_cases e : j = i
   · subst e; omega
   · exact h4 hf j hj0 (by omega)
  have head : ∀ u, (∀ c1 : rd t ((rd t r + rd v i) % a) < 0, Ev (fun k => ar.l3 k v a (t.set ((rd t r + rd v i) % a).toNat (n + rd v i)) true r n a r v v.length (i + 1)) u) → (∀ c1 : ¬ rd t ((rd t r + rd v i) % a) < 0, ∀ c2 : n + rd v i < rd t ((rd t r + rd v i) % a), Ev (fun k => ar.l3 k v a (t.set ((rd t r + rd v i) % a).toNat (n + rd v i)) true r n a r v v.length (i + 1)) u) → (∀ c1 : ¬ rd t ((rd t r + rd v i) % a) < 0, ∀ c2 : ¬ n + rd v i < rd t ((rd t r + rd v i) % a), Ev (fun k => ar.l3 k v a t ch r n a r v v.length (i + 1)) u) → Ev (fun k => ar.l3 k v a t ch r n a r v v.length i) u := by
   intro u f1 f2 f3
   refine Ev.step (fun k => by rw [ar.l3]) ?_
   rw [iw (x := r + rd v i) (by omega) (by omega), hto, iw (x := n + rd v i) (by omega) (by omega), iw (x := i + 1) (by omega) (by omega)]
   refine ab (by omega) (ab h0 (ab (by omega) (ax (by omega) (ab q0 (ab (by omega) ?_)))))
   by_cases c1 : rd t ((rd t r + rd v i) % a) < 0
   · exact ab c1 (f1 c1)
   · by_cases c2 : n + rd v i < rd t ((rd t r + rd v i) % a)
     · exact ax c1 (ab c2 (f2 c1 c2))
     · exact ax c1 (ax c2 (f3 c1 c2))
  by_cases c1 : rd t ((rd t r + rd v i) % a) < 0
  · obtain ⟨u, hu, hE⟩ := change (.inl c1)
    exact ⟨u, hu, head u (fun _ => hE) (fun h => absurd c1 h) (fun h => absurd c1 h)⟩
  · by_cases c2 : n + rd v i < rd t ((rd t r + rd v i) % a)
    · obtain ⟨u, hu, hE⟩ := change (.inr (by omega))
      exact ⟨u, hu, head u (fun h => absurd h c1) (fun _ _ => hE) (fun _ h => absurd c2 h)⟩
    · obtain ⟨u, hu, hE⟩ := stay (by omega)
      exact ⟨u, hu, head u (fun h => absurd h c1) (fun _ h => absurd h c2) (fun _ _ => hE)⟩
theorem MX {v : List Int} {a G M : Int} (hv : ∀ x ∈ v, 1 ≤ x ∧ x ≤ G) (hG : 0 ≤ G) (hG' : G ≤ 1000) (ha : 1 ≤ a) (ha' : a ≤ 200) (hl : v.length ≤ 20)
 (H : ∀ t : List Int, tY v a G t → weight (a * G + 1) t < M → ∃ u, F7 v a G u ∧ Ev (fun k => ar.l1 k v a t true) u) (d : Nat) :
 ∀ (t : List Int) (ch : Bool) (r : Int), 0 ≤ r → r + d = a → tY v a G t → weight (a * G + 1) t ≤ M → (ch = true → weight (a * G + 1) t < M) →
  (ch = false → ∀ s, 0 ≤ s → s < r → 0 ≤ rd t s → ∀ g ∈ v, 0 ≤ rd t ((rd t s + g) % a) ∧ rd t ((rd t s + g) % a) ≤ rd t s + g) →
  ∃ u, F7 v a G u ∧ Ev (fun k => ar.l2 k v a t ch a r) u := by
 induction d with
 | zero =>
  intro t ch r h0 h1 I hM h2 h3
  cases ch with
  | true =>
   obtain ⟨u, hu, hE⟩ := H t I (h2 rfl)
   exact ⟨u, hu, Ev.step (fun k => by rw [ar.l2]) (ax (by omega) hE)⟩
  | false =>
   refine ⟨t, I.done hv hG ha (fun s om Xa hs g hg => h3 rfl s om (by omega) hs g hg), Ev.step (fun k => by rw [ar.l2]) (ax (by omega) (Ev.step (fun k => by rw [ar.l1]) (ax (by simp) (Ev.now _))))⟩
 | succ d ih =>
  intro t ch r h0 h1 I hM h2 h3
  have hlen := I.len
  by_cases c : rd t r < 0
  · obtain ⟨u, hu, hE⟩ := ih t ch (r + 1) (by omega) (by omega) I hM h2 (fun hf s om Xa hs g hg => by
     by_cases e : s = r
     · subst e; omega
     · exact h3 hf s om (by omega) hs g hg)
    refine ⟨u, hu, Ev.step (fun k => by rw [ar.l2]) (ab (by omega) (ab h0 (ab (by omega) (ab c ?_))))⟩
    rw [iw (by omega) (by omega)]; exact hE
  · obtain ⟨u, hu, hE⟩ := MW (M := M) (P := F7 v a G) hv hG hG' ha ha' hl h0 (by omega) (fun t ch I hM h2 h3 => ih t ch (r + 1) (by omega) (by omega) I hM h2 h3) v.length t ch 0 (by omega) (by omega) I rfl (by omega) hM h2 h3 (fun _ j hj0 TT => by omega)
    exact ⟨u, hu, Ev.step (fun k => by rw [ar.l2]) (ab (by omega) (ab h0 (ab (by omega) (ax c hE))))⟩
theorem MY {v : List Int} {a G : Int} (hv : ∀ x ∈ v, 1 ≤ x ∧ x ≤ G) (hG : 0 ≤ G) (hG' : G ≤ 1000) (ha : 1 ≤ a) (ha' : a ≤ 200) (hl : v.length ≤ 20) (m : Nat) :
 ∀ t : List Int, tY v a G t → weight (a * G + 1) t ≤ m → ∃ u, F7 v a G u ∧ Ev (fun k => ar.l1 k v a t true) u := by
 induction m using Nat.strongRecOn with
 | _ m ih =>
  intro t I hm
  have hB : 0 ≤ a * G + 1 := by have := Int.mul_nonneg (show 0 ≤ a by omega) hG; omega
  obtain ⟨u, hu, hE⟩ := MX (M := weight (a * G + 1) t) hv hG hG' ha ha' hl (fun t' I' h' => ih (weight (a * G + 1) t').toNat (by have := nc hB t'; have := nc hB t; omega) t' I' (by have := nc hB t'; omega)) a.toNat t false 0 (by omega) (by omega) I (Int.le_refl _) (fun h => by cases h) (fun _ s om Xa => by omega)
  refine ⟨u, hu, Ev.step (fun k => by rw [ar.l1]) (ab rfl ?_)⟩
  rw [I.len]; exact hE
theorem MZ {v : List Int} {a : Int} (ha : 1 ≤ a) (ha' : a ≤ 200) {u : List Int} (H : Ev (fun k => ar.l1 k v a ((List.replicate a.toNat (-1)).set 0 0) true) u) (d : Nat) :
 ∀ (i : Int) (row : List Int), 0 ≤ i → i + d = a → (row.length : Int) = a → (∀ j, 0 ≤ j → j < i → rd row j = -1) → Ev (fun k => ar.l0 k v a row a i) u := by
 induction d with
 | zero =>
  intro i row h0 h1 h2 h3
  have e : row = List.replicate a.toNat (-1) := Rg (by simp; omega) fun j hj hj' => by rw [h3 j hj (by omega), Rh hj (by omega)]
  subst e
  refine Ev.step (fun k => by rw [ar.l0]) ?_
  exact ax (by omega) (ab (by omega) H)
 | succ d ih =>
  intro i row h0 h1 h2 h3
  refine Ev.step (fun k => by rw [ar.l0]) ?_
  simp (disch := omega) only [if_pos, iw]
  refine ih (i + 1) _ (by omega) (by omega) (by simpa using h2) fun j hj hj' => ?_
  rw [tV _ h0 (by omega) hj]
  by_cases e : j = i
  · rw [if_pos e]
  · rw [if_neg e]; exact h3 j hj (by omega)
theorem wz {v : List Int} {a G : Int} (hv : ∀ x ∈ v, 1 ≤ x ∧ x ≤ G) (hG : 0 ≤ G) (hG' : G ≤ 1000) (ha : 1 ≤ a) (ha' : a ≤ 200) (hl : v.length ≤ 20) : ∃ u, F7 v a G u ∧ Ev (fun k => ar.f k v a) u := by
 have hB : 0 ≤ a * G + 1 := by have := Int.mul_nonneg (show 0 ≤ a by omega) hG; omega
 obtain ⟨u, hu, hE⟩ := MY hv hG hG' ha ha' hl (weight (a * G + 1) ((List.replicate a.toNat (-1)).set 0 0)).toNat _ (tY.first ha hG) (by have := nc hB ((List.replicate a.toNat (-1)).set 0 0); omega)
 refine ⟨u, hu, ?_⟩
 unfold ar.f
 refine ab (by omega) (ab (by omega) ?_)
 simp only [Option.bind_some]
 rw [show ((List.replicate a.toNat (0 : Int)).length : Int) = a from by simp; omega]
 exact MZ ha ha' hE a.toNat 0 _ (by omega) (by omega) (by simp; omega) (fun j h h' => by omega)
theorem tZ {v : List Int} (hl : v.length ≤ 1099511627776) : Ev (fun k => fL.f k v) (decide (UL v)) := by
 unfold fL.f
 simp only [lG, Option.bind_some]
 by_cases h : 1 ≤ (v.length : Int) ∧ (v.length : Int) ≤ 20
 · exact ab (by simpa using h) (au _ (mq 1 60 hl) (en (Ev.now _) (by simp only [UL, h, true_and])))
 · exact ax (by simpa using h) (en (Ev.now _) (decide_eq_false (fun u => h u.1)).symm)
theorem Xd {v : List Int} (hl : v.length ≤ 1099511627776) (d : Nat) : ∀ i : Int, 0 ≤ i → i + d = v.length → (∀ j, 0 ≤ j → j < i → 1 ≤ rd v j ∧ rd v j ≤ 60) → Ev (fun k => bZ.l0 k v i) (decide (UL v)) := by
 induction d with
 | zero =>
  intro i h0 h1 h2
  refine Ev.step (fun k => by rw [bZ.l0]) ?_
  simp only [n4, Option.bind_some]
  refine ax (by omega) (en (Ev.now _) ?_)
  have : ∀ x ∈ v, 1 ≤ x ∧ x ≤ 60 := fun x hx => by
   obtain ⟨j, hj, hj', rfl⟩ := pO hx; exact h2 j hj (by omega)
  exact decide_eq_decide.2 ⟨fun h => ⟨h, this⟩, fun h => h.1⟩
 | succ d ih =>
  intro i h0 h1 h2
  refine Ev.step (fun k => by rw [bZ.l0]) ?_
  simp only [n4, Option.bind_some]
  rw [iw (by omega) (by omega)]
  by_cases h : 1 ≤ rd v i ∧ rd v i ≤ 60
  · refine ab (by omega) (ab h0 (ab (by simpa using h) (ih (i + 1) (by omega) (by omega) (fun j hj hj' => ?_))))
    by_cases e : j = i
    · rw [e]; exact h
    · exact h2 j hj (by omega)
  · exact ab (by omega) (ab h0 (ax (by simpa using h) (en (Ev.now _) (decide_eq_false (fun u => h (u.2 _ (jh h0 (by omega))))).symm)))
theorem As {v : List Int} (hl : v.length ≤ 1099511627776) : Ev (fun k => bZ.f k v) (decide (UL v)) :=
 Xd hl v.length 0 (by omega) (by omega) (fun j h h' => by omega)
def Gen (v : List Int) (n : Int) : Prop := UL v ∧ (0 ≤ n ∧ n ≤ 1000000) ∧ Su v n
noncomputable instance (v : List Int) (n : Int) : Decidable (Gen v n) := Classical.propDecidable _
theorem Lc {v : List Int} (n : Int) (hl : v.length ≤ 1099511627776) : Ev (fun k => b4.f k v n) (decide (Gen v n)) := by
 unfold b4.f
 simp only [lG, Option.bind_some]
 by_cases hu : UL v
 · by_cases hn : 0 ≤ n ∧ n ≤ 1000000
   · obtain ⟨f1, f2, f3⟩ := hu.first
     have hlen := hu.1
     obtain ⟨u, hL, hE⟩ := wz (G := 60) (a := rd v 0) hu.2 (by omega) (by omega) f2 (by omega) (by omega)
     have q0 := Int.emod_nonneg n (b := rd v 0) (by omega)
     have q1 := Int.emod_lt_of_pos n (b := rd v 0) (by omega)
     have hs := hL.su (n := n) f2 (Su.mem f1)
     have hll := hL.len
     rw [Int.tmod_eq_emod_of_nonneg hn.1]
     refine au _ (tZ hl) (ab (by simpa using hu) (ab (by simpa using hn) (ab (by omega) (au _ hE (ax (by omega) (ab q0 (ab (by omega) ?_)))))))
     by_cases c : rd u (n % rd v 0) ≥ 0
     · refine ab c (en (Ev.now _) (decide_eq_decide.2 ?_))
       exact ⟨fun h => ⟨hu, hn, hs.2 ⟨c, h⟩⟩, fun h => (hs.1 h.2.2).2⟩
     · exact ax c (en (Ev.now _) (decide_eq_false (fun h => c (hs.1 h.2.2).1)).symm)
   · exact au _ (tZ hl) (ab (by simpa using hu) (ax (by simpa using hn) (en (Ev.now _) (decide_eq_false (fun h => hn h.2.1)).symm)))
 · exact au _ (tZ hl) (ax (by simpa using hu) (en (Ev.now _) (decide_eq_false (fun h => hu h.1)).symm))
end Go.Proofs.YtjodlkbhaofkkaaGreat.E
end
section
namespace Go.Proofs.YtjodlkbhaofkkaaGreat.E
open Go.RowKit Go.Proofs.YtjodlkbhaofkkaaGreatW.PrintWords Go.Proofs.YtjodlkbhaofkkaaGreatW.PrintLast Go.Proofs.YtjodlkbhaofkkaaGreatW.PrintMore
set_option linter.unusedVariables false
set_option linter.unusedSimpArgs false
theorem DD {v : List Int} (hv : ∀ x ∈ v, 1 ≤ x ∧ x ≤ 60) (i : Nat) : ∀ x ∈ v.take i, 1 ≤ x ∧ x ≤ 60 := fun x hx => hv x (List.mem_of_mem_take hx)
theorem nw {v : List Int} {i : Int} (h0 : 0 ≤ i) (hi : i ≤ v.length) : ((v.take i.toNat).length : Int) = i := by rw [List.length_take]; omega
end Go.Proofs.YtjodlkbhaofkkaaGreat.E
end
section
namespace Go.Proofs.YtjodlkbhaofkkaaGreat.E
open Go.RowKit Go.Proofs.YtjodlkbhaofkkaaGreat.PA Go.Proofs.YtjodlkbhaofkkaaGreatW.PrintWords Go.Proofs.YtjodlkbhaofkkaaGreatW.PrintLast Go.Proofs.YtjodlkbhaofkkaaGreatW.PrintMore
set_option linter.unusedVariables false
set_option linter.unusedSimpArgs false
structure SG (v : List Int) : Prop where
 ul : UL v
 len : (v.length : Int) ≤ 12
 asc : AJ v
 gcd : gl v = 1
 min : ∀ i : Int, 1 ≤ i → i < v.length → ¬ Su (v.take i.toNat) (rd v i)
 ends : ∀ n, 200 ≤ n → Su v n
noncomputable instance (v : List Int) : Decidable (SG v) := Classical.propDecidable _
theorem Gc {v : List Int} {a : Int} (ha : 1 ≤ a) (hav : Su v a) : (∀ n, 200 ≤ n → Su v n) ↔ ∀ n, 200 ≤ n → n < 200 + a → Su v n := by
 constructor
 · intro h n h1 _; exact h n h1
 · intro h n hn
   have q0 := Int.emod_nonneg (n - 200) (b := a) (by omega)
   have q1 := Int.emod_lt_of_pos (n - 200) (b := a) (by omega)
   have le := Di (n := n - 200) (x := a) (by omega) (by omega)
   refine Su.up ha hav (h (200 + (n - 200) % a) (by omega) (by omega)) (by omega) ?_
   rw [Int.add_emod_emod]; congr 1; omega
theorem F7.all {v : List Int} {a G : Int} {t : List Int} (h : F7 v a G t) (ha : 1 ≤ a) (hv : ∀ x ∈ v, 1 ≤ x ∧ x ≤ 60) (hg : gl v = 1) {r : Int} (h0 : 0 ≤ r) (h1 : r < a) : 0 ≤ rd t r := by
 obtain ⟨n, ⟨c, w⟩, e⟩ := Gb ha hv hg r
 have := (h.least n c w).1
 rwa [e, Int.emod_eq_of_lt h0 h1] at this
theorem Tc {v : List Int} {a G : Int} {t : List Int} (h : F7 v a G t) (ha : 1 ≤ a) (hav : Su v a) (hv : ∀ x ∈ v, 1 ≤ x ∧ x ≤ 60) (hg : gl v = 1) : (∀ n, 200 ≤ n → Su v n) ↔ ∀ r, 0 ≤ r → r < a → rd t r < 200 + a := by
 rw [Gc ha hav]
 constructor
 · intro k r h0 h1
   have q0 := Int.emod_nonneg (r - 200) (b := a) (by omega)
   have q1 := Int.emod_lt_of_pos (r - 200) (b := a) (by omega)
   have e : (200 + (r - 200) % a) % a = r := by
    rw [Int.add_emod_emod, show 200 + (r - 200) = r from by omega, Int.emod_eq_of_lt h0 h1]
   have := (h.su ha hav).1 (k (200 + (r - 200) % a) (by omega) (by omega))
   rw [e] at this
   omega
 · intro k n h0 h1
   have q0 := Int.emod_nonneg n (b := a) (by omega)
   have q1 := Int.emod_lt_of_pos n (b := a) (by omega)
   have p := h.all ha hv hg q0 q1
   have b := k _ q0 q1
   refine (h.su ha hav).2 ⟨p, ?_⟩
   have e := (h.MV _ q0 q1 p).2
   by_cases c : rd t (n % a) ≤ n
   · exact c
   · exfalso
     have e1 := Int.mul_ediv_add_emod n a
     have e2 := Int.mul_ediv_add_emod (rd t (n % a)) a
     rw [e] at e2
     have hq : a * (n / a) < a * (rd t (n % a) / a) := by omega
     have hq' : n / a < rd t (n % a) / a := Int.lt_of_mul_lt_mul_left hq (by omega)
     have : a * (n / a + 1) ≤ a * (rd t (n % a) / a) := Int.mul_le_mul_of_nonneg_left (by omega) (by omega)
     rw [Int.mul_add] at this
     omega
theorem afa {v u : List Int} {a : Int} (hl : 0 < (v.length : Int)) (ha : rd v 0 = a) (ha1 : 1 ≤ a ∧ a ≤ 60) (hul : (u.length : Int) = a) (hb : ∀ r, 0 ≤ r → r < a → -1 ≤ rd u r ∧ rd u r ≤ 3600) (d : Nat) : ∀ i : Int, 0 ≤ i → i + d = a → ∃ r : Bool, Ev (fun k => ak.l1 k v u a i) r ∧ (r = true ↔ ∀ j, i ≤ j → j < a → rd u j < 200 + a) := by
 induction d with
 | zero =>
  intro i h0 h1
  exact ⟨true, Ev.step (fun k => by rw [ak.l1]) (ax (by omega) (Ev.now _)), fun _ j hj hj' => by omega, fun _ => rfl⟩
 | succ d ih =>
  intro i h0 h1
  have b := hb i h0 (by omega)
  by_cases c : rd u i - a ≥ 200
  · refine ⟨false, Ev.step (fun k => by rw [ak.l1]) ?_, fun h => (by cases h), fun h => ?_⟩
    · rw [ha, iw (x := rd u i - a) (by omega) (by omega)]
      exact ab (by omega) (ab h0 (ab (by omega) (ab hl (ab c (Ev.now _)))))
    · have := h i (Int.le_refl _) (by omega); omega
  · obtain ⟨r, hE, hr⟩ := ih (i + 1) (by omega) (by omega)
    refine ⟨r, Ev.step (fun k => by rw [ak.l1]) ?_, ?_⟩
    · rw [ha, iw (x := rd u i - a) (by omega) (by omega), iw (x := i + 1) (by omega) (by omega)]
      exact ab (by omega) (ab h0 (ab (by omega) (ab hl (ax c hE))))
    · rw [hr]
      constructor
      · intro h j hj hj'
        by_cases e : j = i
        · rw [e]; omega
        · exact h j (by omega) hj'
      · intro h j hj hj'; exact h j (by omega) hj'
theorem Td {v : List Int} (hu : UL v) {i : Int} (h0 : 1 ≤ i) (hi : i < v.length) : Gen (v.take i.toNat) (rd v i) ↔ Su (v.take i.toNat) (rd v i) := by
 have hx := hu.2 _ (jh (l := v) (i := i) (by omega) hi)
 have hl := hu.1
 exact ⟨fun h => h.2.2, fun h => ⟨⟨by rw [nw (by omega) (by omega)]; omega, DD hu.2 _⟩, by omega, h⟩⟩
theorem afb {v : List Int} (hu : UL v) (hg : gl v = 1) (d : Nat) : ∀ i : Int, 1 ≤ i → i + d = max 1 v.length → ∃ r : Bool, Ev (fun k => ak.l0 k v i) r ∧ (r = true ↔ (∀ j : Int, i ≤ j → j < v.length → ¬ Su (v.take j.toNat) (rd v j)) ∧ ∀ n, 200 ≤ n → Su v n) := by
 have hlen := hu.1
 induction d with
 | zero =>
  intro i h0 h1
  obtain ⟨f1, f2, f3⟩ := hu.first
  obtain ⟨u, hL, hE⟩ := wz (G := 60) (a := rd v 0) hu.2 (by omega) (by omega) f2 (by omega) (by omega)
  have hll := hL.len
  obtain ⟨r, hE', hr⟩ := afa (v := v) (u := u) (a := rd v 0) (by omega) rfl ⟨f2, f3⟩ hll (fun r h0 h1 => ⟨hL.ge r h0 h1, by have := hL.bound r h0 h1; omega⟩) (rd v 0).toNat 0 (by omega) (by omega)
  refine ⟨r, Ev.step (fun k => by rw [ak.l0]) ?_, ?_⟩
  · refine ax (by omega) (ab (by omega) (au _ hE ?_))
    rw [hll]; exact hE'
  · rw [hr, Tc hL f2 (Su.mem f1) hu.2 hg]
    exact ⟨fun h => ⟨fun j hj hj' => by omega, h⟩, fun h => h.2⟩
 | succ d ih =>
  intro i h0 h1
  have g := Td hu h0 (by omega)
  have tl := nw (v := v) (i := i) (by omega) (by omega)
  by_cases c : Su (v.take i.toNat) (rd v i)
  · refine ⟨false, Ev.step (fun k => by rw [ak.l0]) ?_, fun h => (by cases h), fun h => absurd c (h.1 i (Int.le_refl _) (by omega))⟩
    exact ab (by omega) (ab (by omega) (ab (by omega) (au _ (Lc _ (by omega)) (ab (by simpa using g.2 c) (Ev.now _)))))
  · obtain ⟨r, hE, hr⟩ := ih (i + 1) (by omega) (by omega)
    refine ⟨r, Ev.step (fun k => by rw [ak.l0]) ?_, ?_⟩
    · rw [iw (x := i + 1) (by omega) (by omega)]
      exact ab (by omega) (ab (by omega) (ab (by omega) (au _ (Lc _ (by omega)) (ax (by simpa using fun h => c (g.1 h)) hE))))
    · rw [hr]
      constructor
      · rintro ⟨h, h'⟩
        refine ⟨fun j hj hj' => ?_, h'⟩
        by_cases e : j = i
        · rw [e]; exact c
        · exact h j (by omega) hj'
      · rintro ⟨h, h'⟩; exact ⟨fun j hj hj' => h j (by omega) hj', h'⟩
theorem ua {v : List Int} (hl : v.length ≤ 1099511627776) : Ev (fun k => ak.f k v) (decide (SG v)) := by
 unfold ak.f
 simp only [lG, Option.bind_some]
 have no : ¬ SG v → Ev (fun k => ak.j0 k v true) (decide (SG v)) := fun h => by
  refine Ev.step (fun k => by rw [ak.j0]) ?_
  exact ab rfl (en (Ev.now _) (decide_eq_false h).symm)
 by_cases c1 : 1 ≤ (v.length : Int) ∧ (v.length : Int) ≤ 12
 · refine ab (by simpa using c1) ?_
   by_cases c2 : ∀ x ∈ v, 1 ≤ x ∧ x ≤ 60
   · refine au _ (mq 1 60 hl) (ab (by rw [decide_eq_true_eq]; exact c2) ?_)
     have hu : UL v := ⟨by omega, c2⟩
     by_cases c3 : AJ v
     · refine au _ (DB hl) (ab (by simpa using c3) (au _ (F9 hl) ?_))
       by_cases c4 : gl v = 1
       · obtain ⟨r, hE, hr⟩ := afb hu c4 (v.length - 1) 1 (by omega) (by omega)
         refine Ev.step (fun k => by rw [ak.j0]) ?_
         refine ax (by simpa using c4) (en hE ?_)
         rw [Bool.eq_iff_iff, hr, decide_eq_true_eq]
         exact ⟨fun h => ⟨hu, c1.2, c3, c4, h.1, h.2⟩, fun h => ⟨h.min, h.ends⟩⟩
       · rw [show (gl v != 1) = true from by simpa using c4]
         exact no (fun h => c4 h.gcd)
     · exact au _ (DB hl) (ax (by simpa using c3) (no (fun h => c3 h.asc)))
   · exact au _ (mq 1 60 hl) (ax (by rw [decide_eq_true_eq]; exact c2) (no (fun h => c2 h.ul.2)))
 · exact ax (by simpa using c1) (no (fun h => c1 ⟨h.ul.1.1, h.len⟩))
theorem Gd {v : List Int} (hl : v.length ≤ 1048576) (ha : AJ v) (d : Nat) : ∀ i : Int, 0 ≤ i → i + d = v.length → Ev (fun k => al.l0 k v (v.take i.toNat) i) v := by
 induction d with
 | zero =>
  intro i h0 h1
  refine Ev.step (fun k => by rw [al.l0]) ?_
  rw [List.take_of_length_le (by omega)]
  exact ax (by omega) (Ev.now _)
 | succ d ih =>
  intro i h0 h1
  have tl := nw (v := v) (i := i) (by omega) (by omega)
  have nx := ih (i + 1) (by omega) (by omega)
  rw [yg h0 (by omega)] at nx
  refine Ev.step (fun k => by rw [al.l0]) (ab (by omega) ?_)
  rw [tl]
  refine Ev.step (fun k => by rw [al.l1]) ?_
  simp only [Option.bind_some]
  rw [iw (x := i - 1) (by omega) (by omega), iw (x := i + 1) (by omega) (by omega), List.drop_of_length_le (l := v.take i.toNat) (by omega), List.take_of_length_le (l := v.take i.toNat) (by omega)]
  have e0 : ([] : List Int).length + ([] : List Int).length < 17592186044416 := by simp
  have e1 : (v.take i.toNat).length < 17592186044416 := by omega
  have e2 : (v.take i.toNat ++ [rd v i]).length + ([] ++ [] : List Int).length < 17592186044416 := by simp; omega
  by_cases c : i > 0
  · have lt : rd (v.take i.toNat) (i - 1) < rd v i := by
     have e : rd (v.take i.toNat) (i - 1) = rd v (i - 1) := by
      rw [nL (by omega) (by omega), nL (by omega) (by omega), List.getElem_take]
     rw [e]; exact ha i c (by omega)
    refine ab c (ab (by omega) (ab (by omega) (ab h0 (ab (by omega) (ax (by omega) (ax (by omega) (ab h0 (ab (by omega) (ab e0 (ab e1 (ab e2 ?_)))))))))))
    simpa using nx
  · refine ax c (ab h0 (ab (by omega) (ab e0 (ab h0 (ab (by omega) (ab e1 (ab e2 ?_)))))))
    simpa using nx
theorem M0 {v : List Int} (hl : v.length ≤ 1048576) (ha : AJ v) : Ev (fun k => al.f k v) v := by
 unfold al.f
 exact Gd hl ha v.length 0 (by omega) (by omega)
theorem anC {v : List Int} (hu : UL v) (d : Nat) : ∀ (i : Int) (out : List Int), 0 ≤ i → i + d = v.length → ((out = v.take i.toNat ∧ ∀ j : Int, 1 ≤ j → j < i → ¬ Su (v.take j.toNat) (rd v j)) ∨ ((out.length : Int) < i ∧ ¬ ∀ j : Int, 1 ≤ j → j < i → ¬ Su (v.take j.toNat) (rd v j))) →
 ∃ r, r.length ≤ 20 ∧ Ev (fun k => az.l0 k out v i) r ∧ (r = v ↔ ∀ j : Int, 1 ≤ j → j < v.length → ¬ Su (v.take j.toNat) (rd v j)) := by
 have hlen := hu.1
 induction d with
 | zero =>
  intro i out h0 h1 h2
  obtain rfl : i = v.length := by omega
  have hE : Ev (fun k => az.l0 k out v v.length) out := Ev.step (fun k => by rw [az.l0]) (ax (by omega) (Ev.now _))
  rcases h2 with ⟨e, h⟩ | ⟨e, h⟩
  · rw [List.take_of_length_le (by omega)] at e
    exact ⟨out, by rw [e]; omega, hE, fun _ => h, fun _ => e⟩
  · exact ⟨out, by omega, hE, fun e' => by rw [e'] at e; omega, fun h' => absurd h' h⟩
 | succ d ih =>
  intro i out h0 h1 h2
  have hx := hu.2 _ (jh (l := v) h0 (by omega))
  have tl := nw (v := v) (i := i) (by omega) (by omega)
  have ol : (out.length : Int) ≤ i := by
   rcases h2 with ⟨e, _⟩ | ⟨e, _⟩
   · rw [e, tl]; exact Int.le_refl _
   · omega
  by_cases c0 : i = 0
  · obtain ⟨r, r1, r2, r3⟩ := ih (i + 1) (out ++ [rd v i]) (by omega) (by omega) (by
     rcases h2 with ⟨e, _⟩ | ⟨e, _⟩
     · exact .inl ⟨by rw [yg h0 (by omega), e], fun j hj hj' => by omega⟩
     · omega)
    refine ⟨r, r1, Ev.step (fun k => by rw [az.l0]) ?_, r3⟩
    rw [iw (x := i + 1) (by omega) (by omega)]
    exact ab (by omega) (ab c0 (ab h0 (ab (by omega) r2)))
  · obtain ⟨t, t1, t2, hE⟩ := yq (v := v.take i.toNat) (by omega) (DD hu.2 _) (most := rd v i) (by omega) (by omega)
    have ht := t2 (rd v i) (by omega) (Int.le_refl _)
    by_cases c : Su (v.take i.toNat) (rd v i)
    · obtain ⟨r, r1, r2, r3⟩ := ih (i + 1) out (by omega) (by omega) (.inr ⟨by omega, fun h => h i (by omega) (by omega) c⟩)
      refine ⟨r, r1, Ev.step (fun k => by rw [az.l0]) ?_, r3⟩
      rw [iw (x := i + 1) (by omega) (by omega)]
      exact ab (by omega) (ax c0 (ab h0 (ab (by omega) (au _ hE (ab (by omega) (ab (by omega) (ab (ht.2 c) r2)))))))
    · obtain ⟨r, r1, r2, r3⟩ := ih (i + 1) (out ++ [rd v i]) (by omega) (by omega) (by
       rcases h2 with ⟨e, h⟩ | ⟨e, h⟩
       · refine .inl ⟨by rw [yg h0 (by omega), e], fun j hj hj' => ?_⟩
         by_cases ej : j = i
         · rw [ej]; exact c
         · exact h j hj (by omega)
       · refine .inr ⟨by simp; omega, fun h' => h fun j hj hj' => h' j hj (by omega)⟩)
      refine ⟨r, r1, Ev.step (fun k => by rw [az.l0]) ?_, r3⟩
      rw [iw (x := i + 1) (by omega) (by omega)]
      exact ab (by omega) (ax c0 (ab h0 (ab (by omega) (au _ hE (ab (by omega) (ab (by omega) (ax (fun h => c (ht.1 h)) (ab (by omega) r2))))))))
theorem Xe {l m : List Int} (hl : l.length ≤ 1099511627776) (e : l.length = m.length) (d : Nat) : ∀ (i : Int), 0 ≤ i → i + d = l.length → Ev (fun k => cJ.l0 k l m i) (decide (l.drop i.toNat = m.drop i.toNat)) := by
 induction d with
 | zero =>
  intro i h0 h1
  refine Ev.step (fun k => by rw [cJ.l0]) ?_
  refine ax (by omega) (en (Ev.now _) ?_)
  rw [List.drop_of_length_le (by omega), List.drop_of_length_le (by omega)]; simp
 | succ d ih =>
  intro i h0 h1
  refine Ev.step (fun k => by rw [cJ.l0]) ?_
  rw [iw (x := i + 1) (by omega) (by omega), jj h0 (by omega), jj (l := m) h0 (by omega)]
  refine ab (by omega) (ab h0 (ab (by omega) ?_))
  by_cases h : rd l i = rd m i
  · refine ab h (en (ih (i + 1) (by omega) (by omega)) ?_)
    simp [h]
  · refine ax h (en (Ev.now _) ?_)
    simp [h]
theorem Ge {l m : List Int} (hl : l.length ≤ 1099511627776) : Ev (fun k => cJ.f k l m) (decide (l = m)) := by
 unfold cJ.f
 by_cases e : l.length = m.length
 · refine ab (by omega) (en (Xe hl e l.length 0 (by omega) (by omega)) ?_)
   simp
 · refine ax (by omega) (en (Ev.now _) ?_)
   simp; intro h; exact e (by rw [h])
theorem Xf {v : List Int} (hu : UL v) {t : List Bool} (t1 : (t.length : Int) = 261) (t2 : ∀ j, 0 ≤ j → j ≤ 260 → (e6 false t j = true ↔ Su v j)) (d : Nat) : ∀ i : Int, 200 ≤ i → i + d = 200 + rd v 0 → ∃ r : Bool, Ev (fun k => cQ.l0 k v t i) r ∧ (r = true ↔ ∀ n, i ≤ n → n < 200 + rd v 0 → Su v n) := by
 have f := hu.first
 have hlen := hu.1
 induction d with
 | zero =>
  intro i h0 h1
  refine ⟨true, Ev.step (fun k => by rw [cQ.l0]) ?_, fun _ n hn hn' => by omega, fun _ => rfl⟩
  rw [iw (x := 200 + rd v 0) (by omega) (by omega)]
  exact ab (by omega) (ax (by omega) (Ev.now _))
 | succ d ih =>
  intro i h0 h1
  have ht := t2 i (by omega) (by omega)
  by_cases c : Su v i
  · obtain ⟨r, hE, hr⟩ := ih (i + 1) (by omega) (by omega)
    refine ⟨r, Ev.step (fun k => by rw [cQ.l0]) ?_, ?_⟩
    · rw [iw (x := 200 + rd v 0) (by omega) (by omega), iw (x := i + 1) (by omega) (by omega)]
      exact ab (by omega) (ab (by omega) (ab (by omega) (ab (by omega) (ab (ht.2 c) hE))))
    · rw [hr]
      constructor
      · intro h n hn hn'
        by_cases e : n = i
        · rw [e]; exact c
        · exact h n (by omega) hn'
      · intro h n hn hn'; exact h n (by omega) hn'
  · refine ⟨false, Ev.step (fun k => by rw [cQ.l0]) ?_, fun h => (by cases h), fun h => absurd (h i (Int.le_refl _) (by omega)) c⟩
    rw [iw (x := 200 + rd v 0) (by omega) (by omega)]
    exact ab (by omega) (ab (by omega) (ab (by omega) (ab (by omega) (ax (fun h => c (ht.1 h)) (Ev.now _)))))
theorem sy {v : List Int} (hl : v.length ≤ 1099511627776) : Ev (fun k => aA.f k v) (decide (SG v)) := by
 unfold aA.f
 by_cases hu : UL v
 · refine au _ (As hl) (ab (by simpa using hu) ?_)
   by_cases c1 : (v.length : Int) ≤ 12
   · refine ab c1 ?_
     by_cases c3 : AJ v
     · refine au _ (DC hl) (ab (by simpa using c3) (au _ (F_ hl) ?_))
       by_cases c4 : gl v = 1
       · have hlen := hu.1
         obtain ⟨f1, f2, f3⟩ := hu.first
         obtain ⟨r, r1, r2, r3⟩ := anC hu v.length 0 [] (by omega) (by omega) (.inl ⟨by simp, fun j hj hj' => by omega⟩)
         refine ab c4 (au r ?_ (au _ (Ge (l := r) (m := v) (by omega)) ?_))
         · unfold az.f
           exact au _ (M0 (by omega) c3) r2
         · by_cases c5 : r = v
           · obtain ⟨t, t1, t2, hE⟩ := yq (v := v) (by omega) hu.2 (most := 260) (by omega) (by omega)
             obtain ⟨b, b1, b2⟩ := Xf hu (by omega) t2 (rd v 0).toNat 200 (by omega) (by omega)
             refine ab (by simpa using c5) (au b ?_ (en (Ev.now _) ?_))
             · unfold cQ.f
               exact au _ hE b1
             · rw [Bool.eq_iff_iff, b2, ← Gc f2 (Su.mem f1), decide_eq_true_eq]
               exact ⟨fun h => ⟨hu, c1, c3, c4, r3.1 c5, h⟩, fun h => h.ends⟩
           · exact ax (by simpa using c5) (en (Ev.now _) (decide_eq_false (fun h => c5 (r3.2 h.min))).symm)
       · exact ax c4 (en (Ev.now _) (decide_eq_false (fun h => c4 h.gcd)).symm)
     · exact au _ (DC hl) (ax (by simpa using c3) (en (Ev.now _) (decide_eq_false (fun h => c3 h.asc)).symm))
   · exact ax c1 (en (Ev.now _) (decide_eq_false (fun h => c1 h.len)).symm)
 · exact au _ (As hl) (ax (by simpa using hu) (en (Ev.now _) (decide_eq_false (fun h => hu h.ul)).symm))
end Go.Proofs.YtjodlkbhaofkkaaGreat.E
end
section
namespace Go.Proofs.YtjodlkbhaofkkaaGreat.E
open Go.RowKit Go.Proofs.YtjodlkbhaofkkaaGreatW.PrintWords Go.Proofs.YtjodlkbhaofkkaaGreatW.PrintLast Go.Proofs.YtjodlkbhaofkkaaGreatW.PrintMore
set_option linter.unusedVariables false
set_option linter.unusedSimpArgs false
theorem Au {g : List Int} (h : AJ g) (d : Nat) : ∀ i j : Int, 0 ≤ i → j = i + d + 1 → j < g.length → rd g i < rd g j := by
 induction d with
 | zero =>
  intro i j h0 h1 h2
  have := h j (by omega) h2
  rwa [show j - 1 = i from by omega] at this
 | succ d ih =>
  intro i j h0 h1 h2
  have a := ih i (j - 1) h0 (by omega) (by omega)
  have b := h j (by omega) h2
  omega
def fl (p : Int → Bool) (i : Int) : Nat → List Int
 | 0 => []
 | d + 1 => if p i = true then i :: fl p (i + 1) d else fl p (i + 1) d
theorem nE {p : Int → Bool} {i : Int} {d : Nat} (h : p i = true) : fl p i (d + 1) = i :: fl p (i + 1) d := by rw [fl, if_pos h]
theorem oM {p : Int → Bool} {i : Int} {d : Nat} (h : ¬ p i = true) : fl p i (d + 1) = fl p (i + 1) d := by rw [fl, if_neg h]
theorem Av (p : Int → Bool) (d e : Nat) : ∀ i : Int, fl p i (d + e) = fl p i d ++ fl p (i + d) e := by
 induction d with
 | zero => intro i; simp [fl]
 | succ d ih =>
  intro i
  rw [show d + 1 + e = (d + e) + 1 from by omega, show i + ((d + 1 : Nat) : Int) = i + 1 + d from by omega]
  by_cases h : p i = true
  · rw [nE h, nE h, ih, List.cons_append]
  · rw [oM h, oM h, ih]
theorem pQ {p : Int → Bool} {x : Int} (d : Nat) : ∀ i : Int, x ∈ fl p i d ↔ i ≤ x ∧ x < i + d ∧ p x = true := by
 induction d with
 | zero => intro i; simp [fl]; omega
 | succ d ih =>
  intro i
  by_cases h : p i = true
  · rw [nE h, List.mem_cons, ih]
    constructor
    · rintro (rfl | ⟨a, b, c⟩)
      · exact ⟨Int.le_refl _, by omega, h⟩
      · exact ⟨by omega, by omega, c⟩
    · rintro ⟨a, b, c⟩
      by_cases e : x = i
      · exact .inl e
      · exact .inr ⟨by omega, by omega, c⟩
  · rw [oM h, ih]
    constructor
    · rintro ⟨a, b, c⟩; exact ⟨by omega, by omega, c⟩
    · rintro ⟨a, b, c⟩
      by_cases e : x = i
      · subst e; exact absurd c h
      · exact ⟨by omega, by omega, c⟩
theorem DE (p : Int → Bool) (d : Nat) : ∀ i : Int, (fl p i d).length ≤ d := by
 induction d with
 | zero => intro i; simp [fl]
 | succ d ih =>
  intro i
  have := ih (i + 1)
  by_cases h : p i = true
  · rw [nE h, List.length_cons]; omega
  · rw [oM h]; omega
theorem Aw {p q : Int → Bool} (d : Nat) : ∀ i : Int, (∀ x, i ≤ x → x < i + d → p x = q x) → fl p i d = fl q i d := by
 induction d with
 | zero => intro i _; rfl
 | succ d ih =>
  intro i h
  rw [fl, fl, h i (Int.le_refl _) (by omega), ih (i + 1) (fun x a b => h x (by omega) (by omega))]
theorem Ld {p : Int → Bool} (d : Nat) : ∀ i : Int, (∀ x, i ≤ x → x < i + d → ¬ p x = true) → fl p i d = [] := by
 induction d with
 | zero => intro i _; rfl
 | succ d ih => intro i h; rw [oM (h i (Int.le_refl _) (by omega)), ih (i + 1) (fun x a b => h x (by omega) (by omega))]
theorem Gf {x : Int} {l : List Int} (h : ∀ y ∈ l, x < y) (ha : AJ l) : AJ (x :: l) := by
 intro i h0 h1
 rw [List.length_cons] at h1
 have e : ∀ j : Int, 0 < j → rd (x :: l) j = rd l (j - 1) := fun j hj => by
  unfold rd; rw [show j.toNat = (j - 1).toNat + 1 from by omega, List.getD_cons_succ]
 by_cases c : i = 1
 · subst c
   rw [e 1 (by omega)]
   exact h _ (jh (by omega) (by omega))
 · rw [e i h0, e (i - 1) (by omega)]
   exact ha (i - 1) (by omega) (by omega)
theorem Ax (p : Int → Bool) (d : Nat) : ∀ i : Int, AJ (fl p i d) := by
 induction d with
 | zero => intro i j h0 h1; simp [fl] at h1; omega
 | succ d ih =>
  intro i
  by_cases h : p i = true
  · rw [nE h]
    exact Gf (fun y hy => by have := (pQ d (i + 1)).1 hy; omega) (ih _)
  · rw [oM h]; exact ih _
theorem Xg {p : Int → Bool} {i : Int} {d : Nat} (h : fl p i d ≠ []) : ∃ x, i ≤ x ∧ x < i + d ∧ p x = true ∧ (∀ y, x < y → y < i + d → ¬ p y = true) ∧ rd (fl p i d) ((fl p i d).length - 1) = x := by
 induction d with
 | zero => exact absurd rfl h
 | succ d ih =>
  rw [show d + 1 = d + 1 from rfl, Av p d 1 i] at h ⊢
  by_cases c : p (i + d) = true
  · refine ⟨i + d, by omega, by omega, c, fun y a b => by omega, ?_⟩
    rw [show fl p (i + d) 1 = [i + d] from by rw [show (1 : Nat) = 0 + 1 from rfl, nE c]; rfl]
    rw [Mz (by simp), if_neg (by simp)]
    simp [rd]
  · have e : fl p (i + d) 1 = [] := by rw [show (1 : Nat) = 0 + 1 from rfl, oM c]; rfl
    rw [e, List.append_nil] at h ⊢
    obtain ⟨x, a, b, q, r, s⟩ := ih h
    refine ⟨x, a, by omega, q, fun y hy hy' => ?_, s⟩
    by_cases ey : y = i + d
    · rw [ey]; exact c
    · exact r y hy (by omega)
end Go.Proofs.YtjodlkbhaofkkaaGreat.E
end
section
namespace Go.Proofs.YtjodlkbhaofkkaaGreat.E
open Go.RowKit Go.Proofs.YtjodlkbhaofkkaaGreat.PA Go.Proofs.YtjodlkbhaofkkaaGreatW.PrintWords Go.Proofs.YtjodlkbhaofkkaaGreatW.PrintLast Go.Proofs.YtjodlkbhaofkkaaGreatW.PrintMore
set_option linter.unusedVariables false
set_option linter.unusedSimpArgs false
def pw (l : List Int) : Prop := l.Pairwise (· < ·)
theorem Te {l : List Int} (h : pw l) : AJ l := by
 induction l with
 | nil => intro i h0 h1; simp at h1; omega
 | cons x l ih => exact Gf (List.pairwise_cons.1 h).1 (ih (List.pairwise_cons.1 h).2)
theorem B0 : ∀ {a b : List Int}, pw a → pw b → (∀ z, z ∈ a ↔ z ∈ b) → a = b
 | [], [], _, _, _ => rfl
 | [], y :: b, _, _, h => absurd ((h y).2 (List.mem_cons_self ..)) (by simp)
 | x :: a, [], _, _, h => absurd ((h x).1 (List.mem_cons_self ..)) (by simp)
 | x :: a, y :: b, ha, hb, h => by
  have ha' := List.pairwise_cons.1 ha
  have hb' := List.pairwise_cons.1 hb
  have e : x = y := by
   rcases List.mem_cons.1 ((h x).1 (List.mem_cons_self ..)) with k | k
   · exact k
   · rcases List.mem_cons.1 ((h y).2 (List.mem_cons_self ..)) with q | q
     · exact q.symm
     · have := ha'.1 y q; have := hb'.1 x k; omega
  subst e
  refine congrArg (x :: ·) (B0 ha'.2 hb'.2 fun z => ⟨fun k => ?_, fun k => ?_⟩)
  · rcases List.mem_cons.1 ((h z).1 (List.mem_cons_of_mem _ k)) with q | q
    · have := ha'.1 z k; omega
    · exact q
  · rcases List.mem_cons.1 ((h z).2 (List.mem_cons_of_mem _ k)) with q | q
    · have := hb'.1 z k; omega
    · exact q
def Ay (x : Int) : List Int → List Int
 | [] => [x]
 | y :: l => if x < y then x :: y :: l else if x = y then y :: l else y :: Ay x l
theorem Az {x z : Int} : ∀ {l : List Int}, z ∈ Ay x l ↔ z = x ∨ z ∈ l
 | [] => by simp [Ay]
 | y :: l => by
  unfold Ay
  split
  · simp
  · split
    · rename_i e; subst e; simp
    · rw [List.mem_cons, Az, List.mem_cons]; constructor
      · rintro (a | a | a)
        · exact .inr (.inl a)
        · exact .inl a
        · exact .inr (.inr a)
      · rintro (a | a | a)
        · exact .inr (.inl a)
        · exact .inl a
        · exact .inr (.inr a)
theorem Le {x : Int} : ∀ {l : List Int}, pw l → pw (Ay x l)
 | [], _ => by simp [Ay, pw]
 | y :: l, h => by
  have h' := List.pairwise_cons.1 h
  unfold Ay
  split
  · rename_i c
    refine List.pairwise_cons.2 ⟨fun z hz => ?_, h⟩
    rcases List.mem_cons.1 hz with rfl | k
    · exact c
    · have := h'.1 z k; omega
  · split
    · exact h
    · rename_i c e
      refine List.pairwise_cons.2 ⟨fun z hz => ?_, Le h'.2⟩
      rcases Az.1 hz with rfl | k
      · omega
      · exact h'.1 z k
def AK (l : List Int) : List Int := l.foldr Ay []
theorem q4 {z : Int} : ∀ {l : List Int}, z ∈ AK l ↔ z ∈ l
 | [] => by simp [AK]
 | x :: l => by
  have := q4 (z := z) (l := l)
  unfold AK at this ⊢
  rw [List.foldr_cons, Az, this, List.mem_cons]
theorem AA : ∀ l : List Int, pw (AK l)
 | [] => by simp [AK, pw]
 | x :: l => by have := AA l; unfold AK at this ⊢; rw [List.foldr_cons]; exact Le this
theorem Gg {x : Int} : ∀ {l : List Int}, (Ay x l).length ≤ l.length + 1
 | [] => by simp [Ay]
 | y :: l => by
  have := Gg (x := x) (l := l)
  unfold Ay
  split
  · simp
  · split <;> simp <;> omega
theorem vr : ∀ l : List Int, (AK l).length ≤ l.length
 | [] => by simp [AK]
 | x :: l => by
  have := vr l
  have h := Gg (x := x) (l := AK l)
  unfold AK at this h ⊢
  rw [List.foldr_cons, List.length_cons]; omega
theorem afc {l : List Int} {x : Int} {p : Nat} (h : pw l) (lo : ∀ z ∈ l.take p, z < x) (hi : ∀ z ∈ l.drop p, x < z) : pw (l.take p ++ [x] ++ l.drop p) := by
 unfold pw at h ⊢
 rw [List.append_assoc]
 refine List.pairwise_append.2 ⟨h.sublist (List.take_sublist ..), List.pairwise_append.2 ⟨by simp, h.sublist (List.drop_sublist ..), fun a ha b hb => ?_⟩, fun a ha b hb => ?_⟩
 · rw [List.mem_singleton] at ha; subst ha; exact hi b hb
 · rcases List.mem_append.1 hb with q | q
   · rw [List.mem_singleton] at q; subst q; exact lo a ha
   · have := lo a ha; have := hi b q; omega
theorem afd {l : List Int} (hl : l.length ≤ 1048576) {i : Int} (h0 : 0 ≤ i) (hi : i < l.length) {x3 : List Int} (h3 : pw x3) (hn : (x3.length : Int) ≤ i) {r : List Int} (N : ∀ y, pw y → (y.length : Int) ≤ i + 1 → (∀ z, z ∈ y ↔ z ∈ x3 ∨ z = rd l i) → Ev (fun k => al.l0 k l y (i + 1)) r) (d : Nat) : ∀ p : Int, p = d → p ≤ x3.length → (∀ z ∈ x3.drop p.toNat, rd l i < z) → Ev (fun k => al.l1 k l x3 i p) r := by
 have put : ∀ p : Int, 0 ≤ p → p ≤ x3.length → (∀ z ∈ x3.take p.toNat, z < rd l i) → (∀ z ∈ x3.drop p.toNat, rd l i < z) → Ev (fun k => al.l0 k l (x3.take p.toNat ++ [rd l i] ++ ([] ++ x3.drop p.toNat)) (i + 1)) r := fun p p0 p1 a b => by
  rw [List.nil_append]
  refine N _ (afc h3 a b) ?_ fun z => ?_
  · have := nw p0 p1
    rw [List.length_append, List.length_append, List.length_singleton, List.length_drop]; omega
  · have e := List.take_append_drop p.toNat x3
    constructor
    · intro k
      rcases List.mem_append.1 k with k | k
      · rcases List.mem_append.1 k with k | k
        · exact .inl (List.mem_of_mem_take k)
        · exact .inr (List.mem_singleton.1 k)
      · exact .inl (List.mem_of_mem_drop k)
    · rintro (k | k)
      · rw [← e] at k
        rcases List.mem_append.1 k with k | k
        · exact List.mem_append_left _ (List.mem_append_left _ k)
        · exact List.mem_append_right _ k
      · exact List.mem_append_left _ (List.mem_append_right _ (List.mem_singleton.2 k))
 have w1 := iw (x := i + 1) (by omega) (by omega)
 induction d with
 | zero =>
  intro p hp hp' hh
  have pt := put p (by omega) hp' (fun z hz => by rw [show p.toNat = 0 from by omega] at hz; simp at hz) hh
  have tl := nw (v := x3) (i := p) (by omega) hp'
  refine Ev.step (fun k => by rw [al.l1]) (ax (by omega) ?_)
  simp only [Option.bind_some]
  rw [w1]
  have dl : (x3.drop p.toNat).length ≤ x3.length := by rw [List.length_drop]; omega
  refine ab (by omega) (ab (by omega) (ab (by simp only [List.length_nil]; omega) (ab (by omega) (ab (by omega) (ab (by omega) (ab (by simp only [List.length_append, List.length_nil, List.length_singleton]; omega) pt))))))
 | succ d ih =>
  intro p hp hp' hh
  have dr := jj (l := x3) (i := p - 1) (by omega) (by omega)
  rw [show p - 1 + 1 = p from by omega] at dr
  have tl := nw (v := x3) (i := p) (by omega) hp'
  have dl : (x3.drop p.toNat).length ≤ x3.length := by rw [List.length_drop]; omega
  refine Ev.step (fun k => by rw [al.l1]) (ab (by omega) ?_)
  rw [iw (x := p - 1) (by omega) (by omega), w1]
  refine ab (by omega) (ab (by omega) (ab (by omega) (ab (by omega) ?_)))
  by_cases c : rd x3 (p - 1) > rd l i
  · exact ab c (ih (p - 1) (by omega) (by omega) (fun z hz => by
     rw [dr] at hz
     rcases List.mem_cons.1 hz with rfl | k
     · exact c
     · exact hh z k))
  · refine ax c ?_
    by_cases e : rd x3 (p - 1) = rd l i
    · refine ab e (N x3 h3 (by omega) fun z => ⟨fun k => .inl k, fun k => ?_⟩)
      rcases k with k | k
      · exact k
      · rw [k, ← e]; exact jh (by omega) (by omega)
    · have pt := put p (by omega) hp' (fun z hz => by
       obtain ⟨j, j0, j1, j2⟩ := pO hz
       rw [tl] at j1
       rw [← j2, nL j0 (by rw [tl]; exact j1), List.getElem_take]
       rw [show x3[j.toNat]'(by omega) = rd x3 j from (nL j0 (by omega)).symm]
       by_cases q : j = p - 1
       · rw [q]; omega
       · have := Au (Te h3) (p - 1 - j - 1).toNat j (p - 1) j0 (by omega) (by omega)
         omega) hh
      refine ax e ?_
      simp only [Option.bind_some]
      refine ab (by omega) (ab (by omega) (ab (by simp only [List.length_nil]; omega) (ab (by omega) (ab (by simp only [List.length_append, List.length_nil, List.length_singleton]; omega) pt))))
theorem afe {l : List Int} (hl : l.length ≤ 1048576) (d : Nat) : ∀ (i : Int) (x3 : List Int), 0 ≤ i → i + d = l.length → pw x3 → (x3.length : Int) ≤ i → (∀ z, z ∈ x3 ↔ z ∈ l.take i.toNat) → Ev (fun k => al.l0 k l x3 i) (AK l) := by
 induction d with
 | zero =>
  intro i x3 h0 h1 h3 h4 h5
  refine Ev.step (fun k => by rw [al.l0]) (ax (by omega) (en (Ev.now _) ?_))
  rw [show i.toNat = l.length from by omega, List.take_length] at h5
  exact B0 h3 (AA l) fun z => by rw [h5, q4]
 | succ d ih =>
  intro i x3 h0 h1 h3 h4 h5
  refine Ev.step (fun k => by rw [al.l0]) (ab (by omega) (afd hl h0 (by omega) h3 h4 (fun y y1 y2 y3 => ih (i + 1) y (by omega) (by omega) y1 y2 fun z => ?_) x3.length x3.length rfl (Int.le_refl _) (fun z hz => by simp at hz)))
  rw [y3, h5, yg h0 (by omega), List.mem_append, List.mem_singleton]
theorem B2 {l : List Int} (hl : l.length ≤ 1048576) : Ev (fun k => al.f k l) (AK l) :=
 afe hl l.length 0 [] (by omega) (by omega) (by simp [pw]) (by simp) (fun z => by simp)
theorem Su.all {v u : List Int} (h : ∀ x ∈ u, Su v x) {n : Int} (k : Su u n) : Su v n := by
 obtain ⟨c, w⟩ := k
 induction w with
 | zero => exact Su.zero v
 | add hx _ ih => exact ih.add (h _ hx)
noncomputable def Tf (u : List Int) : Nat → List Int
 | 0 => []
 | i + 1 => if Su (u.take i) (rd u i) then Tf u i else Tf u i ++ [rd u i]
theorem Xh {u : List Int} {i : Nat} (c : Su (u.take i) (rd u i)) : Tf u (i + 1) = Tf u i := if_pos c
theorem Tg {u : List Int} {i : Nat} (c : ¬ Su (u.take i) (rd u i)) : Tf u (i + 1) = Tf u i ++ [rd u i] := if_neg c
theorem aff {n : Int} (h : Su [] n) : n = 0 := by
 obtain ⟨c, w⟩ := h
 cases w with
 | zero => rfl
 | add hm _ => simp at hm
theorem Lf (u : List Int) (i : Nat) : (Tf u i).length ≤ i := by
 induction i with
 | zero => exact Nat.le_refl 0
 | succ i ih =>
  unfold Tf
  split
  · omega
  · rw [List.length_append, List.length_singleton]; omega
theorem afg {l : List Int} (h : UL l) : UL (AK l) := by
 have hl := h.1
 refine ⟨⟨?_, by have := vr l; omega⟩, fun x hx => h.2 x (q4.1 hx)⟩
 have := List.length_pos_of_mem (q4.2 h.first.1)
 omega
theorem Xi {u : List Int} (hu : UL u) (d : Nat) : ∀ i : Nat, i + d = u.length → Ev (fun k => az.l0 k (Tf u i) u i) (Tf u u.length) := by
 have hlen := hu.1
 induction d with
 | zero =>
  intro i hi
  rw [show i = u.length from by omega]
  exact Ev.step (fun k => by rw [az.l0]) (ax (by omega) (Ev.now _))
 | succ d ih =>
  intro i hi
  have nx := ih (i + 1) (by omega)
  have ml := Lf u i
  have hx := hu.2 _ (jh (l := u) (i := (i : Int)) (by omega) (by omega))
  refine Ev.step (fun k => by rw [az.l0]) ?_
  rw [iw (x := (i : Int) + 1) (by omega) (by omega)]
  rw [show (((i + 1 : Nat)) : Int) = (i : Int) + 1 from by omega] at nx
  by_cases c0 : (i : Int) = 0
  · have : i = 0 := by omega
    subst this
    rw [Tg (i := 0) (fun c => by rw [List.take_zero] at c; have := aff c; omega)] at nx
    exact ab (by omega) (ab c0 (ab (by omega) (ab (by omega) nx)))
  · have tl := nw (v := u) (i := (i : Int)) (by omega) (by omega)
    obtain ⟨t, t1, t2, hE⟩ := yq (v := u.take (i : Int).toNat) (by omega) (DD hu.2 _) (most := rd u (i : Int)) (by omega) (by omega)
    have ht := t2 (rd u (i : Int)) (by omega) (Int.le_refl _)
    rw [show (i : Int).toNat = i from by omega] at ht hE
    rw [show (i : Int).toNat = i from by omega]
    by_cases c : Su (u.take i) (rd u (i : Int))
    · rw [Xh c] at nx
      exact ab (by omega) (ax c0 (ab (by omega) (ab (by omega) (au _ hE (ab (by omega) (ab (by omega) (ab (ht.2 c) nx)))))))
    · rw [Tg c] at nx
      exact ab (by omega) (ax c0 (ab (by omega) (ab (by omega) (au _ hE (ab (by omega) (ab (by omega) (ax (fun h => c (ht.1 h)) (ab (by omega) nx))))))))
noncomputable def mns (l : List Int) : List Int := Tf (AK l) (AK l).length
theorem Xj {l : List Int} : (mns l).length ≤ l.length := Nat.le_trans (Lf _ _) (vr l)
theorem DF {l : List Int} (h : UL l) : Ev (fun k => az.f k l) (mns l) := by
 unfold az.f
 have := Xi (afg h) (AK l).length 0 (by omega)
 exact au _ (B2 (by have := h.1; omega)) this
def FN (l : List Int) : Prop := UL l ∧ SG (mns l)
noncomputable instance (l : List Int) : Decidable (FN l) := Classical.propDecidable _
noncomputable def fns (l : List Int) : List Int × Bool := if FN l then (mns l, true) else ([], false)
theorem q5 {l : List Int} (hl : l.length ≤ 1099511627776) : Ev (fun k => bj.f k l) (fns l) := by
 unfold bj.f fns
 refine au _ (As hl) ?_
 by_cases h : UL l
 · have ml := Xj (l := l)
   refine ab (by simpa using h) (au _ (DF h) (au _ (sy (by omega)) ?_))
   by_cases s : SG (mns l)
   · exact ab (by simpa using s) (en (Ev.now _) (if_pos (show FN l from ⟨h, s⟩)).symm)
   · exact ax (by simpa using s) (en (Ev.now _) (if_neg (show ¬ FN l from fun k => s k.2)).symm)
 · exact ax (by simpa using h) (en (Ev.now _) (if_neg (show ¬ FN l from fun k => h k.1)).symm)
theorem fg0 : bj.f 3000 [1] = some ([1], true) := by kernel_rfl
theorem fg1 : bj.f 3000 [3, 5] = some ([3, 5], true) := by kernel_rfl
theorem fg2 : bj.f 3000 [4, 6, 9] = some ([4, 6, 9], true) := by kernel_rfl
theorem fg3 : bj.f 3000 [3, 4, 5] = some ([3, 4, 5], true) := by kernel_rfl
theorem fg4 : bj.f 3000 [6, 9, 20] = some ([6, 9, 20], true) := by kernel_rfl
theorem fg5 : bj.f 3000 [5, 7, 9, 11] = some ([5, 7, 9, 11], true) := by kernel_rfl
theorem fg6 : bj.f 3000 [2, 3] = some ([2, 3], true) := by kernel_rfl
theorem fg7 : bj.f 3000 [4, 5, 11] = some ([4, 5, 11], true) := by kernel_rfl
def L8 : List (List Int) := [[1], [3, 5], [4, 6, 9], [3, 4, 5], [6, 9, 20], [5, 7, 9, 11], [2, 3], [4, 5, 11]]
theorem Th {l : List Int} (h : l ∈ L8) : Ev (fun k => bj.f k l) (l, true) := by
 simp only [L8, List.mem_cons, List.not_mem_nil, or_false] at h
 rcases h with rfl | rfl | rfl | rfl | rfl | rfl | rfl | rfl
 · exact Ev.of (bj.mono _) fg0
 · exact Ev.of (bj.mono _) fg1
 · exact Ev.of (bj.mono _) fg2
 · exact Ev.of (bj.mono _) fg3
 · exact Ev.of (bj.mono _) fg4
 · exact Ev.of (bj.mono _) fg5
 · exact Ev.of (bj.mono _) fg6
 · exact Ev.of (bj.mono _) fg7
theorem aan {l : List Int} (h : l ∈ L8) : SG l := by
 have hl : l.length ≤ 1099511627776 := by
  simp only [L8, List.mem_cons, List.not_mem_nil, or_false] at h
  rcases h with rfl | rfl | rfl | rfl | rfl | rfl | rfl | rfl <;> simp
 have e := Dj (q5 hl) (Th h)
 unfold fns at e
 split at e
 · rename_i f
   rw [Prod.mk.injEq] at e
   exact e.1 ▸ f.2
 · simp at e
theorem DG {b : List Int} {i : Int} (h : Int) (c : Cu b i) {n : Int} (hn : 0 < n) : ∃ x j g, gq.f b i h n = some (x, j, g) ∧ Cu b j := by
 obtain ⟨x, j, g, e, _, cj⟩ := mr h c hn
 exact ⟨_, j, g, by unfold gq.f; rw [e]; rfl, cj⟩
theorem Lg {b : List Int} {i : Int} (h : Int) (c : Cu b i) : ∃ l j g, jw.f b i h = some (l, j, g) ∧ l ∈ L8 ∧ Cu b j := by
 obtain ⟨x, j, g, e, hx, cj⟩ := mr h c (n := 8) (by omega)
 unfold jw.f
 rw [e]
 simp only [Option.bind_some]
 by_cases c0 : x = 0
 · exact ⟨_, j, g, by rw [if_pos c0], by simp [L8], cj⟩
 rw [if_neg c0]
 by_cases c1 : x = 1
 · exact ⟨_, j, g, by rw [if_pos c1], by simp [L8], cj⟩
 rw [if_neg c1]
 by_cases c2 : x = 2
 · exact ⟨_, j, g, by rw [if_pos c2], by simp [L8], cj⟩
 rw [if_neg c2]
 by_cases c3 : x = 3
 · exact ⟨_, j, g, by rw [if_pos c3], by simp [L8], cj⟩
 rw [if_neg c3]
 by_cases c4 : x = 4
 · exact ⟨_, j, g, by rw [if_pos c4], by simp [L8], cj⟩
 rw [if_neg c4]
 by_cases c5 : x = 5
 · exact ⟨_, j, g, by rw [if_pos c5], by simp [L8], cj⟩
 rw [if_neg c5]
 by_cases c6 : x = 6
 · exact ⟨_, j, g, by rw [if_pos c6], by simp [L8], cj⟩
 exact ⟨_, j, g, by rw [if_neg c6], by simp [L8], cj⟩
theorem M1 {b : List Int} {x5 m : Int} (hm : m ≤ 4) (hx : 0 ≤ x5 ∧ x5 < 4) (N : ∀ j h, Cu b j → ∃ s j' h', SG s ∧ Cu b j' ∧ Ev (fun k => bG.l0 k (x5 + 1) b j h) (s, j', h')) (d : Nat) : ∀ (i j h : Int) (out : List Int), 0 ≤ i → i + d = max i m → (out.length : Int) = i + 1 → i ≤ 4 → Cu b j → ∃ s j' h', SG s ∧ Cu b j' ∧ Ev (fun k => bG.l1 k x5 out m i b j h) (s, j', h') := by
 induction d with
 | zero =>
  intro i j h out i0 hi ho i4 cj
  by_cases f : FN out
  · refine ⟨mns out, j, h, f.2, cj, Ev.step (fun k => by rw [bG.l1]) (ax (by omega) (au _ (q5 (by omega)) ?_))⟩
    rw [show fns out = (mns out, true) from if_pos f]
    exact ab rfl (Ev.now _)
  · obtain ⟨s, j', h', s1, s2, s3⟩ := N j h cj
    refine ⟨s, j', h', s1, s2, Ev.step (fun k => by rw [bG.l1]) (ax (by omega) (au _ (q5 (by omega)) ?_))⟩
    rw [show fns out = ([], false) from if_neg f, iw (x := x5 + 1) (by omega) (by omega)]
    exact ax (by simp) s3
 | succ d ih =>
  intro i j h out i0 hi ho i4 cj
  obtain ⟨x, j1, g1, e, _, c1⟩ := mr h cj (n := 12) (by omega)
  obtain ⟨s, j', h', s1, s2, s3⟩ := ih (i + 1) j1 g1 (out ++ [wrap64 ((wrap64 ((rd out 0) + 1)) + x)]) (by omega) (by omega) (by rw [List.length_append, List.length_singleton]; omega) (by omega) c1
  refine ⟨s, j', h', s1, s2, Ev.step (fun k => by rw [bG.l1]) ?_⟩
  rw [e, iw (x := i + 1) (by omega) (by omega)]
  simp only [Option.bind_some]
  exact ab (by omega) (ab (by omega) (ab (by omega) s3))
theorem M3 {b : List Int} (d : Nat) : ∀ (x5 j h : Int), 0 ≤ x5 → x5 + d = 4 → Cu b j → ∃ s j' h', SG s ∧ Cu b j' ∧ Ev (fun k => bG.l0 k x5 b j h) (s, j', h') := by
 induction d with
 | zero =>
  intro x5 j h x0 hx cj
  obtain ⟨l, j1, g1, e, hl, c1⟩ := Lg h cj
  refine ⟨l, j1, g1, aan hl, c1, Ev.step (fun k => by rw [bG.l0]) ?_⟩
  rw [e]
  simp only [Option.bind_some]
  exact ax (by omega) (au _ (Th hl) (Ev.now _))
 | succ d ih =>
  intro x5 j h x0 hx cj
  obtain ⟨x, j1, g1, e1, hx1, c1⟩ := mr h cj (n := 8) (by omega)
  obtain ⟨y, j2, g2, e2, hx2, c2⟩ := mr g1 c1 (n := 4) (by omega)
  obtain ⟨s, j', h', s1, s2, s3⟩ := M1 (b := b) (x5 := x5) (m := 1 + y) (by omega) ⟨x0, by omega⟩ (fun j h c => ih (x5 + 1) j h (by omega) (by omega) c) (1 + y).toNat 0 j2 g2 [wrap64 (2 + x)] (Int.le_refl _) (by omega) (by simp) (by omega) c2
  refine ⟨s, j', h', s1, s2, Ev.step (fun k => by rw [bG.l0]) ?_⟩
  rw [e1]
  simp only [Option.bind_some]
  rw [e2]
  simp only [Option.bind_some]
  rw [iw (x := 1 + y) (by omega) (by omega)]
  exact ab (by omega) s3
theorem M4 {b : List Int} {j : Int} (h : Int) (c : Cu b j) : ∃ s j' h', SG s ∧ Cu b j' ∧ Ev (fun k => bG.f k b j h) (s, j', h') := by
 obtain ⟨x, j1, g1, e, c1⟩ := DG h c (n := 4) (by omega)
 by_cases hx : x = true
 · obtain ⟨l, j2, g2, e2, hl, c2⟩ := Lg g1 c1
   refine ⟨l, j2, g2, aan hl, c2, ?_⟩
   unfold bG.f
   rw [e]
   simp only [Option.bind_some]
   rw [e2]
   simp only [Option.bind_some]
   exact ab hx (au _ (Th hl) (Ev.now _))
 · obtain ⟨s, j', h', s1, s2, s3⟩ := M3 4 0 j1 g1 (Int.le_refl _) (by omega) c1
   refine ⟨s, j', h', s1, s2, ?_⟩
   unfold bG.f
   rw [e]
   simp only [Option.bind_some]
   exact ax hx s3
theorem td {b : List Int} {j : Int} (h : Int) (c : Cu b j) : ∃ s j' h', s.length ≤ 13 ∧ Cu b j' ∧ Ev (fun k => dH.f k b j h) (s, j', h') := by
 obtain ⟨s, j1, g1, s1, c1, s3⟩ := M4 h c
 obtain ⟨x, j2, g2, e2, hx, c2⟩ := mr g1 c1 (n := 12) (by omega)
 have hl := s1.len
 have hu := s1.ul.1
 by_cases x0 : x = 0
 · obtain ⟨y, j3, g3, e3, hy, c3⟩ := yo g2 c2 (l := [0, 61, 12, (-3), 60]) (by simp)
   refine ⟨s ++ [y], j3, g3, by rw [List.length_append, List.length_singleton]; omega, c3, ?_⟩
   unfold dH.f
   refine au _ s3 ?_
   rw [e2]
   simp only [Option.bind_some]
   rw [e3]
   simp only [Option.bind_some]
   exact ab x0 (ab (by omega) (Ev.now _))
 · by_cases x1 : x = 1
   · refine ⟨s.drop (1 : Int).toNat, j2, g2, by rw [List.length_drop]; omega, c2, ?_⟩
     unfold dH.f
     refine au _ s3 ?_
     rw [e2]
     simp only [Option.bind_some]
     exact ax x0 (ab x1 (ab (by omega) (Ev.now _)))
   · by_cases x2 : x = 2
     · obtain ⟨y, j3, g3, e3, hy, c3⟩ := yo g2 c2 (l := [0, 59, 4]) (by simp)
       refine ⟨[y, 60], j3, g3, by simp, c3, ?_⟩
       unfold dH.f
       refine au _ s3 ?_
       rw [e2]
       simp only [Option.bind_some]
       rw [e3]
       simp only [Option.bind_some]
       exact ax x0 (ax x1 (ab x2 (Ev.now _)))
     · refine ⟨s, j2, g2, by omega, c2, ?_⟩
       unfold dH.f
       refine au _ s3 ?_
       rw [e2]
       simp only [Option.bind_some]
       exact ax x0 (ax x1 (ax x2 (Ev.now _)))
noncomputable def wA (v : List Int) (m : Int) : List Bool := (List.range (m + 1).toNat).map (fun n : Nat => decide (Su v (n : Int)))
theorem sA {v : List Int} {m : Int} (h : 0 ≤ m) : ((wA v m).length : Int) = m + 1 := by unfold wA; simp; omega
theorem I6 {l : List Bool} {i : Int} (h0 : 0 ≤ i) (h : i < l.length) : e6 false l i = l[i.toNat]'(by omega) := by
 unfold e6; rw [List.getD_eq_getElem?_getD, List.getElem?_eq_getElem (by omega)]; rfl
theorem Xk {l m : List Bool} (hl : l.length = m.length) (h : ∀ i : Int, 0 ≤ i → i < l.length → e6 false l i = e6 false m i) : l = m := by
 refine List.ext_getElem hl fun n h1 h2 => ?_
 have := h n (by omega) (by omega)
 rw [I6 (by omega) (by omega), I6 (by omega) (by omega)] at this
 simpa using this
theorem Lh {v : List Int} {m j : Int} (h0 : 0 ≤ j) (h : j ≤ m) : e6 false (wA v m) j = decide (Su v j) := by
 have := sA (v := v) (m := m) (by omega)
 rw [I6 h0 (by omega)]
 unfold wA
 rw [List.getElem_map, List.getElem_range, show ((j.toNat : Nat) : Int) = j from by omega]
theorem Gh {v : List Int} {m j : Int} (h0 : 0 ≤ j) (h : j ≤ m) : e6 false (wA v m) j = true ↔ Su v j := by rw [Lh h0 h]; simp
theorem Li {v : List Int} {m : Int} (hm : 0 ≤ m) {t : List Bool} (hl : (t.length : Int) = m + 1) (h : ∀ j, 0 ≤ j → j ≤ m → (e6 false t j = true ↔ Su v j)) : t = wA v m := by
 have e := sA (v := v) hm
 refine Xk (by omega) fun i h0 h1 => ?_
 rw [Lh h0 (by omega), Bool.eq_iff_iff, h i h0 (by omega), decide_eq_true_eq]
theorem Xl {v : List Int} (hl : v.length ≤ 20) (hv : ∀ x ∈ v, 1 ≤ x ∧ x ≤ 60) {most : Int} (h0 : 0 ≤ most) (hm : most ≤ 1048576) : Ev (fun k => aD.f k v most) (wA v most) := by
 obtain ⟨t, a, b, c⟩ := yq hl hv h0 hm
 rw [Li h0 a b] at c
 exact c
theorem afi {v u : List Int} (hu : UL v) (hg : gl v = 1) (hL : F7 v (rd v 0) 60 u) {most : Int} (hm0 : 0 ≤ most) (hm : most ≤ 1048576) (d : Nat) : ∀ (i : Int) (out : List Bool), 0 ≤ i → i + d = most + 1 → (out.length : Int) = most + 1 → (∀ j, 0 ≤ j → j < i → (e6 false out j = true ↔ Su v j)) → Ev (fun k => dg.l0 k u out (most + 1) i v) (wA v most) := by
 have f := hu.first
 obtain ⟨_, fa, fb⟩ := f
 have f := hu.first
 have hlen := hu.1
 have hll := hL.len
 induction d with
 | zero =>
  intro i out h0 h1 h2 h3
  refine Ev.step (fun k => by rw [dg.l0]) ?_
  rw [Li (v := v) (m := most) (t := out) (by omega) h2 (fun j a b => h3 j a (by omega))]
  exact ax (by omega) (Ev.now _)
 | succ d ih =>
  intro i out h0 h1 h2 h3
  have q0 := Int.emod_nonneg i (b := rd v 0) (by omega)
  have q1 := Int.emod_lt_of_pos i (b := rd v 0) (by omega)
  have p := hL.all f.2.1 hu.2 hg q0 q1
  have s := hL.su f.2.1 (Su.mem f.1) (n := i)
  refine Ev.step (fun k => by rw [dg.l0]) ?_
  rw [Int.tmod_eq_emod_of_nonneg h0, iw (x := i + 1) (by omega) (by omega)]
  refine ab (by omega) (ab (by omega) (ax (by omega) (ab q0 (ab (by omega) (ab h0 (ab (by omega) (ih (i + 1) _ (by omega) (by omega) (by simpa using h2) fun j hj hj' => ?_)))))))
  rw [q3 _ h0 (by omega) hj]
  by_cases e : j = i
  · subst e
    rw [if_pos rfl, decide_eq_true_eq, s]
    exact ⟨fun h => ⟨p, h⟩, fun h => h.2⟩
  · rw [if_neg e]; exact h3 j hj (by omega)
theorem Xm {v : List Int} (hu : UL v) (hg : gl v = 1) {most : Int} (h0 : 0 ≤ most) (hm : most ≤ 1048576) : Ev (fun k => dg.f k v most) (wA v most) := by
 obtain ⟨f1, f2, f3⟩ := hu.first
 have hlen := hu.1
 obtain ⟨u, hL, hE⟩ := wz (G := 60) (a := rd v 0) hu.2 (by omega) (by omega) f2 (by omega) (by omega)
 have e0 : ((List.replicate (most + 1).toNat false).length : Int) = most + 1 := by simp; omega
 unfold dg.f
 refine ab (by omega) (au _ hE ?_)
 rw [iw (by omega) (by omega)]
 simp only [Option.bind_some]
 refine ab (by omega) (ab (by omega) ?_)
 rw [e0]
 exact afi hu hg hL h0 hm (most + 1).toNat 0 _ (by omega) (by omega) e0 (fun j a b => by omega)
noncomputable def sB (v : List Int) (n : Int) : Bool := !decide (Su v n)
noncomputable def gp (v : List Int) : List Int := fl (sB v) 1 199
theorem ng {v : List Int} {n : Int} : sB v n = true ↔ ¬ Su v n := by unfold sB; simp
theorem SG.anD {v : List Int} (h : SG v) : Su v 200 := h.ends 200 (by omega)
theorem SG.anE {v : List Int} (h : SG v) {m : Int} (h0 : 0 ≤ m) (hm : m ≤ 1048576) : Ev (fun k => dg.f k v m) (wA v m) := Xm h.ul h.gcd h0 hm
theorem SG.afj {v : List Int} (h : SG v) {m : Int} (h0 : 0 ≤ m) (hm : m ≤ 1048576) : Ev (fun k => aD.f k v m) (wA v m) := Xl (by have := h.len; omega) h.ul.2 h0 hm
theorem Xn {v : List Int} (h : SG v) : fl (sB v) 0 201 = gp v := by
 have a : ¬ sB v 0 = true := by rw [ng]; simpa using Su.zero v
 have b : ¬ sB v 200 = true := by rw [ng]; simpa using h.anD
 rw [show (201 : Nat) = 200 + 1 from rfl, oM a, show (200 : Nat) = 199 + 1 from rfl, Av, show (0 : Int) + 1 = 1 from rfl, show (1 : Int) + ((199 : Nat) : Int) = 200 from rfl, show (1 : Nat) = 0 + 1 from rfl, oM b]
 unfold gp
 rw [show fl (sB v) (200 + 1) 0 = [] from rfl, List.append_nil]
theorem DH {v : List Int} {x : Int} : x ∈ gp v ↔ 1 ≤ x ∧ x < 200 ∧ ¬ Su v x := by
 unfold gp; rw [pQ, ng]; constructor <;> rintro ⟨a, b, c⟩ <;> exact ⟨a, by omega, c⟩
theorem pR (v : List Int) : (gp v).length ≤ 199 := DE _ _ _
end Go.Proofs.YtjodlkbhaofkkaaGreat.E
end
