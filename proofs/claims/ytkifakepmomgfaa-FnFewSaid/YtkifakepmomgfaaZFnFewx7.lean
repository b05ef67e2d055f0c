-- Bundled by shake.py from this session's printed and written texts; Lean checks it.
import Derived.ChangeSlices
import Derived.SizedLaws
import Derived.Test.YtkifakepmomgfaaZFnFewx0
import Derived.Test.YtkifakepmomgfaaZFnFewx1
import Derived.Test.YtkifakepmomgfaaZFnFewx2
import Derived.Test.YtkifakepmomgfaaZFnFewx3
import Derived.Test.YtkifakepmomgfaaZFnFewx4
import Derived.Test.YtkifakepmomgfaaZFnFewx5
import Derived.Test.YtkifakepmomgfaaZFnFewx6
section
namespace Go.Proofs.Ytkifakepmomgfaa.E
open Go.RowKit Go.Proofs.YtkifakepmomgfaaW.PrintWords Go.Proofs.YtkifakepmomgfaaW.PrintLast Go.Proofs.YtkifakepmomgfaaW.PrintMore
set_option linter.unusedVariables false
set_option linter.unusedSimpArgs false
theorem w64 {x : Int} (h1 : -9223372036854775808 ≤ x) (h2 : x ≤ 9223372036854775807) : wrap64 x = x := by
  unfold wrap64; omega
theorem nd_t {p : Prop} [Decidable p] (h : ¬ p) : (!decide p) = true := by simp [h]
theorem nd_f {p : Prop} [Decidable p] (h : p) : ¬ (!decide p) = true := by simp [h]
theorem d_f {p : Prop} [Decidable p] (h : ¬ p) : ¬ decide p = true := by simp [h]
theorem ev_ifp {α : Type} {c : Prop} [Decidable c] {a b : Nat → Option α} {r : α} (h : c) (k : Ev a r) : Ev (fun n => if c then a n else b n) r :=
  Ev.congr (fun _ => if_pos h) k
theorem ev_ifn {α : Type} {c : Prop} [Decidable c] {a b : Nat → Option α} {r : α} (h : ¬ c) (k : Ev b r) : Ev (fun n => if c then a n else b n) r :=
  Ev.congr (fun _ => if_neg h) k
theorem ev_eq {α : Type} {o : Option α} {r : α} (h : o = some r) : Ev (fun _ => o) r := ⟨0, fun _ _ => h⟩
theorem ev_bind {α β : Type} {g : Nat → Option α} {f : Nat → α → Option β} (a : α) {r : β} (h : Ev g a) (k : Ev (fun n => f n a) r) : Ev (fun n => (g n).bind (f n)) r := Ev.bind h k
theorem ev_one {α : Type} {g : Nat → Option α} {a b : α} (h : Ev g a) (k : Ev g b) : a = b := by
  obtain ⟨K, h⟩ := h
  obtain ⟨L, k⟩ := k
  have h1 := h (max K L) (by omega)
  have h2 := k (max K L) (by omega)
  rw [h1] at h2
  exact Option.some.inj h2
theorem ev_to {α : Type} {g : Nat → Option α} {a b : α} (h : Ev g a) (e : a = b) : Ev g b := e ▸ h
theorem rd_lt {l : List Int} {i : Int} (h0 : 0 ≤ i) (h : i < l.length) : rd l i = l[i.toNat]'(by omega) := by
  unfold rd; rw [List.getD_eq_getElem?_getD, List.getElem?_eq_getElem (by omega)]; rfl
theorem rd_mem {l : List Int} {i : Int} (h0 : 0 ≤ i) (h : i < l.length) : rd l i ∈ l := by
  rw [rd_lt h0 h]; exact List.getElem_mem _
theorem drop_rd {l : List Int} {i : Int} (h0 : 0 ≤ i) (h : i < l.length) : l.drop i.toNat = rd l i :: l.drop (i + 1).toNat := by
  rw [rd_lt h0 h, List.drop_eq_getElem_cons (by omega)]
  congr 2; omega
theorem rd_ext {l m : List Int} (hl : l.length = m.length) (h : ∀ i : Int, 0 ≤ i → i < l.length → rd l i = rd m i) : l = m := by
  refine List.ext_getElem hl fun n h1 h2 => ?_
  have := h n (by omega) (by omega)
  rw [rd_lt (by omega) (by omega), rd_lt (by omega) (by omega)] at this
  simpa using this
theorem rd_set {l : List Int} {i j : Int} (x : Int) (hi : 0 ≤ i) (hi' : i < l.length) (hj : 0 ≤ j) : rd (l.set i.toNat x) j = if j = i then x else rd l j := by
  unfold rd
  rw [List.getD_eq_getElem?_getD, List.getD_eq_getElem?_getD, List.getElem?_set]
  by_cases h : j = i
  · subst h; rw [if_pos rfl, if_pos rfl, if_pos (by omega)]; rfl
  · rw [if_neg h, if_neg (by omega)]
theorem rd_rep {n : Nat} {x : Int} {i : Int} (hi : 0 ≤ i) (h : i < n) : rd (List.replicate n x) i = x := by
  rw [rd_lt hi (by simpa using h)]; simp
theorem mem_rd {l : List Int} {x : Int} (h : x ∈ l) : ∃ i : Int, 0 ≤ i ∧ i < l.length ∧ rd l i = x := by
  obtain ⟨n, hn, rfl⟩ := List.mem_iff_getElem.1 h
  exact ⟨n, by omega, by omega, by rw [rd_lt (by omega) (by omega)]; simp⟩
end Go.Proofs.Ytkifakepmomgfaa.E
end
section
namespace Go.Proofs.Ytkifakepmomgfaa.E
open Go.RowKit Go.Proofs.Ytkifakepmomgfaa.PA Go.Proofs.YtkifakepmomgfaaW.PrintWords Go.Proofs.YtkifakepmomgfaaW.PrintLast Go.Proofs.YtkifakepmomgfaaW.PrintMore
set_option linter.unusedVariables false
set_option linter.unusedSimpArgs false
theorem and255 (a : Int) : 0 ≤ Go.bits .and .i64 a 255 ∧ Go.bits .and .i64 a 255 ≤ 255 := by
  have h : ((BitVec.ofInt 64 a &&& BitVec.ofInt 64 255).toNat : Nat) ≤ 255 := by
    rw [BitVec.toNat_and]
    exact Nat.le_trans Nat.and_le_right (by decide)
  show 0 ≤ IntKind.i64.wrap ((BitVec.ofInt 64 a &&& BitVec.ofInt 64 255).toNat : Int) ∧ IntKind.i64.wrap ((BitVec.ofInt 64 a &&& BitVec.ofInt 64 255).toNat : Int) ≤ 255
  rw [Go.IntKind.wrap_i64]
  omega
def Cu (b : List Int) (i : Int) : Prop := 0 ≤ i ∧ i ≤ b.length ∧ (b.length : Int) ≤ 1099511627776
theorem byte_ok {b : List Int} {i : Int} (h : Int) (c : Cu b i) : ∃ x j g, spec_l1Byte.f b i h = some (x, j, g) ∧ (0 ≤ x ∧ x ≤ 255) ∧ Cu b j := by
  obtain ⟨c1, c2, c3⟩ := c
  unfold spec_l1Byte.f
  by_cases e : i < b.length
  · rw [if_pos e, if_pos c1, w64 (x := i + 1) (by omega) (by omega)]
    exact ⟨_, _, _, rfl, and255 _, by omega, by omega, c3⟩
  · rw [if_neg e]
    exact ⟨_, _, _, rfl, and255 _, c1, c2, c3⟩
theorem below_ok {b : List Int} {i : Int} (h : Int) (c : Cu b i) {n : Int} (hn : 0 < n) : ∃ x j g, spec_l1Below.f b i h n = some (x, j, g) ∧ (0 ≤ x ∧ x < n) ∧ Cu b j := by
  unfold spec_l1Below.f
  rw [if_neg (by omega)]
  by_cases e : n ≤ 256
  · obtain ⟨x, j, g, e1, hx, c'⟩ := byte_ok h c
    rw [if_pos e, e1]
    simp only [Option.bind_some]
    rw [if_neg (by omega), Int.tmod_eq_emod_of_nonneg hx.1]
    exact ⟨_, _, _, rfl, ⟨Int.emod_nonneg _ (by omega), Int.emod_lt_of_pos _ hn⟩, c'⟩
  · obtain ⟨x, j, g, e1, hx, c1⟩ := byte_ok h c
    obtain ⟨y, j2, g2, e2, hy, c2⟩ := byte_ok g c1
    obtain ⟨z, j3, g3, e3, hz, c3⟩ := byte_ok g2 c2
    obtain ⟨u, j4, g4, e4, hu, c4⟩ := byte_ok g3 c3
    rw [if_neg e, e1]
    simp only [Option.bind_some]
    rw [e2]
    simp only [Option.bind_some]
    rw [e3]
    simp only [Option.bind_some]
    rw [e4]
    simp only [Option.bind_some]
    rw [if_neg (by omega), w64 (x := x * 16777216) (by omega) (by omega), w64 (x := y * 65536) (by omega) (by omega), w64 (x := z * 256) (by omega) (by omega), w64 (x := x * 16777216 + y * 65536) (by omega) (by omega), w64 (x := x * 16777216 + y * 65536 + z * 256) (by omega) (by omega), w64 (x := x * 16777216 + y * 65536 + z * 256 + u) (by omega) (by omega), Int.tmod_eq_emod_of_nonneg (by omega)]
    exact ⟨_, _, _, rfl, ⟨Int.emod_nonneg _ (by omega), Int.emod_lt_of_pos _ hn⟩, c4⟩
theorem pick_ok {b : List Int} {i : Int} (h : Int) (c : Cu b i) {l : List Int} (hl : 0 < (l.length : Int)) : ∃ x j g, spec_l1PickInt.f b i h l = some (x, j, g) ∧ x ∈ l ∧ Cu b j := by
  obtain ⟨x, j, g, e, hx, c'⟩ := below_ok h c hl
  unfold spec_l1PickInt.f
  rw [e]
  simp only [Option.bind_some]
  rw [if_pos hx.1, if_pos hx.2]
  exact ⟨_, _, _, rfl, rd_mem hx.1 hx.2, c'⟩
theorem new_l {b : List Int} (hb : (b.length : Int) ≤ 1099511627776) (d : Nat) : ∀ i h : Int, 0 ≤ i → i + d = max i (min 4000 b.length) → ∃ g, Ev (fun k => spec_l1New.l0 k b h i) (b, 0, g) := by
  induction d with
  | zero =>
    intro i h h0 h1
    refine ⟨h, Ev.step (fun k => by rw [spec_l1New.l0]) ?_⟩
    by_cases c : i < b.length
    · exact ev_ifp c (ev_ifn (by omega) (Ev.now _))
    · exact ev_ifn c (Ev.now _)
  | succ d ih =>
    intro i h h0 h1
    obtain ⟨g, hE⟩ := ih (i + 1) (Go.bits .and .i64 (wrap64 ((wrap64 ((wrap64 (h * 131)) + (wrap64 (rd b i)))) + 7)) 1073741823) (by omega) (by omega)
    refine ⟨g, Ev.step (fun k => by rw [spec_l1New.l0]) ?_⟩
    rw [w64 (x := i + 1) (by omega) (by omega)]
    exact ev_ifp (by omega) (ev_ifp (by omega) (ev_ifp h0 hE))
theorem new_ev {b : List Int} (hb : (b.length : Int) ≤ 1099511627776) : ∃ g, Ev (fun k => spec_l1New.f k b) (b, 0, g) ∧ Cu b 0 := by
  obtain ⟨g, hE⟩ := new_l hb (min 4000 b.length) 0 (wrap64 (26583 + (b.length : Int))) (by omega) (by omega)
  exact ⟨g, hE, by omega, by omega, hb⟩
end Go.Proofs.Ytkifakepmomgfaa.E
end
section
namespace Go.Proofs.Ytkifakepmomgfaa.E
open Go.RowKit Go.Proofs.Ytkifakepmomgfaa.PA Go.Proofs.YtkifakepmomgfaaW.PrintWords Go.Proofs.YtkifakepmomgfaaW.PrintLast Go.Proofs.YtkifakepmomgfaaW.PrintMore
set_option linter.unusedVariables false
set_option linter.unusedSimpArgs false
theorem drawPair_ev {b : List Int} (hb : (b.length : Int) ≤ 1099511627776) : ∃ x y, (x ≤ 200 → x ≤ 30) ∧ y ≤ 30 ∧ Ev (fun k => spec_DrawPairFrobenius.f k b) (x, y) := by
  obtain ⟨g, hE, c⟩ := new_ev hb
  obtain ⟨x, j1, g1, e1, hx, c1⟩ := below_ok g c (n := 30) (by omega)
  obtain ⟨y, j2, g2, e2, hy, c2⟩ := below_ok g1 c1 (n := 10) (by omega)
  have o : spec_l1Once.f b j1 g1 10 = some (y == 0, j2, g2) := by unfold spec_l1Once.f; rw [e2]; rfl
  by_cases h : y = 0
  · obtain ⟨z, j3, g3, e3, hz, c3⟩ := pick_ok g2 c2 (l := [0, 1000, 1001, (-5)]) (by simp)
    obtain ⟨u, j4, g4, e4, hu, c4⟩ := below_ok g3 c3 (n := 30) (by omega)
    refine ⟨z, wrap64 (1 + u), ?_, ?_, ?_⟩
    · simp at hz; omega
    · rw [w64 (by omega) (by omega)]; omega
    · unfold spec_DrawPairFrobenius.f
      exact ev_bind _ hE (ev_bind _ (ev_eq e1) (ev_bind _ (ev_eq o) (ev_ifp (by simpa using h) (ev_bind _ (ev_eq e3) (ev_bind _ (ev_eq e4) (Ev.now _))))))
  · obtain ⟨u, j4, g4, e4, hu, c4⟩ := below_ok g2 c2 (n := 30) (by omega)
    refine ⟨wrap64 (1 + x), wrap64 (1 + u), ?_, ?_, ?_⟩
    · rw [w64 (by omega) (by omega)]; omega
    · rw [w64 (by omega) (by omega)]; omega
    · unfold spec_DrawPairFrobenius.f
      exact ev_bind _ hE (ev_bind _ (ev_eq e1) (ev_bind _ (ev_eq o) (ev_ifn (by simpa using h) (ev_bind _ (ev_eq e4) (Ev.now _)))))
theorem drawWays_ev {b : List Int} (hb : (b.length : Int) ≤ 1099511627776) : ∃ x y n, Ev (fun k => spec_DrawPairWays.f k b) (x, y, n) := by
  obtain ⟨x, y, _, _, hP⟩ := drawPair_ev hb
  obtain ⟨g, hE, c⟩ := new_ev hb
  obtain ⟨u, j1, g1, e1, hu, c1⟩ := below_ok g c (n := 300) (by omega)
  obtain ⟨v, j2, g2, e2, hv, c2⟩ := below_ok g1 c1 (n := 300) (by omega)
  obtain ⟨z, j3, g3, e3, hz, c3⟩ := pick_ok g2 c2 (l := [u, v, (-1), 1000001, 5000]) (by simp)
  refine ⟨x, y, z, ?_⟩
  unfold spec_DrawPairWays.f
  exact ev_bind _ hP (ev_bind _ hE (ev_bind _ (ev_eq e1) (ev_bind _ (ev_eq e2) (ev_bind _ (ev_eq e3) (Ev.now _)))))
theorem drawRun_ev {b : List Int} (hb : (b.length : Int) ≤ 1099511627776) : ∃ p d k, (1 ≤ p ∧ p ≤ 12) ∧ (0 ≤ d ∧ d ≤ 8) ∧ (0 ≤ k ∧ k ≤ 12) ∧ Ev (fun n => spec_DrawRunFrobenius.f n b) (p, d, k) := by
  obtain ⟨g, hE, c⟩ := new_ev hb
  obtain ⟨u, j1, g1, e1, hu, c1⟩ := below_ok g c (n := 12) (by omega)
  obtain ⟨v, j2, g2, e2, hv, c2⟩ := below_ok g1 c1 (n := 9) (by omega)
  obtain ⟨z, j3, g3, e3, hz, c3⟩ := below_ok g2 c2 (n := 13) (by omega)
  refine ⟨wrap64 (1 + u), v, z, ?_, by omega, by omega, ?_⟩
  · rw [w64 (by omega) (by omega)]; omega
  · unfold spec_DrawRunFrobenius.f
    exact ev_bind _ hE (ev_bind _ (ev_eq e1) (ev_bind _ (ev_eq e2) (ev_bind _ (ev_eq e3) (Ev.now _))))
theorem drawLis_l {b : List Int} {m : Int} (hm : m ≤ 4) (hm1 : 1 ≤ m) (d : Nat) : ∀ (i j h : Int) (out : List Int), 0 ≤ i → i + d = m → (out.length : Int) = i → Cu b j → ∃ l n, l.length ≤ 8 ∧ Ev (fun k => spec_DrawLeastInSum.l0 k out m i b j h) (l, n) := by
  induction d with
  | zero =>
    intro i j h out h0 h1 h2 c
    obtain ⟨y, j2, g2, e2, hy, c2⟩ := below_ok h c (n := 12) (by omega)
    have o : spec_l1Once.f b j h 12 = some (y == 0, j2, g2) := by unfold spec_l1Once.f; rw [e2]; rfl
    by_cases q : y = 0
    · obtain ⟨z, j3, g3, e3, hz, c3⟩ := pick_ok g2 c2 (l := [0, 1000, 1001]) (by simp)
      obtain ⟨u, j4, g4, e4, hu, c4⟩ := below_ok g3 c3 (n := 20) (by omega)
      obtain ⟨n, j5, g5, e5, hn, c5⟩ := pick_ok g4 c4 (l := [wrap64 (1 + u), rd (out ++ [z]) 0, 0, 201, 200]) (by simp)
      refine ⟨out ++ [z], n, by simp; omega, Ev.step (fun k => by rw [spec_DrawLeastInSum.l0]) ?_⟩
      simp only [Option.bind_some]
      exact ev_ifn (by omega) (ev_bind _ (ev_eq o) (ev_ifp (by simpa using q) (ev_bind _ (ev_eq e3) (ev_ifp (by omega) (ev_bind _ (ev_eq e4) (ev_ifp (by simp <;> omega) (ev_bind _ (ev_eq e5) (Ev.now _))))))))
    · obtain ⟨u, j4, g4, e4, hu, c4⟩ := below_ok g2 c2 (n := 20) (by omega)
      obtain ⟨n, j5, g5, e5, hn, c5⟩ := pick_ok g4 c4 (l := [wrap64 (1 + u), rd out 0, 0, 201, 200]) (by simp)
      refine ⟨out, n, by omega, Ev.step (fun k => by rw [spec_DrawLeastInSum.l0]) ?_⟩
      exact ev_ifn (by omega) (ev_bind _ (ev_eq o) (ev_ifn (by simpa using q) (ev_bind _ (ev_eq e4) (ev_ifp (by omega) (ev_bind _ (ev_eq e5) (Ev.now _))))))
  | succ d ih =>
    intro i j h out h0 h1 h2 c
    obtain ⟨x, j1, g1, e1, hx, c1⟩ := below_ok h c (n := 40) (by omega)
    obtain ⟨l, n, a1, a3⟩ := ih (i + 1) j1 g1 (out ++ [wrap64 (1 + x)]) (by omega) (by omega) (by simp; omega) c1
    refine ⟨l, n, a1, Ev.step (fun k => by rw [spec_DrawLeastInSum.l0]) ?_⟩
    rw [w64 (x := i + 1) (by omega) (by omega)]
    exact ev_ifp (by omega) (ev_bind _ (ev_eq e1) (ev_ifp (by omega) a3))
theorem drawLis_ev {b : List Int} (hb : (b.length : Int) ≤ 1099511627776) : ∃ l n, l.length ≤ 8 ∧ Ev (fun k => spec_DrawLeastInSum.f k b) (l, n) := by
  obtain ⟨g, hE, c⟩ := new_ev hb
  obtain ⟨x, j1, g1, e1, hx, c1⟩ := below_ok g c (n := 4) (by omega)
  obtain ⟨l, n, a1, a3⟩ := drawLis_l (b := b) (m := wrap64 (1 + x)) (by rw [w64 (by omega) (by omega)]; omega) (by rw [w64 (by omega) (by omega)]; omega) (1 + x).toNat 0 j1 g1 [] (by omega) (by rw [w64 (by omega) (by omega)]; omega) (by simp) c1
  refine ⟨l, n, a1, ?_⟩
  unfold spec_DrawLeastInSum.f
  exact ev_bind _ hE (ev_bind _ (ev_eq e1) a3)
end Go.Proofs.Ytkifakepmomgfaa.E
end
section
namespace Go.Proofs.Ytkifakepmomgfaa.E
open Go.RowKit Go.Proofs.Ytkifakepmomgfaa.PA Go.Proofs.YtkifakepmomgfaaW.PrintWords Go.Proofs.YtkifakepmomgfaaW.PrintLast Go.Proofs.YtkifakepmomgfaaW.PrintMore
set_option linter.unusedVariables false
set_option linter.unusedSimpArgs false
theorem l1In_eq (n lo hi : Int) : spec_l1In.f n lo hi = some (decide (lo ≤ n ∧ n ≤ hi)) := by
  unfold spec_l1In.f; by_cases h : n ≥ lo
  · rw [if_pos h]; simp [h]
  · rw [if_neg h]; simp [show ¬ lo ≤ n from h]
theorem within_eq (n lo hi : Int) : impl_within.f n lo hi = some (decide (lo ≤ n ∧ n ≤ hi)) := l1In_eq n lo hi
theorem allWithin_l {l : List Int} {lo hi : Int} (hl : l.length ≤ 1099511627776) (d : Nat) : ∀ (i : Int), 0 ≤ i → i + d = l.length → Ev (fun k => impl_allWithin.l0 k lo hi l l.length i) (decide (∀ x ∈ l.drop i.toNat, lo ≤ x ∧ x ≤ hi)) := by
  induction d with
  | zero =>
    intro i h0 h1
    refine Ev.step (fun k => by rw [impl_allWithin.l0]) ?_
    simp (disch := omega) only [if_neg]
    refine ev_to (Ev.now _) ?_
    rw [List.drop_of_length_le (by omega)]; simp
  | succ d ih =>
    intro i h0 h1
    refine Ev.step (fun k => by rw [impl_allWithin.l0]) ?_
    simp (disch := omega) only [if_pos, w64, within_eq, Option.bind_some]
    rw [drop_rd h0 (by omega)]
    by_cases h : lo ≤ rd l i ∧ rd l i ≤ hi
    · refine ev_ifp (by simpa using h) (ev_to (ih (i + 1) (by omega) (by omega)) ?_)
      simp [h]
    · refine ev_ifn (by simpa using h) (ev_to (Ev.now _) ?_)
      simp only [List.mem_cons, forall_eq_or_imp, h, false_and, decide_false]
theorem allWithin_ev {l : List Int} (lo hi : Int) (hl : l.length ≤ 1099511627776) : Ev (fun k => impl_allWithin.f k l lo hi) (decide (∀ x ∈ l, lo ≤ x ∧ x ≤ hi)) :=
  ev_to (allWithin_l hl l.length 0 (by omega) (by omega)) (by simp)
def Asc (l : List Int) : Prop := ∀ i : Int, 0 < i → i < l.length → rd l (i - 1) < rd l i
noncomputable instance (l : List Int) : Decidable (Asc l) := Classical.propDecidable _
end Go.Proofs.Ytkifakepmomgfaa.E
end
section
namespace Go.Proofs.Ytkifakepmomgfaa.E
open Go.RowKit Go.Proofs.Ytkifakepmomgfaa.PA Go.Proofs.YtkifakepmomgfaaW.PrintWords Go.Proofs.YtkifakepmomgfaaW.PrintLast Go.Proofs.YtkifakepmomgfaaW.PrintMore
set_option linter.unusedVariables false
set_option linter.unusedSimpArgs false
theorem l2Small_eq (n : Int) : spec_l2Small.f n = some (decide (-1000000 ≤ n ∧ n ≤ 1000000)) := by
  unfold spec_l2Small.f; rw [l1In_eq]; rfl
theorem l1Max_eq (a b : Int) : spec_l1Max.f a b = some (max a b) := by
  unfold spec_l1Max.f
  by_cases h : a > b
  · rw [if_pos h, Int.max_eq_left (by omega)]
  · rw [if_neg h, Int.max_eq_right (by omega)]
theorem mx_eq (a b : Int) : mx a b = max a b := by unfold mx; omega
theorem gcdI_l (m : Nat) : ∀ n : Nat, Ev (fun k => impl_GcdOf.l0 k (m : Int) (n : Int)) (Nat.gcd m n : Int) := by
  induction m using Nat.strongRecOn with
  | _ m ih =>
    intro n
    refine Ev.step (fun k => by rw [impl_GcdOf.l0]) ?_
    by_cases h : m = 0
    · subst h
      refine ev_ifp (by rfl) (ev_to (Ev.now _) (by simp))
    · refine ev_ifn (by omega) ?_
      rw [show Int.tmod (n : Int) (m : Int) = ((n % m : Nat) : Int) from rfl, Nat.gcd_rec]
      exact ih _ (Nat.mod_lt _ (by omega)) m
theorem gcdS_l (n : Nat) : ∀ m : Nat, Ev (fun k => spec_GcdOf.l0 k (m : Int) (n : Int)) (Nat.gcd m n : Int) := by
  induction n using Nat.strongRecOn with
  | _ n ih =>
    intro m
    refine Ev.step (fun k => by rw [spec_GcdOf.l0]) ?_
    by_cases h : n = 0
    · subst h
      refine ev_ifn (by simp) (ev_to (Ev.now _) (by simp))
    · refine ev_ifp (by omega) (ev_ifn (by omega) ?_)
      rw [show Int.tmod (m : Int) (n : Int) = ((m % n : Nat) : Int) from rfl, Nat.gcd_comm, Nat.gcd_rec, Nat.gcd_comm]
      exact ih _ (Nat.mod_lt _ (by omega)) n
def gcdOf (a b : Int) : Int := if (-1000000 ≤ a ∧ a ≤ 1000000) ∧ -1000000 ≤ b ∧ b ≤ 1000000 then (Int.gcd a b : Int) else 0
theorem abs_cast (a : Int) : max a (-a) = ((a.natAbs : Nat) : Int) := by omega
theorem gcdI_ev (a b : Int) : Ev (fun k => impl_GcdOf.f k a b) (gcdOf a b) := by
  unfold impl_GcdOf.f gcdOf
  refine ev_bind _ (allWithin_ev _ _ (by simp)) ?_
  by_cases h : (-1000000 ≤ a ∧ a ≤ 1000000) ∧ -1000000 ≤ b ∧ b ≤ 1000000
  · rw [if_pos h]
    refine ev_ifp (by simpa using h) ?_
    obtain ⟨h1, h2⟩ := h
    rw [w64 (by omega) (by omega), w64 (by omega) (by omega), mx_eq, mx_eq, abs_cast, abs_cast]
    exact gcdI_l _ _
  · rw [if_neg h]
    refine ev_ifn (by simpa using h) (Ev.now _)
theorem gcdS_ev (a b : Int) : Ev (fun k => spec_GcdOf.f k a b) (gcdOf a b) := by
  unfold spec_GcdOf.f gcdOf
  simp only [l2Small_eq, Option.bind_some]
  by_cases h1 : -1000000 ≤ a ∧ a ≤ 1000000
  · refine ev_ifp (by simpa using h1) (Ev.step (fun k => by rw [spec_GcdOf.j0]) ?_)
    by_cases h2 : -1000000 ≤ b ∧ b ≤ 1000000
    · rw [if_pos ⟨h1, h2⟩]
      refine ev_ifn (by simpa using h2) ?_
      simp only [l1Max_eq, Option.bind_some]
      rw [w64 (by omega) (by omega), w64 (by omega) (by omega), abs_cast, abs_cast]
      exact gcdS_l _ _
    · rw [if_neg (fun h => h2 h.2)]
      exact ev_ifp (nd_t h2) (Ev.now _)
  · rw [if_neg (fun h => h1 h.1)]
    refine ev_ifn (by simpa using h1) (Ev.step (fun k => by rw [spec_GcdOf.j0]) ?_)
    exact ev_ifp rfl (Ev.now _)
end Go.Proofs.Ytkifakepmomgfaa.E
end
section
namespace Go.Proofs.Ytkifakepmomgfaa.E
open Go.RowKit Go.Proofs.YtkifakepmomgfaaW.PrintWords Go.Proofs.YtkifakepmomgfaaW.PrintLast Go.Proofs.YtkifakepmomgfaaW.PrintMore
set_option linter.unusedVariables false
set_option linter.unusedSimpArgs false
inductive Way (v : List Int) : Int → Int → Prop
  | zero : Way v 0 0
  | add {x k c : Int} : x ∈ v → Way v k c → Way v (k + x) (c + 1)
theorem Way.mono {v u : List Int} (h : ∀ x ∈ v, x ∈ u) {k c : Int} (w : Way v k c) : Way u k c := by
  induction w with
  | zero => exact .zero
  | add hx _ ih => exact .add (h _ hx) ih
theorem Way.pos {v : List Int} (h : ∀ x ∈ v, 1 ≤ x) {k c : Int} (w : Way v k c) : 0 ≤ c ∧ c ≤ k := by
  induction w with
  | zero => omega
  | add hx _ ih => have := h _ hx; omega
theorem Way.plus {v : List Int} {k c : Int} (w : Way v k c) {k' c' : Int} (w' : Way v k' c') : Way v (k + k') (c + c') := by
  induction w' with
  | zero => simpa using w
  | @add x k1 c1 hx _ ih =>
    rw [← Int.add_assoc, ← Int.add_assoc]
    exact .add hx ih
theorem Way.times {v : List Int} {x : Int} (hx : x ∈ v) (j : Nat) : Way v (j * x) j := by
  induction j with
  | zero => simpa using Way.zero
  | succ j ih =>
    have := Way.add hx ih
    rw [show ((j + 1 : Nat) : Int) * x = j * x + x from by rw [Int.natCast_add, Int.add_mul]; simp]
    exact this
theorem Way.last {v : List Int} {k c : Int} (w : Way v k c) : (k = 0 ∧ c = 0) ∨ ∃ x ∈ v, Way v (k - x) (c - 1) := by
  cases w with
  | zero => exact .inl ⟨rfl, rfl⟩
  | @add x k c hx hw => exact .inr ⟨x, hx, by rwa [show k + x - x = k from by omega, show c + 1 - 1 = c from by omega]⟩
theorem Way.split {u : List Int} {x : Int} {k c : Int} (w : Way (u ++ [x]) k c) : ∃ j : Nat, Way u (k - j * x) (c - j) := by
  induction w with
  | zero => exact ⟨0, by simpa using Way.zero⟩
  | @add y k c hy _ ih =>
    obtain ⟨j, h⟩ := ih
    rcases List.mem_append.1 hy with hu | hx
    · refine ⟨j, ?_⟩
      have := Way.add hu h
      rwa [show k - j * x + y = k + y - j * x from by omega, show c - (j : Int) + 1 = c + 1 - j from by omega] at this
    · obtain rfl : y = x := by simpa using hx
      refine ⟨j + 1, ?_⟩
      rw [show ((j + 1 : Nat) : Int) * y = j * y + y from by rw [Int.natCast_add, Int.add_mul]; simp, show k + y - (j * y + y) = k - j * y from by omega, show c + 1 - ((j + 1 : Nat) : Int) = c - j from by omega]
      exact h
def Fw (v : List Int) (k m : Int) : Prop := (m = -1 ∧ ∀ c, ¬ Way v k c) ∨ (Way v k m ∧ ∀ c, Way v k c → m ≤ c)
theorem Fw.one {v : List Int} (hv : ∀ x ∈ v, 1 ≤ x) {k m m' : Int} (h : Fw v k m) (h' : Fw v k m') : m = m' := by
  rcases h with ⟨h1, h2⟩ | ⟨h1, h2⟩ <;> rcases h' with ⟨h3, h4⟩ | ⟨h3, h4⟩
  · omega
  · exact absurd h3 (h2 _)
  · exact absurd h1 (h4 _)
  · have := h2 _ h3; have := h4 _ h1; omega
theorem Fw.ge {v : List Int} (hv : ∀ x ∈ v, 1 ≤ x) {k m : Int} (h : Fw v k m) : -1 ≤ m := by
  rcases h with ⟨h1, h2⟩ | ⟨h1, h2⟩
  · omega
  · have := h1.pos hv; omega
theorem Fw.le {v : List Int} (hv : ∀ x ∈ v, 1 ≤ x) {k m : Int} (h : Fw v k m) (hk : 0 ≤ k) : m ≤ k := by
  rcases h with ⟨h1, h2⟩ | ⟨h1, h2⟩
  · omega
  · have := h1.pos hv; omega
theorem Fw.way {v : List Int} {k m : Int} (h : Fw v k m) (hm : 0 ≤ m) : Way v k m ∧ ∀ c, Way v k c → m ≤ c := by
  rcases h with ⟨h1, h2⟩ | h
  · omega
  · exact h
theorem Fw.nil {k : Int} (hk : 0 ≤ k) : Fw [] k (if k = 0 then 0 else -1) := by
  by_cases h : k = 0
  · subst h
    exact .inr ⟨.zero, fun c w => (w.pos (by simp)).1⟩
  · rw [if_neg h]
    refine .inl ⟨rfl, fun c w => ?_⟩
    rcases w.last with ⟨h1, _⟩ | ⟨x, hx, _⟩
    · exact h h1
    · simp at hx
theorem Fw.below {u : List Int} {x k m : Int} (hu : ∀ y ∈ u, 1 ≤ y) (hk : k < x) (h : Fw u k m) (h0 : 0 ≤ k) : Fw (u ++ [x]) k m := by
  have hv : ∀ y ∈ u ++ [x], 1 ≤ y := by
    intro y hy
    rcases List.mem_append.1 hy with hy | hy
    · exact hu y hy
    · have : y = x := by simpa using hy
      omega
  have key : ∀ c, Way (u ++ [x]) k c → Way u k c := by
    intro c w
    obtain ⟨j, hj⟩ := w.split
    by_cases h : j = 0
    · subst h; simpa using hj
    · exfalso
      have := hj.pos hu
      have hj1 : x ≤ (j : Int) * x := by
        have := Int.mul_le_mul_of_nonneg_right (show (1 : Int) ≤ j from by omega) (show 0 ≤ x from by omega)
        omega
      omega
  rcases h with ⟨h1, h2⟩ | ⟨h1, h2⟩
  · exact .inl ⟨h1, fun c w => h2 c (key c w)⟩
  · exact .inr ⟨h1.mono (fun y hy => List.mem_append.2 (.inl hy)), fun c w => h2 c (key c w)⟩
end Go.Proofs.Ytkifakepmomgfaa.E
end
section
namespace Go.Proofs.Ytkifakepmomgfaa.E
open Go.RowKit Go.Proofs.YtkifakepmomgfaaW.PrintWords Go.Proofs.YtkifakepmomgfaaW.PrintLast Go.Proofs.YtkifakepmomgfaaW.PrintMore
set_option linter.unusedVariables false
set_option linter.unusedSimpArgs false
structure Lst (v : List Int) (a G : Int) (t : List Int) : Prop where
  len : (t.length : Int) = a
  ge : ∀ r, 0 ≤ r → r < a → -1 ≤ rd t r
  way : ∀ r, 0 ≤ r → r < a → 0 ≤ rd t r → (∃ c, Way v (rd t r) c) ∧ rd t r % a = r
  least : ∀ n c, Way v n c → 0 ≤ rd t (n % a) ∧ rd t (n % a) ≤ n
  bound : ∀ r, 0 ≤ r → r < a → rd t r ≤ (a - 1) * G
def sets (t : List Int) : Nat := t.countP (fun x => decide (0 ≤ x))
theorem sets_le (t : List Int) : sets t ≤ t.length := List.countP_le_length
def weight (B : Int) (t : List Int) : Int := (t.map fun x => if x < 0 then B else x).sum
theorem weight_nonneg {B : Int} (hB : 0 ≤ B) (t : List Int) : 0 ≤ weight B t := by
  induction t with
  | nil => simp [weight]
  | cons x t ih =>
    unfold weight at *
    rw [List.map_cons, List.sum_cons]
    by_cases h : x < 0
    · rw [if_pos h]; omega
    · rw [if_neg h]; omega
theorem weight_set (B : Int) (t : List Int) (i : Nat) (h : i < t.length) (x : Int) : weight B (t.set i x) + (if t[i] < 0 then B else t[i]) = weight B t + (if x < 0 then B else x) := by
  induction t generalizing i with
  | nil => simp at h
  | cons y t ih =>
    unfold weight at *
    cases i with
    | zero => simp only [List.set_cons_zero, List.map_cons, List.sum_cons, List.getElem_cons_zero]; omega
    | succ i =>
      have := ih i (by simpa using h)
      simp only [List.set_cons_succ, List.map_cons, List.sum_cons, List.getElem_cons_succ]
      omega
theorem sets_set (t : List Int) (i : Nat) (h : i < t.length) (x : Int) (hx : 0 ≤ x) : sets (t.set i x) + (if 0 ≤ t[i] then 1 else 0) = sets t + 1 := by
  induction t generalizing i with
  | nil => simp at h
  | cons y t ih =>
    unfold sets at *
    cases i with
    | zero =>
      simp only [List.set_cons_zero, List.countP_cons, List.getElem_cons_zero]
      by_cases e : 0 ≤ y <;> simp [e, hx]
    | succ i =>
      have := ih i (by simpa using h)
      simp only [List.set_cons_succ, List.countP_cons, List.getElem_cons_succ]
      omega
structure LInv (v : List Int) (a G : Int) (t : List Int) : Prop where
  len : (t.length : Int) = a
  zero : rd t 0 = 0
  ge : ∀ r, 0 ≤ r → r < a → -1 ≤ rd t r
  way : ∀ r, 0 ≤ r → r < a → 0 ≤ rd t r → (∃ c, Way v (rd t r) c) ∧ rd t r % a = r
  bound : ∀ r, 0 ≤ r → r < a → rd t r ≤ ((sets t : Int) - 1) * G
theorem mul_le_of {x y G : Int} (hG : 0 ≤ G) (h : x ≤ y) : x * G ≤ y * G := Int.mul_le_mul_of_nonneg_right h hG
theorem LInv.top {v : List Int} {a G : Int} {t : List Int} (hG : 0 ≤ G) (h : LInv v a G t) {r : Int} (h0 : 0 ≤ r) (h1 : r < a) : rd t r ≤ (a - 1) * G := by
  have := h.bound r h0 h1
  have := sets_le t
  have := h.len
  have := mul_le_of (x := (sets t : Int) - 1) (y := a - 1) hG (by omega)
  omega
theorem LInv.step {v : List Int} {a G : Int} {t : List Int} (hv : ∀ x ∈ v, 1 ≤ x ∧ x ≤ G) (ha : 1 ≤ a) (h : LInv v a G t) {r g : Int} (hr0 : 0 ≤ r) (hr1 : r < a) (hg : g ∈ v) (hs : 0 ≤ rd t r)
    (hc : rd t ((rd t r + g) % a) < 0 ∨ rd t r + g < rd t ((rd t r + g) % a)) :
    LInv v a G (t.set ((rd t r + g) % a).toNat (rd t r + g)) ∧ weight (a * G + 1) (t.set ((rd t r + g) % a).toNat (rd t r + g)) < weight (a * G + 1) t ∧ rd t r + g ≤ a * G ∧ (rd t r + g) % a ≠ r := by
  have hgv := hv g hg
  have hG : 0 ≤ G := by omega
  have q0 := Int.emod_nonneg (rd t r + g) (b := a) (by omega)
  have q1 := Int.emod_lt_of_pos (rd t r + g) (b := a) (by omega)
  generalize hto : (rd t r + g) % a = y0 at *
  have hl := h.len
  have hb := h.bound r hr0 hr1
  have hbt := h.bound y0 q0 q1
  have hsl := sets_le t
  have hne : y0 ≠ r := by rintro rfl; omega
  have h00 : y0 ≠ 0 := by rintro rfl; rw [h.zero] at hc; omega
  have hrd : rd t y0 = t[y0.toNat]'(by omega) := rd_lt q0 (by omega)
  have hss := sets_set t y0.toNat (by omega) (rd t r + g) (by omega)
  have hws := weight_set (a * G + 1) t y0.toNat (by omega) (rd t r + g)
  rw [← hrd] at hss hws
  have hset0 : (sets (t.set y0.toNat (rd t r + g)) : Int) + (if 0 ≤ rd t y0 then 1 else 0) = sets t + 1 := by
    split at hss <;> omega
  have hm : a * G = (a - 1) * G + G := by rw [Int.sub_mul]; omega
  have hm2 : ((sets t : Int)) * G = ((sets t : Int) - 1) * G + G := by rw [Int.sub_mul]; omega
  have hm3 := mul_le_of (x := (sets t : Int) - 1) (y := a - 1) hG (by omega)
  obtain ⟨⟨c, hw⟩, hmod⟩ := h.way r hr0 hr1 hs
  have hset : (sets (t.set y0.toNat (rd t r + g)) : Int) = if rd t y0 < 0 then (sets t : Int) + 1 else sets t := by
    by_cases e : rd t y0 < 0
    · rw [if_pos e]; rw [if_neg (by omega)] at hset0; omega
    · rw [if_neg e]; rw [if_pos (by omega)] at hset0; omega
  have hsets : (sets t : Int) ≤ sets (t.set y0.toNat (rd t r + g)) := by rw [hset]; split <;> omega
  have hup : ((sets t : Int) - 1) * G ≤ ((sets (t.set y0.toNat (rd t r + g)) : Int) - 1) * G := mul_le_of hG (by omega)
  have hy : rd t r + g ≤ ((sets (t.set y0.toNat (rd t r + g)) : Int) - 1) * G := by
    by_cases e : rd t y0 < 0
    · rw [hset, if_pos e, show (sets t : Int) + 1 - 1 = sets t from by omega]; omega
    · omega
  refine ⟨⟨by simpa using hl, ?_, ?_, ?_, ?_⟩, ?_, by omega, hne⟩
  · have := rd_set (l := t) (rd t r + g) q0 (by omega) (show (0 : Int) ≤ 0 by omega)
    rw [this, if_neg (fun e => h00 e.symm)]; exact h.zero
  · intro s hs0 hs1
    rw [rd_set _ q0 (by omega) hs0]
    by_cases e : s = y0
    · rw [if_pos e]; omega
    · rw [if_neg e]; exact h.ge s hs0 hs1
  · intro s hs0 hs1 hpos
    rw [rd_set _ q0 (by omega) hs0] at hpos ⊢
    by_cases e : s = y0
    · rw [if_pos e] at hpos ⊢
      exact ⟨⟨c + 1, .add hg hw⟩, by rw [hto, e]⟩
    · rw [if_neg e] at hpos ⊢; exact h.way s hs0 hs1 hpos
  · intro s hs0 hs1
    rw [rd_set _ q0 (by omega) hs0]
    by_cases e : s = y0
    · rw [if_pos e]; exact hy
    · rw [if_neg e]; have := h.bound s hs0 hs1; omega
  · rw [if_neg (show ¬ rd t r + g < 0 by omega)] at hws
    by_cases e : rd t y0 < 0
    · rw [if_pos e] at hws; omega
    · rw [if_neg e] at hws; omega
def Closed (v : List Int) (a : Int) (t : List Int) : Prop := ∀ r, 0 ≤ r → r < a → 0 ≤ rd t r → ∀ g ∈ v, 0 ≤ rd t ((rd t r + g) % a) ∧ rd t ((rd t r + g) % a) ≤ rd t r + g
theorem LInv.done {v : List Int} {a G : Int} {t : List Int} (hv : ∀ x ∈ v, 1 ≤ x ∧ x ≤ G) (hG : 0 ≤ G) (ha : 1 ≤ a) (h : LInv v a G t) (hc : Closed v a t) : Lst v a G t := by
  refine ⟨h.len, h.ge, h.way, fun n c w => ?_, fun r h0 h1 => h.top hG h0 h1⟩
  induction w with
  | zero => simp [h.zero]
  | @add g k c hg hw ih =>
    have q0 := Int.emod_nonneg k (b := a) (by omega)
    have q1 := Int.emod_lt_of_pos k (b := a) (by omega)
    obtain ⟨c1, c2⟩ := hc (k % a) q0 q1 ih.1 g hg
    have hmod := (h.way (k % a) q0 q1 ih.1).2
    have e : (rd t (k % a) + g) % a = (k + g) % a := by
      rw [Int.add_emod, hmod, ← Int.add_emod]
    rw [e] at c1 c2
    exact ⟨c1, by omega⟩
theorem Lst.one {v : List Int} {a G G' : Int} {t u : List Int} (h : Lst v a G t) (k : Lst v a G' u) : t = u := by
  refine rd_ext (by have := h.len; have := k.len; omega) fun r h0 h1 => ?_
  have ha : r < a := by have := h.len; omega
  have g1 := h.ge r h0 ha
  have g2 := k.ge r h0 ha
  have l1 : 0 ≤ rd t r → 0 ≤ rd u r ∧ rd u r ≤ rd t r := fun hs => by
    obtain ⟨⟨c, w⟩, e⟩ := h.way r h0 ha hs
    have := k.least _ _ w
    rwa [e] at this
  have l2 : 0 ≤ rd u r → 0 ≤ rd t r ∧ rd t r ≤ rd u r := fun hs => by
    obtain ⟨⟨c, w⟩, e⟩ := k.way r h0 ha hs
    have := h.least _ _ w
    rwa [e] at this
  by_cases e1 : 0 ≤ rd t r
  · have := l1 e1; have := l2 (by omega); omega
  · by_cases e2 : 0 ≤ rd u r
    · have := l2 e2; omega
    · omega
theorem LInv.first {v : List Int} {a G : Int} (ha : 1 ≤ a) (hG : 0 ≤ G) : LInv v a G ((List.replicate a.toNat (-1)).set 0 0) := by
  have hl : ((List.replicate a.toNat (-1 : Int)).length : Int) = a := by simp; omega
  have hr : ∀ r, 0 ≤ r → r < a → rd ((List.replicate a.toNat (-1)).set 0 0) r = if r = 0 then 0 else -1 := fun r h0 h1 => by
    have := rd_set (l := List.replicate a.toNat (-1)) (i := 0) (j := r) 0 (by omega) (by omega) h0
    rw [show (0 : Int).toNat = 0 from rfl] at this
    rw [this]
    by_cases e : r = 0
    · rw [if_pos e, if_pos e]
    · rw [if_neg e, if_neg e, rd_rep h0 (by omega)]
  have hs : 1 ≤ sets ((List.replicate a.toNat (-1)).set 0 0) := by
    have := sets_set (List.replicate a.toNat (-1)) 0 (by simp; omega) 0 (by omega)
    simp at this
    omega
  have hp : 0 ≤ ((sets ((List.replicate a.toNat (-1)).set 0 0) : Int) - 1) * G := Int.mul_nonneg (by omega) hG
  refine ⟨by simp; omega, by rw [hr 0 (by omega) (by omega)]; rfl, fun r h0 h1 => ?_, fun r h0 h1 h2 => ?_, fun r h0 h1 => ?_⟩
  · rw [hr r h0 h1]; split <;> omega
  · rw [hr r h0 h1] at h2 ⊢
    by_cases e : r = 0
    · rw [if_pos e]; exact ⟨⟨0, .zero⟩, by rw [e]; rfl⟩
    · rw [if_neg e] at h2; omega
  · rw [hr r h0 h1]; split <;> omega
end Go.Proofs.Ytkifakepmomgfaa.E
end
section
namespace Go.Proofs.Ytkifakepmomgfaa.E
open Go.RowKit Go.Proofs.Ytkifakepmomgfaa.PA Go.Proofs.YtkifakepmomgfaaW.PrintWords Go.Proofs.YtkifakepmomgfaaW.PrintLast Go.Proofs.YtkifakepmomgfaaW.PrintMore
set_option linter.unusedVariables false
set_option linter.unusedSimpArgs false
def gl (l : List Int) : Int := l.foldl gcdOf 0
theorem gcdOf_small {a x : Int} (h0 : 0 ≤ a) (h1 : a ≤ 60) (hx : 1 ≤ x ∧ x ≤ 60) : 1 ≤ gcdOf a x ∧ gcdOf a x ≤ 60 ∧ gcdOf a x ∣ a ∧ gcdOf a x ∣ x := by
  have e : gcdOf a x = (Int.gcd a x : Int) := by unfold gcdOf; rw [if_pos ⟨⟨by omega, by omega⟩, by omega, by omega⟩]
  have d1 := Int.gcd_dvd_left a x
  have d2 := Int.gcd_dvd_right a x
  have p : 0 < Int.gcd a x := Int.gcd_pos_of_ne_zero_right _ (by omega)
  have le := Int.le_of_dvd (by omega) d2
  rw [e]
  exact ⟨by omega, by omega, d1, d2⟩
end Go.Proofs.Ytkifakepmomgfaa.E
end
section
namespace Go.Proofs.Ytkifakepmomgfaa.E
open Go.RowKit Go.Proofs.YtkifakepmomgfaaW.PrintWords Go.Proofs.YtkifakepmomgfaaW.PrintLast Go.Proofs.YtkifakepmomgfaaW.PrintMore
set_option linter.unusedVariables false
set_option linter.unusedSimpArgs false
def Su (v : List Int) (n : Int) : Prop := ∃ c, Way v n c
noncomputable instance (v : List Int) (n : Int) : Decidable (Su v n) := Classical.propDecidable _
theorem Su.zero (v : List Int) : Su v 0 := ⟨0, .zero⟩
theorem Su.add {v : List Int} {n m : Int} (h : Su v n) (k : Su v m) : Su v (n + m) := by
  obtain ⟨c, h⟩ := h; obtain ⟨d, k⟩ := k; exact ⟨c + d, h.plus k⟩
theorem Su.mem {v : List Int} {x : Int} (h : x ∈ v) : Su v x := ⟨0 + 1, by have := Way.add h Way.zero; rwa [Int.zero_add] at this⟩
theorem Su.pos {v : List Int} (hv : ∀ x ∈ v, 1 ≤ x) {n : Int} (h : Su v n) : 0 ≤ n := by
  obtain ⟨c, h⟩ := h; have := h.pos hv; omega
theorem Su.mono {v u : List Int} (h : ∀ x ∈ v, x ∈ u) {n : Int} (k : Su v n) : Su u n := by
  obtain ⟨c, k⟩ := k; exact ⟨c, k.mono h⟩
theorem Su.last {v : List Int} {n : Int} (hn : n ≠ 0) : Su v n ↔ ∃ x ∈ v, Su v (n - x) := by
  constructor
  · rintro ⟨c, w⟩
    rcases w.last with h | ⟨x, hx, h⟩
    · exact absurd h.1 hn
    · exact ⟨x, hx, _, h⟩
  · rintro ⟨x, hx, h⟩
    have := h.add (Su.mem hx)
    rwa [show n - x + x = n from by omega] at this
theorem Su.times {v : List Int} {x : Int} (h : Su v x) (j : Nat) : Su v (j * x) := by
  induction j with
  | zero => simpa using Su.zero v
  | succ j ih =>
    have := ih.add h
    rwa [show (j : Int) * x + x = ((j + 1 : Nat) : Int) * x from by rw [Int.natCast_add, Int.add_mul]; simp] at this
theorem Su.up {v : List Int} {a : Int} (ha : 1 ≤ a) (h : Su v a) {n m : Int} (hn : Su v n) (hle : n ≤ m) (hm : n % a = m % a) : Su v m := by
  have e1 := Int.mul_ediv_add_emod n a
  have e2 := Int.mul_ediv_add_emod m a
  have hq : n / a ≤ m / a := Int.ediv_le_ediv (by omega) hle
  have := hn.add (h.times (m / a - n / a).toNat)
  rw [show (((m / a - n / a).toNat : Nat) : Int) = m / a - n / a from by omega] at this
  rwa [show n + (m / a - n / a) * a = m from by rw [Int.sub_mul, Int.mul_comm (m / a), Int.mul_comm (n / a)]; omega] at this
theorem Lst.su {v : List Int} {a G : Int} {t : List Int} (h : Lst v a G t) (ha : 1 ≤ a) (hav : Su v a) {n : Int} : Su v n ↔ 0 ≤ rd t (n % a) ∧ rd t (n % a) ≤ n := by
  have q0 := Int.emod_nonneg n (b := a) (by omega)
  have q1 := Int.emod_lt_of_pos n (b := a) (by omega)
  constructor
  · rintro ⟨c, w⟩; exact h.least _ _ w
  · rintro ⟨h1, h2⟩
    obtain ⟨w, e⟩ := h.way _ q0 q1 h1
    exact Su.up ha hav w h2 (by omega)
def UL (v : List Int) : Prop := (1 ≤ (v.length : Int) ∧ (v.length : Int) ≤ 20) ∧ ∀ x ∈ v, 1 ≤ x ∧ x ≤ 60
noncomputable instance (v : List Int) : Decidable (UL v) := Classical.propDecidable _
theorem UL.pos {v : List Int} (h : UL v) : ∀ x ∈ v, 1 ≤ x := fun x hx => (h.2 x hx).1
theorem UL.first {v : List Int} (h : UL v) : rd v 0 ∈ v ∧ 1 ≤ rd v 0 ∧ rd v 0 ≤ 60 := by
  have := rd_mem (l := v) (i := 0) (by omega) (by have := h.1; omega)
  exact ⟨this, h.2 _ this⟩
end Go.Proofs.Ytkifakepmomgfaa.E
end
section
namespace Go.Proofs.Ytkifakepmomgfaa.E
open Go.RowKit Go.Proofs.YtkifakepmomgfaaW.PrintWords Go.Proofs.YtkifakepmomgfaaW.PrintLast Go.Proofs.YtkifakepmomgfaaW.PrintMore
set_option linter.unusedVariables false
set_option linter.unusedSimpArgs false
def Dn (v : List Int) (a z : Int) : Prop := ∃ n, Su v n ∧ n % a = z % a
theorem Dn.add {v : List Int} {a z y : Int} (h : Dn v a z) (k : Dn v a y) : Dn v a (z + y) := by
  obtain ⟨n, h1, h2⟩ := h; obtain ⟨m, k1, k2⟩ := k
  exact ⟨n + m, h1.add k1, by rw [Int.add_emod, h2, k2, ← Int.add_emod]⟩
theorem Dn.mul {v : List Int} {a z : Int} (ha : 1 ≤ a) (h : Dn v a z) (k : Int) : Dn v a (z * k) := by
  obtain ⟨n, h1, h2⟩ := h
  have q := Int.emod_nonneg k (b := a) (by omega)
  have := h1.times (k % a).toNat
  rw [show (((k % a).toNat : Nat) : Int) = k % a from by omega] at this
  refine ⟨_, this, ?_⟩
  rw [Int.mul_comm, Int.mul_emod, h2, Int.emod_emod_of_dvd _ (Int.dvd_refl a), ← Int.mul_emod]
theorem Dn.gcd {v : List Int} {a : Int} (ha : 1 ≤ a) (m : Nat) : ∀ n : Nat, Dn v a m → Dn v a n → Dn v a (Nat.gcd m n : Int) := by
  induction m using Nat.strongRecOn with
  | _ m ih =>
    intro n hm hn
    by_cases h : m = 0
    · subst h; simpa using hn
    · rw [Nat.gcd_rec]
      refine ih _ (Nat.mod_lt _ (by omega)) m ?_ hm
      have := hn.add (hm.mul ha (-((n / m : Nat) : Int)))
      have e : (n : Int) + (m : Int) * -((n / m : Nat) : Int) = ((n % m : Nat) : Int) := by
        have := Nat.div_add_mod n m
        have e2 : ((m * (n / m) + n % m : Nat) : Int) = (n : Int) := by rw [this]
        rw [Int.natCast_add, Int.natCast_mul] at e2
        rw [Int.mul_neg]; omega
      rwa [e] at this
theorem Dn.fold {v : List Int} {a : Int} (ha : 1 ≤ a) {l : List Int} (hl : ∀ x ∈ l, (1 ≤ x ∧ x ≤ 60) ∧ Dn v a x) : ∀ acc : Int, 0 ≤ acc → acc ≤ 60 → Dn v a acc → Dn v a (l.foldl gcdOf acc) := by
  induction l with
  | nil => intro acc _ _ h; exact h
  | cons x l ih =>
    intro acc h0 h1 h
    have hx := hl x (by simp)
    have g := gcdOf_small h0 h1 hx.1
    rw [List.foldl_cons]
    refine ih (fun y hy => hl y (by simp [hy])) _ (by omega) g.2.1 ?_
    have e : gcdOf acc x = (Int.gcd acc x : Int) := by unfold gcdOf; rw [if_pos ⟨⟨by omega, by omega⟩, by omega, by omega⟩]
    rw [e, show Int.gcd acc x = Nat.gcd acc.toNat x.toNat from by unfold Int.gcd; congr 1 <;> omega]
    refine Dn.gcd ha _ _ ?_ ?_
    · rwa [show ((acc.toNat : Nat) : Int) = acc from by omega]
    · rw [show ((x.toNat : Nat) : Int) = x from by omega]; exact hx.2
theorem all_classes {v : List Int} {a : Int} (ha : 1 ≤ a) (hv : ∀ x ∈ v, 1 ≤ x ∧ x ≤ 60) (hg : gl v = 1) (z : Int) : Dn v a z := by
  have h1 : Dn v a 1 := by
    rw [← hg]
    exact Dn.fold ha (fun x hx => ⟨hv x hx, x, Su.mem hx, rfl⟩) 0 (by omega) (by omega) ⟨0, Su.zero v, rfl⟩
  have := h1.mul ha z
  rwa [Int.one_mul] at this
end Go.Proofs.Ytkifakepmomgfaa.E
end
section
namespace Go.Proofs.Ytkifakepmomgfaa.E
open Go.RowKit Go.Proofs.Ytkifakepmomgfaa.PA Go.Proofs.YtkifakepmomgfaaW.PrintWords Go.Proofs.YtkifakepmomgfaaW.PrintLast Go.Proofs.YtkifakepmomgfaaW.PrintMore
set_option linter.unusedVariables false
set_option linter.unusedSimpArgs false
theorem leasts_l3 {v : List Int} {a G M : Int} (hv : ∀ x ∈ v, 1 ≤ x ∧ x ≤ G) (hG : 0 ≤ G) (hG' : G ≤ 1000) (ha : 1 ≤ a) (ha' : a ≤ 200) (hl : v.length ≤ 20) {r n : Int} (hr0 : 0 ≤ r) (hr1 : r < a) {P : List Int → Prop}
    (H : ∀ (t : List Int) (ch : Bool), LInv v a G t → weight (a * G + 1) t ≤ M → (ch = true → weight (a * G + 1) t < M) → (ch = false → ∀ s, 0 ≤ s → s < r + 1 → 0 ≤ rd t s → ∀ g ∈ v, 0 ≤ rd t ((rd t s + g) % a) ∧ rd t ((rd t s + g) % a) ≤ rd t s + g) → ∃ u, P u ∧ Ev (fun k => impl_leasts.l2 k v a t ch a (r + 1)) u) (d : Nat) :
    ∀ (t : List Int) (ch : Bool) (i : Int), 0 ≤ i → i + d = v.length → LInv v a G t → rd t r = n → 0 ≤ n → weight (a * G + 1) t ≤ M → (ch = true → weight (a * G + 1) t < M) →
      (ch = false → ∀ s, 0 ≤ s → s < r → 0 ≤ rd t s → ∀ g ∈ v, 0 ≤ rd t ((rd t s + g) % a) ∧ rd t ((rd t s + g) % a) ≤ rd t s + g) → (ch = false → ∀ j, 0 ≤ j → j < i → 0 ≤ rd t ((rd t r + rd v j) % a) ∧ rd t ((rd t r + rd v j) % a) ≤ rd t r + rd v j) →
      ∃ u, P u ∧ Ev (fun k => impl_leasts.l3 k v a t ch r n a r v v.length i) u := by
  have hm : a * G = (a - 1) * G + G := by rw [Int.sub_mul]; omega
  have haG : a * G ≤ 200 * 1000 := Int.mul_le_mul ha' hG' hG (by omega)
  induction d with
  | zero =>
    intro t ch i h0 h1 I hn hn0 hM h2 h3 h4
    obtain ⟨u, hu, hE⟩ := H t ch I hM h2 (by
      intro hc s hs0 hs1 hs g hg
      by_cases e : s = r
      · subst e
        obtain ⟨j, hj0, hj1, rfl⟩ := mem_rd hg
        exact h4 hc j hj0 (by omega)
      · exact h3 hc s hs0 (by omega) hs g hg)
    refine ⟨u, hu, Ev.step (fun k => by rw [impl_leasts.l3]) (ev_ifn (by omega) ?_)⟩
    rw [w64 (by omega) (by omega)]; exact hE
  | succ d ih =>
    intro t ch i h0 h1 I hn hn0 hM h2 h3 h4
    have hgm := rd_mem (l := v) h0 (by omega)
    have hg := hv _ hgm
    have hb := I.top hG hr0 hr1
    have hlen := I.len
    have hto : Int.tmod (r + rd v i) a = (rd t r + rd v i) % a := by
      rw [Int.tmod_eq_emod_of_nonneg (by omega), Int.add_emod (rd t r), (I.way r hr0 hr1 (by omega)).2, Int.add_emod, Int.emod_eq_of_lt hr0 hr1]
    have q0 := Int.emod_nonneg (rd t r + rd v i) (b := a) (by omega)
    have q1 := Int.emod_lt_of_pos (rd t r + rd v i) (b := a) (by omega)
    have change : (rd t ((rd t r + rd v i) % a) < 0 ∨ rd t r + rd v i < rd t ((rd t r + rd v i) % a)) → ∃ u, P u ∧ Ev (fun k => impl_leasts.l3 k v a (t.set ((rd t r + rd v i) % a).toNat (n + rd v i)) true r n a r v v.length (i + 1)) u := by
      intro hc
      obtain ⟨I', w', _, hne⟩ := I.step hv ha hr0 hr1 hgm (by omega) hc
      rw [show n + rd v i = rd t r + rd v i from by omega]
      refine ih _ true (i + 1) (by omega) (by omega) I' ?_ (by omega) (by omega) (fun _ => by omega) (fun h => by cases h) (fun h => by cases h)
      rw [rd_set _ q0 (by omega) hr0, if_neg (fun e => hne e.symm)]; exact hn
    have stay : ¬ (rd t ((rd t r + rd v i) % a) < 0 ∨ rd t r + rd v i < rd t ((rd t r + rd v i) % a)) → ∃ u, P u ∧ Ev (fun k => impl_leasts.l3 k v a t ch r n a r v v.length (i + 1)) u := by
      intro hc
      refine ih t ch (i + 1) (by omega) (by omega) I hn hn0 hM h2 h3 (fun hf j hj0 hj1 => ?_)
      by_cases e : j = i
      · subst e; omega
      · exact h4 hf j hj0 (by omega)
    have head : ∀ u, (∀ c1 : rd t ((rd t r + rd v i) % a) < 0, Ev (fun k => impl_leasts.l3 k v a (t.set ((rd t r + rd v i) % a).toNat (n + rd v i)) true r n a r v v.length (i + 1)) u) → (∀ c1 : ¬ rd t ((rd t r + rd v i) % a) < 0, ∀ c2 : n + rd v i < rd t ((rd t r + rd v i) % a), Ev (fun k => impl_leasts.l3 k v a (t.set ((rd t r + rd v i) % a).toNat (n + rd v i)) true r n a r v v.length (i + 1)) u) → (∀ c1 : ¬ rd t ((rd t r + rd v i) % a) < 0, ∀ c2 : ¬ n + rd v i < rd t ((rd t r + rd v i) % a), Ev (fun k => impl_leasts.l3 k v a t ch r n a r v v.length (i + 1)) u) → Ev (fun k => impl_leasts.l3 k v a t ch r n a r v v.length i) u := by
      intro u f1 f2 f3
      refine Ev.step (fun k => by rw [impl_leasts.l3]) ?_
      rw [w64 (x := r + rd v i) (by omega) (by omega), hto, w64 (x := n + rd v i) (by omega) (by omega), w64 (x := i + 1) (by omega) (by omega)]
      refine ev_ifp (by omega) (ev_ifp h0 (ev_ifp (by omega) (ev_ifn (by omega) (ev_ifp q0 (ev_ifp (by omega) ?_)))))
      by_cases c1 : rd t ((rd t r + rd v i) % a) < 0
      · exact ev_ifp c1 (f1 c1)
      · by_cases c2 : n + rd v i < rd t ((rd t r + rd v i) % a)
        · exact ev_ifn c1 (ev_ifp c2 (f2 c1 c2))
        · exact ev_ifn c1 (ev_ifn c2 (f3 c1 c2))
    by_cases c1 : rd t ((rd t r + rd v i) % a) < 0
    · obtain ⟨u, hu, hE⟩ := change (.inl c1)
      exact ⟨u, hu, head u (fun _ => hE) (fun h => absurd c1 h) (fun h => absurd c1 h)⟩
    · by_cases c2 : n + rd v i < rd t ((rd t r + rd v i) % a)
      · obtain ⟨u, hu, hE⟩ := change (.inr (by omega))
        exact ⟨u, hu, head u (fun h => absurd h c1) (fun _ _ => hE) (fun _ h => absurd c2 h)⟩
      · obtain ⟨u, hu, hE⟩ := stay (by omega)
        exact ⟨u, hu, head u (fun h => absurd h c1) (fun _ h => absurd h c2) (fun _ _ => hE)⟩
theorem leasts_l2 {v : List Int} {a G M : Int} (hv : ∀ x ∈ v, 1 ≤ x ∧ x ≤ G) (hG : 0 ≤ G) (hG' : G ≤ 1000) (ha : 1 ≤ a) (ha' : a ≤ 200) (hl : v.length ≤ 20)
    (H : ∀ t : List Int, LInv v a G t → weight (a * G + 1) t < M → ∃ u, Lst v a G u ∧ Ev (fun k => impl_leasts.l1 k v a t true) u) (d : Nat) :
    ∀ (t : List Int) (ch : Bool) (r : Int), 0 ≤ r → r + d = a → LInv v a G t → weight (a * G + 1) t ≤ M → (ch = true → weight (a * G + 1) t < M) →
      (ch = false → ∀ s, 0 ≤ s → s < r → 0 ≤ rd t s → ∀ g ∈ v, 0 ≤ rd t ((rd t s + g) % a) ∧ rd t ((rd t s + g) % a) ≤ rd t s + g) →
      ∃ u, Lst v a G u ∧ Ev (fun k => impl_leasts.l2 k v a t ch a r) u := by
  induction d with
  | zero =>
    intro t ch r h0 h1 I hM h2 h3
    cases ch with
    | true =>
      obtain ⟨u, hu, hE⟩ := H t I (h2 rfl)
      exact ⟨u, hu, Ev.step (fun k => by rw [impl_leasts.l2]) (ev_ifn (by omega) hE)⟩
    | false =>
      refine ⟨t, I.done hv hG ha (fun s hs0 hs1 hs g hg => h3 rfl s hs0 (by omega) hs g hg), Ev.step (fun k => by rw [impl_leasts.l2]) (ev_ifn (by omega) (Ev.step (fun k => by rw [impl_leasts.l1]) (ev_ifn (by simp) (Ev.now _))))⟩
  | succ d ih =>
    intro t ch r h0 h1 I hM h2 h3
    have hlen := I.len
    by_cases c : rd t r < 0
    · obtain ⟨u, hu, hE⟩ := ih t ch (r + 1) (by omega) (by omega) I hM h2 (fun hf s hs0 hs1 hs g hg => by
        by_cases e : s = r
        · subst e; omega
        · exact h3 hf s hs0 (by omega) hs g hg)
      refine ⟨u, hu, Ev.step (fun k => by rw [impl_leasts.l2]) (ev_ifp (by omega) (ev_ifp h0 (ev_ifp (by omega) (ev_ifp c ?_))))⟩
      rw [w64 (by omega) (by omega)]; exact hE
    · obtain ⟨u, hu, hE⟩ := leasts_l3 (M := M) (P := Lst v a G) hv hG hG' ha ha' hl h0 (by omega) (fun t ch I hM h2 h3 => ih t ch (r + 1) (by omega) (by omega) I hM h2 h3) v.length t ch 0 (by omega) (by omega) I rfl (by omega) hM h2 h3 (fun _ j hj0 hj1 => by omega)
      exact ⟨u, hu, Ev.step (fun k => by rw [impl_leasts.l2]) (ev_ifp (by omega) (ev_ifp h0 (ev_ifp (by omega) (ev_ifn c hE))))⟩
theorem leasts_l1 {v : List Int} {a G : Int} (hv : ∀ x ∈ v, 1 ≤ x ∧ x ≤ G) (hG : 0 ≤ G) (hG' : G ≤ 1000) (ha : 1 ≤ a) (ha' : a ≤ 200) (hl : v.length ≤ 20) (m : Nat) :
    ∀ t : List Int, LInv v a G t → weight (a * G + 1) t ≤ m → ∃ u, Lst v a G u ∧ Ev (fun k => impl_leasts.l1 k v a t true) u := by
  induction m using Nat.strongRecOn with
  | _ m ih =>
    intro t I hm
    have hB : 0 ≤ a * G + 1 := by have := Int.mul_nonneg (show 0 ≤ a by omega) hG; omega
    obtain ⟨u, hu, hE⟩ := leasts_l2 (M := weight (a * G + 1) t) hv hG hG' ha ha' hl (fun t' I' h' => ih (weight (a * G + 1) t').toNat (by have := weight_nonneg hB t'; have := weight_nonneg hB t; omega) t' I' (by have := weight_nonneg hB t'; omega)) a.toNat t false 0 (by omega) (by omega) I (Int.le_refl _) (fun h => by cases h) (fun _ s hs0 hs1 => by omega)
    refine ⟨u, hu, Ev.step (fun k => by rw [impl_leasts.l1]) (ev_ifp rfl ?_)⟩
    rw [I.len]; exact hE
theorem leasts_l0 {v : List Int} {a : Int} (ha : 1 ≤ a) (ha' : a ≤ 200) {u : List Int} (H : Ev (fun k => impl_leasts.l1 k v a ((List.replicate a.toNat (-1)).set 0 0) true) u) (d : Nat) :
    ∀ (i : Int) (row : List Int), 0 ≤ i → i + d = a → (row.length : Int) = a → (∀ j, 0 ≤ j → j < i → rd row j = -1) → Ev (fun k => impl_leasts.l0 k v a row a i) u := by
  induction d with
  | zero =>
    intro i row h0 h1 h2 h3
    have e : row = List.replicate a.toNat (-1) := rd_ext (by simp; omega) fun j hj hj' => by rw [h3 j hj (by omega), rd_rep hj (by omega)]
    subst e
    refine Ev.step (fun k => by rw [impl_leasts.l0]) ?_
    exact ev_ifn (by omega) (ev_ifp (by omega) H)
  | succ d ih =>
    intro i row h0 h1 h2 h3
    refine Ev.step (fun k => by rw [impl_leasts.l0]) ?_
    simp (disch := omega) only [if_pos, w64]
    refine ih (i + 1) _ (by omega) (by omega) (by simpa using h2) fun j hj hj' => ?_
    rw [rd_set _ h0 (by omega) hj]
    by_cases e : j = i
    · rw [if_pos e]
    · rw [if_neg e]; exact h3 j hj (by omega)
theorem leasts_ev {v : List Int} {a G : Int} (hv : ∀ x ∈ v, 1 ≤ x ∧ x ≤ G) (hG : 0 ≤ G) (hG' : G ≤ 1000) (ha : 1 ≤ a) (ha' : a ≤ 200) (hl : v.length ≤ 20) : ∃ u, Lst v a G u ∧ Ev (fun k => impl_leasts.f k v a) u := by
  have hB : 0 ≤ a * G + 1 := by have := Int.mul_nonneg (show 0 ≤ a by omega) hG; omega
  obtain ⟨u, hu, hE⟩ := leasts_l1 hv hG hG' ha ha' hl (weight (a * G + 1) ((List.replicate a.toNat (-1)).set 0 0)).toNat _ (LInv.first ha hG) (by have := weight_nonneg hB ((List.replicate a.toNat (-1)).set 0 0); omega)
  refine ⟨u, hu, ?_⟩
  unfold impl_leasts.f
  refine ev_ifp (by omega) (ev_ifp (by omega) ?_)
  simp only [Option.bind_some]
  rw [show ((List.replicate a.toNat (0 : Int)).length : Int) = a from by simp; omega]
  exact leasts_l0 ha ha' hE a.toNat 0 _ (by omega) (by omega) (by simp; omega) (fun j h h' => by omega)
end Go.Proofs.Ytkifakepmomgfaa.E
end
section
namespace Go.Proofs.Ytkifakepmomgfaa.E
open Go.RowKit Go.Proofs.Ytkifakepmomgfaa.PA Go.Proofs.YtkifakepmomgfaaW.PrintWords Go.Proofs.YtkifakepmomgfaaW.PrintLast Go.Proofs.YtkifakepmomgfaaW.PrintMore
set_option linter.unusedVariables false
set_option linter.unusedSimpArgs false
theorem usableI_ev {v : List Int} (hl : v.length ≤ 1099511627776) : Ev (fun k => impl_usable.f k v) (decide (UL v)) := by
  unfold impl_usable.f
  simp only [within_eq, Option.bind_some]
  by_cases h : 1 ≤ (v.length : Int) ∧ (v.length : Int) ≤ 20
  · exact ev_ifp (by simpa using h) (ev_bind _ (allWithin_ev 1 60 hl) (ev_to (Ev.now _) (by simp only [UL, h, true_and])))
  · exact ev_ifn (by simpa using h) (ev_to (Ev.now _) (decide_eq_false (fun u => h u.1)).symm)
end Go.Proofs.Ytkifakepmomgfaa.E
end
section
namespace Go.Proofs.Ytkifakepmomgfaa.E
open Go.RowKit Go.Proofs.Ytkifakepmomgfaa.PA Go.Proofs.YtkifakepmomgfaaW.PrintWords Go.Proofs.YtkifakepmomgfaaW.PrintLast Go.Proofs.YtkifakepmomgfaaW.PrintMore
set_option linter.unusedVariables false
set_option linter.unusedSimpArgs false
def Gen (v : List Int) (n : Int) : Prop := UL v ∧ (0 ≤ n ∧ n ≤ 1000000) ∧ Su v n
noncomputable instance (v : List Int) (n : Int) : Decidable (Gen v n) := Classical.propDecidable _
theorem genI_ev {v : List Int} (n : Int) (hl : v.length ≤ 1099511627776) : Ev (fun k => impl_Generates.f k v n) (decide (Gen v n)) := by
  unfold impl_Generates.f
  simp only [within_eq, Option.bind_some]
  by_cases hu : UL v
  · by_cases hn : 0 ≤ n ∧ n ≤ 1000000
    · obtain ⟨f1, f2, f3⟩ := hu.first
      have hlen := hu.1
      obtain ⟨u, hL, hE⟩ := leasts_ev (G := 60) (a := rd v 0) hu.2 (by omega) (by omega) f2 (by omega) (by omega)
      have q0 := Int.emod_nonneg n (b := rd v 0) (by omega)
      have q1 := Int.emod_lt_of_pos n (b := rd v 0) (by omega)
      have hs := hL.su (n := n) f2 (Su.mem f1)
      have hll := hL.len
      rw [Int.tmod_eq_emod_of_nonneg hn.1]
      refine ev_bind _ (usableI_ev hl) (ev_ifp (by simpa using hu) (ev_ifp (by simpa using hn) (ev_ifp (by omega) (ev_bind _ hE (ev_ifn (by omega) (ev_ifp q0 (ev_ifp (by omega) ?_)))))))
      by_cases c : rd u (n % rd v 0) ≥ 0
      · refine ev_ifp c (ev_to (Ev.now _) (decide_eq_decide.2 ?_))
        exact ⟨fun h => ⟨hu, hn, hs.2 ⟨c, h⟩⟩, fun h => (hs.1 h.2.2).2⟩
      · exact ev_ifn c (ev_to (Ev.now _) (decide_eq_false (fun h => c (hs.1 h.2.2).1)).symm)
    · exact ev_bind _ (usableI_ev hl) (ev_ifp (by simpa using hu) (ev_ifn (by simpa using hn) (ev_to (Ev.now _) (decide_eq_false (fun h => hn h.2.1)).symm)))
  · exact ev_bind _ (usableI_ev hl) (ev_ifn (by simpa using hu) (ev_to (Ev.now _) (decide_eq_false (fun h => hu h.1)).symm))
end Go.Proofs.Ytkifakepmomgfaa.E
end
section
namespace Go.Proofs.Ytkifakepmomgfaa.E
open Go.RowKit Go.Proofs.Ytkifakepmomgfaa.PA Go.Proofs.YtkifakepmomgfaaW.PrintWords Go.Proofs.YtkifakepmomgfaaW.PrintLast Go.Proofs.YtkifakepmomgfaaW.PrintMore
set_option linter.unusedVariables false
set_option linter.unusedSimpArgs false
structure SG (v : List Int) : Prop where
  ul : UL v
  len : (v.length : Int) ≤ 12
  asc : Asc v
  gcd : gl v = 1
  min : ∀ i : Int, 1 ≤ i → i < v.length → ¬ Su (v.take i.toNat) (rd v i)
  ends : ∀ n, 200 ≤ n → Su v n
noncomputable instance (v : List Int) : Decidable (SG v) := Classical.propDecidable _
theorem Lst.all {v : List Int} {a G : Int} {t : List Int} (h : Lst v a G t) (ha : 1 ≤ a) (hv : ∀ x ∈ v, 1 ≤ x ∧ x ≤ 60) (hg : gl v = 1) {r : Int} (h0 : 0 ≤ r) (h1 : r < a) : 0 ≤ rd t r := by
  obtain ⟨n, ⟨c, w⟩, e⟩ := all_classes ha hv hg r
  have := (h.least n c w).1
  rwa [e, Int.emod_eq_of_lt h0 h1] at this
end Go.Proofs.Ytkifakepmomgfaa.E
end
section
namespace Go.Proofs.Ytkifakepmomgfaa.E
open Go.RowKit Go.Proofs.YtkifakepmomgfaaW.PrintWords Go.Proofs.YtkifakepmomgfaaW.PrintLast Go.Proofs.YtkifakepmomgfaaW.PrintMore
set_option linter.unusedVariables false
set_option linter.unusedSimpArgs false
def lstB (v : List Int) (a : Int) (t : List Int) : Bool :=
  decide ((t.length : Int) = a) && (decide (rd t 0 = 0) && (List.range t.length).all fun r =>
    decide (0 ≤ rd t (r : Int)) && (decide (rd t (r : Int) ≤ 1000000 * (a - 1)) && (decide (rd t (r : Int) % a = (r : Int)) && ((decide (r = 0) || v.any fun g => decide (g ≤ rd t (r : Int)) && decide (rd t ((rd t (r : Int) - g) % a) = rd t (r : Int) - g)) && v.all fun g => decide (rd t ((rd t (r : Int) + g) % a) ≤ rd t (r : Int) + g)))))
theorem lstB_ok {v : List Int} {a : Int} {t : List Int} (ha : 1 ≤ a) (hv : ∀ x ∈ v, 1 ≤ x) (h : lstB v a t = true) : Lst v a 1000000 t := by
  unfold lstB at h
  simp only [Bool.and_eq_true, Bool.or_eq_true, decide_eq_true_eq, List.all_eq_true, List.any_eq_true, List.mem_range] at h
  obtain ⟨hl, h0, hr⟩ := h
  have hr' : ∀ r : Int, 0 ≤ r → r < a → 0 ≤ rd t r ∧ rd t r ≤ 1000000 * (a - 1) ∧ rd t r % a = r ∧ (r = 0 ∨ ∃ g ∈ v, g ≤ rd t r ∧ rd t ((rd t r - g) % a) = rd t r - g) ∧ ∀ g ∈ v, rd t ((rd t r + g) % a) ≤ rd t r + g := fun r r0 r1 => by
    obtain ⟨x1, x2, x3, x4, x5⟩ := hr r.toNat (by omega)
    rw [Int.toNat_of_nonneg r0] at x1 x2 x3 x4 x5
    exact ⟨x1, x2, x3, x4.elim (fun e => .inl (by clear x1 x2 x3 x4 x5; omega)) .inr, x5⟩
  have way : ∀ m : Nat, ∀ r : Int, 0 ≤ r → r < a → rd t r = m → ∃ c, Way v (rd t r) c := by
    intro m
    induction m using Nat.strongRecOn with
    | _ m ih =>
      intro r r0 r1 e
      obtain ⟨x1, x2, x3, x4, x5⟩ := hr' r r0 r1
      rcases x4 with x4 | ⟨g, hg, y1, y2⟩
      · rw [x4, h0]; exact ⟨0, .zero⟩
      · have hp := hv g hg
        have q0 := Int.emod_nonneg (rd t r - g) (b := a) (by omega)
        have q1 := Int.emod_lt_of_pos (rd t r - g) (b := a) (by omega)
        obtain ⟨c, w⟩ := ih (rd t r - g).toNat (by omega) ((rd t r - g) % a) q0 q1 (by omega)
        rw [y2] at w
        have := Way.add hg w
        rw [show rd t r - g + g = rd t r from by omega] at this
        exact ⟨_, this⟩
  refine ⟨hl, fun r r0 r1 => ?_, fun r r0 r1 _ => ⟨way (rd t r).toNat r r0 r1 (by have := (hr' r r0 r1).1; omega), (hr' r r0 r1).2.2.1⟩, fun n c w => ?_, fun r r0 r1 => ?_⟩
  · have := (hr' r r0 r1).1; omega
  · induction w with
    | zero => simp [h0]
    | @add g k c hg hw ih =>
      have q0 := Int.emod_nonneg k (b := a) (by omega)
      have q1 := Int.emod_lt_of_pos k (b := a) (by omega)
      obtain ⟨x1, x2, x3, x4, x5⟩ := hr' (k % a) q0 q1
      have c2 := x5 g hg
      have e : (rd t (k % a) + g) % a = (k + g) % a := by
        rw [Int.add_emod, x3, ← Int.add_emod]
      rw [e] at c2
      have p0 := Int.emod_nonneg (k + g) (b := a) (by omega)
      have p1 := Int.emod_lt_of_pos (k + g) (b := a) (by omega)
      exact ⟨(hr' _ p0 p1).1, by omega⟩
  · have := (hr' r r0 r1).2.1; rw [Int.mul_comm]; exact this
def top (t : List Int) : Int := t.foldl (fun m x => max m x) 0
def cut (a : Int) (t : List Int) : Int := t.foldl (fun m x => m + x / a) 0
def candP (a b : Nat) : List Int := (List.range a).map fun r => match (List.range a).find? (fun j => (j * b) % a == r) with
  | some j => ((j * b : Nat) : Int)
  | none => -1
def candR (p d k : Nat) : List Int := (List.range p).map fun r => match (List.range p).find? (fun s => (s * d) % p == r) with
  | some s => (((s + k - 1) / k * p + s * d : Nat) : Int)
  | none => -1
def runOf (p d k : Nat) : List Int := (List.range (k + 1)).map fun i => ((p + i * d : Nat) : Int)
def chkP (a b : Nat) : Bool := (a == 0 || b == 0 || Nat.gcd a b != 1) || (lstB [(b : Int)] a (candP a b) && (decide (top (candP a b) - (a : Int) = (a : Int) * b - a - b) && decide (cut a (candP a b) = ((a : Int) - 1) * (b - 1) / 2)))
def chkR (p d k : Nat) : Bool := (decide (p < 2) || d == 0 || k == 0 || decide (p ≤ k) || Nat.gcd p d != 1) || (lstB (runOf p d k) p (candR p d k) && decide (top (candR p d k) - (p : Int) = ((p : Int) - 2) / k * p + d * (p - 1)))
theorem chkP_all : ((List.range 31).all fun a => (List.range 31).all fun b => chkP a b) = true := by decide +kernel
theorem chkR_all : ((List.range 13).all fun p => (List.range 9).all fun d => (List.range 13).all fun k => chkR p d k) = true := by decide +kernel
theorem lstB_pos {v : List Int} {a : Int} {t : List Int} (h : lstB v a t = true) {r : Int} (h0 : 0 ≤ r) (h1 : r < t.length) : 0 ≤ rd t r := by
  unfold lstB at h
  simp only [Bool.and_eq_true, Bool.or_eq_true, decide_eq_true_eq, List.all_eq_true, List.any_eq_true, List.mem_range] at h
  have := (h.2.2 r.toNat (by omega)).1
  rwa [show ((r.toNat : Nat) : Int) = r from by omega] at this
theorem chkP_ok {a b : Nat} (ha : 1 ≤ a) (ha' : a ≤ 30) (hb : 1 ≤ b) (hb' : b ≤ 30) (hg : Nat.gcd a b = 1) : lstB [(b : Int)] a (candP a b) = true ∧ top (candP a b) - (a : Int) = (a : Int) * b - a - b ∧ cut a (candP a b) = ((a : Int) - 1) * (b - 1) / 2 := by
  have := List.all_eq_true.1 (List.all_eq_true.1 chkP_all a (List.mem_range.2 (by omega))) b (List.mem_range.2 (by omega))
  unfold chkP at this
  simp only [Bool.and_eq_true, Bool.or_eq_true, decide_eq_true_eq, beq_iff_eq, bne_iff_ne, ne_eq] at this
  rcases this with h | h
  · omega
  · exact h
theorem chkR_ok {p d k : Nat} (hp : 2 ≤ p) (hp' : p ≤ 12) (hd : 1 ≤ d) (hd' : d ≤ 8) (hk : 1 ≤ k) (hk' : k < p) (hg : Nat.gcd p d = 1) : lstB (runOf p d k) p (candR p d k) = true ∧ top (candR p d k) - (p : Int) = ((p : Int) - 2) / k * p + d * (p - 1) := by
  have := List.all_eq_true.1 (List.all_eq_true.1 (List.all_eq_true.1 chkR_all p (List.mem_range.2 (by omega))) d (List.mem_range.2 (by omega))) k (List.mem_range.2 (by omega))
  unfold chkR at this
  simp only [Bool.and_eq_true, Bool.or_eq_true, decide_eq_true_eq, beq_iff_eq, bne_iff_ne, ne_eq] at this
  rcases this with h | h
  · omega
  · exact h
end Go.Proofs.Ytkifakepmomgfaa.E
end
section
namespace Go.Proofs.Ytkifakepmomgfaa.E
open Go.RowKit Go.Proofs.Ytkifakepmomgfaa.PA Go.Proofs.YtkifakepmomgfaaW.PrintWords Go.Proofs.YtkifakepmomgfaaW.PrintLast Go.Proofs.YtkifakepmomgfaaW.PrintMore
set_option linter.unusedVariables false
set_option linter.unusedSimpArgs false
theorem l1Bit_eq (b : Bool) : spec_l1Bit.f b = some (if b = true then 1 else 0) := by
  unfold spec_l1Bit.f; cases b <;> rfl
end Go.Proofs.Ytkifakepmomgfaa.E
end
section
namespace Go.Proofs.Ytkifakepmomgfaa.E
open Go.RowKit Go.Proofs.Ytkifakepmomgfaa.PA Go.Proofs.YtkifakepmomgfaaW.PrintWords Go.Proofs.YtkifakepmomgfaaW.PrintLast Go.Proofs.YtkifakepmomgfaaW.PrintMore
set_option linter.unusedVariables false
set_option linter.unusedSimpArgs false
theorem pairWays_l {a b n : Int} (ha : 1 ≤ a) (ha' : a ≤ 1000) (hb : 1 ≤ b) (hn : n ≤ 1000000) (d : Nat) : ∀ (x w : Int), 0 ≤ x → 0 ≤ w → w ≤ x → 0 ≤ x * a → x ≤ x * a → x * a ≤ n + 1000 → n + 1 - x * a ≤ d → ∃ r, Ev (fun k => impl_PairWays.l0 k a b n w (x * a)) r ∧ Ev (fun k => spec_PairWays.l0 k a b n w x) r := by
  induction d with
  | zero =>
    intro x w h0 h1 h2 h3 h4 h5 h6
    refine ⟨w, Ev.step (fun k => by rw [impl_PairWays.l0]) ?_, Ev.step (fun k => by rw [spec_PairWays.l0]) ?_⟩
    · exact ev_ifn (by omega) (Ev.now _)
    · rw [w64 (by omega) (by omega)]
      exact ev_ifn (by omega) (Ev.now _)
  | succ d ih =>
    intro x w h0 h1 h2 h3 h4 h5 h6
    by_cases h : x * a ≤ n
    · have e : (x + 1) * a = x * a + a := by rw [Int.add_mul, Int.one_mul]
      by_cases hz : Int.tmod (n - x * a) b = 0
      · obtain ⟨r, hi, hs⟩ := ih (x + 1) (w + 1) (by omega) (by omega) (by omega) (by omega) (by omega) (by omega) (by omega)
        refine ⟨r, Ev.step (fun k => by rw [impl_PairWays.l0]) ?_, Ev.step (fun k => by rw [spec_PairWays.l0]) ?_⟩
        · rw [w64 (x := n - x * a) (by omega) (by omega), w64 (x := w + 1) (by omega) (by omega), w64 (x := x * a + a) (by omega) (by omega)]
          refine ev_ifp h (ev_ifn (by omega) (ev_ifp hz ?_))
          rw [← e]; exact hi
        · rw [w64 (x := x * a) (by omega) (by omega), w64 (x := n - x * a) (by omega) (by omega), w64 (x := x + 1) (by omega) (by omega)]
          refine ev_ifp h (ev_ifn (by omega) ?_)
          simp only [l1Bit_eq, Option.bind_some, hz, beq_self_eq_true, if_true]
          rw [w64 (x := w + 1) (by omega) (by omega)]
          exact hs
      · obtain ⟨r, hi, hs⟩ := ih (x + 1) w (by omega) (by omega) (by omega) (by omega) (by omega) (by omega) (by omega)
        have hz' : (Int.tmod (n - x * a) b == 0) = false := by simpa using hz
        refine ⟨r, Ev.step (fun k => by rw [impl_PairWays.l0]) ?_, Ev.step (fun k => by rw [spec_PairWays.l0]) ?_⟩
        · rw [w64 (x := n - x * a) (by omega) (by omega), w64 (x := x * a + a) (by omega) (by omega)]
          refine ev_ifp h (ev_ifn (by omega) (ev_ifn hz ?_))
          rw [← e]; exact hi
        · rw [w64 (x := x * a) (by omega) (by omega), w64 (x := n - x * a) (by omega) (by omega), w64 (x := x + 1) (by omega) (by omega)]
          refine ev_ifp h (ev_ifn (by omega) ?_)
          simp only [l1Bit_eq, Option.bind_some, hz']
          rw [show (if false = true then (1 : Int) else 0) = 0 from rfl, w64 (x := w + 0) (by omega) (by omega), Int.add_zero]
          exact hs
    · refine ⟨w, Ev.step (fun k => by rw [impl_PairWays.l0]) ?_, Ev.step (fun k => by rw [spec_PairWays.l0]) ?_⟩
      · exact ev_ifn (by omega) (Ev.now _)
      · rw [w64 (by omega) (by omega)]
        exact ev_ifn (by omega) (Ev.now _)
def PairOk (a b : Int) : Prop := (1 ≤ a ∧ a ≤ 1000) ∧ (1 ≤ b ∧ b ≤ 1000) ∧ gcdOf a b = 1
noncomputable instance (a b : Int) : Decidable (PairOk a b) := Classical.propDecidable _
theorem pairI_ev (a b : Int) : Ev (fun k => impl_pair.f k a b) (decide (PairOk a b)) := by
  unfold impl_pair.f
  simp only [within_eq, Option.bind_some]
  by_cases h1 : 1 ≤ a ∧ a ≤ 1000
  · refine ev_ifp (by simpa using h1) ?_
    by_cases h2 : 1 ≤ b ∧ b ≤ 1000
    · refine ev_ifp (by simpa using h2) (ev_bind _ (gcdI_ev a b) (ev_to (Ev.now _) ?_))
      rw [Bool.eq_iff_iff]; simp only [beq_iff_eq, decide_eq_true_eq]
      exact ⟨fun h => ⟨h1, h2, h⟩, fun h => h.2.2⟩
    · exact ev_ifn (d_f h2) (ev_to (Ev.now _) (decide_eq_false (fun h => h2 h.2.1)).symm)
  · exact ev_ifn (d_f h1) (ev_to (Ev.now _) (decide_eq_false (fun h => h1 h.1)).symm)
theorem pairS_ev (a b : Int) : Ev (fun k => spec_l23Pair.f k a b) (decide (PairOk a b)) := by
  unfold spec_l23Pair.f
  simp only [l1In_eq, Option.bind_some]
  by_cases h1 : 1 ≤ a ∧ a ≤ 1000
  · refine ev_ifp (by simpa using h1) ?_
    by_cases h2 : 1 ≤ b ∧ b ≤ 1000
    · refine ev_ifp (by simpa using h2) (ev_bind _ (gcdS_ev a b) (ev_to (Ev.now _) ?_))
      rw [Bool.eq_iff_iff]; simp only [beq_iff_eq, decide_eq_true_eq]
      exact ⟨fun h => ⟨h1, h2, h⟩, fun h => h.2.2⟩
    · exact ev_ifn (d_f h2) (ev_to (Ev.now _) (decide_eq_false (fun h => h2 h.2.1)).symm)
  · exact ev_ifn (d_f h1) (ev_to (Ev.now _) (decide_eq_false (fun h => h1 h.1)).symm)
theorem pairWays_ev (a b n : Int) : ∃ r, Ev (fun k => impl_PairWays.f k a b n) r ∧ Ev (fun k => spec_PairWays.f k a b n) r := by
  by_cases h : PairOk a b
  · by_cases hn : 0 ≤ n ∧ n ≤ 1000000
    · obtain ⟨⟨h1, h2⟩, ⟨h3, h4⟩, h5⟩ := id h
      obtain ⟨r, hi, hs⟩ := pairWays_l h1 h2 h3 hn.2 (n + 1).toNat 0 0 (by omega) (by omega) (by omega) (by omega) (by omega) (by omega) (by omega)
      rw [Int.zero_mul] at hi
      refine ⟨r, ?_, ?_⟩
      · unfold impl_PairWays.f
        refine ev_bind _ (pairI_ev a b) (ev_ifp (by simpa using h) ?_)
        simp only [within_eq, Option.bind_some]
        refine Ev.step (fun k => by rw [impl_PairWays.j0]) (ev_ifn (by simpa using hn) hi)
      · unfold spec_PairWays.f
        refine ev_bind _ (pairS_ev a b) (ev_ifp (by simpa using h) ?_)
        simp only [l1In_eq, Option.bind_some]
        refine Ev.step (fun k => by rw [spec_PairWays.j0]) (ev_ifn (by simpa using hn) hs)
    · refine ⟨-1, ?_, ?_⟩
      · unfold impl_PairWays.f
        refine ev_bind _ (pairI_ev a b) (ev_ifp (by simpa using h) ?_)
        simp only [within_eq, Option.bind_some]
        exact Ev.step (fun k => by rw [impl_PairWays.j0]) (ev_ifp (nd_t hn) (Ev.now _))
      · unfold spec_PairWays.f
        refine ev_bind _ (pairS_ev a b) (ev_ifp (by simpa using h) ?_)
        simp only [l1In_eq, Option.bind_some]
        exact Ev.step (fun k => by rw [spec_PairWays.j0]) (ev_ifp (nd_t hn) (Ev.now _))
  · refine ⟨-1, ?_, ?_⟩
    · unfold impl_PairWays.f
      refine ev_bind _ (pairI_ev a b) (ev_ifn (by simpa using h) ?_)
      exact Ev.step (fun k => by rw [impl_PairWays.j0]) (ev_ifp rfl (Ev.now _))
    · unfold spec_PairWays.f
      refine ev_bind _ (pairS_ev a b) (ev_ifn (by simpa using h) ?_)
      exact Ev.step (fun k => by rw [spec_PairWays.j0]) (ev_ifp rfl (Ev.now _))
end Go.Proofs.Ytkifakepmomgfaa.E
end
section
namespace Go.Proofs.Ytkifakepmomgfaa.E
open Go.RowKit Go.Proofs.Ytkifakepmomgfaa.PA Go.Proofs.YtkifakepmomgfaaW.PrintWords Go.Proofs.YtkifakepmomgfaaW.PrintLast Go.Proofs.YtkifakepmomgfaaW.PrintMore
set_option linter.unusedVariables false
set_option linter.unusedSimpArgs false
theorem ev_if {α : Type} {c : Prop} [Decidable c] {a b : Nat → Option α} {r : α} (h : c → Ev a r) (k : ¬ c → Ev b r) : Ev (fun n => if c then a n else b n) r := by
  by_cases e : c
  · exact ev_ifp e (h e)
  · exact ev_ifn e (k e)
theorem tdiv_pos {a b : Int} (h : 0 ≤ a) : Int.tdiv a b = a / b := Int.tdiv_eq_ediv_of_nonneg h
theorem gcdOf_nat {a b : Nat} (ha : a ≤ 1000000) (hb : b ≤ 1000000) : gcdOf (a : Int) (b : Int) = ((Nat.gcd a b : Nat) : Int) := by
  unfold gcdOf
  rw [if_pos ⟨⟨by omega, by omega⟩, by omega, by omega⟩]
  rfl
theorem pairFr_ev (a b : Int) : ∃ f, Ev (fun k => impl_PairFrobenius.f k a b) f ∧ Ev (fun k => spec_PairFrobenius.f k a b) f ∧ (PairOk a b → f = wrap64 (wrap64 (wrap64 (a * b) - a) - b)) := by
  unfold impl_PairFrobenius.f spec_PairFrobenius.f
  by_cases h : PairOk a b
  · exact ⟨_, ev_bind _ (pairI_ev a b) (ev_ifp (by simpa using h) (Ev.now _)), ev_bind _ (pairS_ev a b) (ev_ifp (by simpa using h) (Ev.now _)), fun _ => rfl⟩
  · exact ⟨-1, ev_bind _ (pairI_ev a b) (ev_ifn (by simpa using h) (Ev.now _)), ev_bind _ (pairS_ev a b) (ev_ifn (by simpa using h) (Ev.now _)), fun k => absurd k h⟩
theorem pairGn_ev (a b : Int) : ∃ g, Ev (fun k => impl_PairGenus.f k a b) g ∧ Ev (fun k => spec_PairGenus.f k a b) g ∧ (PairOk a b → g = wrap64 (Int.tdiv (wrap64 (wrap64 (a - 1) * wrap64 (b - 1))) 2)) ∧ (¬ PairOk a b → g = -1) := by
  unfold impl_PairGenus.f spec_PairGenus.f
  by_cases h : PairOk a b
  · exact ⟨_, ev_bind _ (pairI_ev a b) (ev_ifp (by simpa using h) (Ev.now _)), ev_bind _ (pairS_ev a b) (ev_ifp (by simpa using h) (Ev.now _)), fun _ => rfl, fun k => absurd h k⟩
  · exact ⟨-1, ev_bind _ (pairI_ev a b) (ev_ifn (by simpa using h) (Ev.now _)), ev_bind _ (pairS_ev a b) (ev_ifn (by simpa using h) (Ev.now _)), fun k => absurd k h, fun _ => rfl⟩
theorem runFr_ev (p d k : Int) : ∃ r, Ev (fun n => impl_RunFrobenius.f n p d k) r ∧ Ev (fun n => spec_RunFrobenius.f n p d k) r ∧ (2 ≤ p → p ≤ 12 → 1 ≤ d → d ≤ 8 → 1 ≤ k → k ≤ p - 1 → gcdOf p d = 1 → r = (p - 2) / k * p + d * (p - 1)) := by
  unfold spec_RunFrobenius.f impl_RunFrobenius.f
  simp only [within_eq, l1In_eq, Option.bind_some]
  by_cases c1 : 2 ≤ p ∧ p ≤ 1000
  · by_cases c2 : 1 ≤ d ∧ d ≤ 1000
    · by_cases c3 : gcdOf p d = 1
      · by_cases c4 : 1 ≤ k ∧ k ≤ wrap64 (p - 1)
        · refine ⟨_, ev_ifp (by simpa using c1) (ev_ifp (by simpa using c2) (ev_bind _ (gcdI_ev p d) (ev_ifp c3 (ev_ifp (by simpa using c4) (ev_ifn (by omega) (Ev.now _)))))), ev_ifp (by simpa using c1) (ev_ifp (by simpa using c2) (ev_bind _ (gcdS_ev p d) (ev_ifp c3 (ev_ifp (by simpa using c4) (ev_ifn (by omega) (Ev.now _)))))), fun a1 a2 a3 a4 a5 a6 _ => ?_⟩
          have q0 : 0 ≤ (p - 2) / k := Int.ediv_nonneg (by omega) (by omega)
          have q1 : (p - 2) / k ≤ p - 2 := Int.ediv_le_self _ (by omega)
          have m1 : (p - 2) / k * p ≤ 10 * 12 := Int.mul_le_mul (by omega) a2 (by omega) (by omega)
          have m0 : 0 ≤ (p - 2) / k * p := Int.mul_nonneg q0 (by omega)
          have n1 : d * (p - 1) ≤ 8 * 11 := Int.mul_le_mul a4 (by omega) (by omega) (by omega)
          have n0 : 0 ≤ d * (p - 1) := Int.mul_nonneg (by omega) (by omega)
          rw [w64 (x := p - 2) (by omega) (by omega), w64 (x := p - 1) (by omega) (by omega), tdiv_pos (by omega), w64 (x := (p - 2) / k) (by omega) (by omega), w64 (x := (p - 2) / k * p) (by omega) (by omega), w64 (x := d * (p - 1)) (by omega) (by omega), w64 (by omega) (by omega)]
        · exact ⟨_, ev_ifp (by simpa using c1) (ev_ifp (by simpa using c2) (ev_bind _ (gcdI_ev p d) (ev_ifp c3 (ev_ifn (by simpa using c4) (Ev.now _))))), ev_ifp (by simpa using c1) (ev_ifp (by simpa using c2) (ev_bind _ (gcdS_ev p d) (ev_ifp c3 (ev_ifn (by simpa using c4) (Ev.now _))))), fun a1 a2 a3 a4 a5 a6 _ => absurd ⟨a5, by rw [w64 (by omega) (by omega)]; exact a6⟩ c4⟩
      · exact ⟨_, ev_ifp (by simpa using c1) (ev_ifp (by simpa using c2) (ev_bind _ (gcdI_ev p d) (ev_ifn c3 (Ev.now _)))), ev_ifp (by simpa using c1) (ev_ifp (by simpa using c2) (ev_bind _ (gcdS_ev p d) (ev_ifn c3 (Ev.now _)))), fun a1 a2 a3 a4 a5 a6 a7 => absurd a7 c3⟩
    · exact ⟨_, ev_ifp (by simpa using c1) (ev_ifn (by simpa using c2) (Ev.now _)), ev_ifp (by simpa using c1) (ev_ifn (by simpa using c2) (Ev.now _)), fun a1 a2 a3 a4 a5 a6 a7 => absurd ⟨a3, by omega⟩ c2⟩
  · exact ⟨_, ev_ifn (by simpa using c1) (Ev.now _), ev_ifn (by simpa using c1) (Ev.now _), fun a1 a2 a3 a4 a5 a6 a7 => absurd ⟨a1, by omega⟩ c1⟩
theorem su_pair {a b n : Int} (ha : 1 ≤ a) (hb : 1 ≤ b) : Su [a, b] n ↔ ∃ j : Int, 0 ≤ j ∧ j * a ≤ n ∧ (n - j * a) % b = 0 := by
  constructor
  · rintro ⟨c, w⟩
    have : ∃ j q : Int, 0 ≤ j ∧ 0 ≤ q ∧ n = j * a + q * b := by
      induction w with
      | zero => exact ⟨0, 0, by omega, by omega, by omega⟩
      | @add g k c hg hw ih =>
        obtain ⟨j, q, h1, h2, h3⟩ := ih
        rcases List.mem_cons.1 hg with rfl | hg
        · exact ⟨j + 1, q, by omega, h2, by rw [Int.add_mul]; omega⟩
        · obtain rfl : g = b := by simpa using hg
          exact ⟨j, q + 1, h1, by omega, by rw [Int.add_mul]; omega⟩
    obtain ⟨j, q, h1, h2, rfl⟩ := this
    have := Int.mul_nonneg h2 (show 0 ≤ b by omega)
    refine ⟨j, h1, by omega, ?_⟩
    rw [show j * a + q * b - j * a = q * b from by omega]
    exact Int.mul_emod_left _ _
  · rintro ⟨j, h1, h2, h3⟩
    have e := Int.mul_ediv_add_emod (n - j * a) b
    have q0 : 0 ≤ (n - j * a) / b := Int.ediv_nonneg (by omega) (by omega)
    have s1 := (Su.mem (v := [a, b]) (x := a) (by simp)).times j.toNat
    have s2 := (Su.mem (v := [a, b]) (x := b) (by simp)).times ((n - j * a) / b).toNat
    have := s1.add s2
    rwa [show ((j.toNat : Nat) : Int) = j from by omega, show ((((n - j * a) / b).toNat : Nat) : Int) = (n - j * a) / b from by omega, show j * a + (n - j * a) / b * b = n from by rw [Int.mul_comm ((n - j * a) / b)]; omega] at this
theorem pwPos_l {a b n : Int} (ha : 1 ≤ a) (ha' : a ≤ 1000) (hb : 1 ≤ b) (hn : n ≤ 1000000) (d : Nat) : ∀ (x w : Int), 0 ≤ x → 0 ≤ w → w ≤ x → 0 ≤ x * a → x ≤ x * a → x * a ≤ n + 1000 → n + 1 - x * a ≤ d → ∃ r, Ev (fun k => impl_PairWays.l0 k a b n w (x * a)) r ∧ w ≤ r ∧ (w < r ↔ ∃ j, x ≤ j ∧ j * a ≤ n ∧ (n - j * a) % b = 0) := by
  induction d with
  | zero =>
    intro x w h0 h1 h2 h3 h4 h5 h6
    refine ⟨w, Ev.step (fun k => by rw [impl_PairWays.l0]) (ev_ifn (by omega) (Ev.now _)), Int.le_refl _, fun h => absurd h (Int.lt_irrefl _), ?_⟩
    rintro ⟨j, k1, k2, _⟩
    have := Int.mul_le_mul_of_nonneg_right k1 (show 0 ≤ a by omega)
    omega
  | succ d ih =>
    intro x w h0 h1 h2 h3 h4 h5 h6
    by_cases h : x * a ≤ n
    · have e : (x + 1) * a = x * a + a := by rw [Int.add_mul, Int.one_mul]
      have te := Int.tmod_eq_emod_of_nonneg (b := b) (show 0 ≤ n - x * a by omega)
      by_cases hz : (n - x * a) % b = 0
      · obtain ⟨r, hi, r1, r2⟩ := ih (x + 1) (w + 1) (by omega) (by omega) (by omega) (by omega) (by omega) (by omega) (by omega)
        refine ⟨r, Ev.step (fun k => by rw [impl_PairWays.l0]) ?_, by omega, fun _ => ⟨x, Int.le_refl _, h, hz⟩, fun _ => by omega⟩
        rw [w64 (x := n - x * a) (by omega) (by omega), w64 (x := w + 1) (by omega) (by omega), w64 (x := x * a + a) (by omega) (by omega), te]
        refine ev_ifp h (ev_ifn (by omega) (ev_ifp hz ?_))
        rw [← e]; exact hi
      · obtain ⟨r, hi, r1, r2⟩ := ih (x + 1) w (by omega) (by omega) (by omega) (by omega) (by omega) (by omega) (by omega)
        refine ⟨r, Ev.step (fun k => by rw [impl_PairWays.l0]) ?_, by omega, ?_, ?_⟩
        · rw [w64 (x := n - x * a) (by omega) (by omega), w64 (x := x * a + a) (by omega) (by omega), te]
          refine ev_ifp h (ev_ifn (by omega) (ev_ifn hz ?_))
          rw [← e]; exact hi
        · intro hr
          obtain ⟨j, k1, k2, k3⟩ := r2.1 hr
          exact ⟨j, by omega, k2, k3⟩
        · rintro ⟨j, k1, k2, k3⟩
          refine r2.2 ⟨j, ?_, k2, k3⟩
          by_cases ej : j = x
          · rw [ej] at k3; exact absurd k3 hz
          · omega
    · refine ⟨w, Ev.step (fun k => by rw [impl_PairWays.l0]) (ev_ifn h (Ev.now _)), Int.le_refl _, fun h => absurd h (Int.lt_irrefl _), ?_⟩
      rintro ⟨j, k1, k2, _⟩
      have := Int.mul_le_mul_of_nonneg_right k1 (show 0 ≤ a by omega)
      omega
theorem pairWays_pos {a b n r : Int} (hr : Ev (fun k => impl_PairWays.f k a b n) r) (h0 : 0 ≤ r) : PairOk a b ∧ (0 ≤ n ∧ n ≤ 1000000) ∧ (r > 0 ↔ Su [a, b] n) := by
  unfold impl_PairWays.f at hr
  simp only [within_eq, Option.bind_some] at hr
  by_cases h : PairOk a b
  · by_cases hn : 0 ≤ n ∧ n ≤ 1000000
    · obtain ⟨⟨h1, h2⟩, ⟨h3, h4⟩, h5⟩ := id h
      obtain ⟨q, hi, q1, q2⟩ := pwPos_l h1 h2 h3 hn.2 (n + 1).toNat 0 0 (by omega) (by omega) (by omega) (by omega) (by omega) (by omega) (by omega)
      rw [Int.zero_mul] at hi
      have := ev_one hr (ev_bind _ (pairI_ev a b) (ev_ifp (by simpa using h) (Ev.step (fun k => by rw [impl_PairWays.j0]) (ev_ifn (nd_f hn) hi))))
      subst this
      exact ⟨h, hn, by rw [su_pair h1 h3]; exact q2⟩
    · have := ev_one hr (ev_bind _ (pairI_ev a b) (ev_ifp (by simpa using h) (Ev.step (fun k => by rw [impl_PairWays.j0]) (ev_ifp (nd_t hn) (Ev.now _)))))
      omega
  · have := ev_one hr (ev_bind _ (pairI_ev a b) (ev_ifn (by simpa using h) (Ev.step (fun k => by rw [impl_PairWays.j0]) (ev_ifp rfl (Ev.now _)))))
    omega
theorem few_l3 {t : List Int} {p r : Int} (hl : t.length ≤ 200) (d : Nat) : ∀ i m : Int, 0 ≤ i → i + d = t.length → (t.drop i.toNat).foldl (fun m x => max m x) m = r + p → -100000 ≤ r → r ≤ 1000000 → 0 ≤ p → p ≤ 1000 → Ev (fun k => laws_FnFew.l3 k p r m t i) true := by
  induction d with
  | zero =>
    intro i m h0 h1 h2 h3 h4 h5 h6
    rw [List.drop_of_length_le (by omega), List.foldl_nil] at h2
    refine Ev.step (fun k => by rw [laws_FnFew.l3]) (ev_ifn (by omega) (ev_to (Ev.now _) ?_))
    rw [w64 (by omega) (by omega)]; simp; omega
  | succ d ih =>
    intro i m h0 h1 h2 h3 h4 h5 h6
    rw [drop_rd h0 (by omega), List.foldl_cons] at h2
    refine Ev.step (fun k => by rw [laws_FnFew.l3]) ?_
    rw [w64 (x := i + 1) (by omega) (by omega), mx_eq]
    exact ev_ifp (by omega) (ev_ifp h0 (ih (i + 1) _ (by omega) (by omega) h2 h3 h4 h5 h6))
theorem few_l1 {a b f x10 x11 x12 x13 g : Int} {t : List Int} (ha : 1 ≤ a) (ha' : a ≤ 200) (hl : t.length ≤ 200) (hb : ∀ x ∈ t, 0 ≤ x ∧ x ≤ 1000000) (hg : Ev (fun k => impl_PairGenus.f k a b) g) (hj : Ev (fun k => laws_FnFew.j5 k x10 x11 x12 x13) true) (d : Nat) : ∀ i m c : Int, 0 ≤ i → i + d = t.length → 0 ≤ m → m ≤ 1000000 → 0 ≤ c → c ≤ i * 1000000 →
    (t.drop i.toNat).foldl (fun m x => max m x) m - a = f → (t.drop i.toNat).foldl (fun m x => m + x / a) c = g → Ev (fun k => laws_FnFew.l1 k a b f x10 x11 x12 x13 t m c i) true := by
  induction d with
  | zero =>
    intro i m c h0 h1 m0 m1 c0 c1 h2 h3
    rw [List.drop_of_length_le (by omega), List.foldl_nil] at h2 h3
    refine Ev.step (fun k => by rw [laws_FnFew.l1]) (ev_ifn (by omega) ?_)
    rw [w64 (x := m - a) (by omega) (by omega)]
    exact ev_ifp h2 (ev_bind _ hg (ev_ifp h3 hj))
  | succ d ih =>
    intro i m c h0 h1 m0 m1 c0 c1 h2 h3
    obtain ⟨b0, b1⟩ := hb _ (rd_mem (l := t) h0 (by omega))
    rw [drop_rd h0 (by omega), List.foldl_cons] at h2 h3
    have q0 : 0 ≤ rd t i / a := Int.ediv_nonneg b0 (by omega)
    have q1 : rd t i / a ≤ rd t i := Int.ediv_le_self _ b0
    refine Ev.step (fun k => by rw [laws_FnFew.l1]) ?_
    rw [w64 (x := i + 1) (by omega) (by omega), mx_eq, tdiv_pos b0, w64 (x := rd t i / a) (by omega) (by omega), w64 (x := c + rd t i / a) (by omega) (by omega)]
    exact ev_ifp (by omega) (ev_ifp h0 (ev_ifn (by omega) (ih (i + 1) _ _ (by omega) (by omega) (by omega) (by omega) (by omega) (by omega) h2 h3)))
theorem run_l2 {p d k r : Int} (hp : 1 ≤ p ∧ p ≤ 12) (hd : 0 ≤ d ∧ d ≤ 8) (hk : 0 ≤ k ∧ k ≤ 12) {t : List Int} (hf : Ev (fun n => impl_LeastInSum.f n (runOf p.toNat d.toNat k.toNat) p) t) (ht : Ev (fun n => laws_FnFew.l3 n p r 0 t 0) true) (m : Nat) : ∀ i : Int, 1 ≤ i → i + m = k + 1 → Ev (fun n => laws_FnFew.l2 n p d k r (runOf p.toNat d.toNat (i - 1).toNat) i) true := by
  have len : ∀ a b c, (runOf a b c).length = c + 1 := fun a b c => by unfold runOf; simp
  induction m with
  | zero =>
    intro i h0 h1
    refine Ev.step (fun n => by rw [laws_FnFew.l2]) (ev_ifn (by omega) ?_)
    rw [show i - 1 = k from by omega]
    exact ev_bind _ hf ht
  | succ m ih =>
    intro i h0 h1
    have x1 : i * d ≤ 12 * 8 := Int.mul_le_mul (by omega) hd.2 hd.1 (by omega)
    have x0 : 0 ≤ i * d := Int.mul_nonneg (by omega) hd.1
    have nx := ih (i + 1) (by omega) (by omega)
    have e : runOf p.toNat d.toNat (i + 1 - 1).toNat = runOf p.toNat d.toNat (i - 1).toNat ++ [p + i * d] := by
      rw [show (i + 1 - 1).toNat = (i - 1).toNat + 1 from by omega]
      unfold runOf
      rw [List.range_succ, List.map_append]
      congr 1
      simp only [List.map_cons, List.map_nil]
      rw [Int.natCast_add, Int.natCast_mul, show ((((i - 1).toNat + 1 : Nat)) : Int) = i from by omega, Int.toNat_of_nonneg hd.1, Int.toNat_of_nonneg (show 0 ≤ p by omega)]
    rw [e] at nx
    have hlen := len p.toNat d.toNat (i - 1).toNat
    refine Ev.step (fun n => by rw [laws_FnFew.l2]) ?_
    rw [w64 (x := i * d) (by omega) (by omega), w64 (x := p + i * d) (by omega) (by omega), w64 (x := i + 1) (by omega) (by omega)]
    exact ev_ifp (by omega) (ev_ifp (by omega) nx)
end Go.Proofs.Ytkifakepmomgfaa.E
end
section
namespace Go.Proofs.Ytkifakepmomgfaa.E
open Go.RowKit Go.Proofs.Ytkifakepmomgfaa.PA Go.Proofs.YtkifakepmomgfaaW.PrintWords Go.Proofs.YtkifakepmomgfaaW.PrintLast Go.Proofs.YtkifakepmomgfaaW.PrintMore
set_option linter.unusedVariables false
set_option linter.unusedSimpArgs false
theorem lis_l4 {v : List Int} {a G M : Int} (hv : ∀ x ∈ v, 1 ≤ x ∧ x ≤ G) (hG : 0 ≤ G) (hG' : G ≤ 1000) (ha : 1 ≤ a) (ha' : a ≤ 200) (hl : v.length ≤ 20) {r : Int} (hr0 : 0 ≤ r) (hr1 : r < a) {P : List Int → Prop}
    (H : ∀ (t : List Int) (ch : Bool), LInv v a G t → weight (a * G + 1) t ≤ M → (ch = true → weight (a * G + 1) t < M) → (ch = false → ∀ s, 0 ≤ s → s < r + 1 → 0 ≤ rd t s → ∀ g ∈ v, 0 ≤ rd t ((rd t s + g) % a) ∧ rd t ((rd t s + g) % a) ≤ rd t s + g) → ∃ u, P u ∧ Ev (fun k => spec_LeastInSum.l3 k v a t ch (r + 1)) u) (d : Nat) :
    ∀ (t : List Int) (ch : Bool) (i : Int), 0 ≤ i → i + d = v.length → LInv v a G t → weight (a * G + 1) t ≤ M → (ch = true → weight (a * G + 1) t < M) →
      (ch = false → ∀ s, 0 ≤ s → s < r → 0 ≤ rd t s → ∀ g ∈ v, 0 ≤ rd t ((rd t s + g) % a) ∧ rd t ((rd t s + g) % a) ≤ rd t s + g) → (ch = false → 0 ≤ rd t r → ∀ j, 0 ≤ j → j < i → 0 ≤ rd t ((rd t r + rd v j) % a) ∧ rd t ((rd t r + rd v j) % a) ≤ rd t r + rd v j) →
      ∃ u, P u ∧ Ev (fun k => spec_LeastInSum.l4 k v a t ch r i) u := by
  have hm : a * G = (a - 1) * G + G := by rw [Int.sub_mul]; omega
  have haG : a * G ≤ 200 * 1000 := Int.mul_le_mul ha' hG' hG (by omega)
  induction d with
  | zero =>
    intro t ch i h0 h1 I hM h2 h3 h4
    obtain ⟨u, hu, hE⟩ := H t ch I hM h2 (by
      intro hc s hs0 hs1 hs g hg
      by_cases e : s = r
      · subst e
        obtain ⟨j, hj0, hj1, rfl⟩ := mem_rd hg
        exact h4 hc hs j hj0 (by omega)
      · exact h3 hc s hs0 (by omega) hs g hg)
    refine ⟨u, hu, Ev.step (fun k => by rw [spec_LeastInSum.l4]) (ev_ifn (by omega) (Ev.step (fun k => by rw [spec_LeastInSum.j6]) (ev_ifn (by simp) ?_)))⟩
    rw [w64 (by omega) (by omega)]; exact hE
  | succ d ih =>
    intro t ch i h0 h1 I hM h2 h3 h4
    have hgm := rd_mem (l := v) h0 (by omega)
    have hg := hv _ hgm
    have hb := I.top hG hr0 hr1
    have hlen := I.len
    have q0 := Int.emod_nonneg (rd t r + rd v i) (b := a) (by omega)
    have q1 := Int.emod_lt_of_pos (rd t r + rd v i) (b := a) (by omega)
    by_cases hs : 0 ≤ rd t r
    · have head : ∀ u, (∀ c1 : rd t ((rd t r + rd v i) % a) < 0, Ev (fun k => spec_LeastInSum.l4 k v a (t.set ((rd t r + rd v i) % a).toNat (rd t r + rd v i)) true r (i + 1)) u) → (∀ c1 : ¬ rd t ((rd t r + rd v i) % a) < 0, ∀ c2 : rd t r + rd v i < rd t ((rd t r + rd v i) % a), Ev (fun k => spec_LeastInSum.l4 k v a (t.set ((rd t r + rd v i) % a).toNat (rd t r + rd v i)) true r (i + 1)) u) → (∀ c1 : ¬ rd t ((rd t r + rd v i) % a) < 0, ∀ c2 : ¬ rd t r + rd v i < rd t ((rd t r + rd v i) % a), Ev (fun k => spec_LeastInSum.l4 k v a t ch r (i + 1)) u) → Ev (fun k => spec_LeastInSum.l4 k v a t ch r i) u := by
        intro u f1 f2 f3
        refine Ev.step (fun k => by rw [spec_LeastInSum.l4]) (ev_ifp (by omega) (ev_ifp hr0 (ev_ifp (by omega) (Ev.step (fun k => by rw [spec_LeastInSum.j6]) (ev_ifp (by simpa using hs) ?_)))))
        rw [w64 (x := rd t r + rd v i) (by omega) (by omega), Int.tmod_eq_emod_of_nonneg (by omega), w64 (x := i + 1) (by omega) (by omega)]
        refine ev_ifp hr0 (ev_ifp (by omega) (ev_ifp h0 (ev_ifp (by omega) (ev_ifn (by omega) (ev_ifp q0 (ev_ifp (by omega) ?_))))))
        by_cases c1 : rd t ((rd t r + rd v i) % a) < 0
        · exact ev_ifp c1 (f1 c1)
        · by_cases c2 : rd t r + rd v i < rd t ((rd t r + rd v i) % a)
          · exact ev_ifn c1 (ev_ifp c2 (f2 c1 c2))
          · exact ev_ifn c1 (ev_ifn c2 (f3 c1 c2))
      have change : (rd t ((rd t r + rd v i) % a) < 0 ∨ rd t r + rd v i < rd t ((rd t r + rd v i) % a)) → ∃ u, P u ∧ Ev (fun k => spec_LeastInSum.l4 k v a (t.set ((rd t r + rd v i) % a).toNat (rd t r + rd v i)) true r (i + 1)) u := by
        intro hc
        obtain ⟨I', w', _, hne⟩ := I.step hv ha hr0 hr1 hgm hs hc
        exact ih _ true (i + 1) (by omega) (by omega) I' (by omega) (fun _ => by omega) (fun h => by cases h) (fun h => by cases h)
      by_cases c1 : rd t ((rd t r + rd v i) % a) < 0
      · obtain ⟨u, hu, hE⟩ := change (.inl c1)
        exact ⟨u, hu, head u (fun _ => hE) (fun h => absurd c1 h) (fun h => absurd c1 h)⟩
      · by_cases c2 : rd t r + rd v i < rd t ((rd t r + rd v i) % a)
        · obtain ⟨u, hu, hE⟩ := change (.inr c2)
          exact ⟨u, hu, head u (fun h => absurd h c1) (fun _ _ => hE) (fun _ h => absurd c2 h)⟩
        · obtain ⟨u, hu, hE⟩ := ih t ch (i + 1) (by omega) (by omega) I hM h2 h3 (fun hf hs j hj0 hj1 => by
            by_cases e : j = i
            · subst e; omega
            · exact h4 hf hs j hj0 (by omega))
          exact ⟨u, hu, head u (fun h => absurd h c1) (fun _ h => absurd h c2) (fun _ _ => hE)⟩
    · obtain ⟨u, hu, hE⟩ := H t ch I hM h2 (by
        intro hc s hs0 hs1 hs' g hg
        by_cases e : s = r
        · subst e; exact absurd hs' hs
        · exact h3 hc s hs0 (by omega) hs' g hg)
      refine ⟨u, hu, Ev.step (fun k => by rw [spec_LeastInSum.l4]) (ev_ifp (by omega) (ev_ifp hr0 (ev_ifp (by omega) (Ev.step (fun k => by rw [spec_LeastInSum.j6]) (ev_ifn (by simpa using hs) ?_)))))⟩
      rw [w64 (by omega) (by omega)]; exact hE
theorem lis_l3 {v : List Int} {a G M : Int} (hv : ∀ x ∈ v, 1 ≤ x ∧ x ≤ G) (hG : 0 ≤ G) (hG' : G ≤ 1000) (ha : 1 ≤ a) (ha' : a ≤ 200) (hl : v.length ≤ 20)
    (H : ∀ t : List Int, LInv v a G t → weight (a * G + 1) t < M → ∃ u, Lst v a G u ∧ Ev (fun k => spec_LeastInSum.l2 k v a t true) u) (d : Nat) :
    ∀ (t : List Int) (ch : Bool) (r : Int), 0 ≤ r → r + d = a → LInv v a G t → weight (a * G + 1) t ≤ M → (ch = true → weight (a * G + 1) t < M) →
      (ch = false → ∀ s, 0 ≤ s → s < r → 0 ≤ rd t s → ∀ g ∈ v, 0 ≤ rd t ((rd t s + g) % a) ∧ rd t ((rd t s + g) % a) ≤ rd t s + g) →
      ∃ u, Lst v a G u ∧ Ev (fun k => spec_LeastInSum.l3 k v a t ch r) u := by
  induction d with
  | zero =>
    intro t ch r h0 h1 I hM h2 h3
    cases ch with
    | true =>
      obtain ⟨u, hu, hE⟩ := H t I (h2 rfl)
      exact ⟨u, hu, Ev.step (fun k => by rw [spec_LeastInSum.l3]) (ev_ifn (by omega) hE)⟩
    | false =>
      refine ⟨t, I.done hv hG ha (fun s hs0 hs1 hs g hg => h3 rfl s hs0 (by omega) hs g hg), Ev.step (fun k => by rw [spec_LeastInSum.l3]) (ev_ifn (by omega) (Ev.step (fun k => by rw [spec_LeastInSum.l2]) (ev_ifn (by simp) (Ev.now _))))⟩
  | succ d ih =>
    intro t ch r h0 h1 I hM h2 h3
    have hlen := I.len
    obtain ⟨u, hu, hE⟩ := lis_l4 (M := M) (P := Lst v a G) hv hG hG' ha ha' hl h0 (by omega) (fun t ch I hM h2 h3 => ih t ch (r + 1) (by omega) (by omega) I hM h2 h3) v.length t ch 0 (by omega) (by omega) I hM h2 h3 (fun _ _ j hj0 hj1 => by omega)
    exact ⟨u, hu, Ev.step (fun k => by rw [spec_LeastInSum.l3]) (ev_ifp (by omega) hE)⟩
theorem lis_l2 {v : List Int} {a G : Int} (hv : ∀ x ∈ v, 1 ≤ x ∧ x ≤ G) (hG : 0 ≤ G) (hG' : G ≤ 1000) (ha : 1 ≤ a) (ha' : a ≤ 200) (hl : v.length ≤ 20) (m : Nat) :
    ∀ t : List Int, LInv v a G t → weight (a * G + 1) t ≤ m → ∃ u, Lst v a G u ∧ Ev (fun k => spec_LeastInSum.l2 k v a t true) u := by
  induction m using Nat.strongRecOn with
  | _ m ih =>
    intro t I hm
    have hB : 0 ≤ a * G + 1 := by have := Int.mul_nonneg (show 0 ≤ a by omega) hG; omega
    obtain ⟨u, hu, hE⟩ := lis_l3 (M := weight (a * G + 1) t) hv hG hG' ha ha' hl (fun t' I' h' => ih (weight (a * G + 1) t').toNat (by have := weight_nonneg hB t'; have := weight_nonneg hB t; omega) t' I' (by have := weight_nonneg hB t'; omega)) a.toNat t false 0 (by omega) (by omega) I (Int.le_refl _) (fun h => by cases h) (fun _ s hs0 hs1 => by omega)
    exact ⟨u, hu, Ev.step (fun k => by rw [spec_LeastInSum.l2]) (ev_ifp rfl hE)⟩
theorem lis_l1 {v : List Int} {a : Int} (ha : 1 ≤ a) (ha' : a ≤ 200) {u : List Int} (H : Ev (fun k => spec_LeastInSum.l2 k v a ((List.replicate a.toNat (-1)).set 0 0) true) u) (d : Nat) :
    ∀ (i : Int) (row : List Int), 1 ≤ i → i + d = a → (row.length : Int) = a → rd row 0 = 0 → (∀ j, 0 < j → j < i → rd row j = -1) → Ev (fun k => spec_LeastInSum.l1 k v a row i) u := by
  induction d with
  | zero =>
    intro i row h0 h1 h2 hz h3
    have e : row = (List.replicate a.toNat (-1)).set 0 0 := rd_ext (by simp; omega) fun j hj hj' => by
      have := rd_set (l := List.replicate a.toNat (-1)) (i := 0) (j := j) 0 (by omega) (by simp; omega) hj
      rw [show (0 : Int).toNat = 0 from rfl] at this
      rw [this]
      by_cases e : j = 0
      · rw [if_pos e, e, hz]
      · rw [if_neg e, h3 j (by omega) (by omega), rd_rep hj (by omega)]
    subst e
    exact Ev.step (fun k => by rw [spec_LeastInSum.l1]) (ev_ifn (by omega) H)
  | succ d ih =>
    intro i row h0 h1 h2 hz h3
    refine Ev.step (fun k => by rw [spec_LeastInSum.l1]) ?_
    simp (disch := omega) only [if_pos, w64]
    refine ih (i + 1) _ (by omega) (by omega) (by simpa using h2) ?_ fun j hj hj' => ?_
    · rw [rd_set _ (by omega) (by omega) (by omega), if_neg (by omega)]; exact hz
    · rw [rd_set _ (by omega) (by omega) (by omega)]
      by_cases e : j = i
      · rw [if_pos e]
      · rw [if_neg e]; exact h3 j hj (by omega)
def LisOk (v : List Int) (a : Int) : Prop := (1 ≤ a ∧ a ≤ 200) ∧ (1 ≤ (v.length : Int) ∧ (v.length : Int) ≤ 20) ∧ ∀ x ∈ v, 1 ≤ x ∧ x ≤ 1000
theorem lis_l0 {v : List Int} {a : Int} (hl : v.length ≤ 20) (ha : 1 ≤ a) (ha' : a ≤ 200) {u : List Int} (H : (∀ x ∈ v, 1 ≤ x ∧ x ≤ 1000) → Ev (fun k => spec_LeastInSum.l2 k v a ((List.replicate a.toNat (-1)).set 0 0) true) u) (H' : (¬ ∀ x ∈ v, 1 ≤ x ∧ x ≤ 1000) → u = []) (d : Nat) :
    ∀ i : Int, 0 ≤ i → i + d = v.length → (∀ j, 0 ≤ j → j < i → 1 ≤ rd v j ∧ rd v j ≤ 1000) → Ev (fun k => spec_LeastInSum.l0 k v a i) u := by
  induction d with
  | zero =>
    intro i h0 h1 h2
    refine Ev.step (fun k => by rw [spec_LeastInSum.l0]) (ev_ifn (by omega) (ev_ifp (by omega) (ev_ifp (by omega) ?_)))
    refine lis_l1 ha ha' (H fun x hx => ?_) (a - 1).toNat 1 _ (by omega) (by omega) (by simp; omega) ?_ (fun j hj hj' => by omega)
    · obtain ⟨j, hj, hj', rfl⟩ := mem_rd hx
      exact h2 j hj (by omega)
    · rw [rd_rep (by omega) (by omega)]
  | succ d ih =>
    intro i h0 h1 h2
    refine Ev.step (fun k => by rw [spec_LeastInSum.l0]) (ev_ifp (by omega) (ev_ifp h0 ?_))
    simp only [l1In_eq, Option.bind_some]
    rw [w64 (by omega) (by omega)]
    by_cases h : 1 ≤ rd v i ∧ rd v i ≤ 1000
    · refine ev_ifp (by simpa using h) (ih (i + 1) (by omega) (by omega) fun j hj hj' => ?_)
      by_cases e : j = i
      · subst e; exact h
      · exact h2 j hj (by omega)
    · rw [H' (fun hc => h (hc _ (rd_mem h0 (by omega))))]
      exact ev_ifn (by simpa using h) (Ev.now _)
theorem lis_ev (v : List Int) (a : Int) (hl : v.length ≤ 1099511627776) : ∃ r : List Int, r.length ≤ 200 ∧ Ev (fun k => impl_LeastInSum.f k v a) r ∧ Ev (fun k => spec_LeastInSum.f k v a) r ∧ (LisOk v a → Lst v a 1000 r) ∧ (¬ LisOk v a → r = []) := by
  unfold impl_LeastInSum.f spec_LeastInSum.f
  simp only [within_eq, l1In_eq, Option.bind_some]
  by_cases c1 : 1 ≤ a ∧ a ≤ 200
  · by_cases c2 : 1 ≤ (v.length : Int) ∧ (v.length : Int) ≤ 20
    · by_cases c3 : ∀ x ∈ v, 1 ≤ x ∧ x ≤ 1000
      · obtain ⟨u, hu, hE⟩ := leasts_ev (G := 1000) c3 (by omega) (by omega) c1.1 c1.2 (by omega)
        have hB : 0 ≤ a * 1000 + 1 := by omega
        obtain ⟨u', hu', hE'⟩ := lis_l2 (G := 1000) c3 (by omega) (by omega) c1.1 c1.2 (by omega) (weight (a * 1000 + 1) ((List.replicate a.toNat (-1)).set 0 0)).toNat _ (LInv.first c1.1 (by omega)) (by have := weight_nonneg hB ((List.replicate a.toNat (-1)).set 0 0); omega)
        obtain rfl := hu.one hu'
        refine ⟨u, by have := hu.len; omega, ?_, ?_, fun _ => hu, fun h => absurd ⟨c1, c2, c3⟩ h⟩
        · exact ev_ifp (by simpa using c1) (ev_ifp (by simpa using c2) (ev_bind _ (allWithin_ev 1 1000 hl) (ev_ifp (by rw [decide_eq_true_eq]; exact c3) (ev_bind _ hE (Ev.now _)))))
        · exact ev_ifp (by simpa using c1) (Ev.step (fun k => by rw [spec_LeastInSum.j0]) (ev_ifn (by simpa using c2) (lis_l0 (by omega) c1.1 c1.2 (fun _ => hE') (fun h => absurd c3 h) v.length 0 (by omega) (by omega) (fun j hj hj' => by omega))))
      · refine ⟨[], by simp, ?_, ?_, fun h => absurd h.2.2 c3, fun _ => rfl⟩
        · exact ev_ifp (by simpa using c1) (ev_ifp (by simpa using c2) (ev_bind _ (allWithin_ev 1 1000 hl) (ev_ifn (by rw [decide_eq_true_eq]; exact c3) (Ev.now _))))
        · exact ev_ifp (by simpa using c1) (Ev.step (fun k => by rw [spec_LeastInSum.j0]) (ev_ifn (by simpa using c2) (lis_l0 (by omega) c1.1 c1.2 (fun h => absurd h c3) (fun _ => rfl) v.length 0 (by omega) (by omega) (fun j hj hj' => by omega))))
    · refine ⟨[], by simp, ?_, ?_, fun h => absurd h.2.1 c2, fun _ => rfl⟩
      · exact ev_ifp (by simpa using c1) (ev_ifn (by simpa using c2) (Ev.now _))
      · exact ev_ifp (by simpa using c1) (Ev.step (fun k => by rw [spec_LeastInSum.j0]) (ev_ifp (nd_t c2) (Ev.now _)))
  · refine ⟨[], by simp, ?_, ?_, fun h => absurd h.1 c1, fun _ => rfl⟩
    · exact ev_ifn (by simpa using c1) (Ev.now _)
    · exact ev_ifn (by simpa using c1) (Ev.step (fun k => by rw [spec_LeastInSum.j0]) (ev_ifp rfl (Ev.now _)))
end Go.Proofs.Ytkifakepmomgfaa.E
end
section
namespace Go.Proofs.Ytkifakepmomgfaa.E
open Go.RowKit Go.Proofs.Ytkifakepmomgfaa.PA Go.Proofs.YtkifakepmomgfaaW.PrintWords Go.Proofs.YtkifakepmomgfaaW.PrintLast Go.Proofs.YtkifakepmomgfaaW.PrintMore
set_option linter.unusedVariables false
set_option linter.unusedSimpArgs false
theorem same_l {l : List Int} (hl : l.length ≤ 1099511627776) (d : Nat) : ∀ i : Int, 0 ≤ i → i + d = l.length → Ev (fun k => laws_sameInts.l0 k l l i) true := by
  induction d with
  | zero => intro i h0 h1; exact Ev.step (fun k => by rw [laws_sameInts.l0]) (ev_ifn (by omega) (Ev.now _))
  | succ d ih =>
    intro i h0 h1
    refine Ev.step (fun k => by rw [laws_sameInts.l0]) ?_
    rw [w64 (by omega) (by omega)]
    exact ev_ifp (by omega) (ev_ifp h0 (ev_ifp (by omega) (ev_ifp rfl (ih (i + 1) (by omega) (by omega)))))
theorem same_ev {l : List Int} (hl : l.length ≤ 1099511627776) : Ev (fun k => laws_sameInts.f k l l) true := by
  unfold laws_sameInts.f
  exact ev_ifp rfl (same_l hl l.length 0 (by omega) (by omega))
end Go.Proofs.Ytkifakepmomgfaa.E
end
section
namespace Go.Proofs.Ytkifakepmomgfaa.Pure
open Go.RowKit Go.Proofs.Ytkifakepmomgfaa.PA Go.Proofs.Ytkifakepmomgfaa.E Go.Proofs.YtkifakepmomgfaaW.PrintWords Go.Proofs.YtkifakepmomgfaaW.PrintLast Go.Proofs.YtkifakepmomgfaaW.PrintMore
set_option linter.unusedVariables false
set_option linter.unusedSimpArgs false
theorem few_j6 {n : Nat} {p d k r : Int} : Ev (fun n => laws_FnFew.j6 n p d k r true) true := Ev.step (fun n => by rw [laws_FnFew.j6]) (ev_ifp rfl (Ev.now _))
theorem few_run {p d k r : Int} (hp : 2 ≤ p ∧ p ≤ 12) (hd : 1 ≤ d ∧ d ≤ 8) (hk : 1 ≤ k ∧ k ≤ p - 1) (hg : gcdOf p d = 1) (hr : r = (p - 2) / k * p + d * (p - 1)) : Ev (fun n => laws_FnFew.l2 n p d k r [p] 1) true := by
  have hg' : Nat.gcd p.toNat d.toNat = 1 := by
    have := gcdOf_nat (a := p.toNat) (b := d.toNat) (by omega) (by omega)
    rw [show ((p.toNat : Nat) : Int) = p from by omega, show ((d.toNat : Nat) : Int) = d from by omega, hg] at this
    omega
  obtain ⟨c1, c2⟩ := chkR_ok (p := p.toNat) (d := d.toNat) (k := k.toNat) (by omega) (by omega) (by omega) (by omega) (by omega) (by omega) hg'
  have hlen : (runOf p.toNat d.toNat k.toNat).length = k.toNat + 1 := by unfold runOf; simp
  have hrun : ∀ x ∈ runOf p.toNat d.toNat k.toNat, 1 ≤ x ∧ x ≤ 1000 := fun x hx => by
    unfold runOf at hx
    obtain ⟨i, hi, rfl⟩ := List.mem_map.1 hx
    have hi := List.mem_range.1 hi
    have : i * d.toNat ≤ 12 * 8 := Nat.mul_le_mul (by omega) (by omega)
    omega
  obtain ⟨t, t1, tI, tS, tok, _⟩ := lis_ev (runOf p.toNat d.toNat k.toNat) p (by omega)
  have L := tok ⟨by omega, by omega, hrun⟩
  have M := lstB_ok (by omega) (fun x hx => (hrun x hx).1) c1
  rw [show ((p.toNat : Nat) : Int) = p from by omega] at M
  obtain rfl := L.one M
  have q0 : 0 ≤ (p - 2) / k := Int.ediv_nonneg (by omega) (by omega)
  have q1 : (p - 2) / k ≤ p - 2 := Int.ediv_le_self _ (by omega)
  have m1 : (p - 2) / k * p ≤ 10 * 12 := Int.mul_le_mul (by omega) hp.2 (by omega) (by omega)
  have m0 : 0 ≤ (p - 2) / k * p := Int.mul_nonneg q0 (by omega)
  have n1 : d * (p - 1) ≤ 8 * 11 := Int.mul_le_mul hd.2 (by omega) (by omega) (by omega)
  have n0 : 0 ≤ d * (p - 1) := Int.mul_nonneg (by omega) (by omega)
  rw [show ((p.toNat : Nat) : Int) = p from by omega, show ((d.toNat : Nat) : Int) = d from by omega, show ((k.toNat : Nat) : Int) = k from by omega] at c2
  have e := run_l2 (r := r) ⟨by omega, hp.2⟩ ⟨by omega, hd.2⟩ ⟨by omega, by omega⟩ tI (few_l3 (p := p) (r := r) t1 (candR p.toNat d.toNat k.toNat).length 0 0 (by omega) (by omega) (by
    show top (candR p.toNat d.toNat k.toNat) = r + p
    omega) (by omega) (by omega) (by omega) (by omega)) k.toNat 1 (by omega) (by omega)
  rwa [show runOf p.toNat d.toNat ((1 : Int) - 1).toNat = [p] from by
    unfold runOf
    rw [show ((1 : Int) - 1).toNat + 1 = 1 from rfl]
    simp; omega] at e
theorem few_j5 {p d k r : Int} (hp : 1 ≤ p ∧ p ≤ 12) (hd : 0 ≤ d ∧ d ≤ 8) (hk : 0 ≤ k ∧ k ≤ 12) (hr : 2 ≤ p → p ≤ 12 → 1 ≤ d → d ≤ 8 → 1 ≤ k → k ≤ p - 1 → gcdOf p d = 1 → r = (p - 2) / k * p + d * (p - 1)) : Ev (fun n => laws_FnFew.j5 n p d k r) true := by
  have T : Ev (fun n => laws_FnFew.j6 n p d k r true) true := few_j6 (n := 0)
  have G : 2 ≤ p → 1 ≤ d → 1 ≤ k → k ≤ p - 1 → Ev (fun n => laws_FnFew.j6 n p d k r (gcdOf p d != 1)) true := fun a b c e => by
    by_cases hg : gcdOf p d = 1
    · rw [show (gcdOf p d != 1) = false from by simp [hg]]
      exact Ev.step (fun n => by rw [laws_FnFew.j6]) (ev_ifn (by simp) (few_run ⟨a, hp.2⟩ ⟨b, hd.2⟩ ⟨c, e⟩ hg (hr a hp.2 b hd.2 c e hg)))
    · rw [show (gcdOf p d != 1) = true from by simp [hg]]
      exact T
  have w := w64 (x := p - 1) (by omega) (by omega)
  refine Ev.step (fun n => by rw [laws_FnFew.j5]) ?_
  rw [w]
  refine ev_if (fun _ => ev_if (fun _ => ev_if (fun _ => ev_if (fun _ => ?_) fun _ => T) fun _ => T) fun _ => T) fun _ => ?_
  all_goals exact ev_if (fun _ => T) fun _ => ev_if (fun _ => T) fun a => ev_if (fun _ => T) fun b => ev_if (fun _ => T) fun c => ev_if (fun _ => T) fun e => ev_if (fun _ => T) fun _ => ev_if (fun _ => T) fun _ => ev_bind _ (gcdS_ev p d) (G (by omega) (by omega) (by omega) (by omega))
theorem few_j2 {a b f g p d k r : Int} (a1 : a ≤ 200 → a ≤ 30) (b1 : b ≤ 30) (hf : PairOk a b → f = wrap64 (wrap64 (wrap64 (a * b) - a) - b)) (gI : Ev (fun k => impl_PairGenus.f k a b) g) (gv : PairOk a b → g = wrap64 (Int.tdiv (wrap64 (wrap64 (a - 1) * wrap64 (b - 1))) 2)) (gn : ¬ PairOk a b → g = -1) (hj : Ev (fun n => laws_FnFew.j5 n p d k r) true) : Ev (fun n => laws_FnFew.j2 n a b f p d k r false) true := by
  have F : Ev (fun n => laws_FnFew.j3 n a b f p d k r false) true := Ev.step (fun n => by rw [laws_FnFew.j3]) (ev_ifn (by simp) hj)
  refine Ev.step (fun n => by rw [laws_FnFew.j2]) (ev_ifn (by simp) (ev_bind _ gI (ev_if (fun c => ev_if (fun e => ?_) fun _ => F) fun _ => F)))
  have ok : PairOk a b := Classical.byContradiction fun h => by have := gn h; omega
  obtain ⟨⟨x1, x2⟩, ⟨x3, x4⟩, x5⟩ := id ok
  have a2 := a1 e
  have hg' : Nat.gcd a.toNat b.toNat = 1 := by
    have := gcdOf_nat (a := a.toNat) (b := b.toNat) (by omega) (by omega)
    rw [show ((a.toNat : Nat) : Int) = a from by omega, show ((b.toNat : Nat) : Int) = b from by omega, x5] at this
    omega
  obtain ⟨c1, c2, c3⟩ := chkP_ok (a := a.toNat) (b := b.toNat) (by omega) (by omega) (by omega) (by omega) hg'
  obtain ⟨t, t1, tI, tS, tok, _⟩ := lis_ev [b] a (by simp)
  have L := tok ⟨by omega, by simp, by simp; omega⟩
  have M := lstB_ok (by omega) (by simp; omega) c1
  rw [show ((a.toNat : Nat) : Int) = a from by omega, show ((b.toNat : Nat) : Int) = b from by omega] at M c2 c3
  obtain rfl := L.one M
  have m1 : a * b ≤ 30 * 30 := Int.mul_le_mul a2 b1 (by omega) (by omega)
  have m0 : 0 ≤ a * b := Int.mul_nonneg (by omega) (by omega)
  have n1 : (a - 1) * (b - 1) ≤ 29 * 29 := Int.mul_le_mul (by omega) (by omega) (by omega) (by omega)
  have n0 : 0 ≤ (a - 1) * (b - 1) := Int.mul_nonneg (by omega) (by omega)
  have hf' := hf ok
  have hg2 := gv ok
  rw [w64 (x := a * b) (by omega) (by omega), w64 (x := a * b - a) (by omega) (by omega), w64 (by omega) (by omega)] at hf'
  rw [w64 (x := a - 1) (by omega) (by omega), w64 (x := b - 1) (by omega) (by omega), w64 (x := (a - 1) * (b - 1)) (by omega) (by omega), tdiv_pos n0, w64 (by omega) (by omega)] at hg2
  refine Ev.step (fun n => by rw [laws_FnFew.j3]) (ev_ifp (by simp; omega) (ev_bind _ tI ?_))
  have hlen := L.len
  refine few_l1 (g := g) (by omega) (by omega) t1 (fun x hx => ?_) gI hj (candP a.toNat b.toNat).length 0 0 0 (by omega) (by omega) (by omega) (by omega) (by omega) (by omega) ?_ ?_
  · obtain ⟨i, i0, i1, rfl⟩ := mem_rd hx
    have := L.bound i i0 (by omega)
    have := lstB_pos c1 i0 i1
    omega
  · show top (candP a.toNat b.toNat) - a = f
    omega
  · show cut a (candP a.toNat b.toNat) = g
    rw [c3, hg2]
theorem few_l0 {a b f x y n w p d k r m : Int} {l t : List Int} (t1 : t.length ≤ 200) (tok : LisOk l m → Lst l m 1000 t) (tno : ¬ LisOk l m → t = []) (wI : Ev (fun k => impl_PairWays.f k x y n) w) (hj : Ev (fun n => laws_FnFew.j2 n a b f p d k r false) true) (q : Nat) : ∀ i : Int, 0 ≤ i → i + q = t.length → Ev (fun q => laws_FnFew.l0 q a b f x y n w p d k r m t i) true := by
  induction q with
  | zero =>
    intro i h0 h1
    refine Ev.step (fun n => by rw [laws_FnFew.l0]) (ev_ifn (by omega) (ev_if (fun hw => ev_if (fun hx => ev_if (fun hy => ?_) fun _ => hj) fun _ => hj) fun _ => hj))
    obtain ⟨⟨⟨x1, x2⟩, ⟨x3, x4⟩, x5⟩, hn, e⟩ := pairWays_pos wI hw
    have g : Gen [x, y] n ↔ w > 0 := by
      rw [e]
      exact ⟨fun h => h.2.2, fun h => ⟨⟨by simp, by simp; omega⟩, hn, h⟩⟩
    refine ev_bind _ (genI_ev n (by simp)) ?_
    rw [show (decide (w > 0) != decide (Gen [x, y] n)) = false from by
      by_cases c : w > 0
      · rw [decide_eq_true c, decide_eq_true (g.2 c)]; rfl
      · have hn : ¬ Gen [x, y] n := fun h => c (g.1 h)
        rw [decide_eq_false c, decide_eq_false hn]; rfl]
    exact hj
  | succ q ih =>
    intro i h0 h1
    have ok : LisOk l m := Classical.byContradiction fun h => by have := tno h; rw [this] at h1; simp at h1; omega
    have L := tok ok
    have hlen := L.len
    have hm := ok.1
    refine Ev.step (fun n => by rw [laws_FnFew.l0]) ?_
    rw [w64 (x := i + 1) (by omega) (by omega)]
    have nx := ih (i + 1) (by omega) (by omega)
    refine ev_ifp (by omega) (ev_ifp h0 (ev_if (fun c => ev_ifn (by omega) (ev_ifp ?_ nx)) fun _ => nx))
    rw [Int.tmod_eq_emod_of_nonneg c]
    exact (L.way i h0 (by omega) c).2
theorem FnFew : laws_FnFew.Pure := by
  intro l0 h1 h2 h3
  apply Ev.rounds
  unfold laws_FnFew.f laws_big.f
  simp only [Option.bind_some]
  by_cases h : (l0.length : Int) > 1048576
  · exact ev_ifp (by simpa using h) (Ev.now _)
  have hb : (l0.length : Int) ≤ 1099511627776 := by omega
  obtain ⟨a, b, a1, b1, eP⟩ := drawPair_ev hb
  obtain ⟨x, y, n, eW⟩ := drawWays_ev hb
  obtain ⟨p, d, k, hp, hd, hk, eR⟩ := drawRun_ev hb
  obtain ⟨l, m, hl, eL⟩ := drawLis_ev hb
  obtain ⟨f, fI, fS, fv⟩ := pairFr_ev a b
  obtain ⟨g, gI, gS, gv, gn⟩ := pairGn_ev a b
  obtain ⟨w, wI, wS⟩ := pairWays_ev x y n
  obtain ⟨r, rI, rS, rv⟩ := runFr_ev p d k
  obtain ⟨t, t1, tI, tS, tok, tno⟩ := lis_ev l m (by omega)
  refine ev_ifn (by simpa using h) (ev_bind _ eP (ev_bind _ fI (ev_bind _ eW (ev_bind _ wI (ev_bind _ eR (ev_bind _ rI (ev_bind _ eL (ev_bind _ tI (ev_bind _ fS (ev_ifp rfl (ev_bind _ gI (ev_bind _ gS (ev_ifp rfl (ev_bind _ wS (ev_ifp rfl (ev_bind _ rS (ev_ifp rfl (ev_bind _ tS (ev_bind _ (same_ev (by omega)) ?_)))))))))))))))))))
  refine Ev.step (fun k => by rw [laws_FnFew.j0]) (ev_ifn (by simp) ?_)
  exact few_l0 t1 tok tno wI (few_j2 a1 b1 fv gI gv gn (few_j5 hp hd hk rv)) t.length 0 (by omega) (by omega)
end Go.Proofs.Ytkifakepmomgfaa.Pure
end
section
namespace Go.Proofs.YtkifakepmomgfaaW.PrintWords
open Go.ChangeShapes Go.WideShapes
theorem sized_ints {H : Type} {enc : TypeId × Value → H} {P : Program} {W : World} {base : Nat} {spare : Nat → Bool} {held : Bool} {t e : TypeId} {k : IntKind} {a : Option Addr} {len cap : Nat} {d : DataW H} {ps : List MemPlace} {ts : List TypeId} {ds : List (DataW H)} {j : Nat}
    (hsz : (DataW.weightsEach P ts ds).all (· ≤ reachBytes) = true) (ht : ts[j]? = some t) (hd : ds[j]? = some d) (hu : P.underlying t = some (.slice e)) (he : P.underlying e = some (.int k)) (hc : P.cellsOf e = 1) {B : Nat} (hB : P.bytesOf e = B)
    (h : DataW.Trod enc P W base spare held t (.slice a len cap) d ps) : len * B ≤ 140737488351232 := by
  obtain ⟨fuel, hf⟩ := h
  rcases open_ints hu he hc hf with ⟨hcs, _⟩ | ⟨x, l, c, zs, hcs, _, hl, _, hz, hx, _, _⟩
  · simp [Value.cells] at hcs
    obtain ⟨rfl, rfl, rfl⟩ := hcs
    simp
  · simp [Value.cells] at hcs
    obtain ⟨rfl, rfl, rfl⟩ := hcs
    obtain ⟨hx, _⟩ := Prod.mk.inj hx
    subst hx
    have z := sized_slice hsz ht hd hu
    rw [hB] at z
    have hl2 : len ≤ zs.length := by
      rw [hz]
      split
      · exact hl
      · exact Nat.le_refl _
    have h1 : (lits (H := H) k (zs.take len)).length + (lits (H := H) k (zs.drop len)).length = zs.length := by
      simp [lits]
      omega
    rw [h1] at z
    exact Nat.le_trans (Nat.mul_le_mul_right _ hl2) z
end Go.Proofs.YtkifakepmomgfaaW.PrintWords
end
