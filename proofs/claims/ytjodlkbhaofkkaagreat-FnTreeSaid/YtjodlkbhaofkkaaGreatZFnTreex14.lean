-- Bundled by shake.py from this session's printed and written texts; Lean checks it.
import Derived.Lib.SlicesCompact
import Derived.Shelf.SlSortCmp.Insertion
import Derived.Test.YtjodlkbhaofkkaaGreatZFnTreex11
import Derived.Test.YtjodlkbhaofkkaaGreatZFnTreex13
section
namespace Go.Proofs.YtjodlkbhaofkkaaGreat.E
open Go.RowKit Go.Proofs.YtjodlkbhaofkkaaGreatW.PrintWords Go.Proofs.YtjodlkbhaofkkaaGreatW.PrintLast Go.Proofs.YtjodlkbhaofkkaaGreatW.PrintMore
set_option linter.unusedVariables false
set_option linter.unusedSimpArgs false
def VG (g : List Int) : Prop := AJ g ∧ ∀ x ∈ g, 1 ≤ x ∧ x ≤ 199
noncomputable instance (g : List Int) : Decidable (VG g) := Classical.propDecidable _
def CF (g : List Int) : Prop := ∀ a b : Int, 1 ≤ a → 1 ≤ b → a ∉ g → b ∉ g → a + b ∉ g
noncomputable instance (g : List Int) : Decidable (CF g) := Classical.propDecidable _
theorem VG.len {g : List Int} (h : VG g) : g.length ≤ 199 := by
 have k : ∀ d : Nat, d < g.length → (d : Int) + 1 ≤ rd g d := by
  intro d
  induction d with
  | zero => intro hd; have := h.2 _ (jh (l := g) (i := ((0 : Nat) : Int)) (by omega) (by omega)); omega
  | succ d ih =>
   intro hd
   have := h.1 ((d + 1 : Nat) : Int) (by omega) (by omega)
   rw [show (((d + 1 : Nat) : Int)) - 1 = (d : Int) from by omega] at this
   have := ih (by omega)
   omega
 by_cases c : g.length ≤ 199
 · exact c
 · have a := k 199 (by omega)
   have b := h.2 _ (jh (l := g) (i := ((199 : Nat) : Int)) (by omega) (by omega))
   omega
def kd (g : List Int) : Int := if g.length = 0 then 0 else rd g (g.length - 1)
theorem VG.top {g : List Int} (h : VG g) : 0 ≤ kd g ∧ kd g ≤ 199 ∧ ∀ x ∈ g, x ≤ kd g := by
 unfold kd
 by_cases c : g.length = 0
 · rw [if_pos c]
   have : g = [] := by simpa using c
   subst this
   simp
 · rw [if_neg c]
   have b := h.2 _ (jh (l := g) (i := (g.length : Int) - 1) (by omega) (by omega))
   refine ⟨by omega, b.2, fun x hx => ?_⟩
   obtain ⟨i, i0, i1, rfl⟩ := pO hx
   by_cases e : i = g.length - 1
   · rw [e]; exact Int.le_refl _
   · exact Int.le_of_lt (Au h.1 ((g.length : Int) - 1 - i - 1).toNat i _ i0 (by omega) (by omega))
noncomputable def iO (g : List Int) (n : Int) : Bool := @decide (n ∉ g ∧ ∀ a b : Int, 1 ≤ a → 1 ≤ b → a ∉ g → b ∉ g → a + b ≠ n) (Classical.propDecidable _)
theorem mu {g : List Int} {n : Int} : iO g n = true ↔ (n ∉ g ∧ ∀ a b : Int, 1 ≤ a → 1 ≤ b → a ∉ g → b ∉ g → a + b ≠ n) := by unfold iO; exact @decide_eq_true_iff _ (Classical.propDecidable _)
noncomputable def mg (g : List Int) : List Int := fl (iO g) 1 400
theorem Ti {g : List Int} (h : VG g) {d : Nat} (hd : 2 * kd g + 1 ≤ d) (hd' : d ≤ 400) : fl (iO g) 1 d = mg g := by
 obtain ⟨t0, t1, t2⟩ := h.top
 unfold mg
 rw [show (400 : Nat) = d + (400 - d) from by omega, Av, Ld (400 - d), List.append_nil]
 intro x x0 x1 hx
 rw [mu] at hx
 refine hx.2 (kd g + 1) (x - (kd g + 1)) (by omega) (by omega) (fun k => by have := t2 _ k; omega) (fun k => by have := t2 _ k; omega) (by omega)
theorem AB {g : List Int} (hc : CF g) (d : Nat) : ∀ m : Int, (Su (fl (iO g) 1 d) m → m = 0 ∨ (1 ≤ m ∧ m ∉ g)) ∧ (1 ≤ m → m ≤ d → m ∉ g → Su (fl (iO g) 1 d) m) := by
 have one : ∀ m : Int, Su (fl (iO g) 1 d) m → m = 0 ∨ (1 ≤ m ∧ m ∉ g) := by
  rintro m ⟨c, w⟩
  induction w with
  | zero => exact .inl rfl
  | @add x k c hx hw ih =>
   obtain ⟨x1, x2, x3⟩ := (pQ _ _).1 hx
   rw [mu] at x3
   rcases ih with e | ⟨k1, k2⟩
   · right; rw [e]; exact ⟨by omega, by rw [show 0 + x = x from by omega]; exact x3.1⟩
   · right; exact ⟨by omega, hc k x k1 x1 k2 x3.1⟩
 have two : ∀ q : Nat, ∀ m : Int, m.toNat ≤ q → 1 ≤ m → m ≤ d → m ∉ g → Su (fl (iO g) 1 d) m := by
  intro q
  induction q with
  | zero => intro m h0 h1; omega
  | succ q ih =>
   intro m h0 h1 h2 h3
   by_cases c : iO g m = true
   · exact Su.mem ((pQ _ _).2 ⟨h1, by omega, c⟩)
   · rw [mu] at c
     have : ∃ a b : Int, 1 ≤ a ∧ 1 ≤ b ∧ a ∉ g ∧ b ∉ g ∧ a + b = m := Classical.byContradiction fun k => c ⟨h3, fun a b a1 b1 a2 b2 e => k ⟨a, b, a1, b1, a2, b2, e⟩⟩
     obtain ⟨a, b, a1, b1, a2, b2, e⟩ := this
     have := (ih a (by omega) a1 (by omega) a2).add (ih b (by omega) b1 (by omega) b2)
     rwa [e] at this
 exact fun m => ⟨one m, fun h1 h2 h3 => two m.toNat m (Nat.le_refl _) h1 h2 h3⟩
theorem afk {g : List Int} (hc : CF g) {n : Nat} (hn : ((n : Int) + 1) ∉ g) : Su (fl (iO g) 1 n) ((n : Int) + 1) ↔ ¬ iO g ((n : Int) + 1) = true := by
 constructor
 · intro h k
   rw [mu] at k
   obtain ⟨x, hx, hs⟩ := (Su.last (by omega)).1 h
   obtain ⟨x1, x2, x3⟩ := (pQ _ _).1 hx
   rw [mu] at x3
   rcases (AB hc n _).1 hs with e | ⟨e1, e2⟩
   · omega
   · exact k.2 x _ x1 e1 x3.1 e2 (by omega)
 · intro k
   rw [mu] at k
   have : ∃ a b : Int, 1 ≤ a ∧ 1 ≤ b ∧ a ∉ g ∧ b ∉ g ∧ a + b = (n : Int) + 1 := Classical.byContradiction fun q => k ⟨hn, fun a b a1 b1 a2 b2 e => q ⟨a, b, a1, b1, a2, b2, e⟩⟩
   obtain ⟨a, b, a1, b1, a2, b2, e⟩ := this
   have := ((AB hc n a).2 a1 (by omega) a2).add ((AB hc n b).2 b1 (by omega) b2)
   rwa [e] at this
theorem anF {g : List Int} (h : VG g) (hc : CF g) {m : Int} (h1 : 1 ≤ m) : Su (mg g) m ↔ m ∉ g := by
 obtain ⟨t0, t1, t2⟩ := h.top
 constructor
 · intro k
   rcases (AB hc 400 m).1 k with e | e
   · omega
   · exact e.2
 · intro k
   by_cases c : m ≤ 400
   · exact (AB hc 400 m).2 h1 (by omega) k
   ·
    have a := (AB hc 400 200).2 (by omega) (by omega) (fun q => by have := t2 _ q; omega)
    have q0 := Int.emod_nonneg m (b := 200) (by omega)
    have q1 := Int.emod_lt_of_pos m (b := 200) (by omega)
    refine Su.up (a := 200) (by omega) a (n := 200 + m % 200) ?_ (by omega) (by omega)
    by_cases z : m % 200 = 0
    · rw [z]; exact a
    · exact (AB hc 400 (200 + m % 200)).2 (by omega) (by omega) (fun q => by have := t2 _ q; omega)
theorem Lj {g : List Int} (h : VG g) (hc : CF g) : gp (mg g) = g := by
 have e : gp (mg g) = fl (fun n => decide (n ∈ g)) 1 199 := by
  unfold gp
  refine Aw _ _ fun x x1 x2 => ?_
  rw [Bool.eq_iff_iff, ng, anF h hc x1, decide_eq_true_eq, Classical.not_not]
 rw [e]
 have key : ∀ d : Nat, ∀ (i : Int) (l : List Int), AJ l → (∀ x ∈ l, i ≤ x ∧ x < i + d) → fl (fun n => decide (n ∈ l)) i d = l := by
  intro d
  induction d with
  | zero =>
   intro i l _ hl
   cases l with
   | nil => rfl
   | cons a l => have := hl a (by simp); omega
  | succ d ih =>
   intro i l ha hl
   cases l with
   | nil => exact Ld _ _ (fun x _ _ => by simp)
   | cons a l =>
    have hal : ∀ y ∈ l, a < y := fun y hy => by
     obtain ⟨j, j0, j1, rfl⟩ := pO hy
     have := Au ha j.toNat 0 (j + 1) (by omega) (by omega) (by simp; omega)
     have e1 : rd (a :: l) 0 = a := rfl
     have e2 : rd (a :: l) (j + 1) = rd l j := by unfold rd; rw [show (j + 1).toNat = j.toNat + 1 from by omega, List.getD_cons_succ]
     rwa [e1, e2] at this
    have hal' : AJ l := fun j j0 j1 => by
     have := ha (j + 1) (by omega) (by simp; omega)
     have e1 : rd (a :: l) (j + 1) = rd l j := by unfold rd; rw [show (j + 1).toNat = j.toNat + 1 from by omega, List.getD_cons_succ]
     have e2 : rd (a :: l) (j + 1 - 1) = rd l (j - 1) := by unfold rd; rw [show (j + 1 - 1).toNat = (j - 1).toNat + 1 from by omega, List.getD_cons_succ]
     rwa [e1, e2] at this
    have ai := hl a (by simp)
    by_cases c : a = i
    · subst c
      rw [nE (by simp)]
      congr 1
      rw [Aw (q := fun n => decide (n ∈ l)) _ _ (fun x x0 x1 => by
       rw [Bool.eq_iff_iff, decide_eq_true_eq, decide_eq_true_eq, List.mem_cons]
       exact ⟨fun k => k.resolve_left (by omega), .inr⟩)]
      exact ih (a + 1) l hal' (fun x hx => by have := hal x hx; have := hl x (by simp [hx]); omega)
    · rw [oM (by
       rw [decide_eq_true_eq]
       intro k
       rcases List.mem_cons.1 k with k | k
       · omega
       · have := hal _ k; omega)]
      exact ih (i + 1) (a :: l) ha (fun x hx => by
       have := hl x hx
       rcases List.mem_cons.1 hx with k | k
       · omega
       · have := hal _ k; omega)
 exact key 199 1 g h.1 (fun x hx => by have := h.2 x hx; omega)
end Go.Proofs.YtjodlkbhaofkkaaGreat.E
end
section
namespace Go.Proofs.YtjodlkbhaofkkaaGreat.E
open Go.RowKit Go.Proofs.YtjodlkbhaofkkaaGreat.PA Go.Proofs.YtjodlkbhaofkkaaGreatW.PrintWords Go.Proofs.YtjodlkbhaofkkaaGreatW.PrintLast Go.Proofs.YtjodlkbhaofkkaaGreatW.PrintMore
set_option linter.unusedVariables false
set_option linter.unusedSimpArgs false
def GA (g : List Int) (m : Int) (t : List Bool) : Prop := (t.length : Int) = m + 1 ∧ ∀ j, 0 ≤ j → j ≤ m → (e6 false t j = true ↔ j ∈ g)
theorem DI {g : List Int} {m i : Int} {t : List Bool} (h0 : 0 ≤ i) (hi : i < g.length) (hx : 0 ≤ rd g i ∧ rd g i ≤ m) (h : (t.length : Int) = m + 1 ∧ ∀ j, 0 ≤ j → j ≤ m → (e6 false t j = true ↔ ∃ q, 0 ≤ q ∧ q < i ∧ rd g q = j)) : ((t.set (rd g i).toNat true).length : Int) = m + 1 ∧ ∀ j, 0 ≤ j → j ≤ m → (e6 false (t.set (rd g i).toNat true) j = true ↔ ∃ q, 0 ≤ q ∧ q < i + 1 ∧ rd g q = j) := by
 refine ⟨by simpa using h.1, fun j j0 j1 => ?_⟩
 rw [q3 _ hx.1 (by have := h.1; omega) j0]
 by_cases c : j = rd g i
 · rw [if_pos c]; exact ⟨fun _ => ⟨i, h0, by omega, c.symm⟩, fun _ => rfl⟩
 · rw [if_neg c, h.2 j j0 j1]
   constructor
   · rintro ⟨q, q0, q1, q2⟩; exact ⟨q, q0, by omega, q2⟩
   · rintro ⟨q, q0, q1, q2⟩
     by_cases e : q = i
     · rw [e] at q2; exact absurd q2.symm c
     · exact ⟨q, q0, by omega, q2⟩
theorem AD (g : List Int) {m : Int} (hm : 0 ≤ m) : ((List.replicate (m + 1).toNat false).length : Int) = m + 1 ∧ ∀ j, 0 ≤ j → j ≤ m → (e6 false (List.replicate (m + 1).toNat false) j = true ↔ ∃ q, 0 ≤ q ∧ q < 0 ∧ rd g q = j) := by
 refine ⟨by simp; omega, fun j _ _ => ?_⟩
 rw [La]
 exact ⟨fun h => by simp at h, fun ⟨q, q0, q1, _⟩ => by omega⟩
theorem I7 {g : List Int} {m : Int} {t : List Bool} (h : (t.length : Int) = m + 1 ∧ ∀ j, 0 ≤ j → j ≤ m → (e6 false t j = true ↔ ∃ q, 0 ≤ q ∧ q < (g.length : Int) ∧ rd g q = j)) : GA g m t :=
 ⟨h.1, fun j j0 j1 => by
  rw [h.2 j j0 j1]
  exact ⟨fun ⟨q, q0, q1, q2⟩ => q2 ▸ jh q0 q1, fun k => by obtain ⟨q, q0, q1, q2⟩ := pO k; exact ⟨q, q0, q1, q2⟩⟩⟩
def Cl (g : List Int) (top a b : Int) : Prop := ∃ x, b ≤ x ∧ a + x ≤ top ∧ a ∉ g ∧ x ∉ g ∧ a + x ∈ g
def Cls (g : List Int) (top a : Int) : Prop := ∃ x, a ≤ x ∧ x ≤ top ∧ Cl g top x x
theorem DJ {g : List Int} (h : VG g) : CF g ↔ ¬ Cls g (kd g) 1 := by
 obtain ⟨t0, t1, t2⟩ := h.top
 constructor
 · rintro hc ⟨a, a1, _, x, x1, _, x3, x4, x5⟩
   exact hc a x a1 (by omega) x3 x4 x5
 · intro k a b a1 b1 ha hb hs
   have hle := t2 _ hs
   by_cases c : a ≤ b
   · exact k ⟨a, a1, by omega, b, c, hle, ha, hb, hs⟩
   · exact k ⟨b, b1, by omega, a, by omega, by omega, hb, ha, by rwa [Int.add_comm]⟩
theorem au0 {g : List Int} (hl : g.length ≤ 1099511627776) (d : Nat) : ∀ i : Int, 0 ≤ i → i + d = g.length → (∀ j, 0 ≤ j → j < i → 1 ≤ rd g j ∧ rd g j ≤ 199) → Ev (fun k => eE.l0 k g i) (decide (VG g)) := by
 induction d with
 | zero =>
  intro i h0 h1 h2
  refine Ev.step (fun k => by rw [eE.l0]) (ax (by omega) (au _ (DC hl) (en (Ev.now _) (decide_eq_decide.2 ⟨fun a => ⟨a, fun x hx => ?_⟩, fun a => a.1⟩))))
  obtain ⟨j, j0, j1, rfl⟩ := pO hx
  exact h2 j j0 (by omega)
 | succ d ih =>
  intro i h0 h1 h2
  refine Ev.step (fun k => by rw [eE.l0]) ?_
  simp only [n4, Option.bind_some]
  rw [iw (by omega) (by omega)]
  by_cases c : 1 ≤ rd g i ∧ rd g i ≤ 199
  · refine ab (by omega) (ab h0 (ab (by simpa using c) (ih (i + 1) (by omega) (by omega) fun j j0 j1 => ?_)))
    by_cases e : j = i
    · rw [e]; exact c
    · exact h2 j j0 (by omega)
  · exact ab (by omega) (ab h0 (ax (by simpa using c) (en (Ev.now _) (decide_eq_false (fun k => c (k.2 _ (jh h0 (by omega))))).symm)))
theorem Lk {g : List Int} (hl : g.length ≤ 1099511627776) : Ev (fun k => eE.f k g) (decide (VG g)) := au0 hl g.length 0 (by omega) (by omega) (fun j a b => by omega)
theorem Ll {g : List Int} (hl : g.length ≤ 1099511627776) : Ev (fun k => ir.f k g) (decide (VG g)) := by
 unfold ir.f
 refine au _ (DB hl) ?_
 by_cases c : AJ g
 · exact ab (by simpa using c) (au _ (mq 1 199 hl) (en (Ev.now _) (decide_eq_decide.2 ⟨fun a => ⟨c, a⟩, fun a => a.2⟩)))
 · exact ax (by simpa using c) (en (Ev.now _) (decide_eq_false (fun k => c k.1)).symm)
theorem afl {g : List Int} {m top a : Int} {t : List Bool} (h : GA g m t) (ht : top ≤ m) (hm : m ≤ 1000) (ha : 1 ≤ a) (ha' : a ≤ top) (N : ∃ x y c, Ev (fun k => ay.l1 k top t (a + 1)) (x, y, c) ∧ (c = true ↔ Cls g top (a + 1))) (d : Nat) : ∀ b : Int, a ≤ b → b + d = top + 1 → ∃ x y c, Ev (fun k => ay.l2 k top t a b) (x, y, c) ∧ (c = true ↔ Cl g top a b ∨ Cls g top (a + 1)) := by
 have hl := h.1
 have na : a ∈ g → ∀ b, ¬ Cl g top a b := fun k b ⟨x, _, _, q, _⟩ => q k
 have stop : ∀ b, a ≤ b → (∀ x y c, Ev (fun k => ay.l1 k top t (a + 1)) (x, y, c) → Ev (fun k => ay.j4 k top t a b false) (x, y, c)) := fun b _ x y c e => by
  refine Ev.step (fun k => by rw [ay.j4]) (ax (by simp) ?_)
  rw [iw (x := a + 1) (by omega) (by omega)]; exact e
 obtain ⟨x, y, c, e1, e2⟩ := N
 induction d with
 | zero =>
  intro b h0 h1
  refine ⟨x, y, c, Ev.step (fun k => by rw [ay.l2]) ?_, e2.trans ⟨.inr, fun k => k.resolve_left (fun ⟨z, z0, z1, _⟩ => by omega)⟩⟩
  rw [iw (x := a + b) (by omega) (by omega)]
  exact ax (by omega) (stop b h0 x y c e1)
 | succ d ih =>
  intro b h0 h1
  have w := iw (x := a + b) (by omega) (by omega)
  have w1 := iw (x := b + 1) (by omega) (by omega)
  by_cases c0 : a + b ≤ top
  · by_cases c1 : a ∈ g
    · have q := (h.2 a (by omega) (by omega)).2 c1
      refine ⟨x, y, c, Ev.step (fun k => by rw [ay.l2]) ?_, e2.trans ⟨.inr, fun k => k.resolve_left (na c1 b)⟩⟩
      rw [w, q]
      exact ab c0 (ab (by omega) (ab (by omega) (stop b h0 x y c e1)))
    · have q : e6 false t a = false := Bool.eq_false_iff.mpr (fun k => c1 ((h.2 a (by omega) (by omega)).1 k))
      obtain ⟨x', y', c', f1, f2⟩ := ih (b + 1) (by omega) (by omega)
      have go : (¬ (b ∉ g ∧ a + b ∈ g)) → (Cl g top a b ↔ Cl g top a (b + 1)) := fun k => ⟨fun ⟨z, z0, z1, z2, z3, z4⟩ => ⟨z, by
       by_cases ez : z = b
       · rw [ez] at z3 z4; exact absurd ⟨z3, z4⟩ k
       · omega, z1, z2, z3, z4⟩, fun ⟨z, z0, z1, z2⟩ => ⟨z, by omega, z1, z2⟩⟩
      by_cases c2 : b ∈ g
      · refine ⟨x', y', c', Ev.step (fun k => by rw [ay.l2]) ?_, by rw [f2, go (fun k => k.1 c2)]⟩
        rw [w, q]
        refine ab c0 (ab (by omega) (ab (by omega) (Ev.step (fun k => by rw [ay.j4]) ?_)))
        refine ab rfl (ab (by omega) (ab (by omega) (ab ((h.2 b (by omega) (by omega)).2 c2) ?_)))
        rw [w1]; exact f1
      · by_cases c3 : a + b ∈ g
        · refine ⟨a, b, true, Ev.step (fun k => by rw [ay.l2]) ?_, fun _ => .inl ⟨b, Int.le_refl _, c0, c1, c2, c3⟩, fun _ => rfl⟩
          rw [w, q]
          refine ab c0 (ab (by omega) (ab (by omega) (Ev.step (fun k => by rw [ay.j4]) ?_)))
          refine ab rfl (ab (by omega) (ab (by omega) (ax (fun k => c2 ((h.2 b (by omega) (by omega)).1 k)) ?_)))
          rw [w]
          exact ab (by omega) (ab (by omega) (ab ((h.2 (a + b) (by omega) (by omega)).2 c3) (Ev.now _)))
        · refine ⟨x', y', c', Ev.step (fun k => by rw [ay.l2]) ?_, by rw [f2, go (fun k => c3 k.2)]⟩
          rw [w, q]
          refine ab c0 (ab (by omega) (ab (by omega) (Ev.step (fun k => by rw [ay.j4]) ?_)))
          refine ab rfl (ab (by omega) (ab (by omega) (ax (fun k => c2 ((h.2 b (by omega) (by omega)).1 k)) ?_)))
          rw [w, w1]
          exact ab (by omega) (ab (by omega) (ax (fun k => c3 ((h.2 (a + b) (by omega) (by omega)).1 k)) f1))
  · refine ⟨x, y, c, Ev.step (fun k => by rw [ay.l2]) ?_, e2.trans ⟨.inr, fun k => k.resolve_left (fun ⟨z, z0, z1, _⟩ => by omega)⟩⟩
    rw [w]
    exact ax c0 (stop b h0 x y c e1)
theorem afm {g : List Int} {m top : Int} {t : List Bool} (h : GA g m t) (ht : top ≤ m) (hm : m ≤ 1000) (d : Nat) : ∀ a : Int, 1 ≤ a → a + d = max a (top + 1) → ∃ x y c, Ev (fun k => ay.l1 k top t a) (x, y, c) ∧ (c = true ↔ Cls g top a) := by
 induction d with
 | zero =>
  intro a h0 h1
  exact ⟨0, 0, false, Ev.step (fun k => by rw [ay.l1]) (ax (by omega) (Ev.now _)), fun k => by simp at k, fun ⟨x, x0, x1, _⟩ => by omega⟩
 | succ d ih =>
  intro a h0 h1
  obtain ⟨x, y, c, e1, e2⟩ := afl h ht hm h0 (by omega) (ih (a + 1) (by omega) (by omega)) (top + 1 - a).toNat a (Int.le_refl _) (by omega)
  refine ⟨x, y, c, Ev.step (fun k => by rw [ay.l1]) (ab (by omega) e1), e2.trans ?_⟩
  constructor
  · rintro (k | ⟨z, z0, z1, z2⟩)
    · exact ⟨a, Int.le_refl _, by omega, k⟩
    · exact ⟨z, by omega, z1, z2⟩
  · rintro ⟨z, z0, z1, z2⟩
    by_cases e : z = a
    · rw [e] at z2; exact .inl z2
    · exact .inr ⟨z, by omega, z1, z2⟩
theorem afn {g : List Int} {m top a : Int} {t : List Bool} (h : GA g m t) (ht : top ≤ m) (hm : m ≤ 1000) (ha : 1 ≤ a) (ha' : a ≤ top) (N : ∃ x y c, Ev (fun k => aE.l1 k t top (a + 1)) (x, y, c) ∧ (c = true ↔ Cls g top (a + 1))) (d : Nat) : ∀ b : Int, a ≤ b → b + d = top + 1 → ∃ x y c, Ev (fun k => aE.l2 k t top a b) (x, y, c) ∧ (c = true ↔ Cl g top a b ∨ Cls g top (a + 1)) := by
 have hl := h.1
 obtain ⟨x, y, c, e1, e2⟩ := N
 have out : ∀ b, a ≤ b → b ≤ top + 1 → ¬ a + b ≤ top → ∃ x y c, Ev (fun k => aE.l2 k t top a b) (x, y, c) ∧ (c = true ↔ Cl g top a b ∨ Cls g top (a + 1)) := fun b h0 hB hb => by
  refine ⟨x, y, c, Ev.step (fun k => by rw [aE.l2]) ?_, e2.trans ⟨.inr, fun k => k.resolve_left (fun ⟨z, z0, z1, _⟩ => by omega)⟩⟩
  rw [iw (x := a + b) (by omega) (by omega), iw (x := a + 1) (by omega) (by omega)]
  exact ax hb e1
 induction d with
 | zero => intro b h0 h1; exact out b h0 (by omega) (by omega)
 | succ d ih =>
  intro b h0 h1
  have w := iw (x := a + b) (by omega) (by omega)
  have w1 := iw (x := b + 1) (by omega) (by omega)
  by_cases c0 : a + b ≤ top
  · obtain ⟨x', y', c', f1, f2⟩ := ih (b + 1) (by omega) (by omega)
    have go : (¬ (a ∉ g ∧ b ∉ g ∧ a + b ∈ g)) → (Cl g top a b ↔ Cl g top a (b + 1)) := fun k => ⟨fun ⟨z, z0, z1, z2, z3, z4⟩ => ⟨z, by
     by_cases ez : z = b
     · rw [ez] at z3 z4; exact absurd ⟨z2, z3, z4⟩ k
     · omega, z1, z2, z3, z4⟩, fun ⟨z, z0, z1, z2⟩ => ⟨z, by omega, z1, z2⟩⟩
    by_cases c1 : a ∈ g
    · refine ⟨x', y', c', Ev.step (fun k => by rw [aE.l2]) ?_, by rw [f2, go (fun k => k.1 c1)]⟩
      rw [w, w1]
      exact ab c0 (ab (by omega) (ab (by omega) (ab ((h.2 a (by omega) (by omega)).2 c1) f1)))
    · have n1 : ¬ e6 false t a = true := fun k => c1 ((h.2 a (by omega) (by omega)).1 k)
      by_cases c2 : b ∈ g
      · refine ⟨x', y', c', Ev.step (fun k => by rw [aE.l2]) ?_, by rw [f2, go (fun k => k.2.1 c2)]⟩
        rw [w, w1]
        exact ab c0 (ab (by omega) (ab (by omega) (ax n1 (ab (by omega) (ab (by omega) (ab ((h.2 b (by omega) (by omega)).2 c2) f1))))))
      · have n2 : ¬ e6 false t b = true := fun k => c2 ((h.2 b (by omega) (by omega)).1 k)
        by_cases c3 : a + b ∈ g
        · refine ⟨a, b, true, Ev.step (fun k => by rw [aE.l2]) ?_, fun _ => .inl ⟨b, Int.le_refl _, c0, c1, c2, c3⟩, fun _ => rfl⟩
          rw [w]
          exact ab c0 (ab (by omega) (ab (by omega) (ax n1 (ab (by omega) (ab (by omega) (ax n2 (ab (by omega) (ab (by omega) (ab ((h.2 (a + b) (by omega) (by omega)).2 c3) (Ev.now _))))))))))
        · refine ⟨x', y', c', Ev.step (fun k => by rw [aE.l2]) ?_, by rw [f2, go (fun k => c3 k.2.2)]⟩
          rw [w, w1]
          exact ab c0 (ab (by omega) (ab (by omega) (ax n1 (ab (by omega) (ab (by omega) (ax n2 (ab (by omega) (ab (by omega) (ax (fun k => c3 ((h.2 (a + b) (by omega) (by omega)).1 k)) f1)))))))))
  · exact out b h0 (by omega) c0
theorem afo {g : List Int} {m top : Int} {t : List Bool} (h : GA g m t) (ht : top ≤ m) (hm : m ≤ 1000) (d : Nat) : ∀ a : Int, 1 ≤ a → a + d = max a (top + 1) → ∃ x y c, Ev (fun k => aE.l1 k t top a) (x, y, c) ∧ (c = true ↔ Cls g top a) := by
 induction d with
 | zero =>
  intro a h0 h1
  exact ⟨0, 0, false, Ev.step (fun k => by rw [aE.l1]) (ax (by omega) (Ev.now _)), fun k => by simp at k, fun ⟨x, x0, x1, _⟩ => by omega⟩
 | succ d ih =>
  intro a h0 h1
  obtain ⟨x, y, c, e1, e2⟩ := afn h ht hm h0 (by omega) (ih (a + 1) (by omega) (by omega)) (top + 1 - a).toNat a (Int.le_refl _) (by omega)
  refine ⟨x, y, c, Ev.step (fun k => by rw [aE.l1]) (ab (by omega) e1), e2.trans ?_⟩
  constructor
  · rintro (k | ⟨z, z0, z1, z2⟩)
    · exact ⟨a, Int.le_refl _, by omega, k⟩
    · exact ⟨z, by omega, z1, z2⟩
  · rintro ⟨z, z0, z1, z2⟩
    by_cases e : z = a
    · rw [e] at z2; exact .inl z2
    · exact .inr ⟨z, by omega, z1, z2⟩
end Go.Proofs.YtjodlkbhaofkkaaGreat.E
end
section
namespace Go.Proofs.YtjodlkbhaofkkaaGreat.E
open Go.RowKit Go.Proofs.YtjodlkbhaofkkaaGreatW.PrintWords Go.Proofs.YtjodlkbhaofkkaaGreatW.PrintLast Go.Proofs.YtjodlkbhaofkkaaGreatW.PrintMore
set_option linter.unusedVariables false
set_option linter.unusedSimpArgs false
noncomputable def vC (v : List Int) : List Int := if SG v then gp v else []
noncomputable def qz (v : List Int) : Int := if (vC v).length = 0 then -1 else rd (vC v) ((vC v).length - 1)
theorem vt (v : List Int) : (vC v).length ≤ 199 := by
 unfold vC; split
 · exact pR v
 · simp
theorem mv {v : List Int} (h : SG v) : vC v = gp v := by unfold vC; rw [if_pos h]
theorem Tj {v : List Int} (h : ¬ SG v) : vC v = [] := by unfold vC; rw [if_neg h]
theorem AE {v : List Int} (h : SG v) (hn : gp v ≠ []) : 1 ≤ qz v ∧ qz v < 200 ∧ ¬ Su v (qz v) ∧ ∀ n, qz v < n → Su v n := by
 obtain ⟨x, a, b, c, e, f⟩ := Xg (p := sB v) (i := 1) (d := 199) hn
 have hl : ¬ (gp v).length = 0 := by simpa using hn
 have ex : qz v = x := by
  unfold qz; rw [mv h, if_neg hl]; exact f
 rw [ex]
 refine ⟨a, by omega, ng.1 c, fun n hn => ?_⟩
 by_cases hn' : n < 200
 · have := e n hn (by omega)
   rw [ng] at this
   exact Classical.byContradiction this
 · exact h.ends n (by omega)
theorem Gi {v : List Int} (h : vC v = []) : qz v = -1 := by unfold qz; rw [h]; rfl
theorem SG.pos {v : List Int} (h : SG v) : ∀ x ∈ v, 1 ≤ x := fun x hx => (h.ul.2 x hx).1
end Go.Proofs.YtjodlkbhaofkkaaGreat.E
end
section
namespace Go.Proofs.YtjodlkbhaofkkaaGreat.E
open Go.RowKit Go.Proofs.YtjodlkbhaofkkaaGreat.PA Go.Proofs.YtjodlkbhaofkkaaGreatW.PrintWords Go.Proofs.YtjodlkbhaofkkaaGreatW.PrintLast Go.Proofs.YtjodlkbhaofkkaaGreatW.PrintMore
set_option linter.unusedVariables false
set_option linter.unusedSimpArgs false
theorem Xo {v : List Int} (d : Nat) : ∀ (i : Int) (out : List Int), 0 ≤ i → i + d = 201 → (out.length : Int) ≤ i → Ev (fun k => cU.l0 k out (wA v 200) 201 i) (out ++ fl (sB v) i d) := by
 have sl := sA (v := v) (m := 200) (by omega)
 induction d with
 | zero =>
  intro i out h0 h1 h2
  refine Ev.step (fun k => by rw [cU.l0]) (ax (by omega) (en (Ev.now _) ?_))
  simp [fl]
 | succ d ih =>
  intro i out h0 h1 h2
  have s := Gh (v := v) (m := 200) h0 (by omega)
  refine Ev.step (fun k => by rw [cU.l0]) ?_
  rw [iw (x := i + 1) (by omega) (by omega)]
  by_cases c : Su v i
  · rw [oM (by rw [ng]; simpa using c)]
    exact ab (by omega) (ab h0 (ab (by omega) (ab (s.2 c) (ih (i + 1) out (by omega) (by omega) (by omega)))))
  · rw [nE (ng.2 c)]
    refine ab (by omega) (ab h0 (ab (by omega) (ax (fun h => c (s.1 h)) (ab (by omega) (en (ih (i + 1) (out ++ [i]) (by omega) (by omega) (by simp; omega)) ?_)))))
    simp
theorem Xp {v : List Int} (d : Nat) : ∀ (i : Int) (out : List Int), 0 ≤ i → i + d = 200 → (out.length : Int) ≤ i → Ev (fun k => bA.l0 k out (wA v 200) i) (out ++ fl (sB v) i d) := by
 have sl := sA (v := v) (m := 200) (by omega)
 induction d with
 | zero =>
  intro i out h0 h1 h2
  refine Ev.step (fun k => by rw [bA.l0]) (ax (by omega) (en (Ev.now _) ?_))
  simp [fl]
 | succ d ih =>
  intro i out h0 h1 h2
  have s := Gh (v := v) (m := 200) h0 (by omega)
  refine Ev.step (fun k => by rw [bA.l0]) ?_
  rw [iw (x := i + 1) (by omega) (by omega)]
  by_cases c : Su v i
  · rw [oM (by rw [ng]; simpa using c)]
    exact ab (by omega) (ab h0 (ab (by omega) (ab (s.2 c) (ih (i + 1) out (by omega) (by omega) (by omega)))))
  · rw [nE (ng.2 c)]
    refine ab (by omega) (ab h0 (ab (by omega) (ax (fun h => c (s.1 h)) (ab (by omega) (en (ih (i + 1) (out ++ [i]) (by omega) (by omega) (by simp; omega)) ?_)))))
    simp
theorem mV {v : List Int} (h : SG v) : Ev (fun k => bA.f k v) (gp v) := by
 unfold bA.f
 exact au _ (h.afj (by omega) (by omega)) (Xp 199 1 [] (by omega) (by omega) (by simp))
theorem Tk {v : List Int} (hl : v.length ≤ 1099511627776) : Ev (fun k => cU.f k v) (if SG v then gp v else []) := by
 unfold cU.f
 refine au _ (ua hl) ?_
 by_cases c : SG v
 · rw [if_pos c]
   refine ab (by simpa using c) (au _ (c.anE (by omega) (by omega)) ?_)
   rw [sA (by omega), ← Xn c]
   exact Xo 201 0 [] (by omega) (by omega) (by simp)
 · rw [if_neg c]; exact ax (by simpa using c) (Ev.now _)
theorem mW {v : List Int} (hl : v.length ≤ 1099511627776) : Ev (fun k => cU.f k v) (vC v) := Tk hl
theorem anG {g : List Int} (hl : g.length ≤ 1099511627776) (n : Int) (d : Nat) : ∀ i : Int, 0 ≤ i → i + d = g.length → Ev (fun k => cW.l0 k g n i) (decide (n ∈ g.drop i.toNat)) := by
 induction d with
 | zero =>
  intro i h0 h1
  refine Ev.step (fun k => by rw [cW.l0]) (ax (by omega) (en (Ev.now _) ?_))
  rw [List.drop_of_length_le (by omega)]; simp
 | succ d ih =>
  intro i h0 h1
  refine Ev.step (fun k => by rw [cW.l0]) ?_
  rw [iw (x := i + 1) (by omega) (by omega), jj h0 (by omega)]
  refine ab (by omega) (ab h0 ?_)
  by_cases c : rd g i = n
  · exact ab c (en (Ev.now _) (by simp [c]))
  · refine ax c (en (ih (i + 1) (by omega) (by omega)) ?_)
    simp [Ne.symm c]
theorem Tl {g : List Int} (hl : g.length ≤ 1099511627776) (n : Int) : Ev (fun k => cW.f k g n) (decide (n ∈ g)) := by
 unfold cW.f
 exact en (anG hl n g.length 0 (by omega) (by omega)) (by simp)
theorem M5 {l m : List Int} (hl : l.length ≤ 1099511627776) (e : l.length = m.length) (d : Nat) : ∀ (i : Int), 0 ≤ i → i + d = l.length → Ev (fun k => cg.l0 k l m l.length i) (decide (l.drop i.toNat = m.drop i.toNat)) := by
 induction d with
 | zero =>
  intro i h0 h1
  refine Ev.step (fun k => by rw [cg.l0]) ?_
  refine ax (by omega) (en (Ev.now _) ?_)
  rw [List.drop_of_length_le (by omega), List.drop_of_length_le (by omega)]; simp
 | succ d ih =>
  intro i h0 h1
  refine Ev.step (fun k => by rw [cg.l0]) ?_
  rw [iw (x := i + 1) (by omega) (by omega), jj h0 (by omega), jj (l := m) h0 (by omega)]
  refine ab (by omega) (ab h0 (ab (by omega) (ab (by omega) ?_)))
  by_cases h : rd l i = rd m i
  · refine ab h (en (ih (i + 1) (by omega) (by omega)) ?_)
    simp [h]
  · refine ax h (en (Ev.now _) ?_)
    simp [h]
theorem I8 {l m : List Int} (hl : l.length ≤ 1099511627776) : Ev (fun k => cg.f k l m) (decide (l = m)) := by
 unfold cg.f
 by_cases e : l.length = m.length
 · refine ab (by omega) (en (M5 hl e l.length 0 (by omega) (by omega)) ?_)
   simp
 · refine ax (by omega) (en (Ev.now _) ?_)
   simp; intro h; exact e (by rw [h])
theorem afp {g : List Int} (h : VG g) {r : Int × Int × Bool} (R : ∀ t, GA g (2 * kd g) t → Ev (fun k => ay.l1 k (kd g) t 1) r → True) (d : Nat) : ∀ (i : Int) (t : List Bool), 0 ≤ i → i + d = g.length → ((t.length : Int) = 2 * kd g + 1 ∧ ∀ j, 0 ≤ j → j ≤ 2 * kd g → (e6 false t j = true ↔ ∃ q, 0 ≤ q ∧ q < i ∧ rd g q = j)) → ∃ t', GA g (2 * kd g) t' ∧ ∀ r, Ev (fun k => ay.l1 k (kd g) t' 1) r → Ev (fun k => ay.l0 k g (kd g) t i) r := by
 have hlen := h.len
 obtain ⟨t0, t1, t2⟩ := h.top
 induction d with
 | zero =>
  intro i t h0 h1 h2
  rw [show i = (g.length : Int) from by omega] at h2
  exact ⟨t, I7 h2, fun r e => Ev.step (fun k => by rw [ay.l0]) (ax (by omega) e)⟩
 | succ d ih =>
  intro i t h0 h1 h2
  have m := jh (l := g) h0 (by omega)
  have b := h.2 _ m
  have b' := t2 _ m
  obtain ⟨t', e1, e2⟩ := ih (i + 1) (t.set (rd g i).toNat true) (by omega) (by omega) (DI h0 (by omega) ⟨by omega, by omega⟩ h2)
  refine ⟨t', e1, fun r e => Ev.step (fun k => by rw [ay.l0]) ?_⟩
  rw [iw (x := i + 1) (by omega) (by omega)]
  exact ab (by omega) (ab h0 (ab (by omega) (ab (by have := h2.1; omega) (e2 r e))))
theorem afq {g : List Int} (hl : g.length ≤ 1099511627776) : ∃ x y c, Ev (fun k => ay.f k g) (x, y, c) ∧ (c = true ↔ VG g ∧ ¬ CF g) := by
 unfold ay.f
 by_cases h : VG g
 · have hlen := h.len
   obtain ⟨t0, t1, t2⟩ := h.top
   by_cases z : g.length = 0
   · refine ⟨0, 0, false, au _ (Lk hl) (ab (by simpa using h) (Ev.step (fun k => by rw [ay.j0]) (ab (by simpa using z) (Ev.now _)))), fun k => by simp at k, fun k => absurd (fun a b _ _ _ _ q => ?_) k.2⟩
     rw [show g = [] from by simpa using z] at q
     simp at q
   · have e : kd g = rd g ((g.length : Int) - 1) := by unfold kd; rw [if_neg z]
     have w := iw (x := (g.length : Int) - 1) (by omega) (by omega)
     obtain ⟨t', a1, a2⟩ := afp h (r := (0, 0, false)) (fun _ _ _ => trivial) g.length 0 (List.replicate (2 * kd g + 1).toNat false) (by omega) (by omega) (AD g (by omega))
     obtain ⟨x, y, c, b1, b2⟩ := afm (m := 2 * kd g) (top := kd g) a1 (by omega) (by omega) (max 1 (kd g + 1) - 1).toNat 1 (by omega) (by omega)
     refine ⟨x, y, c, au _ (Lk hl) (ab (by simpa using h) (Ev.step (fun k => by rw [ay.j0]) ?_)), by rw [b2]; exact ⟨fun k => ⟨h, fun q => (DJ h).1 q k⟩, fun k => Classical.byContradiction fun q => k.2 ((DJ h).2 q)⟩⟩
     rw [w, ← e, iw (x := 2 * kd g) (by omega) (by omega), iw (x := 2 * kd g + 1) (by omega) (by omega)]
     exact ax (by simpa using z) (ab (by omega) (ab (by omega) (ab (by omega) (ab (by omega) (a2 _ b1)))))
 · exact ⟨0, 0, false, au _ (Lk hl) (ax (by simpa using h) (Ev.step (fun k => by rw [ay.j0]) (ab rfl (Ev.now _)))), fun k => by simp at k, fun k => absurd k.1 h⟩
theorem afr {g : List Int} (h : VG g) (hz : g.length ≠ 0) (d : Nat) : ∀ (i : Int) (t : List Bool), 0 ≤ i → i + d = g.length → ((t.length : Int) = 200 + 1 ∧ ∀ j, 0 ≤ j → j ≤ 200 → (e6 false t j = true ↔ ∃ q, 0 ≤ q ∧ q < i ∧ rd g q = j)) → ∃ t', GA g 200 t' ∧ ∀ r, Ev (fun k => aE.l1 k t' (kd g) 1) r → Ev (fun k => aE.l0 k g t g g.length i) r := by
 have hlen := h.len
 have e : kd g = rd g ((g.length : Int) - 1) := by unfold kd; rw [if_neg hz]
 induction d with
 | zero =>
  intro i t h0 h1 h2
  rw [show i = (g.length : Int) from by omega] at h2
  refine ⟨t, I7 h2, fun r q => Ev.step (fun k => by rw [aE.l0]) ?_⟩
  rw [iw (x := (g.length : Int) - 1) (by omega) (by omega), ← e]
  exact ax (by omega) (ab (by omega) (ab (by omega) q))
 | succ d ih =>
  intro i t h0 h1 h2
  have b := h.2 _ (jh (l := g) h0 (by omega))
  obtain ⟨t', e1, e2⟩ := ih (i + 1) (t.set (rd g i).toNat true) (by omega) (by omega) (DI h0 (by omega) ⟨by omega, by omega⟩ h2)
  refine ⟨t', e1, fun r q => Ev.step (fun k => by rw [aE.l0]) ?_⟩
  rw [iw (x := i + 1) (by omega) (by omega)]
  exact ab (by omega) (ab h0 (ab (by omega) (ab (by omega) (ab (by have := h2.1; omega) (e2 r q)))))
theorem afs {g : List Int} (hl : g.length ≤ 1099511627776) : ∃ x y c, Ev (fun k => aE.f k g) (x, y, c) ∧ (c = true ↔ VG g ∧ ¬ CF g) := by
 unfold aE.f
 by_cases h : VG g
 · have hlen := h.len
   obtain ⟨t0, t1, t2⟩ := h.top
   by_cases z : g.length = 0
   · refine ⟨0, 0, false, au _ (Ll hl) (ab (by simpa using h) (Ev.step (fun k => by rw [aE.j0]) (ab (by simpa using z) (Ev.now _)))), fun k => by simp at k, fun k => absurd (fun a b _ _ _ _ q => ?_) k.2⟩
     rw [show g = [] from by simpa using z] at q
     simp at q
   · obtain ⟨t', a1, a2⟩ := afr h z g.length 0 (List.replicate 201 false) (by omega) (by omega) (AD g (m := 200) (by omega))
     obtain ⟨x, y, c, b1, b2⟩ := afo (m := 200) (top := kd g) a1 (by omega) (by omega) (max 1 (kd g + 1) - 1).toNat 1 (by omega) (by omega)
     refine ⟨x, y, c, au _ (Ll hl) (ab (by simpa using h) (Ev.step (fun k => by rw [aE.j0]) ?_)), by rw [b2]; exact ⟨fun k => ⟨h, fun q => (DJ h).1 q k⟩, fun k => Classical.byContradiction fun q => k.2 ((DJ h).2 q)⟩⟩
     exact ax (by simpa using z) (ab (by omega) (a2 _ b1))
 · exact ⟨0, 0, false, au _ (Ll hl) (ax (by simpa using h) (Ev.step (fun k => by rw [aE.j0]) (ab rfl (Ev.now _)))), fun k => by simp at k, fun k => absurd k.1 h⟩
def FG (g : List Int) : Prop := VG g ∧ CF g ∧ SG (mg g)
noncomputable instance (g : List Int) : Decidable (FG g) := Classical.propDecidable _
noncomputable def AF (g : List Int) : List Int × Bool := if FG g then (mg g, true) else ([], false)
theorem DK (g : List Int) : (mg g).length ≤ 400 := DE _ _ _
theorem aft {g : List Int} (h : VG g) (hc : CF g) (d : Nat) : ∀ n : Nat, n + d = 2 * (kd g).toNat + 2 → Ev (fun k => bc.l0 k g (fl (iO g) 1 n) (kd g) ((n : Int) + 1)) (AF g) := by
 have hlen := h.len
 obtain ⟨t0, t1, t2⟩ := h.top
 have w := iw (x := 2 * kd g) (by omega) (by omega)
 have w' := iw (x := 2 * kd g + 2) (by omega) (by omega)
 induction d with
 | zero =>
  intro n hn
  have ml := DK g
  rw [Ti h (by omega) (by omega)]
  refine Ev.step (fun k => by rw [bc.l0]) ?_
  rw [w, w']
  refine ax (by omega) (au _ (sy (by omega)) ?_)
  by_cases s : SG (mg g)
  · exact ab (by simpa using s) (en (Ev.now _) (by unfold AF; rw [if_pos ⟨h, hc, s⟩]))
  · exact ax (by simpa using s) (en (Ev.now _) (by unfold AF; rw [if_neg (fun k => s k.2.2)]))
 | succ d ih =>
  intro n hn
  have fll := DE (iO g) n 1
  have nx := ih (n + 1) (by omega)
  rw [show (((n + 1 : Nat)) : Int) + 1 = (n : Int) + 1 + 1 from by omega, Av (iO g) n 1 1, show (1 : Int) + (n : Int) = (n : Int) + 1 from by omega, show (1 : Nat) = 0 + 1 from rfl] at nx
  refine Ev.step (fun k => by rw [bc.l0]) ?_
  rw [w, w', iw (x := (n : Int) + 1 + 1) (by omega) (by omega)]
  refine ab (by omega) (au _ (Tl (by omega) _) ?_)
  by_cases m : ((n : Int) + 1) ∈ g
  · have nm : ¬ iO g ((n : Int) + 1) = true := fun k => (mu.1 k).1 m
    rw [oM nm, show ∀ j, fl (iO g) j 0 = [] from fun _ => rfl, List.append_nil] at nx
    exact ab (by simpa using m) nx
  · refine ax (by simpa using m) ?_
    have sn := afk hc m
    by_cases z : fl (iO g) 1 n = []
    · have mn : iO g ((n : Int) + 1) = true := Classical.byContradiction fun k => by
       have := sn.2 k
       rw [z] at this
       obtain ⟨x, hx, _⟩ := (Su.last (by omega)).1 this
       simp at hx
      rw [nE mn, show ∀ j, fl (iO g) j 0 = [] from fun _ => rfl] at nx
      exact ax (by rw [z]; simp) (ab (by omega) nx)
    · have zl : (fl (iO g) 1 n).length ≠ 0 := by simpa using z
      obtain ⟨t, a1, a2, a3⟩ := Lb (v := fl (iO g) 1 n) (by omega) (fun x hx => by have := (pQ _ _).1 hx; omega) (most := (n : Int) + 1) (by omega) (by omega)
      have ht := a2 ((n : Int) + 1) (by omega) (Int.le_refl _)
      refine ab (by omega) (au _ a3 (ab (by omega) (ab (by omega) ?_)))
      by_cases mn : iO g ((n : Int) + 1) = true
      · rw [nE mn, show ∀ j, fl (iO g) j 0 = [] from fun _ => rfl] at nx
        exact ax (fun k => sn.1 (ht.1 k) mn) (ab (by omega) nx)
      · rw [oM mn, show ∀ j, fl (iO g) j 0 = [] from fun _ => rfl, List.append_nil] at nx
        exact ab (ht.2 (sn.2 mn)) nx
theorem vu {g : List Int} (hl : g.length ≤ 1099511627776) : Ev (fun k => bc.f k g) (AF g) := by
 obtain ⟨x, y, c, e1, e2⟩ := afq hl
 unfold bc.f
 refine au _ e1 (au _ (Lk hl) ?_)
 by_cases h : VG g
 · refine ab (by simpa using h) ?_
   by_cases hc : CF g
   · have cf : c = false := Bool.eq_false_iff.mpr (fun k => (e2.1 k).2 hc)
     subst cf
     have hlen := h.len
     have r := aft h hc (2 * (kd g).toNat + 2) 0 (by omega)
     rw [show ((0 : Nat) : Int) + 1 = 1 from rfl, show fl (iO g) 1 0 = [] from rfl] at r
     refine Ev.step (fun k => by rw [bc.j0]) (ax (by simp) ?_)
     simp only [Option.bind_some]
     by_cases z : g.length = 0
     · have e : kd g = 0 := by unfold kd; rw [if_pos z]
       rw [e] at r
       exact ax (by omega) (Ev.step (fun k => by rw [bc.j1]) r)
     · have e : kd g = rd g ((g.length : Int) - 1) := by unfold kd; rw [if_neg z]
       rw [iw (x := (g.length : Int) - 1) (by omega) (by omega), ← e]
       exact ab (by omega) (ab (by omega) (ab (by omega) (Ev.step (fun k => by rw [bc.j1]) r)))
   · have ct : c = true := e2.2 ⟨h, hc⟩
     subst ct
     exact Ev.step (fun k => by rw [bc.j0]) (ab rfl (en (Ev.now _) (by unfold AF; rw [if_neg (fun k => hc k.2.1)])))
 · exact ax (by simpa using h) (Ev.step (fun k => by rw [bc.j0]) (ab rfl (en (Ev.now _) (by unfold AF; rw [if_neg (fun k => h k.1)]))))
theorem afu {g : List Int} {t : List Bool} (h : GA g 400 t) {n : Int} (h1 : 1 ≤ n) (h2 : n ≤ 400) {u : List Int} (hu : (u.length : Int) ≤ 400) {r : List Int × Bool} (d : Nat) : ∀ (a : Int) (s : Bool), 1 ≤ a → a + d = n / 2 + 1 →
 ((s = true ∨ ∃ x, a ≤ x ∧ 2 * x ≤ n ∧ x ∉ g ∧ n - x ∉ g) → Ev (fun k => aG.l1 k g t (n + 1) u) r) → (¬ (s = true ∨ ∃ x, a ≤ x ∧ 2 * x ≤ n ∧ x ∉ g ∧ n - x ∉ g) → Ev (fun k => aG.l1 k g t (n + 1) (u ++ [n])) r) → Ev (fun k => aG.l2 k g t n s a u) r := by
 have hl := h.1
 induction d with
 | zero =>
  intro a s a1 a2 y no
  refine Ev.step (fun k => by rw [aG.l2]) ?_
  rw [iw (x := 2 * a) (by omega) (by omega), iw (x := n + 1) (by omega) (by omega)]
  refine ax (by omega) ?_
  by_cases c : s = true
  · exact ab c (y (.inl c))
  · exact ax c (ab (by omega) (no (fun k => k.elim c (fun ⟨x, x0, x1, _⟩ => by omega))))
 | succ d ih =>
  intro a s a1 a2 y no
  refine Ev.step (fun k => by rw [aG.l2]) ?_
  rw [iw (x := 2 * a) (by omega) (by omega), iw (x := n + 1) (by omega) (by omega), iw (x := a + 1) (by omega) (by omega), iw (x := n - a) (by omega) (by omega)]
  refine ab (by omega) ?_
  by_cases c : s = true
  · exact ab c (y (.inl c))
  · refine ax c (ab (by omega) (ab (by omega) ?_))
    have ha := h.2 a (by omega) (by omega)
    have hb := h.2 (n - a) (by omega) (by omega)
    by_cases q : a ∈ g
    · refine ab (ha.2 q) (ih (a + 1) false (by omega) (by omega) (fun k => y (k.elim (fun k => by simp at k) fun ⟨x, x0, x1⟩ => .inr ⟨x, by omega, x1⟩)) (fun k => no fun k' => k (k'.elim (fun k' => absurd k' c) fun ⟨x, x0, x1, x2, x3⟩ => .inr ⟨x, ?_, x1, x2, x3⟩)))
      by_cases e : x = a
      · rw [e] at x2; exact absurd q x2
      · omega
    · refine ax (fun k => q (ha.1 k)) (ab (by omega) (ab (by omega) (ih (a + 1) _ (by omega) (by omega) (fun k => y ?_) (fun k => no fun k' => k ?_))))
      · rcases k with k | ⟨x, x0, x1⟩
        · exact .inr ⟨a, Int.le_refl _, by omega, q, fun m => by rw [hb.2 m] at k; simp at k⟩
        · exact .inr ⟨x, by omega, x1⟩
      · rcases k' with k' | ⟨x, x0, x1, x2, x3⟩
        · exact absurd k' c
        · by_cases e : x = a
          · subst e
            exact .inl (by rw [Bool.eq_false_iff.mpr (fun k => x3 (hb.1 k))]; rfl)
          · exact .inr ⟨x, by omega, x1, x2, x3⟩
theorem afv {g : List Int} (hv : VG g) (hc : CF g) {t : List Bool} (h : GA g 400 t) (d : Nat) : ∀ n : Nat, n + d = 400 → Ev (fun k => aG.l1 k g t ((n : Int) + 1) (fl (iO g) 1 n)) (AF g) := by
 have hl := h.1
 induction d with
 | zero =>
  intro n hn
  have ml := DK g
  have vl := hv.len
  rw [show n = 400 from by omega]
  change Ev (fun k => aG.l1 k g t ((400 : Nat) + 1 : Int) (mg g)) (AF g)
  refine Ev.step (fun k => by rw [aG.l1]) (ax (by omega) (au _ (ua (by omega)) ?_))
  by_cases s : SG (mg g)
  · have gg := mW (v := mg g) (by omega)
    rw [mv s, Lj hv hc] at gg
    exact ab (by simpa using s) (au _ gg (au _ (I8 (by omega)) (ab (by simp) (en (Ev.now _) (by unfold AF; rw [if_pos ⟨hv, hc, s⟩])))))
  · exact ax (by simpa using s) (en (Ev.now _) (by unfold AF; rw [if_neg (fun k => s k.2.2)]))
 | succ d ih =>
  intro n hn
  have fll := DE (iO g) n 1
  have nx := ih (n + 1) (by omega)
  rw [show (((n + 1 : Nat)) : Int) + 1 = (n : Int) + 1 + 1 from by omega, Av (iO g) n 1 1, show (1 : Int) + (n : Int) = (n : Int) + 1 from by omega, show (1 : Nat) = 0 + 1 from rfl] at nx
  have key : ((e6 false t ((n : Int) + 1) = true ∨ ∃ x, 1 ≤ x ∧ 2 * x ≤ (n : Int) + 1 ∧ x ∉ g ∧ (n : Int) + 1 - x ∉ g) ↔ ¬ iO g ((n : Int) + 1) = true) := by
   rw [h.2 _ (by omega) (by omega), mu]
   constructor
   · rintro (k | ⟨x, x0, x1, x2, x3⟩) q
     · exact q.1 k
     · exact q.2 x ((n : Int) + 1 - x) x0 (by omega) x2 x3 (by omega)
   · intro k
     by_cases m : ((n : Int) + 1) ∈ g
     · exact .inl m
     · right
       have : ∃ a b : Int, 1 ≤ a ∧ 1 ≤ b ∧ a ∉ g ∧ b ∉ g ∧ a + b = (n : Int) + 1 := Classical.byContradiction fun q => k ⟨m, fun a b a1 b1 a2 b2 e => q ⟨a, b, a1, b1, a2, b2, e⟩⟩
       obtain ⟨a, b, a1, b1, a2, b2, e⟩ := this
       by_cases le : a ≤ b
       · exact ⟨a, a1, by omega, a2, by rw [show (n : Int) + 1 - a = b from by omega]; exact b2⟩
       · exact ⟨b, b1, by omega, b2, by rw [show (n : Int) + 1 - b = a from by omega]; exact a2⟩
  refine Ev.step (fun k => by rw [aG.l1]) (ab (by omega) (ab (by omega) (afu h (by omega) (by omega) (by omega) (((n : Int) + 1) / 2).toNat 1 _ (by omega) (by omega) (fun k => ?_) (fun k => ?_))))
  · rw [oM (key.1 k), show ∀ j, fl (iO g) j 0 = [] from fun _ => rfl, List.append_nil] at nx
    exact nx
  · rw [nE (Classical.byContradiction fun q => k (key.2 q)), show ∀ j, fl (iO g) j 0 = [] from fun _ => rfl] at nx
    exact nx
theorem afw {g : List Int} (h : VG g) (hc : CF g) (d : Nat) : ∀ (i : Int) (t : List Bool), 0 ≤ i → i + d = g.length → ((t.length : Int) = 400 + 1 ∧ ∀ j, 0 ≤ j → j ≤ 400 → (e6 false t j = true ↔ ∃ q, 0 ≤ q ∧ q < i ∧ rd g q = j)) → Ev (fun k => aG.l0 k g t g g.length i) (AF g) := by
 have hlen := h.len
 induction d with
 | zero =>
  intro i t h0 h1 h2
  rw [show i = (g.length : Int) from by omega] at h2
  have r := afv h hc (I7 h2) 400 0 (by omega)
  rw [show ((0 : Nat) : Int) + 1 = 1 from rfl, show fl (iO g) 1 0 = [] from rfl] at r
  exact Ev.step (fun k => by rw [aG.l0]) (ax (by omega) r)
 | succ d ih =>
  intro i t h0 h1 h2
  have b := h.2 _ (jh (l := g) h0 (by omega))
  have e2 := ih (i + 1) (t.set (rd g i).toNat true) (by omega) (by omega) (DI h0 (by omega) ⟨by omega, by omega⟩ h2)
  refine Ev.step (fun k => by rw [aG.l0]) ?_
  rw [iw (x := i + 1) (by omega) (by omega)]
  exact ab (by omega) (ab h0 (ab (by omega) (ab (by omega) (ab (by have := h2.1; omega) e2))))
theorem vv {g : List Int} (hl : g.length ≤ 1099511627776) : Ev (fun k => aG.f k g) (AF g) := by
 obtain ⟨x, y, c, e1, e2⟩ := afs hl
 unfold aG.f
 refine au _ e1 ?_
 by_cases ct : c = true
 · have := e2.1 ct
   exact ab ct (Ev.step (fun k => by rw [aG.j0]) (ab rfl (en (Ev.now _) (by unfold AF; rw [if_neg (fun k => this.2 k.2.1)]))))
 · refine ax ct (au _ (Ll hl) (Ev.step (fun k => by rw [aG.j0]) ?_))
   by_cases h : VG g
   · have hc : CF g := Classical.byContradiction fun k => ct (e2.2 ⟨h, k⟩)
     exact ax (as0 h) (ab (by omega) (afw h hc g.length 0 (List.replicate 401 false) (by omega) (by omega) (AD g (m := 400) (by omega))))
   · exact ab (aln h) (en (Ev.now _) (by unfold AF; rw [if_neg (fun k => h k.1)]))
theorem M6 {v : List Int} (hl : v.length ≤ 1099511627776) : Ev (fun k => lB.f k v) (vC v) := by
 unfold lB.f
 refine au _ (sy hl) ?_
 by_cases c : SG v
 · rw [mv c]; exact ab (by simpa using c) (au _ (mV c) (Ev.now _))
 · rw [Tj c]; exact ax (by simpa using c) (Ev.now _)
theorem afx {v : List Int} (hl : v.length ≤ 1099511627776) : Ev (fun k => ic.f k v) (qz v) := by
 have g := vt v
 unfold ic.f qz
 refine au _ (mW hl) ?_
 by_cases c : (vC v).length = 0
 · rw [if_pos c]; exact ab (by omega) (Ev.now _)
 · rw [if_neg c, iw (x := ((vC v).length : Int) - 1) (by omega) (by omega)]
   exact ax (by omega) (ab (by omega) (ab (by omega) (Ev.now _)))
theorem wB {v : List Int} (hl : v.length ≤ 1099511627776) : Ev (fun k => dj.f k v) (qz v) := by
 have g := vt v
 unfold dj.f qz
 refine au _ (M6 hl) ?_
 by_cases c : (vC v).length = 0
 · rw [if_pos c]; exact ab (by omega) (Ev.now _)
 · rw [if_neg c, iw (x := ((vC v).length : Int) - 1) (by omega) (by omega)]
   exact ax (by omega) (ab (by omega) (ab (by omega) (Ev.now _)))
end Go.Proofs.YtjodlkbhaofkkaaGreat.E
end
section
namespace Go.Proofs.YtjodlkbhaofkkaaGreat.E
open Go.RowKit Go.Proofs.YtjodlkbhaofkkaaGreatW.PrintWords Go.Proofs.YtjodlkbhaofkkaaGreatW.PrintLast Go.Proofs.YtjodlkbhaofkkaaGreatW.PrintMore
set_option linter.unusedVariables false
set_option linter.unusedSimpArgs false
theorem anH (d : Array Int) (hs : ∀ i j : Nat, i ≤ j → j < d.size → d[i]! ≤ d[j]!) (m : Nat) : m ≤ d.size → pw (Go.Lib.compactUpTo d m) ∧ (∀ z, z ∈ Go.Lib.compactUpTo d m ↔ ∃ j, j < m ∧ d[j]! = z) := by
 induction m with
 | zero => intro _; exact ⟨by simp [Go.Lib.compactUpTo, pw], fun z => by simp [Go.Lib.compactUpTo]⟩
 | succ m ih =>
  intro hm
  obtain ⟨h1, h2⟩ := ih (by omega)
  rw [Go.Lib.compactUpTo_succ]
  by_cases c : Go.Lib.keeps d m = true
  · rw [if_pos c]
    have k : m = 0 ∨ d[m]! ≠ d[m - 1]! := by unfold Go.Lib.keeps at c; simpa using c
    refine ⟨List.pairwise_append.2 ⟨h1, by simp, fun a ha b hb => ?_⟩, fun z => ?_⟩
    · rw [List.mem_singleton] at hb
      obtain ⟨j, j0, j1⟩ := (h2 a).1 ha
      have a1 := hs j (m - 1) (by omega) (by omega)
      have a2 := hs (m - 1) m (by omega) (by omega)
      rcases k with k | k
      · omega
      · rw [hb, ← j1]; omega
    · rw [List.mem_append, List.mem_singleton, h2]
      constructor
      · rintro (⟨j, j0, j1⟩ | e)
        · exact ⟨j, by omega, j1⟩
        · exact ⟨m, by omega, e.symm⟩
      · rintro ⟨j, j0, j1⟩
        by_cases e : j = m
        · right; rw [← j1, e]
        · exact .inl ⟨j, by omega, j1⟩
  · rw [if_neg c, List.append_nil]
    have k : m ≠ 0 ∧ d[m]! = d[m - 1]! := by
     unfold Go.Lib.keeps at c
     simp only [decide_eq_true_eq, not_or, Classical.not_not] at c
     exact c
    refine ⟨h1, fun z => ?_⟩
    rw [h2]
    constructor
    · rintro ⟨j, j0, j1⟩; exact ⟨j, by omega, j1⟩
    · rintro ⟨j, j0, j1⟩
      by_cases e : j = m
      · exact ⟨m - 1, by omega, by rw [← k.2, ← e]; exact j1⟩
      · exact ⟨j, by omega, j1⟩
theorem Gj (l : List Int) : Go.Lib.compact (l.mergeSort fun x y => decide (x ≤ y)) = AK l := by
 have sorted : (l.mergeSort fun x y => decide (x ≤ y)).Pairwise (fun x y => decide (x ≤ y) = true) := List.pairwise_mergeSort (fun a b c h k => by simp at *; omega) (fun a b => by simp; omega) l
 have perm := List.mergeSort_perm l (fun x y => decide (x ≤ y))
 generalize (l.mergeSort fun x y => decide (x ≤ y)) = s at sorted perm
 have get : ∀ i : Nat, ∀ h : i < s.length, s.toArray[i]! = s[i] := fun i h => by simp [h]
 obtain ⟨h1, h2⟩ := anH s.toArray (fun i j hij hj => by
  have hj' : j < s.length := by simpa using hj
  rw [get i (by omega), get j hj']
  by_cases e : i = j
  · subst e; exact Int.le_refl _
  · have := List.pairwise_iff_getElem.1 sorted i j (by omega) hj' (by omega)
    simpa using this) s.length (by simp)
 refine B0 h1 (AA l) fun z => ?_
 show z ∈ Go.Lib.compactUpTo s.toArray s.length ↔ _
 rw [h2, q4, ← perm.mem_iff]
 constructor
 · rintro ⟨j, j0, j1⟩; rw [← j1, get j j0]; exact List.getElem_mem _
 · intro k
   obtain ⟨j, j0, j1⟩ := List.getElem_of_mem k
   exact ⟨j, j0, by rw [get j j0]; exact j1⟩
end Go.Proofs.YtjodlkbhaofkkaaGreat.E
end
section
namespace Go.Proofs.YtjodlkbhaofkkaaGreat.E
open Go.RowKit Go.Proofs.YtjodlkbhaofkkaaGreat.PA Go.Proofs.YtjodlkbhaofkkaaGreatW.PrintWords Go.Proofs.YtjodlkbhaofkkaaGreatW.PrintLast Go.Proofs.YtjodlkbhaofkkaaGreatW.PrintMore
set_option linter.unusedVariables false
set_option linter.unusedSimpArgs false
theorem M7 {l : List Int} (hl : l.length ≤ 1048576) : Ev (fun k => iU.f k l) (AK l) := by
 unfold iU.f
 exact ab (by omega) (en (Ev.now _) (Gj l))
noncomputable def tj (v : List Int) (x : Int) : List Int × Bool := AF (AK (gp v ++ [x]))
theorem DL (v : List Int) (x : Int) : (tj v x).1.length ≤ 400 := by
 unfold tj AF
 split
 · exact DK _
 · simp
theorem Tm {v : List Int} (h : SG v) {x : Int} (hx : x ∈ v) : Ev (fun k => bL.f k v x) (tj v x) := by
 have hl := h.len
 have g := pR v
 unfold bL.f
 refine au _ (sy (by omega)) ?_
 refine ab (by simpa using h) ?_
 refine au _ (Tl (by omega) x) ?_
 rw [show (!decide (x ∈ v)) = false from by simp [hx]]
 refine Ev.step (fun k => by rw [bL.j0]) ?_
 refine ax (by simp) ?_
 refine au _ (mV h) ?_
 refine ab (by omega) ?_
 have e : (gp v ++ [x]).length = (gp v).length + 1 := by simp
 have s := vr (gp v ++ [x])
 refine au _ (B2 (by omega)) ?_
 exact au _ (vu (by omega)) (Ev.now _)
theorem anI {l : List Int} (hl : l.length ≤ 1099511627776) {x : Int} (d : Nat) : ∀ i : Int, 0 ≤ i → i + d = l.length → ∃ r : Int, Ev (fun k => cy.l0 k l x l.length i) r ∧ (0 ≤ r ↔ x ∈ l.drop i.toNat) := by
 induction d with
 | zero =>
  intro i h0 h1
  refine ⟨-1, Ev.step (fun k => by rw [cy.l0]) (ax (by omega) (Ev.now _)), ?_⟩
  rw [List.drop_of_length_le (by omega)]
  simp
 | succ d ih =>
  intro i h0 h1
  rw [jj h0 (by omega)]
  by_cases c : x = rd l i
  · refine ⟨i, Ev.step (fun k => by rw [cy.l0]) (ab (by omega) (ab h0 (ab (by omega) (ab c (Ev.now _))))), ?_⟩
    simp [c, h0]
  · obtain ⟨r, r1, r2⟩ := ih (i + 1) (by omega) (by omega)
    refine ⟨r, Ev.step (fun k => by rw [cy.l0]) (ab (by omega) (ab h0 (ab (by omega) (ax c ?_)))), ?_⟩
    · rw [iw (x := i + 1) (by omega) (by omega)]; exact r1
    · rw [r2, List.mem_cons]
      exact ⟨fun q => .inr q, fun q => q.resolve_left c⟩
theorem Xq {l : List Int} (hl : l.length ≤ 1099511627776) (x : Int) : Ev (fun k => eY.f k l x) (decide (x ∈ l)) := by
 obtain ⟨r, r1, r2⟩ := anI hl (x := x) l.length 0 (by omega) (by omega)
 unfold eY.f cy.f
 refine au _ r1 (en (Ev.now _) ?_)
 have : (0 ≤ r) = (x ∈ l) := by rw [r2]; rfl
 simp only [ge_iff_le, this]
theorem afy {v : List Int} (h : SG v) {x : Int} (hx : x ∈ v) : Ev (fun k => cK.f k v x) (tj v x) := by
 have hl := h.len
 have g := pR v
 unfold cK.f
 refine au _ (ua (by omega)) ?_
 refine ab (by simpa using h) ?_
 refine au _ (Xq (by omega) x) ?_
 rw [show (!decide (x ∈ v)) = false from by simp [hx]]
 refine Ev.step (fun k => by rw [cK.j0]) ?_
 refine ax (by simp) ?_
 have ge := mW (v := v) (by omega)
 rw [mv h] at ge
 refine au _ ge ?_
 refine ab (by omega) ?_
 have e : (gp v ++ [x]).length = (gp v).length + 1 := by simp
 have s := vr (gp v ++ [x])
 refine au _ (M7 (by omega)) ?_
 exact au _ (vv (by omega)) (Ev.now _)
noncomputable def DW (v : List Int) (acc : List cT) : List Int → List cT × Bool
 | [] => (acc, true)
 | x :: r => if x ≤ qz v then DW v acc r else if (tj v x).2 = true then DW v (acc ++ [⟨(tj v x).1⟩]) r else ([], false)
noncomputable def kids (v : List Int) : List cT × Bool := if SG v then DW v [] v else ([], false)
theorem DM (v : List Int) : ∀ (l : List Int) (acc : List cT), (DW v acc l).1.length ≤ acc.length + l.length
 | [], acc => Nat.le_refl _
 | x :: r, acc => by
  unfold DW
  split
  · have := DM v r acc; simp only [List.length_cons]; omega
  · split
    · have := DM v r (acc ++ [⟨(tj v x).1⟩])
      simp only [List.length_append, List.length_cons, List.length_nil] at this ⊢; omega
    · simp
theorem vw (v : List Int) : (kids v).1.length ≤ 12 := by
 unfold kids
 split
 · rename_i h
   have := DM v v []
   have := h.len
   simp only [List.length_nil] at *; omega
 · simp
theorem DN (v : List Int) : ∀ (l : List Int) (acc : List cT), DW v acc l = ([], false) ∨ (DW v acc l = (acc ++ (l.filter fun x => !decide (x ≤ qz v)).map (fun x => ⟨(tj v x).1⟩), true) ∧ ∀ x ∈ l, ¬ x ≤ qz v → (tj v x).2 = true)
 | [], acc => .inr ⟨by simp [DW], fun x hx => by cases hx⟩
 | x :: r, acc => by
  unfold DW
  by_cases c : x ≤ qz v
  · rw [if_pos c]
    rcases DN v r acc with h | ⟨h, k⟩
    · exact .inl h
    · refine .inr ⟨?_, fun y hy hn => ?_⟩
      · rw [h, List.filter_cons_of_neg (by simp [c])]
      · rcases List.mem_cons.1 hy with e | hy
        · rw [e] at hn; exact absurd c hn
        · exact k y hy hn
  · rw [if_neg c]
    by_cases b : (tj v x).2 = true
    · rw [if_pos b]
      rcases DN v r (acc ++ [⟨(tj v x).1⟩]) with h | ⟨h, k⟩
      · exact .inl h
      · refine .inr ⟨?_, fun y hy hn => ?_⟩
        · rw [h, List.filter_cons_of_pos (by simp [c]), List.map_cons, List.append_assoc]; rfl
        · rcases List.mem_cons.1 hy with e | hy
          · rw [e]; exact b
          · exact k y hy hn
    · rw [if_neg b]; exact .inl rfl
theorem afz {v : List Int} (h : SG v) (d : Nat) : ∀ (i : Int) (acc : List cT), 0 ≤ i → i + d = v.length → (acc.length : Int) ≤ i → Ev (fun k => br.l0 k acc (qz v) i v) (DW v acc (v.drop i.toNat)) := by
 have hl := h.len
 induction d with
 | zero =>
  intro i acc h0 h1 h2
  rw [List.drop_of_length_le (by omega), DW]
  exact Ev.step (fun k => by rw [br.l0]) (ax (by omega) (Ev.now _))
 | succ d ih =>
  intro i acc h0 h1 h2
  rw [jj h0 (by omega), DW]
  refine Ev.step (fun k => by rw [br.l0]) (ab (by omega) (ab h0 ?_))
  rw [iw (x := i + 1) (by omega) (by omega)]
  by_cases c : rd v i ≤ qz v
  · rw [if_pos c]
    exact ab c (ih (i + 1) acc (by omega) (by omega) (by omega))
  · rw [if_neg c]
    refine ax c (au _ (Tm h (jh h0 (by omega))) ?_)
    by_cases b : (tj v (rd v i)).2 = true
    · rw [if_pos b]
      refine ab b (ab (by omega) ?_)
      exact ih (i + 1) _ (by omega) (by omega) (by simp only [List.length_append, List.length_singleton]; omega)
    · rw [if_neg b]
      exact ax b (Ev.now _)
theorem Lm {v : List Int} (hv : v.length ≤ 1099511627776) : Ev (fun k => br.f k v) (kids v) := by
 unfold br.f kids
 refine au _ (sy hv) ?_
 by_cases h : SG v
 · rw [if_pos h]
   exact ab (by simpa using h) (au _ (wB hv) (afz h v.length 0 [] (by omega) (by omega) (by simp)))
 · rw [if_neg h]
   exact ax (by simpa using h) (Ev.now _)
theorem afA {v : List Int} (h : SG v) (d : Nat) : ∀ (i : Int) (acc : List cT), 0 ≤ i → i + d = v.length → (acc.length : Int) ≤ i → Ev (fun k => cL.l0 k (qz v) acc v v.length i v) (DW v acc (v.drop i.toNat)) := by
 have hl := h.len
 induction d with
 | zero =>
  intro i acc h0 h1 h2
  rw [List.drop_of_length_le (by omega), DW]
  exact Ev.step (fun k => by rw [cL.l0]) (ax (by omega) (Ev.now _))
 | succ d ih =>
  intro i acc h0 h1 h2
  rw [jj h0 (by omega), DW]
  refine Ev.step (fun k => by rw [cL.l0]) (ab (by omega) (ab h0 (ab (by omega) ?_)))
  rw [iw (x := i + 1) (by omega) (by omega)]
  by_cases c : rd v i ≤ qz v
  · rw [if_pos c]
    exact ab c (ih (i + 1) acc (by omega) (by omega) (by omega))
  · rw [if_neg c]
    refine ax c (au _ (afy h (jh h0 (by omega))) ?_)
    by_cases b : (tj v (rd v i)).2 = true
    · rw [if_pos b]
      refine ab b (ab (by omega) ?_)
      exact ih (i + 1) _ (by omega) (by omega) (by simp only [List.length_append, List.length_singleton]; omega)
    · rw [if_neg b]
      exact ax b (Ev.now _)
theorem Ln {v : List Int} (hv : v.length ≤ 1099511627776) : Ev (fun k => cL.f k v) (kids v) := by
 unfold cL.f kids
 refine au _ (ua hv) ?_
 by_cases h : SG v
 · rw [if_pos h]
   exact ab (by simpa using h) (au _ (afx hv) (afA h v.length 0 [] (by omega) (by omega) (by simp)))
 · rw [if_neg h]
   exact ax (by simpa using h) (Ev.now _)
theorem yr {α : Type} {g : Nat → Option α} (m : ∀ k, bK (g k) (g (k + 1))) {n : Nat} {r : α} (h : g n = some r) : Ev g r := ⟨n, fun k hk => by
 obtain ⟨d, rfl⟩ := Nat.le.dest hk
 induction d with
 | zero => exact h
 | succ d ih => exact m (n + d) r (ih (Nat.le_add_right _ _))⟩
theorem wC {l : List Int} (h : AJ l) : pw l := by
 unfold pw
 rw [List.pairwise_iff_getElem]
 intro i j hi hj hij
 have := Au h (j - i - 1) (i : Int) (j : Int) (by omega) (by omega) (by omega)
 rwa [nL (by omega) (by omega), nL (by omega) (by omega)] at this
def lx : List Int → List Int → Bool
 | a :: r, b :: s => if a = b then lx r s else decide (a < b)
 | _, _ => false
def bef (a b : List Int) : Bool := if a.length = b.length then lx a b else decide (a.length < b.length)
theorem anK {a b : List Int} (hl : a.length ≤ 1099511627776) (e : a.length = b.length) (d : Nat) : ∀ i : Int, 0 ≤ i → i + d = a.length → Ev (fun k => eb.l0 k a b i) (lx (a.drop i.toNat) (b.drop i.toNat)) := by
 induction d with
 | zero =>
  intro i h0 h1
  rw [List.drop_of_length_le (by omega), lx]
  · exact Ev.step (fun k => by rw [eb.l0]) (ax (by omega) (Ev.now _))
  · intro _ _ _ _ h; cases h
 | succ d ih =>
  intro i h0 h1
  rw [jj h0 (by omega), jj (l := b) h0 (by omega), lx]
  refine Ev.step (fun k => by rw [eb.l0]) (ab (by omega) (ab h0 (ab (by omega) ?_)))
  rw [iw (x := i + 1) (by omega) (by omega)]
  by_cases c : rd a i = rd b i
  · rw [if_pos c]; exact ab c (ih (i + 1) (by omega) (by omega))
  · rw [if_neg c]; exact ax c (Ev.now _)
theorem afB {a b : List Int} (hl : a.length ≤ 1099511627776) : Ev (fun k => eb.f k a b) (bef a b) := by
 unfold eb.f bef
 by_cases c : a.length = b.length
 · rw [if_pos c]; exact ab (by omega) (anK hl c a.length 0 (by omega) (by omega))
 · rw [if_neg c]
   refine ax (by omega) (en (Ev.now _) ?_)
   by_cases k : a.length < b.length
   · rw [decide_eq_true k, decide_eq_true (show (a.length : Int) < (b.length : Int) by omega)]
   · rw [decide_eq_false k, decide_eq_false (show ¬ (a.length : Int) < (b.length : Int) by omega)]
def qv : List Int → List Int → Int
 | [], [] => 0
 | [], _ :: _ => -1
 | _ :: _, [] => 1
 | a :: r, b :: s => if a < b then -1 else if b < a then 1 else qv r s
theorem Xr (a b : Int) : gS.f a b = some (if a < b then -1 else if b < a then 1 else 0) := by
 unfold gS.f cmp_isNaN_int.f
 simp only [Option.bind_some, bne_self_eq_false, Bool.false_eq_true, if_false, gt_iff_lt]
 split
 · rfl
 · split <;> rfl
theorem afC {a b : List Int} (hl : a.length ≤ 1099511627776) (d : Nat) : ∀ i : Int, 0 ≤ i → i + d = a.length → i ≤ b.length → Ev (fun k => ck.l0 k a b a a.length i) (qv (a.drop i.toNat) (b.drop i.toNat)) := by
 induction d with
 | zero =>
  intro i h0 h1 h2
  rw [List.drop_of_length_le (l := a) (by omega)]
  refine Ev.step (fun k => by rw [ck.l0]) (ax (by omega) ?_)
  by_cases c : (a.length : Int) < b.length
  · rw [jj (l := b) h0 (by omega), qv]
    exact ab c (Ev.now _)
  · rw [List.drop_of_length_le (l := b) (by omega), qv]
    exact ax c (Ev.now _)
 | succ d ih =>
  intro i h0 h1 h2
  rw [jj h0 (by omega)]
  refine Ev.step (fun k => by rw [ck.l0]) (ab (by omega) (ab h0 (ab (by omega) ?_)))
  by_cases c : i ≥ (b.length : Int)
  · rw [List.drop_of_length_le (l := b) (by omega), qv]
    exact ab c (Ev.now _)
  · rw [jj (l := b) h0 (by omega), qv]
    refine ax c (ab (by omega) ?_)
    rw [Xr]
    simp only [Option.bind_some]
    rw [iw (x := i + 1) (by omega) (by omega)]
    by_cases p : rd a i < rd b i
    · simp only [if_pos p]; exact ax (by decide) (Ev.now _)
    · by_cases q : rd b i < rd a i
      · simp only [if_neg p, if_pos q]; exact ax (by decide) (Ev.now _)
      · simp only [if_neg p, if_neg q]; exact ab trivial (ih (i + 1) (by omega) (by omega) (by omega))
theorem Xs {a b : List Int} (hl : a.length ≤ 1099511627776) : Ev (fun k => ck.f k a b) (qv a b) := afC hl a.length 0 (by omega) (by omega) (by omega)
theorem B5 : ∀ a b : List Int, qv b a = - qv a b
 | [], [] => rfl
 | [], _ :: _ => rfl
 | _ :: _, [] => rfl
 | a :: r, b :: s => by
  unfold qv
  by_cases p : a < b
  · simp only [if_pos p, if_neg (show ¬ b < a by omega)]; rfl
  · by_cases q : b < a
    · simp only [if_neg p, if_pos q]
    · simp only [if_neg p, if_neg q]; exact B5 r s
theorem Lo : ∀ a b c : List Int, qv a b ≤ 0 → qv b c ≤ 0 → qv a c ≤ 0
 | [], _, [], _, _ => Int.le_refl _
 | [], _, _ :: _, _, _ => by unfold qv; decide
 | _ :: _, [], _, h, _ => by unfold qv at h; exact absurd h (by decide)
 | _ :: _, _ :: _, [], _, h => by unfold qv at h; exact absurd h (by decide)
 | a :: r, b :: s, c :: t, h, k => by
  unfold qv at h k ⊢
  by_cases p : a < b
  · by_cases q : b < c
    · rw [if_pos (show a < c by omega)]; decide
    · rw [if_neg q] at k
      by_cases w : c < b
      · rw [if_pos w] at k; exact absurd k (by decide)
      · rw [if_pos (show a < c by omega)]; decide
  · rw [if_neg p] at h
    by_cases p' : b < a
    · rw [if_pos p'] at h; exact absurd h (by decide)
    · rw [if_neg p'] at h
      by_cases q : b < c
      · rw [if_pos (show a < c by omega)]; decide
      · rw [if_neg q] at k
        by_cases w : c < b
        · rw [if_pos w] at k; exact absurd k (by decide)
        · rw [if_neg w] at k
          rw [if_neg (show ¬ a < c by omega), if_neg (show ¬ c < a by omega)]
          exact Lo r s t h k
theorem Lp : ∀ a b : List Int, lx a b = true → qv a b < 0
 | [], _, h => by simp [lx] at h
 | _ :: _, [], h => by simp [lx] at h
 | a :: r, b :: s, h => by
  unfold lx at h
  unfold qv
  by_cases c : a = b
  · rw [if_pos c] at h
    rw [if_neg (by omega), if_neg (by omega)]
    exact Lp r s h
  · rw [if_neg c] at h
    rw [if_pos (of_decide_eq_true h)]; decide
theorem Tn : ∀ a b c d : List Int, a.length = b.length → lx a b = true → lx (a ++ c) (b ++ d) = true
 | [], _, _, _, _, h => by simp [lx] at h
 | _ :: _, [], _, _, _, h => by simp [lx] at h
 | a :: r, b :: s, c, d, e, h => by
  unfold lx at h
  rw [List.cons_append, List.cons_append]
  unfold lx
  by_cases q : a = b
  · rw [if_pos q] at h ⊢
    exact Tn r s c d (by simpa using e) h
  · rw [if_neg q] at h ⊢
    exact h
theorem Lq : ∀ (g : List Int) (x y : Int), x < y → lx (g ++ [x]) (g ++ [y]) = true
 | [], x, y, h => by
  show lx [x] [y] = true
  unfold lx
  rw [if_neg (by omega)]
  exact decide_eq_true h
 | a :: r, x, y, h => by
  rw [List.cons_append, List.cons_append]
  unfold lx
  rw [if_pos rfl]
  exact Lq r x y h
noncomputable def rf (v : List Int) : Int := if SG v then ((gp v).length : Int) else -1
theorem DO {v : List Int} (hv : v.length ≤ 1099511627776) : Ev (fun k => ff.f k v) (rf v) := by
 unfold ff.f rf
 refine au _ (ua hv) ?_
 by_cases h : SG v
 · rw [if_pos h]
   have g := mW hv
   rw [mv h] at g
   exact ab (by simpa using h) (au _ g (Ev.now _))
 · rw [if_neg h]
   exact ax (by simpa using h) (Ev.now _)
theorem To (v : List Int) : -1 ≤ rf v ∧ rf v ≤ 199 := by
 unfold rf
 have := pR v
 split <;> omega
noncomputable def kc (v u : List Int) : Int := if rf v - rf u = 0 then qv (vC v) (vC u) else rf v - rf u
theorem anL {v u : List Int} (hv : v.length ≤ 1099511627776) (hu : u.length ≤ 1099511627776) : Ev (fun k => iI.f k v u) (kc v u) := by
 have a := To v
 have b := To u
 have g := vt v
 unfold iI.f kc
 refine au _ (DO hv) (au _ (DO hu) ?_)
 rw [iw (x := rf v - rf u) (by omega) (by omega)]
 by_cases c : rf v - rf u = 0
 · rw [if_pos c]
   exact ab c (au _ (mW hv) (au _ (mW hu) (au _ (Xs (by omega)) (Ev.now _))))
 · rw [if_neg c]
   exact ax c (Ev.now _)
theorem yt (v u : List Int) : kc u v = - kc v u := by
 unfold kc
 by_cases c : rf v - rf u = 0
 · rw [if_pos c, if_pos (show rf u - rf v = 0 by omega)]; exact B5 _ _
 · rw [if_neg c, if_neg (show ¬ rf u - rf v = 0 by omega)]; omega
theorem Tp {a b c : List Int} (h : kc a b ≤ 0) (k : kc b c ≤ 0) : kc a c ≤ 0 := by
 unfold kc at h k ⊢
 by_cases p : rf a - rf b = 0
 · rw [if_pos p] at h
   by_cases q : rf b - rf c = 0
   · rw [if_pos q] at k
     rw [if_pos (by omega)]
     exact Lo _ _ _ h k
   · rw [if_neg q] at k
     rw [if_neg (by omega)]; omega
 · rw [if_neg p] at h
   by_cases q : rf b - rf c = 0
   · rw [if_neg (by omega)]; omega
   · rw [if_neg q] at k
     rw [if_neg (by omega)]; omega
theorem afD : Go.Sort.SWO (Go.Proofs.ltOf kc) := by
 have lt : ∀ x y, Go.Proofs.ltOf kc x y = true ↔ kc x y < 0 := fun x y => by unfold Go.Proofs.ltOf; exact decide_eq_true_iff
 have nl : ∀ x y, Go.Proofs.ltOf kc x y = false ↔ kc y x ≤ 0 := fun x y => by
  rw [yt x y]; unfold Go.Proofs.ltOf; rw [decide_eq_false_iff_not]; omega
 refine ⟨fun x => ?_, fun x y z h k => ?_, fun x y z h k => ?_⟩
 · have := yt x x
   rw [nl]; omega
 · rw [lt] at h k ⊢
   have h1 := Tp (show kc x y ≤ 0 by omega) (show kc y z ≤ 0 by omega)
   by_cases c : kc x z < 0
   · exact c
   · have h2 : kc z x ≤ 0 := by rw [yt x z]; omega
     have h3 := Tp h2 (show kc x y ≤ 0 by omega)
     rw [yt y z] at h3
     omega
 · rw [nl] at h k ⊢
   exact Tp k h
theorem Tq {v : List Int} (h : SG v) {y : Int} (hy : y ∈ gp v) : y ≤ qz v := by
 have := (AE h (fun e => by rw [e] at hy; cases hy)).2.2.2 y
 have n := (DH.1 hy).2.2
 exact Int.not_lt.1 fun c => n (this c)
theorem qw {v : List Int} (h : SG v) {x : Int} (c : ¬ x ≤ qz v) (b : (tj v x).2 = true) : SG (tj v x).1 ∧ gp (tj v x).1 = gp v ++ [x] := by
 have p : pw (gp v ++ [x]) := by
  unfold pw
  rw [List.pairwise_append]
  refine ⟨wC (Ax _ _ _), List.pairwise_singleton _ _, fun y hy z hz => ?_⟩
  rw [List.mem_singleton.1 hz]
  have := Tq h hy
  omega
 have e : AK (gp v ++ [x]) = gp v ++ [x] := B0 (AA _) p (fun z => q4)
 unfold tj at b ⊢
 rw [e] at b ⊢
 unfold AF at b ⊢
 by_cases f : FG (gp v ++ [x])
 · rw [if_pos f]
   exact ⟨f.2.2, Lj f.1 f.2.1⟩
 · rw [if_neg f] at b; cases b
theorem sC {v : List Int} {s : cT} (hs : s ∈ (kids v).1) : SG v ∧ ∃ x ∈ v, ¬ x ≤ qz v ∧ (tj v x).2 = true ∧ s = ⟨(tj v x).1⟩ := by
 unfold kids at hs
 by_cases h : SG v
 · rw [if_pos h] at hs
   refine ⟨h, ?_⟩
   rcases DN v v [] with e | ⟨e, k⟩
   · rw [e] at hs; cases hs
   · rw [e, List.nil_append] at hs
     obtain ⟨x, hx, rfl⟩ := List.mem_map.1 hs
     obtain ⟨hx, hc⟩ := List.mem_filter.1 hx
     have hc : ¬ x ≤ qz v := by simpa using hc
     exact ⟨x, hx, hc, k x hx hc, rfl⟩
 · rw [if_neg h] at hs; cases hs
def ord (a b : cT) : Prop := lx (gp a.f0) (gp b.f0) = true
theorem Xt (v : List Int) : (kids v).1.Pairwise ord := by
 unfold kids
 by_cases h : SG v
 · rw [if_pos h]
   rcases DN v v [] with e | ⟨e, k⟩
   · rw [e]; exact List.Pairwise.nil
   · rw [e, List.nil_append]
     show List.Pairwise ord _
     rw [List.pairwise_map]
     have p : (v.filter fun x => !decide (x ≤ qz v)).Pairwise (· < ·) := (wC h.asc).filter _
     refine List.Pairwise.imp_of_mem (fun {a b} ha hb hab => ?_) p
     obtain ⟨ha, ca⟩ := List.mem_filter.1 ha
     obtain ⟨hb, cb⟩ := List.mem_filter.1 hb
     have ca : ¬ a ≤ qz v := by simpa using ca
     have cb : ¬ b ≤ qz v := by simpa using cb
     show lx _ _ = true
     rw [(qw h ca (k a ha ca)).2, (qw h cb (k b hb cb)).2]
     exact Lq _ _ _ hab
 · rw [if_neg h]; exact List.Pairwise.nil
noncomputable def Gr (L : List cT) : List cT := L.flatMap fun s => (kids s.f0).1
noncomputable def lay : Nat → List cT
 | 0 => [⟨[1]⟩]
 | n + 1 => Gr (lay n)
theorem yu : ∀ L : List cT, (Gr L).length ≤ 12 * L.length
 | [] => Nat.le_refl _
 | s :: r => by
  have h := yu r
  have k := vw s.f0
  show ((s :: r).flatMap fun s => (kids s.f0).1).length ≤ _
  rw [List.flatMap_cons, List.length_append, List.length_cons]
  show _ + (Gr r).length ≤ _
  omega
theorem yv : ∀ n : Nat, n ≤ 8 → (lay n).length ≤ 12 ^ n
 | 0, _ => Nat.le_refl _
 | n + 1, h => by
  have := yu (lay n)
  have k := yv n (by omega)
  show (Gr (lay n)).length ≤ _
  rw [Nat.pow_succ]; omega
theorem Ca {n : Nat} (h : n ≤ 8) : (lay n).length ≤ 429981696 := by
 have a := yv n h
 have b : 12 ^ n ≤ 12 ^ 8 := Nat.pow_le_pow_right (by decide) h
 have c : (12 : Nat) ^ 8 = 429981696 := by decide
 omega
structure Good (n : Nat) (L : List cT) : Prop where
 sg : ∀ s ∈ L, SG s.f0 ∧ (gp s.f0).length = n
 pw : L.Pairwise ord
theorem Good.next {n : Nat} {L : List cT} (h : Good n L) : Good (n + 1) (Gr L) := by
 refine ⟨fun s hs => ?_, ?_⟩
 · obtain ⟨p, hp, hs⟩ := List.mem_flatMap.1 hs
   obtain ⟨g, x, hx, c, b, rfl⟩ := sC hs
   obtain ⟨f1, f2⟩ := qw g c b
   refine ⟨f1, ?_⟩
   show (gp (tj p.f0 x).1).length = n + 1
   rw [f2, List.length_append, (h.sg p hp).2]; rfl
 · unfold Gr
   rw [List.pairwise_flatMap]
   refine ⟨fun a _ => Xt a.f0, ?_⟩
   refine List.Pairwise.imp_of_mem (fun {a b} ha hb hab x hx y hy => ?_) h.pw
   obtain ⟨ga, u, _, cu, bu, rfl⟩ := sC hx
   obtain ⟨gb, w, _, cw, bw, rfl⟩ := sC hy
   show lx _ _ = true
   rw [(qw ga cu bu).2, (qw gb cw bw).2]
   exact Tn _ _ _ _ (by rw [(h.sg a ha).2, (h.sg b hb).2]) hab
theorem Tr : Ev (fun k => bj.f k [1]) ([1], true) := yr (n := 3000) (fun k => bj.mono _ k) (by kernel_rfl)
theorem I9 : SG [1] := by
 have a : Ev (fun k => aA.f k [1]) true := yr (n := 3000) (fun k => aA.mono _ k) (by kernel_rfl)
 exact of_decide_eq_true (Dj (sy (v := [1]) (by decide)) a)
theorem afE : gp [1] = [] := by
 have a : Ev (fun k => bA.f k [1]) [] := yr (n := 3000) (fun k => bA.mono _ k) (by kernel_rfl)
 exact Dj (mV I9) a
theorem sD : ∀ n : Nat, Good n (lay n)
 | 0 => ⟨fun s hs => by rw [List.mem_singleton.1 hs]; exact ⟨I9, by rw [afE]; rfl⟩, List.pairwise_singleton _ _⟩
 | n + 1 => (sD n).next
theorem vx {K : List cT} {i : Nat} (h : i < K.length) : cG K (i : Int) = K[i] := by
 unfold cG
 rw [List.getD_eq_getElem?_getD, Int.toNat_natCast, List.getElem?_eq_getElem h]; rfl
theorem anM {X : List cT} {g : List Int} (hX : ∀ e ∈ X, SG e.f0 ∧ bef (gp e.f0) g = true) (hl : X.length ≤ 1000000000) (d : Nat) : ∀ i : Nat, i + d = X.length → Ev (fun k => fx.l0 k X g (i : Int)) (X.length : Int) := by
 induction d with
 | zero =>
  intro i h
  refine Ev.step (fun k => by rw [fx.l0]) (ax (by omega) (ab (by omega) (ab (by omega) (ab ?_ (en (Ev.now _) (by omega))))))
  rw [List.length_drop, List.length_nil]; omega
 | succ d ih =>
  intro i h
  have hi : i < X.length := by omega
  have m := hX _ (List.getElem_mem hi)
  have gl := pR (X[i]).f0
  refine Ev.step (fun k => by rw [fx.l0]) (ab (by omega) (ab (by omega) ?_))
  rw [vx hi]
  refine au _ (mV m.1) (au _ (afB (by omega)) (ab m.2 ?_))
  rw [iw (x := (i : Int) + 1) (by omega) (by omega)]
  exact ih (i + 1) (by omega)
theorem afF {X : List cT} {c : List Int} (hc : SG c) (hX : ∀ e ∈ X, SG e.f0 ∧ bef (gp e.f0) (gp c) = true) (hl : X.length ≤ 1000000000) : Ev (fun k => fx.f k X c) (X.length : Int) := by
 unfold fx.f
 exact au _ (mV hc) (anM hX hl X.length 0 (by omega))
theorem copy_eq {l : List Int} (h : l.length ≤ 1048576) : iW.f l = some l := by
 unfold iW.f
 simp only [Option.bind_some, List.nil_append, List.length_nil]
 exact if_pos (by omega)
theorem afG {n : Nat} {x0 x6 : Int} {x5 pre K : List cT} {x8 : Int} (hg : Good n (pre ++ K)) (hl : (pre ++ K).length ≤ 1000000000) {r : List cT} (N : Ev (fun k => aM.l1 k x0 x5 x6 (pre ++ K) (wrap64 (x8 + 1))) r) (d : Nat) : ∀ i : Nat, i + d = K.length → Ev (fun k => aM.l2 k x0 x5 x6 (pre ++ K.take i) x8 K (i : Int)) r := by
 have hla : (pre ++ K).length = pre.length + K.length := List.length_append
 induction d with
 | zero =>
  intro i h
  rw [List.take_of_length_le (by omega)]
  exact Ev.step (fun k => by rw [aM.l2]) (ax (by omega) N)
 | succ d ih =>
  intro i h
  have hi : i < K.length := by omega
  have mi : K[i] ∈ pre ++ K := List.mem_append_right _ (List.getElem_mem hi)
  have gi := hg.sg _ mi
  have li := gi.1.len
  have hp : (pre ++ K.take i).length = pre.length + i := by rw [List.length_append, List.length_take]; omega
  refine Ev.step (fun k => by rw [aM.l2]) (ab (by omega) (ab (by omega) ?_))
  rw [vx hi, copy_eq (by omega)]
  simp only [Option.bind_some]
  refine au _ (afF gi.1 (fun e he => ?_) (by omega)) ?_
  · have hs : (pre ++ K.take i) ++ (K[i] :: K.drop (i + 1)) = pre ++ K := by
     rw [List.append_assoc]; congr 1
     rw [← List.drop_eq_getElem_cons hi, List.take_append_drop]
    have p := hg.pw
    rw [← hs, List.pairwise_append] at p
    have o := p.2.2 e he _ (List.mem_cons_self ..)
    have ge := hg.sg e (by rw [← hs]; exact List.mem_append_left _ he)
    refine ⟨ge.1, ?_⟩
    unfold bef
    rw [if_pos (by rw [ge.2, gi.2])]
    exact o
  · refine ab rfl (ab (by omega) ?_)
    rw [iw (x := (i : Int) + 1) (by omega) (by omega)]
    have e : (pre ++ K.take i) ++ [(⟨(K[i]).f0⟩ : cT)] = pre ++ K.take (i + 1) := by
     rw [List.append_assoc, List.take_succ_eq_append_getElem hi]
    rw [e]
    exact ih (i + 1) (by omega)
theorem vy {L : List cT} {i : Nat} (h : i < L.length) : Gr (L.take (i + 1)) = Gr (L.take i) ++ (kids (L[i]).f0).1 := by
 unfold Gr
 rw [List.take_succ_eq_append_getElem h, List.flatMap_append]
 simp
theorem Ts {n : Nat} {A B : List cT} (h : Good n (A ++ B)) : Good n A := ⟨fun s hs => h.sg s (List.mem_append_left _ hs), (List.pairwise_append.1 h.pw).1⟩
theorem M8 {n : Nat} {L : List cT} (h : Good n L) (i : Nat) : Good n (L.take i) := Ts (B := L.drop i) (by rw [List.take_append_drop]; exact h)
theorem afH {n : Nat} {x0 x6 : Int} {L : List cT} (hg : Good n L) (hl : L.length ≤ 35831808) {r : List cT} (N : Ev (fun k => aM.l0 k x0 (Gr L) (wrap64 (x6 + 1))) r) (d : Nat) : ∀ i : Nat, i + d = L.length → Ev (fun k => aM.l1 k x0 L x6 (Gr (L.take i)) (i : Int)) r := by
 induction d with
 | zero =>
  intro i h
  rw [List.take_of_length_le (by omega)]
  exact Ev.step (fun k => by rw [aM.l1]) (ax (by omega) N)
 | succ d ih =>
  intro i h
  have hi : i < L.length := by omega
  have gi := hg.sg _ (List.getElem_mem hi)
  have li := gi.1.len
  refine Ev.step (fun k => by rw [aM.l1]) (ab (by omega) (ab (by omega) ?_))
  rw [vx hi]
  refine au _ (Lm (by omega)) ?_
  have g2 := (M8 hg (i + 1)).next
  rw [vy hi] at g2
  have l2 := yu (L.take (i + 1))
  rw [vy hi, List.length_take] at l2
  have := afG (x0 := x0) (x5 := L) (x6 := x6) (x8 := (i : Int)) g2 (by omega) (r := r) (by
   rw [iw (x := (i : Int) + 1) (by omega) (by omega), ← vy hi]
   exact ih (i + 1) (by omega)) _ 0 (Nat.zero_add _)
  rw [List.take_zero, List.append_nil] at this
  exact this
theorem afI {g : Nat} (hg : g ≤ 8) (d : Nat) : ∀ m : Nat, m + d = g → Ev (fun k => aM.l0 k (g : Int) (lay m) (m : Int)) (lay g) := by
 induction d with
 | zero =>
  intro m h
  rw [show m = g by omega]
  exact Ev.step (fun k => by rw [aM.l0]) (ax (by omega) (Ev.now _))
 | succ d ih =>
  intro m h
  refine Ev.step (fun k => by rw [aM.l0]) (ab (by omega) ?_)
  have a := yv m (by omega)
  have b : 12 ^ m ≤ 12 ^ 7 := Nat.pow_le_pow_right (by decide) (by omega)
  have c : (12 : Nat) ^ 7 = 35831808 := by decide
  have := afH (x0 := (g : Int)) (x6 := (m : Int)) (sD m) (by omega) (r := lay g) (by
   rw [iw (x := (m : Int) + 1) (by omega) (by omega)]
   exact ih (m + 1) (by omega)) _ 0 (Nat.zero_add _)
  exact this
theorem afJ {g : Nat} (hg : g ≤ 8) : Ev (fun k => aM.f k (g : Int)) (lay g) := by
 unfold aM.f
 rw [n4]
 simp only [Option.bind_some]
 exact ab (decide_eq_true ⟨by omega, by omega⟩) (au _ Tr (afI hg g 0 (by omega)))
theorem afK {L : List cT} {n : Nat} (hg : Good n L) (hl : L.length ≤ 35831808) {DU Jp : Int} {r : List cT} (N : Ev (fun k => bk.l0 k (Gr L) DU (wrap64 (Jp + 1))) r) (d : Nat) : ∀ i : Nat, i + d = L.length → Ev (fun k => bk.l1 k (Gr (L.take i)) DU Jp L L.length (i : Int)) r := by
 induction d with
 | zero =>
  intro i h
  rw [List.take_of_length_le (by omega)]
  exact Ev.step (fun k => by rw [bk.l1]) (ax (by omega) N)
 | succ d ih =>
  intro i h
  have hi : i < L.length := by omega
  have gi := hg.sg _ (List.getElem_mem hi)
  have li := gi.1.len
  refine Ev.step (fun k => by rw [bk.l1]) (ab (by omega) (ab (by omega) (ab (by omega) ?_)))
  rw [vx hi]
  refine au _ (Ln (by omega)) ?_
  have l1 := yu (L.take i)
  rw [List.length_take] at l1
  have l2 := vw (L[i]).f0
  refine ab (by omega) ?_
  rw [iw (x := (i : Int) + 1) (by omega) (by omega), ← vy hi]
  exact ih (i + 1) (by omega)
theorem Xu {g : Nat} (hg : g ≤ 8) : E7 (lay g) := by
 have hl := Ca hg
 have hG := sD g
 have sm : ∀ a ∈ ([] : List Int) :: (lay g).map (·.f0), a.length ≤ 1099511627776 := fun a ha => by
  rcases List.mem_cons.1 ha with e | ha
  · rw [e]; simp
  · obtain ⟨s, hs, rfl⟩ := List.mem_map.1 ha
    have := (hG.sg s hs).1.len
    omega
 refine ⟨by omega, kc, afD, fun a ha b hb => (anL (sm a ha) (sm b hb)).rounds, ?_⟩
 refine List.Pairwise.imp_of_mem (fun {a b} ha hb hab => ?_) hG.pw
 have ga := hG.sg a ha
 have gb := hG.sg b hb
 unfold kc rf
 rw [if_pos ga.1, if_pos gb.1, if_pos (by omega), mv ga.1, mv gb.1]
 exact Lp _ _ hab
theorem afL {g : Nat} (hg : g ≤ 8) (d : Nat) : ∀ m : Nat, m + d = g → Ev (fun k => bk.l0 k (lay m) (g : Int) (m : Int)) (lay g) := by
 induction d with
 | zero =>
  intro m h
  rw [show m = g by omega]
  refine Ev.step (fun k => by rw [bk.l0]) (ax (by omega) ?_)
  rw [iQ.yes (Xu hg)]
  exact Ev.now _
 | succ d ih =>
  intro m h
  refine Ev.step (fun k => by rw [bk.l0]) (ab (by omega) ?_)
  have a := yv m (by omega)
  have b : 12 ^ m ≤ 12 ^ 7 := Nat.pow_le_pow_right (by decide) (by omega)
  have c : (12 : Nat) ^ 7 = 35831808 := by decide
  have := afK (DU := (g : Int)) (Jp := (m : Int)) (sD m) (by omega) (r := lay g) (by
   rw [iw (x := (m : Int) + 1) (by omega) (by omega)]
   exact ih (m + 1) (by omega)) _ 0 (Nat.zero_add _)
  exact this
theorem afM {g : Nat} (hg : g ≤ 8) : Ev (fun k => bk.f k (g : Int)) (lay g) := by
 unfold bk.f
 rw [lG]
 simp only [Option.bind_some]
 exact ab (decide_eq_true ⟨by omega, by omega⟩) (afL hg g 0 (by omega))
end Go.Proofs.YtjodlkbhaofkkaaGreat.E
end
section
namespace Go.Proofs.YtjodlkbhaofkkaaGreat.E
open Go.RowKit Go.Proofs.YtjodlkbhaofkkaaGreatW.PrintWords Go.Proofs.YtjodlkbhaofkkaaGreatW.PrintLast Go.Proofs.YtjodlkbhaofkkaaGreatW.PrintMore
set_option linter.unusedVariables false
set_option linter.unusedSimpArgs false
theorem Lr {v : List Int} (h : SG v) {i : Int} (h0 : 0 ≤ i) (hi : i < v.length) {n : Int} (k : Su v n) : n < rd v i → Su (v.take i.toNat) n := by
 obtain ⟨c, w⟩ := k
 induction w with
 | zero => exact fun _ => Su.zero _
 | @add x k c hx hw ih =>
  intro q
  have kp := Su.pos h.pos ⟨c, hw⟩
  have xp := h.pos x hx
  refine (ih (by omega)).add (Su.mem ?_)
  obtain ⟨j, j0, j1, e⟩ := pO hx
  have ji : j < i := by
   by_cases c : j < i
   · exact c
   · exfalso
     by_cases e2 : j = i
     · subst e2; omega
     · have := Au h.asc (j - i - 1).toNat i j h0 (by omega) j1
       omega
  have hj : j.toNat < v.length := by omega
  rw [← e, nL j0 j1]
  have : (v.take i.toNat)[j.toNat]'(by rw [List.length_take]; omega) = v[j.toNat] := List.getElem_take ..
  rw [← this]
  exact List.getElem_mem _
theorem anN (v : List Int) : VG (gp v) := ⟨Ax _ _ _, fun x hx => by have := DH.1 hx; omega⟩
theorem Xv {v : List Int} (h : SG v) {a : Int} (h1 : 1 ≤ a) : a ∉ gp v ↔ Su v a := by
 constructor
 · intro k
   by_cases c : a < 200
   · exact Classical.byContradiction fun q => k (DH.2 ⟨h1, c, q⟩)
   · exact h.ends a (by omega)
 · intro k q
   exact (DH.1 q).2.2 k
theorem anO {v : List Int} (h : SG v) : CF (gp v) := fun a b a1 b1 ha hb => by
 rw [Xv h (by omega)]
 exact ((Xv h a1).1 ha).add ((Xv h b1).1 hb)
theorem aap {v : List Int} (h : SG v) : mg (gp v) = v := by
 refine B0 (wC (Ax _ _ _)) (wC h.asc) fun x => ?_
 constructor
 · intro hx
   obtain ⟨x1, x2, x3⟩ := (pQ _ _).1 hx
   rw [mu] at x3
   obtain ⟨y, hy, k⟩ := (Su.last (by omega)).1 ((Xv h x1).1 x3.1)
   have yp := h.pos y hy
   have kp := Su.pos h.pos k
   by_cases e : x - y = 0
   · rw [show x = y from by omega]; exact hy
   · exact absurd (by omega) (x3.2 y (x - y) yp (by omega) ((Xv h yp).2 (Su.mem hy)) ((Xv h (by omega)).2 k))
 · intro hx
   have xu := h.ul.2 x hx
   refine (pQ _ _).2 ⟨xu.1, by omega, mu.2 ⟨(Xv h xu.1).2 (Su.mem hx), fun a b a1 b1 ha hb e => ?_⟩⟩
   obtain ⟨i, i0, i1, hi⟩ := pO hx
   have sa := Lr h i0 i1 ((Xv h a1).1 ha) (by omega)
   have sb := Lr h i0 i1 ((Xv h b1).1 hb) (by omega)
   have s := sa.add sb
   by_cases z : i = 0
   · rw [z] at s
     obtain ⟨y, hy, _⟩ := (Su.last (by omega)).1 s
     simp at hy
   · exact h.min i (by omega) i1 (by rw [hi, ← e]; exact s)
theorem aaq {v : List Int} (h : SG v) : AF (gp v) = (v, true) := by
 unfold AF
 rw [if_pos ⟨anN v, anO h, by rw [aap h]; exact h⟩, aap h]
end Go.Proofs.YtjodlkbhaofkkaaGreat.E
end
section
namespace Go.Proofs.YtjodlkbhaofkkaaGreat.E
open Go.RowKit Go.Proofs.YtjodlkbhaofkkaaGreat.PA Go.Proofs.YtjodlkbhaofkkaaGreatW.PrintWords Go.Proofs.YtjodlkbhaofkkaaGreatW.PrintLast Go.Proofs.YtjodlkbhaofkkaaGreatW.PrintMore
set_option linter.unusedVariables false
set_option linter.unusedSimpArgs false
def tre : List (List Int × List Int) := [([1], []), ([2, 3], [1]), ([3, 4, 5], [1, 2]), ([2, 5], [1, 3]), ([4, 5, 6, 7], [1, 2, 3]), ([3, 5, 7], [1, 2, 4]), ([3, 4], [1, 2, 5]), ([2, 7], [1, 3, 5]), ([5, 6, 7, 8, 9], [1, 2, 3, 4]), ([4, 6, 7, 9], [1, 2, 3, 5]), ([4, 5, 7], [1, 2, 3, 6]), ([4, 5, 6], [1, 2, 3, 7]), ([3, 7, 8], [1, 2, 4, 5]), ([3, 5], [1, 2, 4, 7]), ([2, 9], [1, 3, 5, 7]), ([6, 7, 8, 9, 10, 11], [1, 2, 3, 4, 5]), ([5, 7, 8, 9, 11], [1, 2, 3, 4, 6]), ([5, 6, 8, 9], [1, 2, 3, 4, 7]), ([5, 6, 7, 9], [1, 2, 3, 4, 8]), ([5, 6, 7, 8], [1, 2, 3, 4, 9]), ([4, 7, 9, 10], [1, 2, 3, 5, 6]), ([4, 6, 9, 11], [1, 2, 3, 5, 7]), ([4, 6, 7], [1, 2, 3, 5, 9]), ([4, 5, 11], [1, 2, 3, 6, 7]), ([3, 8, 10], [1, 2, 4, 5, 7]), ([3, 7, 11], [1, 2, 4, 5, 8]), ([2, 11], [1, 3, 5, 7, 9]), ([7, 8, 9, 10, 11, 12, 13], [1, 2, 3, 4, 5, 6]), ([6, 8, 9, 10, 11, 13], [1, 2, 3, 4, 5, 7]), ([6, 7, 9, 10, 11], [1, 2, 3, 4, 5, 8]), ([6, 7, 8, 10, 11], [1, 2, 3, 4, 5, 9]), ([6, 7, 8, 9, 11], [1, 2, 3, 4, 5, 10]), ([6, 7, 8, 9, 10], [1, 2, 3, 4, 5, 11]), ([5, 8, 9, 11, 12], [1, 2, 3, 4, 6, 7]), ([5, 7, 9, 11, 13], [1, 2, 3, 4, 6, 8]), ([5, 7, 8, 11], [1, 2, 3, 4, 6, 9]), ([5, 7, 8, 9], [1, 2, 3, 4, 6, 11]), ([5, 6, 9, 13], [1, 2, 3, 4, 7, 8]), ([5, 6, 8], [1, 2, 3, 4, 7, 9]), ([5, 6, 7], [1, 2, 3, 4, 8, 9]), ([4, 9, 10, 11], [1, 2, 3, 5, 6, 7]), ([4, 7, 10, 13], [1, 2, 3, 5, 6, 9]), ([4, 7, 9], [1, 2, 3, 5, 6, 10]), ([4, 6, 11, 13], [1, 2, 3, 5, 7, 9]), ([4, 6, 9], [1, 2, 3, 5, 7, 11]), ([4, 5], [1, 2, 3, 6, 7, 11]), ([3, 10, 11], [1, 2, 4, 5, 7, 8]), ([3, 8, 13], [1, 2, 4, 5, 7, 10]), ([3, 7], [1, 2, 4, 5, 8, 11]), ([2, 13], [1, 3, 5, 7, 9, 11])]
def upto (n : Int) : List Int := fl (fun _ => true) 1 (n - 1).toNat
def both (g : List Int) (n : Int) : Bool := (upto n).all fun a => g.contains a || g.contains (n - a)
def afN (g : List Int) (n : Int) : Bool := !g.contains n && both g n
def aar (p : List Int × List Int) : Bool := decide (p.2.Pairwise (· < ·)) && p.2.all (fun x => decide (1 ≤ x ∧ x ≤ 12)) && p.2.all (both p.2) && (fl (afN p.2) 1 25 == p.1) && decide (p.1.length ≤ 100) && (ak.f 1000 p.1 == some true)
theorem afO : tre.all aar = true := by kernel_rfl
theorem Tt {g : List Int} {n : Int} : both g n = true ↔ ∀ a b : Int, 1 ≤ a → 1 ≤ b → a ∉ g → b ∉ g → a + b ≠ n := by
 unfold both upto
 rw [List.all_eq_true]
 constructor
 · intro h a b a1 b1 ha hb e
   have := h a ((pQ _ _).2 ⟨a1, by omega, rfl⟩)
   rw [Bool.or_eq_true, List.contains_iff_mem, List.contains_iff_mem] at this
   rcases this with k | k
   · exact ha k
   · exact hb (by rwa [show b = n - a from by omega])
 · intro h a ha
   obtain ⟨a1, a2, _⟩ := (pQ _ _).1 ha
   rw [Bool.or_eq_true, List.contains_iff_mem, List.contains_iff_mem]
   by_cases c : a ∈ g
   · exact .inl c
   · exact .inr (Classical.byContradiction fun q => h a (n - a) a1 (by omega) c q (by omega))
theorem Xw (g : List Int) (n : Int) : afN g n = iO g n := by
 rw [Bool.eq_iff_iff, mu]
 unfold afN
 rw [Bool.and_eq_true, Tt]
 simp
theorem Tu {p : List Int × List Int} (h : p ∈ tre) : SG p.1 ∧ gp p.1 = p.2 := by
 have k := List.all_eq_true.1 afO p h
 unfold aar at k
 simp only [Bool.and_eq_true, decide_eq_true_eq, beq_iff_eq, List.all_eq_true] at k
 obtain ⟨⟨⟨⟨⟨k1, k2⟩, k3⟩, k4⟩, k5⟩, k6⟩ := k
 have s : SG p.1 := of_decide_eq_true (Dj (ua (by omega)) (yr (fun k => ak.mono _ k) k6))
 have vg : VG p.2 := ⟨Te k1, fun x hx => by have := k2 x hx; omega⟩
 have cf : CF p.2 := fun a b a1 b1 ha hb hab => Tt.1 (k3 _ hab) a b a1 b1 ha hb rfl
 have tp : kd p.2 ≤ 12 := by
  unfold kd
  split
  · omega
  · exact (k2 _ (jh (by omega) (by omega))).2
 have m : mg p.2 = p.1 := by
  rw [← Ti vg (d := 25) (by omega) (by omega), ← k4]
  exact (Aw _ _ fun x _ _ => (Xw _ _).symm)
 refine ⟨s, ?_⟩
 rw [← m]
 exact Lj vg cf
def Tv (g : List Int) : Int := if g.length = 0 then -1 else rd g (g.length - 1)
def Gk (g : List Int) : List Int × List Int := (tre.find? fun p => p.2 == g).getD ([], [])
def nxc (L : List (List Int × List Int)) : List (List Int × List Int) := L.flatMap fun p => (p.1.filter fun x => !decide (x ≤ Tv p.2)).map fun x => Gk (p.2 ++ [x])
def Xx : Nat → List (List Int × List Int)
 | 0 => [([1], [])]
 | n + 1 => nxc (Xx n)
def chk (L : List (List Int × List Int)) : Bool := L.all fun p => tre.contains p && (p.1.filter fun x => !decide (x ≤ Tv p.2)).all fun x => tre.contains (Gk (p.2 ++ [x])) && ((Gk (p.2 ++ [x])).2 == p.2 ++ [x])
theorem afP : ((List.range 6).all fun n => chk (Xx n)) = true := by kernel_rfl
theorem Tw : ((List.range 7).map fun n => (Xx n).length) = [1, 1, 2, 4, 7, 12, 23] := by kernel_rfl
theorem DP {α β γ : Type} (f : α → β) (g : β → List γ) (l : List α) : (l.map f).flatMap g = l.flatMap fun a => g (f a) := by
 induction l with
 | nil => rfl
 | cons a l ih => rw [List.map_cons, List.flatMap_cons, List.flatMap_cons, ih]
theorem anQ {L : List (List Int × List Int)} (h : chk L = true) : Gr (L.map fun p => (⟨p.1⟩ : cT)) = (nxc L).map fun p => (⟨p.1⟩ : cT) := by
 unfold Gr nxc
 rw [DP, List.map_flatMap]
 unfold chk at h
 rw [List.all_eq_true] at h
 have key : ∀ p ∈ L, (kids p.1).1 = ((p.1.filter fun x => !decide (x ≤ Tv p.2)).map fun x => Gk (p.2 ++ [x])).map fun p => (⟨p.1⟩ : cT) := by
  intro p hp
  have k := h p hp
  rw [Bool.and_eq_true, List.contains_iff_mem, List.all_eq_true] at k
  obtain ⟨sg, gg⟩ := Tu k.1
  have ft : qz p.1 = Tv p.2 := by unfold qz Tv; rw [mv sg, gg]
  have rm : ∀ x ∈ p.1, ¬ x ≤ qz p.1 → tj p.1 x = ((Gk (p.2 ++ [x])).1, true) := by
   intro x hx hn
   have q := k.2 x (List.mem_filter.2 ⟨hx, by rw [← ft]; simpa using hn⟩)
   rw [Bool.and_eq_true, List.contains_iff_mem, beq_iff_eq] at q
   obtain ⟨s2, g2⟩ := Tu q.1
   unfold tj
   have e : AK (gp p.1 ++ [x]) = gp p.1 ++ [x] := by
    refine B0 (AA _) ?_ (fun z => q4)
    unfold pw
    rw [List.pairwise_append]
    refine ⟨wC (Ax _ _ _), List.pairwise_singleton _ _, fun y hy z hz => ?_⟩
    rw [List.mem_singleton.1 hz]
    have := Tq sg hy
    omega
   rw [e, gg, ← q.2, ← g2, aaq s2, g2, q.2]
  have kk : kids p.1 = (((p.1.filter fun x => !decide (x ≤ qz p.1)).map fun x => (⟨(tj p.1 x).1⟩ : cT)), true) := by
   unfold kids
   rw [if_pos sg]
   have go : ∀ (l : List Int) (acc : List cT), (∀ x ∈ l, x ∈ p.1) → DW p.1 acc l = (acc ++ (l.filter fun x => !decide (x ≤ qz p.1)).map (fun x => (⟨(tj p.1 x).1⟩ : cT)), true) := by
    intro l
    induction l with
    | nil => intro acc _; simp [DW]
    | cons x l ih =>
     intro acc hl
     unfold DW
     by_cases c : x ≤ qz p.1
     · rw [if_pos c, ih acc (fun y hy => hl y (List.mem_cons_of_mem _ hy)), List.filter_cons_of_neg (by simp [c])]
     · rw [if_neg c, if_pos (by rw [rm x (hl x (List.mem_cons_self ..)) c]), ih _ (fun y hy => hl y (List.mem_cons_of_mem _ hy)), List.filter_cons_of_pos (by simp [c]), List.map_cons, List.append_assoc]
       rfl
   rw [go p.1 [] (fun x hx => hx), List.nil_append]
  rw [kk, ft, List.map_map]
  refine List.map_congr_left fun x hx => ?_
  obtain ⟨h1, h2⟩ := List.mem_filter.1 hx
  rw [rm x h1 (by rw [ft]; simpa using h2)]
  rfl
 clear h
 induction L with
 | nil => rfl
 | cons p L ih => rw [List.flatMap_cons, List.flatMap_cons, ih (fun q hq => key q (List.mem_cons_of_mem _ hq)), key p (List.mem_cons_self ..)]
theorem aas : ∀ n : Nat, n ≤ 6 → lay n = (Xx n).map fun p => (⟨p.1⟩ : cT)
 | 0, _ => rfl
 | n + 1, h => by
  show Gr (lay n) = _
  rw [aas n (by omega)]
  exact anQ (List.all_eq_true.1 afP n (List.mem_range.2 (by omega)))
theorem Xy {n : Nat} (h : n ≤ 6) : ((lay n).length : Int) = rd [1, 1, 2, 4, 7, 12, 23, 39, 67] n := by
 rw [aas n h, List.length_map]
 have k := Tw
 rcases n with _ | _ | _ | _ | _ | _ | _ | n
 all_goals first | omega | skip
 all_goals
  simp only [List.range, List.range.loop, List.map_cons, List.map_nil, List.cons.injEq] at k
  simp only [k, rd]
  rfl
noncomputable def par (v : List Int) : List Int × Bool := if (vC v).length = 0 then ([], false) else AF (vC v).dropLast
theorem afQ (g : List Int) (x : Int) : (g ++ [x]).dropLast = g := by simp
theorem Gl {v : List Int} (h : vC v = []) : par v = ([], false) := by unfold par; rw [if_pos (by rw [h]; rfl)]
theorem Ls (v : List Int) : (par v).1.length ≤ 400 := by
 unfold par AF
 split
 · simp
 · split
   · exact DK _
   · simp
theorem Gm {v : List Int} (h : SG v) (b : (par v).2 = true) : gp v ≠ [] ∧ SG (par v).1 ∧ gp (par v).1 = (gp v).dropLast := by
 unfold par at b ⊢
 rw [mv h] at b ⊢
 by_cases c : (gp v).length = 0
 · rw [if_pos c] at b; cases b
 · rw [if_neg c] at b ⊢
   unfold AF at b ⊢
   by_cases f : FG (gp v).dropLast
   · rw [if_pos f]
     exact ⟨fun e => c (by rw [e]; rfl), f.2.2, Lj f.1 f.2.1⟩
   · rw [if_neg f] at b; cases b
theorem Xz {v : List Int} (h : SG v) {x : Int} (c : ¬ x ≤ qz v) (b : (tj v x).2 = true) : par (tj v x).1 = (v, true) := by
 obtain ⟨s, g⟩ := qw h c b
 unfold par
 rw [mv s, g, if_neg (by simp), afQ]
 exact aaq h
noncomputable def up : Nat → List Int → List cT → List cT × Bool
 | 0, _, out => (out, true)
 | n + 1, v, out => if (par v).2 = true then up n (par v).1 (⟨(par v).1⟩ :: out) else ([], false)
theorem Lt : ∀ (n : Nat) (v : List Int) (out : List cT), (up n v out).2 = true → ∃ pre : List cT, (up n v out).1 = pre ++ out ∧ pre.length = n
 | 0, v, out, _ => ⟨[], rfl, rfl⟩
 | n + 1, v, out, h => by
  unfold up at h ⊢
  by_cases c : (par v).2 = true
  · rw [if_pos c] at h ⊢
    obtain ⟨pre, e, l⟩ := Lt n (par v).1 _ h
    exact ⟨pre ++ [⟨(par v).1⟩], by rw [e]; simp, by simp [l]⟩
  · rw [if_neg c] at h; cases h
noncomputable def Cb (v : List Int) : List cT × Bool := if SG v then up (gp v).length v [⟨v⟩] else ([], false)
theorem anR {l : List Int} (h : l ≠ []) : l = l.dropLast ++ [rd l (l.length - 1)] := by
 have hp : 0 < l.length := List.length_pos_iff.2 h
 have e := (List.dropLast_concat_getLast h).symm
 rw [List.getLast_eq_getElem] at e
 rw [nL (by omega) (by omega)]
 have : ((l.length : Int) - 1).toNat = l.length - 1 := by omega
 simp only [this]
 exact e
theorem DQ {v : List Int} (hv : v.length ≤ 1099511627776) : Ev (fun k => fQ.f k v) (par v) := by
 have g := vt v
 unfold fQ.f par
 refine au _ (mW hv) ?_
 by_cases c : (vC v).length = 0
 · rw [if_pos c]; exact ab (by omega) (Ev.now _)
 · rw [if_neg c]
   refine ax (by omega) ?_
   rw [iw (x := ((vC v).length : Int) - 1) (by omega) (by omega)]
   refine ab (by omega) (ab (by omega) ?_)
   have e : (vC v).take (((vC v).length : Int) - 1).toNat = (vC v).dropLast := by
    rw [List.dropLast_eq_take]; congr 1; omega
   rw [e]
   exact au _ (vv (by rw [List.length_dropLast]; omega)) (Ev.now _)
theorem au3 {l : List Int} (hl : l.length ≤ 1048576) (x : Int) (d : Nat) : ∀ (i : Int) (acc : List Int), 0 ≤ i → i + d = l.length → (acc.length : Int) ≤ i → Ev (fun k => dq.l0 k l x acc i) (acc ++ (l.drop i.toNat).filter fun y => !decide (y = x)) := by
 induction d with
 | zero =>
  intro i acc h0 h1 h2
  rw [List.drop_of_length_le (by omega), List.filter_nil, List.append_nil]
  exact Ev.step (fun k => by rw [dq.l0]) (ax (by omega) (Ev.now _))
 | succ d ih =>
  intro i acc h0 h1 h2
  rw [jj h0 (by omega)]
  refine Ev.step (fun k => by rw [dq.l0]) (ab (by omega) (ab h0 ?_))
  rw [iw (x := i + 1) (by omega) (by omega)]
  by_cases c : rd l i = x
  · rw [List.filter_cons_of_neg (by simp [c])]
    exact ab c (ih (i + 1) acc (by omega) (by omega) (by omega))
  · rw [List.filter_cons_of_pos (by simp [c])]
    refine ax c (ab (by omega) ?_)
    have := ih (i + 1) (acc ++ [rd l i]) (by omega) (by omega) (by simp only [List.length_append, List.length_singleton]; omega)
    rwa [List.append_assoc] at this
theorem anS {l : List Int} (hl : l.length ≤ 1048576) (x : Int) : Ev (fun k => dq.f k l x) (l.filter fun y => !decide (y = x)) := au3 hl x l.length 0 [] (by omega) (by omega) (by simp)
theorem DR {v : List Int} (hv : v.length ≤ 1099511627776) : Ev (fun k => iu.f k v) (par v) := by
 have g := vt v
 unfold iu.f
 refine au _ (wB hv) ?_
 by_cases c : vC v = []
 · rw [Gl c]
   exact ab (by rw [Gi c]; decide) (Ev.now _)
 · have h : SG v := Classical.byContradiction fun q => c (Tj q)
   have hn : gp v ≠ [] := by rw [← mv h]; exact c
   have f := AE h hn
   refine ax (by omega) (au _ (mV h) ?_)
   have gl := pR v
   refine au _ (anS (by omega) _) ?_
   have e : (gp v).filter (fun y => !decide (y = qz v)) = (gp v).dropLast := by
    have e1 := anR hn
    have ef : rd (gp v) ((gp v).length - 1) = qz v := by
     unfold qz
     rw [mv h, if_neg (by simpa using hn)]
    rw [ef] at e1
    have p := wC (Ax (sB v) 199 1)
    have p' : pw ((gp v).dropLast ++ [qz v]) := by rw [← e1]; exact p
    unfold pw at p'
    rw [List.pairwise_append] at p'
    generalize (gp v).dropLast = a at e1 p'
    rw [e1, List.filter_append, List.filter_eq_self.2 (fun y hy => by have := p'.2.2 y hy (qz v) (by simp); simp only [Bool.not_eq_true', decide_eq_false_iff_not]; omega)]
    simp
   rw [e]
   unfold par
   rw [mv h, if_neg (by simpa using hn)]
   exact au _ (vu (by rw [List.length_dropLast]; omega)) (Ev.now _)
theorem Tx {l : List Int} (h : l.length ≤ 1048576) : fP.f l = some l := by
 unfold fP.f
 simp only [Option.bind_some, List.length_nil, List.nil_append]
 exact if_pos (by omega)
theorem afR (s : cT) (r : List cT) : cG (s :: r) 0 = s := by
 have := vx (K := s :: r) (i := 0) (by simp)
 simpa using this
theorem Ty (v : List Int) (r : List cT) : (cG ((⟨v⟩ : cT) :: r) 0).f0 = v := by rw [afR]
theorem Lu : ∀ (n : Nat) (v : List Int) (r : List cT), SG v → (gp v).length = n → r.length + n ≤ 400 → Ev (fun k => cY.l0 k (⟨v⟩ :: r)) (up n v (⟨v⟩ :: r))
 | 0, v, r, h, hn, hr => by
  have hl := h.len
  have g0 : vC v = [] := by rw [mv h]; simpa using hn
  refine Ev.step (fun k => by rw [cY.l0]) (ab (by simp only [List.length_cons]; omega) ?_)
  rw [Ty]
  refine au _ (DR (by omega)) ?_
  rw [Gl g0]
  refine ax (by simp) (au _ (wB (by omega)) ?_)
  rw [Gi g0]
  show Ev _ ((⟨v⟩ : cT) :: r, true)
  refine Ev.step (fun k => by rw [cY.j1]) (ax (by decide) (ax (by decide) (Ev.now _)))
 | n + 1, v, r, h, hn, hr => by
  have hl := h.len
  have hne : gp v ≠ [] := fun e => by rw [e] at hn; simp at hn
  have f := AE h hne
  refine Ev.step (fun k => by rw [cY.l0]) (ab (by simp only [List.length_cons]; omega) ?_)
  rw [Ty]
  refine au _ (DR (by omega)) ?_
  unfold up
  by_cases b : (par v).2 = true
  · rw [if_pos b]
    obtain ⟨_, s, g⟩ := Gm h b
    have nx := Lu n (par v).1 (⟨v⟩ :: r) s (by rw [g, List.length_dropLast]; omega) (by simp only [List.length_cons]; omega)
    refine ab b (Ev.step (fun k => by rw [cY.j1]) (ax (by decide) (ab b ?_)))
    refine au _ (Ev.now _) (ab ?_ nx)
    simp only [List.length_cons, List.length_nil]; omega
  · rw [if_neg b]
    refine ax b (au _ (wB (by omega)) (Ev.step (fun k => by rw [cY.j1]) (ab (by rw [decide_eq_true_eq]; omega) (Ev.now _))))
theorem Lv : ∀ (n : Nat) (v : List Int) (r : List cT), SG v → (gp v).length = n → r.length + n ≤ 400 → Ev (fun k => eR.l0 k r.reverse v) (up n v r)
 | 0, v, r, h, hn, hr => by
  have hl := h.len
  have e : rf v = 0 := by unfold rf; rw [if_pos h, hn]; rfl
  refine Ev.step (fun k => by rw [eR.l0]) (au _ (DO (by omega)) ?_)
  rw [e]
  refine ax (by decide) (au () (Ev.now _) ?_)
  rw [List.reverse_reverse]
  show Ev _ (r, true)
  exact Ev.now _
 | n + 1, v, r, h, hn, hr => by
  have hl := h.len
  have e : rf v = n + 1 := by unfold rf; rw [if_pos h, hn]; rfl
  refine Ev.step (fun k => by rw [eR.l0]) (au _ (DO (by omega)) ?_)
  rw [e]
  refine ab (by omega) (au _ (DQ (by omega)) ?_)
  unfold up
  by_cases b : (par v).2 = true
  · rw [if_pos b]
    obtain ⟨_, s, g⟩ := Gm h b
    have nx := Lv n (par v).1 (⟨(par v).1⟩ :: r) s (by rw [g, List.length_dropLast]; omega) (by simp only [List.length_cons]; omega)
    rw [List.reverse_cons] at nx
    refine ab b (ab (by rw [List.length_reverse]; omega) nx)
  · rw [if_neg b]
    exact ax b (Ev.now _)
theorem Tz {v : List Int} (hv : v.length ≤ 1048576) : Ev (fun k => cY.f k v) (Cb v) := by
 unfold cY.f Cb
 refine au _ (sy (by omega)) ?_
 by_cases h : SG v
 · have g := pR v
   rw [if_pos h]
   refine ab (by simpa using h) ?_
   rw [copy_eq hv]
   simp only [Option.bind_some]
   exact Lu _ v [] h rfl (by simp only [List.length_nil]; omega)
 · rw [if_neg h]
   exact ax (by simpa using h) (Ev.now _)
theorem TA {v : List Int} (hv : v.length ≤ 1048576) : Ev (fun k => eR.f k v) (Cb v) := by
 unfold eR.f Cb
 refine au _ (ua (by omega)) ?_
 by_cases h : SG v
 · have g := pR v
   rw [if_pos h]
   refine ab (by simpa using h) ?_
   rw [Tx hv]
   simp only [Option.bind_some]
   exact Lv _ v [⟨v⟩] h rfl (by simp only [List.length_cons, List.length_nil]; omega)
 · rw [if_neg h]
   exact ax (by simpa using h) (Ev.now _)
theorem Gn : ∀ (n : Nat) (v : List Int) (out : List cT), (∀ s ∈ out, s.f0.length ≤ 400) → ∀ s ∈ (up n v out).1, s.f0.length ≤ 400
 | 0, _, _, h => h
 | n + 1, v, out, h => by
  unfold up
  split
  · refine Gn n _ _ (fun s hs => ?_)
    rcases List.mem_cons.1 hs with e | hs
    · rw [e]; exact Ls v
    · exact h s hs
  · intro s hs; cases hs
theorem TB : ∀ (n : Nat) (v : List Int) (out : List cT), (up n v out).1.length ≤ n + out.length
 | 0, _, out => by unfold up; show out.length ≤ 0 + out.length; omega
 | n + 1, v, out => by
  unfold up
  split
  · have := TB n (par v).1 (⟨(par v).1⟩ :: out)
    simp only [List.length_cons] at this; omega
  · simp
theorem M9 (v : List Int) : (Cb v).1.length ≤ 200 ∧ ∀ s ∈ (Cb v).1, s.f0.length ≤ 400 := by
 unfold Cb
 split
 · rename_i h
   have l := TB (gp v).length v [⟨v⟩]
   have g := pR v
   have := h.len
   refine ⟨by simp only [List.length_cons, List.length_nil] at l; omega, Gn _ _ _ (fun s hs => ?_)⟩
   rw [List.mem_singleton.1 hs]
   show v.length ≤ 400
   omega
 · exact ⟨by simp, fun s hs => by cases hs⟩
theorem DS {l : List Int} (hl : l.length ≤ 1099511627776) : Ev (fun k => cP.f k l l) true := by
 unfold cP.f
 exact au _ (en (Ge hl) (by simp)) (Ev.now _)
theorem XA {L : List cT} (hL : L.length ≤ 1099511627776) (hs : ∀ s ∈ L, s.f0.length ≤ 1099511627776) (d : Nat) : ∀ i : Nat, i + d = L.length → Ev (fun k => cm.l0 k L L (i : Int)) true := by
 induction d with
 | zero => intro i h; exact Ev.step (fun k => by rw [cm.l0]) (ax (by omega) (Ev.now _))
 | succ d ih =>
  intro i h
  have hi : i < L.length := by omega
  refine Ev.step (fun k => by rw [cm.l0]) (ab (by omega) (ab (by omega) (ab (by omega) ?_)))
  rw [vx hi]
  refine au _ (DS (hs _ (List.getElem_mem hi))) (ab rfl ?_)
  rw [iw (x := (i : Int) + 1) (by omega) (by omega)]
  exact ih (i + 1) (by omega)
theorem AG {L : List cT} (hL : L.length ≤ 1099511627776) (hs : ∀ s ∈ L, s.f0.length ≤ 1099511627776) : Ev (fun k => cm.f k L L) true := by
 unfold cm.f
 exact ab rfl (XA hL hs L.length 0 (by omega))
theorem TC {v : List Int} (hv : v.length ≤ 1099511627776) : Ev (fun k => iR.f k v) (rf v) := by
 unfold iR.f rf
 refine au _ (sy hv) ?_
 by_cases h : SG v
 · rw [if_pos h]
   exact ab (by simpa using h) (au _ (mV h) (Ev.now _))
 · rw [if_neg h]
   exact ax (by simpa using h) (Ev.now _)
end Go.Proofs.YtjodlkbhaofkkaaGreat.E
end
