-- Bundled by shake.py from this session's printed and written texts; Lean checks it.
import Derived.ChangeSlices
import Derived.SizedLaws
import Derived.Test.YtjjajcldmkmgkaaZFnGluedx1
import Derived.Test.YtjjajcldmkmgkaaZFnGluedx10
import Derived.Test.YtjjajcldmkmgkaaZFnGluedx11
import Derived.Test.YtjjajcldmkmgkaaZFnGluedx12
import Derived.Test.YtjjajcldmkmgkaaZFnGluedx13
import Derived.Test.YtjjajcldmkmgkaaZFnGluedx8
section
namespace Go.Proofs.Ytjjajcldmkmgkaa.E
open Go.RowKit Go.Proofs.YtjjajcldmkmgkaaW.PrintWords Go.Proofs.YtjjajcldmkmgkaaW.PrintLast Go.Proofs.YtjjajcldmkmgkaaW.PrintMore
set_option linter.unusedVariables false
set_option linter.unusedSimpArgs false
structure Mon (A : Int → Prop) : Prop where
 zero : A 0
 add : ∀ {a b : Int}, A a → A b → A (a + b)
 pos : ∀ {a : Int}, A a → 0 ≤ a
def Fro (A : Int → Prop) (f : Int) : Prop := ¬ A f ∧ ∀ n, f < n → A n
def Sym (A : Int → Prop) (f : Int) : Prop := ∀ n, A n ↔ ¬ A (f - n)
def Glu (A B : Int → Prop) (x y : Int) (n : Int) : Prop := ∃ p q, A p ∧ B q ∧ n = x * p + y * q
theorem Mon.times {A : Int → Prop} (h : Mon A) {a y : Int} (ha : A a) (hy : A y) (s : Nat) : A (a + y * s) := by
 induction s with
 | zero => simpa using ha
 | succ s ih =>
  have := h.add ih hy
  rwa [show a + y * (s : Int) + y = a + y * ((s + 1 : Nat) : Int) from by rw [Int.natCast_add, Int.mul_add]; omega] at this
theorem Fro.one {A : Int → Prop} {f g : Int} (h : Fro A f) (k : Fro A g) : f = g := by
 by_cases a : f < g
 · exact absurd (h.2 g a) k.1
 · by_cases b : g < f
   · exact absurd (k.2 f b) h.1
   · omega
theorem least_of {A : Int → Prop} (h : Mon A) {f y : Int} (hf : Fro A f) (hy : 1 ≤ y) (r : Int) : ∃ a, A a ∧ ¬ A (a - y) ∧ y ∣ a - r := by
 have q0 := Int.emod_nonneg r (b := y) (by omega)
 have q1 := Int.emod_lt_of_pos r (b := y) (by omega)
 have no : ¬ A (r % y - y) := fun k => by have := h.pos k; omega
 have dv : ∀ t : Nat, y ∣ r % y - y + y * t - r := fun t => by
  have e := Int.mul_ediv_add_emod r y
  refine ⟨(t : Int) - 1 - r / y, ?_⟩
  rw [Int.mul_sub, Int.mul_sub, Int.mul_one]
  omega
 have step : ∀ t : Nat, A (r % y - y + y * t) → ∃ a, A a ∧ ¬ A (a - y) ∧ y ∣ a - r := by
  intro t
  induction t with
  | zero => intro k; exact absurd (by simpa using k) no
  | succ t ih =>
   intro k
   by_cases c : A (r % y - y + y * t)
   · exact ih c
   · refine ⟨_, k, ?_, dv (t + 1)⟩
     rwa [show r % y - y + y * ((t + 1 : Nat) : Int) - y = r % y - y + y * t from by rw [Int.natCast_add, Int.mul_add]; omega]
 refine step (f + y + 1).toNat (hf.2 _ ?_)
 by_cases c : f + y + 1 ≤ 0
 · rw [show (f + y + 1).toNat = 0 from by omega]; simp; omega
 · have : ((f + y + 1).toNat : Int) = f + y + 1 := by omega
   rw [this]
   have := Int.mul_le_mul_of_nonneg_right hy (show 0 ≤ f + y + 1 by omega)
   omega
theorem glu_key {A B : Int → Prop} (hA : Mon A) (hB : Mon B) {x y r : Int} (hy : 1 ≤ y) (Ay : A y) (Bx : B x) (cp : y ∣ 1 - x * r) {a b : Int} (h1 : A a) (h2 : ¬ A (a - y)) : Glu A B x y (x * a + y * b) ↔ B b := by
 constructor
 · rintro ⟨p, q, hp, hq, e⟩
   have e1 : x * (p - a) = y * (b - q) := by rw [Int.mul_sub, Int.mul_sub]; omega
   have d : y ∣ p - a := by
    obtain ⟨c, hc⟩ := cp
    refine ⟨c * (p - a) + r * (b - q), ?_⟩
    have : (1 - x * r) * (p - a) = y * c * (p - a) := by rw [hc]
    rw [Int.sub_mul, Int.one_mul, Int.mul_comm x r, Int.mul_assoc r, e1] at this
    rw [Int.mul_add, ← Int.mul_assoc y c, ← this, Int.mul_left_comm y r]
    omega
   obtain ⟨s, hs⟩ := d
   have s0 : 0 ≤ s := by
    by_cases c : 0 ≤ s
    · exact c
    · exfalso
      have := hA.times hp Ay (-s - 1).toNat
      rw [show (((-s - 1).toNat : Nat) : Int) = -s - 1 from by omega, show p + y * (-s - 1) = a - y from by rw [Int.mul_sub, Int.mul_neg, Int.mul_one]; omega] at this
      exact h2 this
   have e2 : y * b = y * (q + x * s) := by
    rw [hs, Int.mul_left_comm x y s] at e1
    rw [Int.mul_sub] at e1
    rw [Int.mul_add]
    omega
   have e3 : b = q + x * s := Int.eq_of_mul_eq_mul_left (by omega) e2
   have := hB.times hq Bx s.toNat
   rwa [show ((s.toNat : Nat) : Int) = s from by omega, ← e3] at this
 · intro hb; exact ⟨a, b, h1, hb, rfl⟩
theorem glu_form {A : Int → Prop} (hA : Mon A) {f x y r : Int} (hf : Fro A f) (hy : 1 ≤ y) (cp : y ∣ 1 - x * r) (n : Int) : ∃ a b, A a ∧ ¬ A (a - y) ∧ n = x * a + y * b := by
 obtain ⟨a, a1, a2, c, hc⟩ := least_of hA hf hy (r * n)
 obtain ⟨d, hd⟩ := cp
 refine ⟨a, d * n - x * c, a1, a2, ?_⟩
 have e1 : x * (a - r * n) = x * (y * c) := by rw [hc]
 have e2 : (1 - x * r) * n = y * d * n := by rw [hd]
 rw [Int.mul_sub, ← Int.mul_assoc x r, Int.mul_left_comm x y c] at e1
 rw [Int.sub_mul, Int.one_mul, Int.mul_assoc y d] at e2
 rw [Int.mul_sub]
 omega
theorem fro_glu {A B : Int → Prop} (hA : Mon A) (hB : Mon B) {f g x y r : Int} (hy : 1 ≤ y) (hx : 1 ≤ x) (Ay : A y) (Bx : B x) (cp : y ∣ 1 - x * r) (hf : Fro A f) (hg : Fro B g) : Fro (Glu A B x y) (x * f + y * g + x * y) := by
 refine ⟨?_, fun n hn => ?_⟩
 · have k := glu_key hA hB (b := g) hy Ay Bx cp (hf.2 (f + y) (by omega)) (by rw [show f + y - y = f from by omega]; exact hf.1)
   rw [show x * f + y * g + x * y = x * (f + y) + y * g from by rw [Int.mul_add]; omega]
   exact fun q => hg.1 (k.1 q)
 · obtain ⟨a, b, a1, a2, e⟩ := glu_form hA hf hy cp n
   have le : a - y ≤ f := by
    by_cases c : a - y ≤ f
    · exact c
    · exact absurd (hf.2 _ (by omega)) a2
   have le2 : x * a ≤ x * (f + y) := Int.mul_le_mul_of_nonneg_left (by omega) (by omega)
   rw [Int.mul_add] at le2
   have lt : y * g < y * b := by omega
   have : g < b := Int.lt_of_mul_lt_mul_left lt (by omega)
   rw [e]
   exact ⟨a, b, a1, hg.2 b this, rfl⟩
theorem glu_swap {A B : Int → Prop} {x y n : Int} : Glu A B x y n ↔ Glu B A y x n := by
 constructor
 · rintro ⟨p, q, hp, hq, e⟩; exact ⟨q, p, hq, hp, by omega⟩
 · rintro ⟨p, q, hp, hq, e⟩; exact ⟨q, p, hq, hp, by omega⟩
theorem sym_half {A B : Int → Prop} (hA : Mon A) (hB : Mon B) {f g x y r : Int} (hy : 1 ≤ y) (Ay : A y) (Bx : B x) (cp : y ∣ 1 - x * r) (hf : Fro A f) (h : Sym (Glu A B x y) (x * f + y * g + x * y)) : Sym B g := by
 intro b
 have k1 := glu_key hA hB (b := b) hy Ay Bx cp hA.zero (fun k => by have := hA.pos k; omega)
 have k2 := glu_key hA hB (b := g - b) hy Ay Bx cp (hf.2 (f + y) (by omega)) (by rw [show f + y - y = f from by omega]; exact hf.1)
 have := h (x * 0 + y * b)
 rw [show x * f + y * g + x * y - (x * 0 + y * b) = x * (f + y) + y * (g - b) from by rw [Int.mul_add, Int.mul_sub, Int.mul_zero]; omega, k1, k2] at this
 exact this
theorem sym_glu {A B : Int → Prop} (hA : Mon A) (hB : Mon B) {f g x y r : Int} (hy : 1 ≤ y) (hx : 1 ≤ x) (Ay : A y) (Bx : B x) (cp : y ∣ 1 - x * r) (hf : Fro A f) (hg : Fro B g) : Sym (Glu A B x y) (x * f + y * g + x * y) ↔ Sym A f ∧ Sym B g := by
 constructor
 · intro h
   refine ⟨?_, sym_half hA hB hy Ay Bx cp hf h⟩
   obtain ⟨s, hs⟩ := cp
   have cp' : x ∣ 1 - y * s := ⟨r, by omega⟩
   refine sym_half hB hA (g := f) hx Bx Ay cp' hg ?_
   intro n
   have := h n
   rw [glu_swap, glu_swap (n := x * f + y * g + x * y - n)] at this
   rwa [show y * g + x * f + y * x - n = x * f + y * g + x * y - n from by rw [Int.mul_comm y x]; omega]
 · rintro ⟨h1, h2⟩ n
   obtain ⟨a, b, a1, a2, e⟩ := glu_form hA hf hy cp n
   have b1 : A (f + y - a) := by
    have := h1 (a - y)
    rw [show f - (a - y) = f + y - a from by omega] at this
    exact Classical.byContradiction fun q => a2 (this.2 q)
   have b2 : ¬ A (f + y - a - y) := by
    have := (h1 a).1 a1
    rwa [show f + y - a - y = f - a from by omega]
   have k1 := glu_key hA hB (b := b) hy Ay Bx cp a1 a2
   have k2 := glu_key hA hB (b := g - b) hy Ay Bx cp b1 b2
   rw [e, show x * f + y * g + x * y - (x * a + y * b) = x * (f + y - a) + y * (g - b) from by rw [Int.mul_sub, Int.mul_add, Int.mul_sub]; omega, k1, k2]
   exact h2 b
theorem mon_su {v : List Int} (h : ∀ x ∈ v, 1 ≤ x) : Mon (Su v) := ⟨Su.zero v, fun a b => a.add b, fun a => a.pos h⟩
theorem fro_su {v : List Int} (h : SG v) : Fro (Su v) (fob v) := by
 have f := cd_fact h
 unfold cd at f
 exact ⟨by have := f.2.2.2.2; rwa [show fob v + 1 - 1 = fob v from by omega] at this, fun n hn => f.2.2.2.1 n (by omega)⟩
theorem su_both {u v : List Int} {n : Int} : Su (u ++ v) n ↔ ∃ p q, Su u p ∧ Su v q ∧ n = p + q := by
 constructor
 · rintro ⟨c, w⟩
   induction w with
   | zero => exact ⟨0, 0, Su.zero u, Su.zero v, rfl⟩
   | @add x k c hx _ ih =>
    obtain ⟨p, q, hp, hq, e⟩ := ih
    rcases List.mem_append.1 hx with m | m
    · exact ⟨p + x, q, hp.add (Su.mem m), hq, by omega⟩
    · exact ⟨p, q + x, hp, hq.add (Su.mem m), by omega⟩
 · rintro ⟨p, q, hp, hq, rfl⟩
   exact (hp.mono fun x hx => List.mem_append_left _ hx).add (hq.mono fun x hx => List.mem_append_right _ hx)
theorem su_tms {v : List Int} {x n : Int} : Su (tms v x) n ↔ ∃ p, Su v p ∧ n = x * p := by
 constructor
 · rintro ⟨c, w⟩
   induction w with
   | zero => exact ⟨0, Su.zero v, by simp⟩
   | @add y k c hy _ ih =>
    obtain ⟨p, hp, e⟩ := ih
    unfold tms at hy
    obtain ⟨z, hz, rfl⟩ := List.mem_map.1 hy
    exact ⟨p + z, hp.add (Su.mem hz), by rw [Int.mul_add, Int.mul_comm z x]; omega⟩
 · rintro ⟨p, ⟨c, w⟩, rfl⟩
   induction w with
   | zero => simpa using Su.zero (tms v x)
   | @add y k c hy _ ih =>
    have := ih.add (Su.mem (v := tms v x) (x := y * x) (List.mem_map.2 ⟨y, hy, rfl⟩))
    rwa [show x * k + y * x = x * (k + y) from by rw [Int.mul_add, Int.mul_comm y x]] at this
theorem su_glu {a b : List Int} {x y n : Int} : Su (tms a x ++ tms b y) n ↔ Glu (Su a) (Su b) x y n := by
 rw [su_both]
 constructor
 · rintro ⟨p, q, hp, hq, rfl⟩
   obtain ⟨p', h1, rfl⟩ := su_tms.1 hp
   obtain ⟨q', h2, rfl⟩ := su_tms.1 hq
   exact ⟨p', q', h1, h2, rfl⟩
 · rintro ⟨p, q, hp, hq, rfl⟩
   exact ⟨_, _, su_tms.2 ⟨p, hp, rfl⟩, su_tms.2 ⟨q, hq, rfl⟩, rfl⟩
theorem bez_of {x y : Int} (hx : 1 ≤ x ∧ x ≤ 60) (hy : 1 ≤ y ∧ y ≤ 60) (g : gcdOf x y = 1) : ∃ r, y ∣ 1 - x * r := by
 have gl1 : gl [x, y] = 1 := by
  have e : gcdOf 0 x = x := by
   unfold gcdOf
   rw [if_pos ⟨⟨by omega, by omega⟩, by omega, by omega⟩, Int.gcd_zero_left]
   omega
  show gcdOf (gcdOf 0 x) y = 1
  rw [e]; exact g
 obtain ⟨n, hn, e⟩ := all_classes (v := [x, y]) (a := y) hy.1 (by intro z hz; simp only [List.mem_cons, List.not_mem_nil, or_false] at hz; rcases hz with rfl | rfl <;> assumption) gl1 1
 obtain ⟨p, q, hp, hq, e2⟩ := (su_both (u := [x]) (v := [y])).1 hn
 have one : ∀ {z m : Int}, Su [z] m → ∃ k, m = z * k := fun {z m} h => by
  obtain ⟨c, w⟩ := h
  induction w with
  | zero => exact ⟨0, by simp⟩
  | @add t k c ht _ ih =>
   obtain ⟨s, hs⟩ := ih
   rw [List.mem_singleton] at ht
   exact ⟨s + 1, by rw [Int.mul_add, Int.mul_one]; omega⟩
 obtain ⟨i, hi⟩ := one hp
 obtain ⟨j, hj⟩ := one hq
 have d : y ∣ n - 1 := Int.dvd_of_emod_eq_zero (by rw [Int.sub_emod, e]; simp)
 obtain ⟨c, hc⟩ := d
 exact ⟨i, j - c, by rw [Int.mul_sub]; omega⟩
theorem glue_fact {a b : List Int} {x y : Int} (h : GlueC a b x y) (f : FN (tms a x ++ tms b y)) : fob (mns (tms a x ++ tms b y)) = x * fob a + y * fob b + x * y ∧ (Sym (Su (mns (tms a x ++ tms b y))) (fob (mns (tms a x ++ tms b y))) ↔ Sym (Su a) (fob a) ∧ Sym (Su b) (fob b)) := by
 obtain ⟨h1, h2, _, _, h5, h6, h7⟩ := h
 have sb := h1.2.1
 have sa := h2.2.1
 obtain ⟨r, cp⟩ := bez_of h5 h6 h7
 have same : ∀ n, Su (mns (tms a x ++ tms b y)) n ↔ Glu (Su a) (Su b) x y n := fun n => by rw [mns_su, su_glu]
 have F := fro_glu (mon_su sa.pos) (mon_su sb.pos) h6.1 h5.1 h2.2.2 h1.2.2 cp (fro_su sa) (fro_su sb)
 have F' : Fro (Su (mns (tms a x ++ tms b y))) (x * fob a + y * fob b + x * y) := ⟨fun k => F.1 ((same _).1 k), fun n hn => (same n).2 (F.2 n hn)⟩
 have e := (fro_su f.2).one F'
 refine ⟨e, ?_⟩
 rw [e, ← sym_glu (mon_su sa.pos) (mon_su sb.pos) h6.1 h5.1 h2.2.2 h1.2.2 cp (fro_su sa) (fro_su sb)]
 unfold Sym
 exact ⟨fun k n => by have := k n; rwa [same, same] at this, fun k n => by rw [same, same]; exact k n⟩
end Go.Proofs.Ytjjajcldmkmgkaa.E
end
section
namespace Go.Proofs.Ytjjajcldmkmgkaa.E
open Go.RowKit Go.Proofs.Ytjjajcldmkmgkaa.PA Go.Proofs.YtjjajcldmkmgkaaW.PrintWords Go.Proofs.YtjjajcldmkmgkaaW.PrintLast Go.Proofs.YtjjajcldmkmgkaaW.PrintMore
set_option linter.unusedVariables false
set_option linter.unusedSimpArgs false
noncomputable def mir (v : List Int) (f but x : Int) : Bool := @decide (∀ y, x ≤ y → y ≤ f → y ≠ but → ¬ (Su v y ↔ Su v (f - y))) (Classical.propDecidable _)
theorem mir_t {v : List Int} {f but x : Int} : mir v f but x = true ↔ ∀ y, x ≤ y → y ≤ f → y ≠ but → ¬ (Su v y ↔ Su v (f - y)) := by unfold mir; exact @decide_eq_true_iff _ (Classical.propDecidable _)
theorem mir_end {v : List Int} {f but x : Int} (h : f < x) : true = mir v f but x := (mir_t.2 fun y h1 h2 _ => by omega).symm
theorem mir_skip {v : List Int} {f but x : Int} (h : x = but) : mir v f but (x + 1) = mir v f but x := by
 rw [Bool.eq_iff_iff, mir_t, mir_t]
 exact ⟨fun k y h1 h2 h3 => k y (by omega) h2 h3, fun k y h1 h2 h3 => k y (by omega) h2 h3⟩
theorem mir_no {v : List Int} {f but x : Int} (hx : x ≤ f) (h : x ≠ but) (e : Su v x ↔ Su v (f - x)) : false = mir v f but x := by
 symm
 rw [Bool.eq_false_iff]
 exact fun k => mir_t.1 k x (Int.le_refl _) hx h e
theorem mir_yes {v : List Int} {f but x : Int} (e : ¬ (Su v x ↔ Su v (f - x))) : mir v f but (x + 1) = mir v f but x := by
 rw [Bool.eq_iff_iff, mir_t, mir_t]
 refine ⟨fun k y h1 h2 h3 => ?_, fun k y h1 h2 h3 => k y (by omega) h2 h3⟩
 by_cases c : y = x
 · subst c; exact e
 · exact k y (by omega) h2 h3
theorem same_su {v : List Int} {a b : Int} : ((decide (Su v a) == decide (Su v b)) = true) ↔ (Su v a ↔ Su v b) := by rw [beq_iff_eq, decide_eq_decide]
theorem has3_ev {v : List Int} (h : SG v) (a : Int) : Ev (fun k => spec_l3Has.f k v a) (decide (Su v a)) := by
 unfold spec_l3Has.f
 by_cases h0 : a < 0
 · refine ev_ifp h0 (ev_to (Ev.now _) ?_)
   rw [decide_eq_decide]
   exact ⟨fun k => by omega, fun k => by have := k.pos h.pos; omega⟩
 refine ev_ifn h0 ?_
 by_cases h2 : a ≥ 200
 · refine ev_ifp h2 (ev_to (Ev.now _) ?_)
   rw [decide_eq_decide]
   exact ⟨fun _ => h.ends a h2, fun _ => by omega⟩
 have sl := stab_len (v := v) (m := a) (by omega)
 exact ev_ifn h2 (ev_bind _ (h.sutabS (by omega) (by omega)) (ev_ifp (by omega) (ev_ifp (by omega) (ev_to (Ev.now _) (stab_rd (by omega) (Int.le_refl _))))))
theorem mirror_l {v : List Int} (h : SG v) {f but : Int} {m : Bool} (hf : f ≤ 199) (hm : ∀ y, 0 ≤ y → y ≤ f → (y = but ↔ m = true ∧ 2 * y = f)) (d : Nat) : ∀ x : Int, 0 ≤ x → x + d = f + 1 → Ev (fun k => spec_l9Mirror.l0 k m f x v) (mir v f but x) := by
 induction d with
 | zero =>
  intro x h0 h1
  exact Ev.step (fun k => by rw [spec_l9Mirror.l0]) (ev_ifn (by omega) (ev_to (Ev.now _) (mir_end (by omega))))
 | succ d ih =>
  intro x h0 h1
  have hj : ∀ b : Bool, (b = true ↔ x = but) → Ev (fun k => spec_l9Mirror.j1 k m f x b v) (mir v f but x) := fun b hb => by
   refine Ev.step (fun k => by rw [spec_l9Mirror.j1]) ?_
   rw [w64 (x := x + 1) (by omega) (by omega), w64 (x := f - x) (by omega) (by omega)]
   by_cases c : x = but
   · exact ev_ifp (hb.2 c) (ev_to (ih (x + 1) (by omega) (by omega)) (mir_skip c))
   · refine ev_ifn (fun k => c (hb.1 k)) (ev_bind _ (has3_ev h x) (ev_bind _ (has3_ev h (f - x)) ?_))
     by_cases e : (Su v x ↔ Su v (f - x))
     · exact ev_ifp (same_su.2 e) (ev_to (Ev.now _) (mir_no (by omega) c e))
     · exact ev_ifn (fun k => e (same_su.1 k)) (ev_to (ih (x + 1) (by omega) (by omega)) (mir_yes e))
  refine Ev.step (fun k => by rw [spec_l9Mirror.l0]) (ev_ifp (by omega) ?_)
  have q := hm x h0 (by omega)
  cases m with
  | true => exact ev_ifp rfl (hj _ (by rw [w64 (by omega) (by omega), beq_iff_eq, q]; simp))
  | false => exact ev_ifn (by simp) (hj _ (by rw [q]; simp))
theorem mirror_ev {v : List Int} (h : SG v) {but : Int} {m : Bool} (hm : ∀ y, 0 ≤ y → y ≤ fob v → (y = but ↔ m = true ∧ 2 * y = fob v)) : Ev (fun k => spec_l9Mirror.f k v m) (mir v (fob v) but 0) := by
 have fs := fob_small v
 have l := h.len
 unfold spec_l9Mirror.f
 exact ev_bind _ (frS_ev (by omega)) (mirror_l h fs.2 hm (fob v + 1).toNat 0 (by omega) (by omega))
theorem symS_ev {v : List Int} (h : SG v) : Ev (fun k => spec_IsSymmetric.f k v) (mir v (fob v) (-1) 0) := by
 have l := h.len
 unfold spec_IsSymmetric.f
 exact ev_bind _ (sgS_ev (by omega)) (ev_ifp (by simpa using h) (ev_bind _ (mirror_ev h fun y h0 h1 => ⟨fun e => by omega, fun e => by simp at e⟩) (Ev.now _)))
end Go.Proofs.Ytjjajcldmkmgkaa.E
end
section
namespace Go.Proofs.Ytjjajcldmkmgkaa.E
open Go.RowKit Go.Proofs.YtjjajcldmkmgkaaW.PrintWords Go.Proofs.YtjjajcldmkmgkaaW.PrintLast Go.Proofs.YtjjajcldmkmgkaaW.PrintMore
set_option linter.unusedVariables false
set_option linter.unusedSimpArgs false
def over (l : List Int) (g : Int) : List Int := l.map (fun x => Int.tdiv x g)
theorem gcd_quot {D z : Int} (hD : 1 ≤ D ∧ D ≤ 60) (hz : 1 ≤ z ∧ z ≤ 60) : ∃ e m, (1 ≤ e ∧ e ≤ 60) ∧ (1 ≤ m ∧ m ≤ 60) ∧ D = gcdOf D z * e ∧ z = gcdOf D z * m ∧ gcdOf e m = 1 := by
 obtain ⟨g1, g2, ⟨e, he⟩, ⟨m, hm⟩⟩ := gcdOf_small (a := D) (x := z) (by omega) hD.2 hz
 have up : ∀ {a t : Int}, (1 ≤ a ∧ a ≤ 60) → a = gcdOf D z * t → 1 ≤ t ∧ t ≤ 60 := fun {a t} ha e => by
  have t1 : 1 ≤ t := by
   by_cases c : 1 ≤ t
   · exact c
   · exfalso
     have := Int.mul_le_mul_of_nonneg_left (show t ≤ 0 by omega) (show 0 ≤ gcdOf D z by omega)
     omega
  have := Int.mul_le_mul_of_nonneg_right g1 (show 0 ≤ t by omega)
  omega
 have he' := up hD he
 have hm' := up hz hm
 refine ⟨e, m, he', hm', he, hm, ?_⟩
 have q : gcdOf D z = (Int.gcd D z : Int) := by unfold gcdOf; rw [if_pos ⟨⟨by omega, by omega⟩, by omega, by omega⟩]
 have q2 : gcdOf e m = (Int.gcd e m : Int) := by unfold gcdOf; rw [if_pos ⟨⟨by omega, by omega⟩, by omega, by omega⟩]
 have k := Int.gcd_mul_left (gcdOf D z) e m
 rw [← he, ← hm] at k
 have k2 : (Int.gcd D z : Int) = gcdOf D z * (Int.gcd e m : Int) := by
  have := congrArg (fun n : Nat => (n : Int)) k
  simp only [Int.natCast_mul] at this
  rw [this]
  congr 1
  omega
 rw [← q] at k2
 have : gcdOf D z * 1 = gcdOf D z * (Int.gcd e m : Int) := by omega
 rw [q2]
 exact (Int.eq_of_mul_eq_mul_left (by omega) this).symm
theorem su_one {n : Int} : Su [1] n ↔ 0 ≤ n := by
 constructor
 · intro h; exact h.pos (by simp)
 · intro h
   have := (Su.mem (v := [1]) (x := 1) (by simp)).times n.toNat
   rwa [show ((n.toNat : Nat) : Int) * 1 = n from by omega] at this
theorem over_app (l : List Int) (z g : Int) : over (l ++ [z]) g = over l g ++ [Int.tdiv z g] := by unfold over; rw [List.map_append]; rfl
theorem over_tms {l : List Int} {d e : Int} (hd : 1 ≤ d) (he : 1 ≤ e) (h : ∀ x ∈ l, d * e ∣ x) : over l d = tms (over l (d * e)) e := by
 unfold over tms
 rw [List.map_map]
 refine List.map_congr_left fun x hx => ?_
 obtain ⟨t, ht⟩ := h x hx
 have de : d * e ≠ 0 := by
  have := Int.mul_le_mul_of_nonneg_left he (show 0 ≤ d by omega)
  omega
 show Int.tdiv x d = Int.tdiv x (d * e) * e
 rw [ht, Int.mul_tdiv_cancel_left _ de, Int.mul_assoc, Int.mul_tdiv_cancel_left _ (by omega), Int.mul_comm]
def tl (v : List Int) : Nat → Int
 | 0 => 0
 | 1 => -rd v 0
 | i + 2 => tl v (i + 1) + Int.tdiv (rd v ((i + 1 : Nat) : Int) * gl (v.take (i + 1))) (gl (v.take (i + 2))) - rd v ((i + 1 : Nat) : Int)
theorem tel_fro {v : List Int} (hv : ∀ x ∈ v, 1 ≤ x ∧ x ≤ 60) (ht : ∀ k : Nat, 1 ≤ k → k < v.length → Su (over (v.take k) (gl (v.take k))) (Int.tdiv (rd v (k : Int)) (gl (v.take (k + 1))))) (i : Nat) : i + 1 ≤ v.length → ∃ F, Fro (Su (over (v.take (i + 1)) (gl (v.take (i + 1))))) F ∧ Sym (Su (over (v.take (i + 1)) (gl (v.take (i + 1))))) F ∧ gl (v.take (i + 1)) * F = tl v (i + 1) := by
 induction i with
 | zero =>
  intro hi
  have z := hv _ (rd_mem (l := v) (i := 0) (by omega) (by omega))
  have t := take_rd (l := v) (i := 0) (by omega) (by omega)
  rw [show ((0 : Int) + 1).toNat = 0 + 1 from rfl, show (0 : Int).toNat = 0 from rfl, List.take_zero, List.nil_append] at t
  have g : gl [rd v 0] = rd v 0 := by
   show gcdOf 0 (rd v 0) = rd v 0
   unfold gcdOf
   rw [if_pos ⟨⟨by omega, by omega⟩, by omega, by omega⟩, Int.gcd_zero_left]
   omega
  have o : over [rd v 0] (rd v 0) = [1] := by
   show [Int.tdiv (rd v 0) (rd v 0)] = [1]
   rw [Int.tdiv_self (by omega)]
  rw [t, g, o]
  refine ⟨-1, ⟨fun k => by rw [su_one] at k; omega, fun n hn => su_one.2 (by omega)⟩, fun n => ?_, ?_⟩
  · rw [su_one, su_one]; omega
  · show rd v 0 * -1 = -rd v 0
    omega
 | succ i ih =>
  intro hi
  obtain ⟨F, f1, f2, f3⟩ := ih (by omega)
  have z := hv _ (rd_mem (l := v) (i := ((i + 1 : Nat) : Int)) (by omega) (by omega))
  have t := take_rd (l := v) (i := ((i + 1 : Nat) : Int)) (by omega) (by omega)
  rw [show (((i + 1 : Nat) : Int) + 1).toNat = i + 1 + 1 from by omega, show ((i + 1 : Nat) : Int).toNat = i + 1 from by omega] at t
  have vt : ∀ x ∈ v.take (i + 1), 1 ≤ x ∧ x ≤ 60 := take_ul hv _
  have D := gl_pos vt (fun k => by have := congrArg List.length k; rw [List.length_take, List.length_nil] at this; omega)
  have dv := gl_dvd vt
  have gs : gl (v.take (i + 1 + 1)) = gcdOf (gl (v.take (i + 1))) (rd v ((i + 1 : Nat) : Int)) := by
   rw [t]; unfold gl; rw [List.foldl_append]; rfl
  obtain ⟨e, m, he, hm, e1, e2, e3⟩ := gcd_quot D z
  have g0 := gcdOf_small (a := gl (v.take (i + 1))) (x := rd v ((i + 1 : Nat) : Int)) (by omega) D.2 z
  have hs := ht (i + 1) (by omega) (by omega)
  rw [gs] at hs ⊢
  generalize hd : gcdOf (gl (v.take (i + 1))) (rd v ((i + 1 : Nat) : Int)) = d at *
  have q : Int.tdiv (rd v ((i + 1 : Nat) : Int)) d = m := by
   rw [e2]; exact Int.mul_tdiv_cancel_left _ (by omega)
  rw [q] at hs
  have ov : over (v.take (i + 1 + 1)) d = tms (over (v.take (i + 1)) (gl (v.take (i + 1)))) e ++ tms [1] m := by
   rw [t, over_app, q, over_tms (d := d) (e := e) g0.1 he.1 (fun x hx => by rw [← e1]; exact dv x hx), ← e1]
   congr 1
   show [m] = [1 * m]
   rw [Int.one_mul]
  obtain ⟨r, cp⟩ := bez_of he hm e3
  have px : ∀ x ∈ over (v.take (i + 1)) (gl (v.take (i + 1))), 1 ≤ x := fun x hx => by
   unfold over at hx
   obtain ⟨y, hy, rfl⟩ := List.mem_map.1 hx
   have y1 := vt y hy
   obtain ⟨s, hs'⟩ := dv y hy
   rw [hs', Int.mul_tdiv_cancel_left _ (by omega)]
   by_cases c : 1 ≤ s
   · exact c
   · exfalso
     have := Int.mul_le_mul_of_nonneg_left (show s ≤ 0 by omega) (show 0 ≤ gl (v.take (i + 1)) by omega)
     omega
  have one : Fro (Su [1]) (-1) := ⟨fun k => by rw [su_one] at k; omega, fun n hn => su_one.2 (by omega)⟩
  have sone : Sym (Su [1]) (-1) := fun n => by rw [su_one, su_one]; omega
  have fg := fro_glu (mon_su px) (mon_su (v := [1]) (by simp)) hm.1 he.1 hs (su_one.2 (by omega)) cp f1 one
  have sg := (sym_glu (mon_su px) (mon_su (v := [1]) (by simp)) hm.1 he.1 hs (su_one.2 (by omega)) cp f1 one).2 ⟨f2, sone⟩
  rw [ov]
  have same : ∀ n, Su (tms (over (v.take (i + 1)) (gl (v.take (i + 1)))) e ++ tms [1] m) n ↔ Glu (Su (over (v.take (i + 1)) (gl (v.take (i + 1))))) (Su [1]) e m n := fun n => su_glu
  refine ⟨e * F + m * -1 + e * m, ⟨fun k => fg.1 ((same _).1 k), fun n hn => (same n).2 (fg.2 n hn)⟩, fun n => ?_, ?_⟩
  · rw [same, same]; exact sg n
  · show d * (e * F + m * -1 + e * m) = tl v (i + 1) + Int.tdiv (rd v ((i + 1 : Nat) : Int) * gl (v.take (i + 1))) (gl (v.take (i + 2))) - rd v ((i + 1 : Nat) : Int)
    have w : Int.tdiv (rd v ((i + 1 : Nat) : Int) * gl (v.take (i + 1))) (gl (v.take (i + 2))) = m * gl (v.take (i + 1)) := by
     rw [show i + 2 = i + 1 + 1 from rfl, gs, e2, Int.mul_assoc]
     exact Int.mul_tdiv_cancel_left _ (by omega)
    have c1 : d * (m * -1) = -(d * m) := by rw [Int.mul_neg, Int.mul_one, Int.mul_neg]
    have c2 : m * gl (v.take (i + 1)) = gl (v.take (i + 1)) * m := Int.mul_comm _ _
    rw [w, ← f3, e2, Int.mul_add, Int.mul_add, ← Int.mul_assoc d e F, ← e1, ← Int.mul_assoc d e m, ← e1, c1, c2]
    omega
theorem over_one (v : List Int) : over v 1 = v := by
 unfold over
 rw [show (fun x : Int => Int.tdiv x 1) = id from funext fun x => Int.tdiv_one x, List.map_id]
theorem tel_end {v : List Int} (hv : ∀ x ∈ v, 1 ≤ x ∧ x ≤ 60) (hn : v ≠ []) (hg : gl v = 1) (ht : ∀ k : Nat, 1 ≤ k → k < v.length → Su (over (v.take k) (gl (v.take k))) (Int.tdiv (rd v (k : Int)) (gl (v.take (k + 1))))) : Fro (Su v) (tl v v.length) ∧ Sym (Su v) (tl v v.length) := by
 have l := List.length_pos_iff.2 hn
 obtain ⟨F, f1, f2, f3⟩ := tel_fro hv ht (v.length - 1) (by omega)
 rw [show v.length - 1 + 1 = v.length from by omega, List.take_length, hg] at f1 f2 f3
 rw [over_one] at f1 f2
 rw [Int.one_mul] at f3
 rw [← f3]
 exact ⟨f1, f2⟩
theorem sum_nonneg : ∀ {r : List Int}, (∀ x ∈ r, 0 ≤ x) → 0 ≤ r.sum
 | [], _ => by simp
 | a :: r, h => by
  have h1 := sum_nonneg (r := r) (fun x hx => h x (by simp [hx]))
  have h2 := h a (by simp)
  simp only [List.sum_cons]; omega
theorem sum_bound {B : Int} (hB : 0 ≤ B) : ∀ {l : List Int}, (∀ x ∈ l, -B ≤ x ∧ x ≤ B) → -(l.length * B) ≤ l.sum ∧ l.sum ≤ l.length * B
 | [], _ => by simp
 | a :: l, h => by
  have h1 := sum_bound hB (l := l) (fun x hx => h x (by simp [hx]))
  have h2 := h a (by simp)
  have e : (((a :: l).length : Nat) : Int) * B = l.length * B + B := by rw [List.length_cons, show ((l.length + 1 : Nat) : Int) = l.length + 1 from by omega, Int.add_mul]; omega
  rw [e, List.sum_cons]
  omega
end Go.Proofs.Ytjjajcldmkmgkaa.E
end
section
namespace Go.Proofs.Ytjjajcldmkmgkaa.E
open Go.RowKit Go.Proofs.Ytjjajcldmkmgkaa.PA Go.Proofs.YtjjajcldmkmgkaaW.PrintWords Go.Proofs.YtjjajcldmkmgkaaW.PrintLast Go.Proofs.YtjjajcldmkmgkaaW.PrintMore
set_option linter.unusedVariables false
set_option linter.unusedSimpArgs false
theorem genS_ev {v : List Int} (n : Int) (hl : v.length ≤ 1099511627776) : Ev (fun k => spec_Generates.f k v n) (decide (Gen v n)) := by
 unfold spec_Generates.f
 simp only [l1In_eq, Option.bind_some]
 by_cases hu : UL v
 · by_cases hn : 0 ≤ n ∧ n ≤ 1000000
   · obtain ⟨f1, f2, f3⟩ := hu.first
     have hlen := hu.1
     have hg := gl_pos hu.2 hu.ne
     refine ev_bind _ (gensS_ev hl) (ev_ifp (by simpa using hu) ?_)
     refine Ev.step (fun k => by rw [spec_Generates.j0]) ?_
     refine ev_ifn (nd_f hn) (ev_bind _ (gcdListS_ev hl) (ev_ifn (by omega) ?_))
     rw [Int.tmod_eq_emod_of_nonneg hn.1]
     by_cases hd : n % gl v = 0
     · by_cases hf : n > 3600
       · have q0 := Int.emod_nonneg (n - 3600) (b := rd v 0) (by omega)
         have q1 := Int.emod_lt_of_pos (n - 3600) (b := rd v 0) (by omega)
         obtain ⟨u, hL, _⟩ := leasts_ev (G := 60) (a := rd v 0) hu.2 (by omega) (by omega) f2 (by omega) (by omega)
         rw [w64 (x := n - 3600) (by omega) (by omega), Int.tmod_eq_emod_of_nonneg (by omega), w64 (x := 3600 + (n - 3600) % rd v 0) (by omega) (by omega)]
         obtain ⟨t, t1, t2, hE⟩ := tabS_ev (v := v) (by omega) hu.2 (most := 3600 + (n - 3600) % rd v 0) (by omega) (by omega)
         refine ev_ifp hd (ev_ifp hf (ev_ifp (by omega) (ev_ifn (by omega) (ev_bind _ hE (ev_ifp (by omega) (ev_ifp (by omega) (ev_to (Ev.now _) ?_)))))))
         have e : n % rd v 0 = (3600 + (n - 3600) % rd v 0) % rd v 0 := by
          rw [Int.add_emod_emod]; congr 1; omega
         have ht := t2 (3600 + (n - 3600) % rd v 0) (by omega) (Int.le_refl _)
         have hle : 3600 + (n - 3600) % rd v 0 ≤ n := by
          have := emod_le_self (n := n - 3600) (x := rd v 0) (by omega) (by omega); omega
         rw [Bool.eq_iff_iff, ht, decide_eq_true_eq]
         exact ⟨fun h => ⟨hu, hn, Su.up f2 (Su.mem f1) h hle e.symm⟩, fun h => hL.far f2 (by omega) (Su.mem f1) h.2.2 (by omega) e⟩
       · obtain ⟨t, t1, t2, hE⟩ := tabS_ev (v := v) (by omega) hu.2 (most := n) hn.1 (by omega)
         refine ev_ifp hd (ev_ifn hf (ev_bind _ hE (ev_ifp hn.1 (ev_ifp (by omega) (ev_to (Ev.now _) ?_)))))
         rw [Bool.eq_iff_iff, t2 n hn.1 (Int.le_refl _), decide_eq_true_eq]
         exact ⟨fun h => ⟨hu, hn, h⟩, fun h => h.2.2⟩
     · exact ev_ifn hd (ev_to (Ev.now _) (decide_eq_false (fun h => hd (Int.emod_eq_zero_of_dvd (h.2.2.dvd (gl_dvd hu.2))))).symm)
   · refine ev_bind _ (gensS_ev hl) (ev_ifp (by simpa using hu) ?_)
     refine Ev.step (fun k => by rw [spec_Generates.j0]) ?_
     exact ev_ifp (nd_t hn) (ev_to (Ev.now _) (decide_eq_false (fun h => hn h.2.1)).symm)
 · refine ev_bind _ (gensS_ev hl) (ev_ifn (by simpa using hu) ?_)
   refine Ev.step (fun k => by rw [spec_Generates.j0]) ?_
   exact ev_ifp rfl (ev_to (Ev.now _) (decide_eq_false (fun h => hu h.1)).symm)
theorem total_l {l : List Int} (hl : l.length ≤ 1048576) (hb : ∀ x ∈ l, -1099511627776 ≤ x ∧ x ≤ 1099511627776) (d : Nat) : ∀ i : Int, 0 ≤ i → i + d = l.length → Ev (fun k => impl_total.l0 k (l.take i.toNat).sum l l.length i) l.sum := by
 induction d with
 | zero =>
  intro i h0 h1
  refine Ev.step (fun k => by rw [impl_total.l0]) ?_
  rw [List.take_of_length_le (by omega)]
  exact ev_ifn (by omega) (Ev.now _)
 | succ d ih =>
  intro i h0 h1
  have b := sum_bound (l := l.take i.toNat) (B := 1099511627776) (by omega) (fun x hx => hb x (List.mem_of_mem_take hx))
  have c := hb _ (rd_mem (l := l) h0 (by omega))
  have hlen : ((l.take i.toNat).length : Int) ≤ 1048576 := by rw [List.length_take]; omega
  have := ih (i + 1) (by omega) (by omega)
  rw [take_rd h0 (by omega), List.sum_append] at this
  refine Ev.step (fun k => by rw [impl_total.l0]) ?_
  rw [w64 (x := (l.take i.toNat).sum + rd l i) (by omega) (by omega), w64 (x := i + 1) (by omega) (by omega)]
  refine ev_ifp (by omega) (ev_ifp h0 (ev_ifp (by omega) ?_))
  simpa using this
theorem total_ev {l : List Int} (hl : l.length ≤ 1048576) (hb : ∀ x ∈ l, -1099511627776 ≤ x ∧ x ≤ 1099511627776) : Ev (fun k => impl_total.f k l) l.sum := by
 unfold impl_total.f
 have := total_l hl hb l.length 0 (by omega) (by omega)
 simpa using this
def Sh (v d : List Int) (n : Int) : Prop := (d.length : Int) = n ∧ ∀ j, 0 ≤ j → j < n → rd d j = gl (v.take (j + 1).toNat)
theorem shared_l {v : List Int} (hl : v.length ≤ 1099511627776) (d : Nat) : ∀ (i : Int) (out : List Int), 0 ≤ i → i + d = v.length → Sh v out i → ∃ r, Sh v r v.length ∧ Ev (fun k => impl_shared.l0 k v out v.length i) r := by
 induction d with
 | zero =>
  intro i out h0 h1 h2
  obtain rfl : i = v.length := by omega
  exact ⟨out, h2, Ev.step (fun k => by rw [impl_shared.l0]) (ev_ifn (by omega) (Ev.now _))⟩
 | succ d ih =>
  intro i out h0 h1 h2
  have ho := h2.1
  obtain ⟨r, hr, hE⟩ := ih (i + 1) (out ++ [gl (v.take (i + 1).toNat)]) (by omega) (by omega) ⟨by simp; omega, fun j hj hj' => by
   rw [rd_append hj]
   by_cases e : j < out.length
   · rw [if_pos e]; exact h2.2 j hj (by omega)
   · rw [if_neg e, show j - out.length = 0 from by omega, show j = i from by omega]; rfl⟩
  refine ⟨r, hr, Ev.step (fun k => by rw [impl_shared.l0]) ?_⟩
  rw [w64 (by omega) (by omega)]
  refine ev_ifp (by omega) (ev_ifp (by omega) (ev_ifp (by omega) (ev_bind _ (gcdListI_ev (l := v.take (i + 1).toNat) ?_) (ev_ifp (by omega) hE))))
  rw [List.length_take]; omega
theorem shared_ev {v : List Int} (hl : v.length ≤ 1099511627776) : ∃ r, Sh v r v.length ∧ Ev (fun k => impl_shared.f k v) r :=
 shared_l hl v.length 0 [] (by omega) (by omega) ⟨by simp, fun j h h' => by omega⟩
theorem tdiv_small {x g : Int} (hx : 1 ≤ x ∧ x ≤ 60) (hg : 1 ≤ g) : 0 ≤ Int.tdiv x g ∧ Int.tdiv x g ≤ 60 := by
 rw [Int.tdiv_eq_ediv_of_nonneg (by omega)]
 have := Int.ediv_le_self g (show 0 ≤ x by omega)
 exact ⟨Int.ediv_nonneg (by omega) (by omega), by omega⟩
theorem overS_l {l : List Int} {g : Int} (hl : l.length ≤ 1048576) (hv : ∀ x ∈ l, 1 ≤ x ∧ x ≤ 60) (hg : 1 ≤ g) (d : Nat) : ∀ i : Int, 0 ≤ i → i + d = l.length → Ev (fun k => spec_l22Over.l0 k l g (over (l.take i.toNat) g) i) (over l g) := by
 induction d with
 | zero =>
  intro i h0 h1
  refine Ev.step (fun k => by rw [spec_l22Over.l0]) ?_
  rw [List.take_of_length_le (by omega)]
  exact ev_ifn (by omega) (Ev.now _)
 | succ d ih =>
  intro i h0 h1
  have b := tdiv_small (hv _ (rd_mem (l := l) h0 (by omega))) hg
  have := ih (i + 1) (by omega) (by omega)
  rw [take_rd h0 (by omega), over, List.map_append] at this
  refine Ev.step (fun k => by rw [spec_l22Over.l0]) ?_
  rw [w64 (x := Int.tdiv (rd l i) g) (by omega) (by omega), w64 (x := i + 1) (by omega) (by omega)]
  exact ev_ifp (by omega) (ev_ifp h0 (ev_ifn (by omega) (ev_ifp (by simp [over]; omega) this)))
theorem overS_ev {l : List Int} {g : Int} (hl : l.length ≤ 1048576) (hv : ∀ x ∈ l, 1 ≤ x ∧ x ≤ 60) (hg : 1 ≤ g) : Ev (fun k => spec_l22Over.f k l g) (over l g) := by
 unfold spec_l22Over.f
 have := overS_l hl hv hg l.length 0 (by omega) (by omega)
 simpa [over] using this
theorem overI_l {v sh : List Int} {i : Int} {r : Bool} (hl : v.length ≤ 20) (hv : ∀ x ∈ v, 1 ≤ x ∧ x ≤ 60) (h0 : 1 ≤ i) (hi : i < v.length) (hs : Sh v sh v.length)
 (H : Ev (fun k => impl_IsTelescopic.l1 k v sh i (over (v.take i.toNat) (gl (v.take i.toNat))) (v.take i.toNat) (v.take i.toNat).length i) r) (d : Nat) : ∀ j : Int, 0 ≤ j → j + d = i →
 Ev (fun k => impl_IsTelescopic.l1 k v sh i (over ((v.take i.toNat).take j.toNat) (gl (v.take i.toNat))) (v.take i.toNat) (v.take i.toNat).length j) r := by
 have hg := gl_take hv h0 (by omega)
 have htl := take_len (v := v) (i := i) (by omega) (by omega)
 have e := hs.2 (i - 1) (by omega) (by omega)
 rw [show i - 1 + 1 = i from by omega] at e
 have hsl := hs.1
 induction d with
 | zero =>
  intro j hj hj'
  obtain rfl : j = i := by omega
  rwa [List.take_of_length_le (l := v.take j.toNat) (by omega)]
 | succ d ih =>
  intro j hj hj'
  have b := tdiv_small (take_ul hv _ _ (rd_mem (l := v.take i.toNat) hj (by omega))) hg.1
  have := ih (j + 1) (by omega) (by omega)
  rw [take_rd hj (by omega), over, List.map_append] at this
  refine Ev.step (fun k => by rw [impl_IsTelescopic.l1]) ?_
  rw [w64 (x := i - 1) (by omega) (by omega), e, w64 (x := Int.tdiv (rd (v.take i.toNat) j) (gl (v.take i.toNat))) (by omega) (by omega), w64 (x := j + 1) (by omega) (by omega)]
  exact ev_ifp (by omega) (ev_ifp hj (ev_ifp (by omega) (ev_ifp (by omega) (ev_ifp (by omega) (ev_ifn (by omega) (ev_ifp (by simp [over]; omega) this))))))
theorem tele_l {v sh : List Int} (hl : v.length ≤ 20) (hv : ∀ x ∈ v, 1 ≤ x ∧ x ≤ 60) (hs : Sh v sh v.length) (d : Nat) : ∀ i : Int, 1 ≤ i → i + d = max 1 v.length → ∃ r : Bool, Ev (fun k => impl_IsTelescopic.l0 k v sh i) r ∧ Ev (fun k => spec_IsTelescopic.l0 k v i) r ∧ (r = true → ∀ j : Int, i ≤ j → j < v.length → Su (over (v.take j.toNat) (gl (v.take j.toNat))) (Int.tdiv (rd v j) (gl (v.take (j + 1).toNat)))) := by
 induction d with
 | zero =>
  intro i h0 h1
  exact ⟨true, Ev.step (fun k => by rw [impl_IsTelescopic.l0]) (ev_ifn (by omega) (Ev.now _)), Ev.step (fun k => by rw [spec_IsTelescopic.l0]) (ev_ifn (by omega) (Ev.now _)), fun _ j h2 h3 => by omega⟩
 | succ d ih =>
  intro i h0 h1
  have hg := gl_take hv h0 (by omega)
  have hg' := gl_take hv (i := i + 1) (by omega) (by omega)
  have htl := take_len (v := v) (i := i) (by omega) (by omega)
  have htl' := take_len (v := v) (i := i + 1) (by omega) (by omega)
  have e := hs.2 i (by omega) (by omega)
  have hsl := hs.1
  have b := tdiv_small (hv _ (rd_mem (l := v) (i := i) (by omega) (by omega))) hg'.1
  obtain ⟨r, a1, a2, a3⟩ := ih (i + 1) (by omega) (by omega)
  have hol : (over (v.take i.toNat) (gl (v.take i.toNat))).length ≤ 1099511627776 := by simp [over]; omega
  have key : ∃ r' : Bool, (if decide (Gen (over (v.take i.toNat) (gl (v.take i.toNat))) (Int.tdiv (rd v i) (gl (v.take (i + 1).toNat)))) = true then r else false) = r' := ⟨_, rfl⟩
  obtain ⟨r', hr'⟩ := key
  have fin : ∀ {f g : Nat → Option Bool}, Ev f r → Ev g false → Ev (fun k => if decide (Gen (over (v.take i.toNat) (gl (v.take i.toNat))) (Int.tdiv (rd v i) (gl (v.take (i + 1).toNat)))) = true then f k else g k) r' := by
   intro f g hf hg
   by_cases c : decide (Gen (over (v.take i.toNat) (gl (v.take i.toNat))) (Int.tdiv (rd v i) (gl (v.take (i + 1).toNat)))) = true
   · rw [if_pos c] at hr'; exact ev_ifp c (hr' ▸ hf)
   · rw [if_neg c] at hr'; exact ev_ifn c (hr' ▸ hg)
  refine ⟨r', Ev.step (fun k => by rw [impl_IsTelescopic.l0]) ?_, Ev.step (fun k => by rw [spec_IsTelescopic.l0]) ?_, ?_⟩
  rotate_left 2
  · intro hr j h2 h3
    by_cases c : decide (Gen (over (v.take i.toNat) (gl (v.take i.toNat))) (Int.tdiv (rd v i) (gl (v.take (i + 1).toNat)))) = true
    · rw [if_pos c] at hr'
      by_cases q : j = i
      · subst q; exact (of_decide_eq_true c).2.2
      · exact a3 (hr'.trans hr) j (by omega) h3
    · rw [if_neg c] at hr'
      rw [← hr'] at hr
      cases hr
  · refine ev_ifp (by omega) (ev_ifp (by omega) (ev_ifp (by omega) ?_))
    refine overI_l hl hv h0 (by omega) hs ?_ i.toNat 0 (by omega) (by omega)
    refine Ev.step (fun k => by rw [impl_IsTelescopic.l1]) ?_
    rw [e, w64 (x := Int.tdiv (rd v i) (gl (v.take (i + 1).toNat))) (by omega) (by omega), w64 (x := i + 1) (by omega) (by omega)]
    exact ev_ifn (by omega) (ev_ifp (by omega) (ev_ifp (by omega) (ev_ifp (by omega) (ev_ifn (by omega) (ev_bind _ (genI_ev _ hol) (fin a1 (Ev.now _)))))))
  · rw [w64 (x := i + 1) (by omega) (by omega)]
    refine ev_ifp (by omega) (ev_ifp (by omega) (ev_ifp (by omega) (ev_bind _ (gcdListS_ev (by omega)) (ev_ifp (by omega) (ev_ifp (by omega) (ev_bind _ (gcdListS_ev (by omega)) (ev_bind _ (overS_ev (by omega) (take_ul hv _) hg.1) (ev_ifn (by omega) ?_))))))))
    rw [w64 (x := Int.tdiv (rd v i) (gl (v.take (i + 1).toNat))) (by omega) (by omega)]
    exact ev_bind _ (genS_ev _ hol) (fin a2 (Ev.now _))
def TelC (v : List Int) : Prop := UL v ∧ gl v = 1 ∧ ∀ j : Int, 1 ≤ j → j < v.length → Su (over (v.take j.toNat) (gl (v.take j.toNat))) (Int.tdiv (rd v j) (gl (v.take (j + 1).toNat)))
theorem tele_ev (v : List Int) (hl : v.length ≤ 1099511627776) : ∃ r : Bool, Ev (fun k => impl_IsTelescopic.f k v) r ∧ Ev (fun k => spec_IsTelescopic.f k v) r ∧ (r = true → TelC v) := by
 unfold impl_IsTelescopic.f spec_IsTelescopic.f
 by_cases hu : UL v
 · have hlen := hu.1
   by_cases hg : gl v = 1
   · obtain ⟨sh, hs, hE⟩ := shared_ev hl
     obtain ⟨r, a, b, cc⟩ := tele_l (by omega) hu.2 hs (v.length - 1) 1 (by omega) (by omega)
     refine ⟨r, ev_bind _ (usableI_ev hl) (ev_ifp (by simpa using hu) (ev_bind _ (gcdListI_ev hl) ?_)), ev_bind _ (gensS_ev hl) (ev_ifp (by simpa using hu) (ev_bind _ (gcdListS_ev hl) ?_)), fun hr => ⟨hu, hg, fun j h2 h3 => cc hr j h2 h3⟩⟩
     · refine Ev.step (fun k => by rw [impl_IsTelescopic.j0]) ?_
       exact ev_ifn (by simpa using hg) (ev_bind _ hE a)
     · refine Ev.step (fun k => by rw [spec_IsTelescopic.j0]) ?_
       exact ev_ifn (by simpa using hg) b
   · refine ⟨false, ev_bind _ (usableI_ev hl) (ev_ifp (by simpa using hu) (ev_bind _ (gcdListI_ev hl) ?_)), ev_bind _ (gensS_ev hl) (ev_ifp (by simpa using hu) (ev_bind _ (gcdListS_ev hl) ?_)), fun h => (by cases h)⟩
     · refine Ev.step (fun k => by rw [impl_IsTelescopic.j0]) ?_
       exact ev_ifp (by simpa using hg) (Ev.now _)
     · refine Ev.step (fun k => by rw [spec_IsTelescopic.j0]) ?_
       exact ev_ifp (by simpa using hg) (Ev.now _)
 · refine ⟨false, ev_bind _ (usableI_ev hl) (ev_ifn (by simpa using hu) ?_), ev_bind _ (gensS_ev hl) (ev_ifn (by simpa using hu) ?_), fun h => (by cases h)⟩
   · exact Ev.step (fun k => by rw [impl_IsTelescopic.j0]) (ev_ifp rfl (Ev.now _))
   · exact Ev.step (fun k => by rw [spec_IsTelescopic.j0]) (ev_ifp rfl (Ev.now _))
theorem tdiv_mid {x g e : Int} (hx : 1 ≤ x ∧ x ≤ 60) (hg : 1 ≤ g ∧ g ≤ 60) (he : 1 ≤ e) : 0 ≤ x * g ∧ x * g ≤ 3600 ∧ 0 ≤ Int.tdiv (x * g) e ∧ Int.tdiv (x * g) e ≤ 3600 := by
 have h0 : 0 ≤ x * g := Int.mul_nonneg (by omega) (by omega)
 have h1 : x * g ≤ 60 * 60 := Int.mul_le_mul hx.2 hg.2 (by omega) (by omega)
 rw [Int.tdiv_eq_ediv_of_nonneg h0]
 have := Int.ediv_le_self e h0
 exact ⟨h0, by omega, Int.ediv_nonneg h0 (by omega), by omega⟩
theorem telef_l {v sh : List Int} (hl : v.length ≤ 20) (hv : ∀ x ∈ v, 1 ≤ x ∧ x ≤ 60) (hs : Sh v sh v.length) (hn : 1 ≤ v.length) (d : Nat) : ∀ (i a : Int), 1 ≤ i → i + d = max 1 v.length → -1200 ≤ a → a ≤ 3600 * i →
 ∃ r : Int, Ev (fun k => impl_TelescopicFrobenius.l0 k v sh a i) r ∧ Ev (fun k => spec_TelescopicFrobenius.l0 k v (a + (v.drop i.toNat).sum) i) r ∧ (a + (v.drop i.toNat).sum = tl v i.toNat → r = tl v v.length) := by
 induction d with
 | zero =>
  intro i a h0 h1 h2 h3
  refine ⟨a, Ev.step (fun k => by rw [impl_TelescopicFrobenius.l0]) (ev_ifn (by omega) (Ev.now _)), Ev.step (fun k => by rw [spec_TelescopicFrobenius.l0]) ?_, fun q => by rw [List.drop_of_length_le (by omega), show i.toNat = v.length from by omega] at q; simpa using q⟩
  rw [List.drop_of_length_le (by omega)]
  exact ev_ifn (by omega) (ev_to (Ev.now _) (by simp))
 | succ d ih =>
  intro i a h0 h1 h2 h3
  have hx := hv _ (rd_mem (l := v) (i := i) (by omega) (by omega))
  have hg := gl_take hv h0 (by omega)
  have hg' := gl_take hv (i := i + 1) (by omega) (by omega)
  have htl := take_len (v := v) (i := i) (by omega) (by omega)
  have htl' := take_len (v := v) (i := i + 1) (by omega) (by omega)
  have e1 := hs.2 (i - 1) (by omega) (by omega)
  rw [show i - 1 + 1 = i from by omega] at e1
  have e2 := hs.2 i (by omega) (by omega)
  have hsl := hs.1
  have b := tdiv_mid hx hg hg'.1
  obtain ⟨r, p, q, s⟩ := ih (i + 1) (a + Int.tdiv (rd v i * gl (v.take i.toNat)) (gl (v.take (i + 1).toNat))) (by omega) (by omega) (by omega) (by omega)
  have sb := sum_bound (B := 60) (by omega) (l := v.drop (i + 1).toNat) (fun x hx => by have := hv x (List.mem_of_mem_drop hx); omega)
  have dl : ((v.drop (i + 1).toNat).length : Int) ≤ 20 := by rw [List.length_drop]; omega
  refine ⟨r, Ev.step (fun k => by rw [impl_TelescopicFrobenius.l0]) ?_, Ev.step (fun k => by rw [spec_TelescopicFrobenius.l0]) ?_, ?_⟩
  rotate_left 2
  · intro z
    refine s ?_
    rw [drop_rd (l := v) (i := i) (by omega) (by omega), List.sum_cons] at z
    obtain ⟨m, hm⟩ : ∃ m : Nat, i = ((m + 1 : Nat) : Int) := ⟨(i - 1).toNat, by omega⟩
    rw [show i.toNat = m + 1 from by omega] at z ⊢
    rw [show (i + 1).toNat = m + 2 from by omega] at z ⊢
    show _ = tl v (m + 1) + Int.tdiv (rd v ((m + 1 : Nat) : Int) * gl (v.take (m + 1))) (gl (v.take (m + 2))) - rd v ((m + 1 : Nat) : Int)
    rw [← z, hm]
    omega
  · rw [w64 (x := i - 1) (by omega) (by omega), e1, e2, w64 (x := rd v i * gl (v.take i.toNat)) (by omega) (by omega), w64 (x := Int.tdiv (rd v i * gl (v.take i.toNat)) (gl (v.take (i + 1).toNat))) (by omega) (by omega), w64 (x := a + _) (by omega) (by omega), w64 (x := i + 1) (by omega) (by omega)]
    exact ev_ifp (by omega) (ev_ifp (by omega) (ev_ifp (by omega) (ev_ifp (by omega) (ev_ifp (by omega) (ev_ifn (by omega) p)))))
  · rw [drop_rd (l := v) (i := i) (by omega) (by omega), List.sum_cons, w64 (x := i + 1) (by omega) (by omega)]
    refine ev_ifp (by omega) (ev_ifp (by omega) (ev_ifp (by omega) (ev_bind _ (gcdListS_ev (by omega)) (ev_ifp (by omega) (ev_ifp (by omega) (ev_bind _ (gcdListS_ev (by omega)) (ev_ifn (by omega) ?_)))))))
    rw [w64 (x := rd v i * gl (v.take i.toNat)) (by omega) (by omega), w64 (x := Int.tdiv (rd v i * gl (v.take i.toNat)) (gl (v.take (i + 1).toNat))) (by omega) (by omega), w64 (x := a + (rd v i + (v.drop (i + 1).toNat).sum) + Int.tdiv (rd v i * gl (v.take i.toNat)) (gl (v.take (i + 1).toNat))) (by omega) (by omega)]
    rw [show a + (rd v i + (v.drop (i + 1).toNat).sum) + Int.tdiv (rd v i * gl (v.take i.toNat)) (gl (v.take (i + 1).toNat)) - rd v i = a + Int.tdiv (rd v i * gl (v.take i.toNat)) (gl (v.take (i + 1).toNat)) + (v.drop (i + 1).toNat).sum from by omega, w64 (by omega) (by omega)]
    exact q
theorem telef_ev (v : List Int) (hl : v.length ≤ 1099511627776) : ∃ (t : Bool) (r : Int), Ev (fun k => impl_IsTelescopic.f k v) t ∧ Ev (fun k => spec_IsTelescopic.f k v) t ∧ Ev (fun k => impl_TelescopicFrobenius.f k v) r ∧ Ev (fun k => spec_TelescopicFrobenius.f k v) r ∧ (t = true → TelC v ∧ r = tl v v.length) := by
 obtain ⟨t, a, b, hu⟩ := tele_ev v hl
 refine ⟨t, ?_⟩
 unfold impl_TelescopicFrobenius.f spec_TelescopicFrobenius.f
 cases t with
 | true =>
  have hU := (hu rfl).1
  have hlen := hU.1
  obtain ⟨sh, hs, hE⟩ := shared_ev hl
  have sb := sum_bound (B := 60) (by omega) (l := v) (fun x hx => by have := hU.2 x hx; omega)
  have sn := sum_nonneg (r := v) (fun x hx => by have := hU.2 x hx; omega)
  have f := hU.first
  obtain ⟨r, p, q, s⟩ := telef_l (by omega) hU.2 hs (by omega) (v.length - 1) 1 (-v.sum) (by omega) (by omega) (by omega) (by omega)
  have e := drop_rd (l := v) (i := 0) (by omega) (by omega)
  have e' : v.sum = rd v 0 + (v.drop (1 : Int).toNat).sum := by
   have := congrArg List.sum e
   simpa using this
  refine ⟨r, a, b, ev_bind _ a (ev_ifp rfl (ev_bind _ hE (ev_bind _ (total_ev (l := v) (by omega) (fun x hx => by have := hU.2 x hx; omega)) ?_))), ev_bind _ b (ev_ifp rfl (ev_ifp (by omega) ?_)), fun _ => ⟨hu rfl, s ?_⟩⟩
  · rw [w64 (by omega) (by omega)]; exact p
  · rw [w64 (by omega) (by omega), show -rd v 0 = -v.sum + (v.drop (1 : Int).toNat).sum from by omega]
    exact q
  · show _ = -rd v 0
    omega
 | false => exact ⟨-1, a, b, ev_bind _ a (ev_ifn (by simp) (Ev.now _)), ev_bind _ b (ev_ifn (by simp) (Ev.now _)), fun h => by cases h⟩
theorem mir_sym {v : List Int} (h : SG v) : mir v (fob v) (-1) 0 = true ↔ Sym (Su v) (fob v) := by
 have f := fro_su h
 have p : ∀ n, Su v n → 0 ≤ n := fun n k => k.pos h.pos
 rw [mir_t]
 constructor
 · intro k n
   by_cases c0 : n < 0
   · exact ⟨fun q => by have := p n q; omega, fun q => absurd (f.2 _ (by omega)) q⟩
   · by_cases c1 : fob v < n
     · exact ⟨fun _ q => by have := p _ q; omega, fun _ => f.2 n c1⟩
     · have := k n (by omega) (by omega) (by omega)
       by_cases a : Su v n
       · exact ⟨fun _ q => this ⟨fun _ => q, fun _ => a⟩, fun _ => a⟩
       · exact ⟨fun q => absurd q a, fun q => absurd (show (Su v n ↔ Su v (fob v - n)) from ⟨fun z => absurd z a, fun z => absurd z q⟩) this⟩
 · intro k y _ _ _ q
   have := k y
   by_cases a : Su v y
   · exact this.1 a (q.1 a)
   · exact a (this.2 fun z => a (q.2 z))
theorem glfv_ev {a b : List Int} (x y : Int) (ha : a.length ≤ 1099511627776) (hb : b.length ≤ 1099511627776) : ∃ r, Ev (fun k => impl_GlueFrobenius.f k a b x y) r ∧ Ev (fun k => spec_GlueFrobenius.f k a b x y) r ∧ ((glu a b x y).2 = true → GlueC a b x y ∧ FN (tms a x ++ tms b y) ∧ (glu a b x y).1 = mns (tms a x ++ tms b y) ∧ r = x * fob a + y * fob b + x * y) := by
 unfold impl_GlueFrobenius.f spec_GlueFrobenius.f
 by_cases c : (glu a b x y).2 = true
 · refine ⟨wrap64 (wrap64 (wrap64 (x * fob a) + wrap64 (y * fob b)) + wrap64 (x * y)), ev_bind _ (glueI_ev x y ha hb) (ev_ifp c (ev_bind _ (frI_ev ha) (ev_bind _ (frI_ev hb) (Ev.now _)))), ev_bind _ (glueS_ev x y ha hb) (ev_ifp c (ev_bind _ (frS_ev ha) (ev_bind _ (frS_ev hb) (Ev.now _)))), fun _ => ?_⟩
   have g : GlueC a b x y := Classical.byContradiction fun k => by unfold glu at c; rw [if_neg k] at c; cases c
   have e : glu a b x y = fns (tms a x ++ tms b y) := by unfold glu; exact if_pos g
   have n : FN (tms a x ++ tms b y) := Classical.byContradiction fun k => by rw [e] at c; unfold fns at c; rw [if_neg k] at c; cases c
   refine ⟨g, n, by rw [e]; unfold fns; rw [if_pos n], ?_⟩
   obtain ⟨_, _, _, _, hx, hy, _⟩ := g
   have fa := fob_small a
   have fb := fob_small b
   have m : ∀ {p q : Int}, (1 ≤ p ∧ p ≤ 60) → (-1 ≤ q ∧ q ≤ 199) → -60 ≤ p * q ∧ p * q ≤ 11940 := fun {p q} hp hq => by
    have h1 : p * q ≤ p * 199 := Int.mul_le_mul_of_nonneg_left hq.2 (by omega)
    have h2 : p * -1 ≤ p * q := Int.mul_le_mul_of_nonneg_left hq.1 (by omega)
    omega
   have m1 := m hx fa
   have m2 := m hy fb
   have m3 := m hx (q := y) (by omega)
   rw [w64 (x := x * fob a) (by omega) (by omega), w64 (x := y * fob b) (by omega) (by omega), w64 (x := x * y) (by omega) (by omega), w64 (x := x * fob a + y * fob b) (by omega) (by omega), w64 (by omega) (by omega)]
 · exact ⟨-1, ev_bind _ (glueI_ev x y ha hb) (ev_ifn c (Ev.now _)), ev_bind _ (glueS_ev x y ha hb) (ev_ifn c (Ev.now _)), fun h => absurd h c⟩
theorem telx {v : List Int} (h : TelC v) (f : FN v) : tl v v.length = fob (mns v) ∧ mir (mns v) (fob (mns v)) (-1) 0 = true := by
 obtain ⟨hu, hg, ht⟩ := h
 have e := tel_end hu.2 hu.ne hg fun k h1 h2 => by
  have := ht k (by omega) (by omega)
  rwa [Int.toNat_natCast, show ((k : Int) + 1).toNat = k + 1 from by omega] at this
 have same : ∀ n, Su (mns v) n ↔ Su v n := fun n => mns_su
 have F : Fro (Su (mns v)) (tl v v.length) := ⟨fun k => e.1.1 ((same _).1 k), fun n hn => (same n).2 (e.1.2 n hn)⟩
 have q := F.one (fro_su f.2)
 refine ⟨q, (mir_sym f.2).2 ?_⟩
 rw [← q]
 intro n
 rw [same, same]
 exact e.2 n
end Go.Proofs.Ytjjajcldmkmgkaa.E
end
section
namespace Go.Proofs.Ytjjajcldmkmgkaa.Pure
open Go.RowKit Go.Proofs.Ytjjajcldmkmgkaa.PA Go.Proofs.Ytjjajcldmkmgkaa.E Go.Proofs.YtjjajcldmkmgkaaW.PrintWords Go.Proofs.YtjjajcldmkmgkaaW.PrintLast Go.Proofs.YtjjajcldmkmgkaaW.PrintMore
set_option linter.unusedVariables false
set_option linter.unusedSimpArgs false
theorem eqs_ev {l : List Int} (hl : l.length ≤ 1099511627776) : Ev (fun k => spec_EqualSemigroup.f k l l) true := by
 unfold spec_EqualSemigroup.f
 exact ev_bind _ (ev_to (same2_ev hl) (by simp)) (Ev.now _)
theorem tele_fin {v : List Int} {t : Bool} {r : Int} (hl : v.length ≤ 13) (h : t = true → TelC v ∧ r = tl v v.length) : Ev (fun k => laws_FnGlued.j1 k v t r false) true := by
 refine Ev.step (fun k => by rw [laws_FnGlued.j1]) (ev_ifn (by simp) (ev_bind _ (fromGensS_ev (by omega)) ?_))
 cases t with
 | false => exact ev_ifn (by simp) (Ev.now _)
 | true =>
  refine ev_ifp rfl ?_
  obtain ⟨hT, hr⟩ := h rfl
  unfold fns
  by_cases f : FN v
  · rw [if_pos f]
    have q := telx hT f
    have ml := f.2.len
    exact ev_ifp rfl (ev_bind _ (frS_ev (v := mns v) (by omega)) (ev_ifp (by rw [hr]; exact q.1) (ev_bind _ (symS_ev f.2) (ev_to (Ev.now _) q.2))))
  · rw [if_neg f]; exact ev_ifn (by simp) (Ev.now _)
theorem FnGlued (l0 : List Int) (h0 : l0.length ≤ maxLen) (h1 : l0.length * 1 ≤ 140737488351232) (h2 : ∀ x ∈ l0, (Lit.int .u8 x).wf = true) : ∃ k, laws_FnGlued.f k l0 = some true := by
 apply Ev.rounds
 unfold laws_FnGlued.f laws_big.f
 simp only [Option.bind_some]
 by_cases big : (l0.length : Int) > 1048576
 · exact ev_ifp (d_t big) (Ev.now _)
 refine ev_ifn (d_f big) ?_
 obtain ⟨a, b, x, y, la, lb, dg⟩ := case_ev (b := l0) (by omega)
 obtain ⟨v, lv, dt⟩ := listT_ev (b := l0) (by omega)
 have ha : a.length ≤ 1099511627776 := by omega
 have hb : b.length ≤ 1099511627776 := by omega
 have gl1 := glu_len a b x y
 obtain ⟨f, f1, f2, f3⟩ := glfv_ev (a := a) (b := b) x y ha hb
 obtain ⟨t, r, t1, t2, t3, t4, t5⟩ := telef_ev v (by omega)
 refine ev_bind _ dg (ev_bind _ (glueI_ev x y ha hb) (ev_bind _ (glueS_ev x y ha hb) (ev_bind _ f1 (ev_bind _ dt (ev_bind _ t1 (ev_bind _ t3 (ev_ifn (by simp) (ev_bind _ (eqs_ev (l := (glu a b x y).1) (by omega)) (ev_ifp rfl (ev_bind _ f2 (ev_ifp rfl (ev_bind _ t2 (ev_ifn (by simp) (ev_bind _ t4 ?_))))))))))))))
 refine Ev.step (fun k => by rw [laws_FnGlued.j0]) (ev_ifn (by simp) ?_)
 by_cases c : (glu a b x y).2 = true
 · obtain ⟨g, n, e, q⟩ := f3 c
   have gf := glue_fact g n
   have sa := g.2.1.2.1
   have sb := g.1.2.1
   have ss := n.2
   rw [e]
   have ml := ss.len
   refine ev_ifp c (ev_bind _ (frS_ev (v := mns (tms a x ++ tms b y)) (by omega)) (ev_ifp (by rw [q]; exact gf.1.symm) (ev_bind _ (symS_ev ss) (ev_bind _ (symS_ev sa) ?_))))
   have key : mir (mns (tms a x ++ tms b y)) (fob (mns (tms a x ++ tms b y))) (-1) 0 = true ↔ mir a (fob a) (-1) 0 = true ∧ mir b (fob b) (-1) 0 = true := by
    rw [mir_sym ss, mir_sym sa, mir_sym sb]; exact gf.2
   by_cases p : mir a (fob a) (-1) 0 = true
   · refine ev_ifp p (ev_bind _ (symS_ev sb) ?_)
     have : mir (mns (tms a x ++ tms b y)) (fob (mns (tms a x ++ tms b y))) (-1) 0 = mir b (fob b) (-1) 0 := by rw [Bool.eq_iff_iff, key]; exact ⟨fun k => k.2, fun k => ⟨p, k⟩⟩
     rw [this, show (mir b (fob b) (-1) 0 != mir b (fob b) (-1) 0) = false from by simp]
     exact tele_fin lv t5
   · refine ev_ifn p ?_
     have : mir (mns (tms a x ++ tms b y)) (fob (mns (tms a x ++ tms b y))) (-1) 0 = false := by
      rw [Bool.eq_false_iff]; exact fun k => p (key.1 k).1
     rw [this, show (false != false) = false from rfl]
     exact tele_fin lv t5
 · exact ev_ifn c (tele_fin lv t5)
end Go.Proofs.Ytjjajcldmkmgkaa.Pure
end
section
namespace Go.Proofs.YtjjajcldmkmgkaaW.PrintWords
open Go.ChangeShapes Go.WideShapes
theorem sized_ints {H : Type} {enc : TypeId × Value → H} {P : Program} {W : World} {base : Nat} {spare : Nat → Bool} {held : Bool} {t e : TypeId} {k : IntKind} {a : Option Addr} {len cap : Nat} {d : DataW H} {ps : List MemPlace} {ts : List TypeId} {ds : List (DataW H)} {j : Nat}
 (hsz : (DataW.weightsEach P ts ds).all (· ≤ reachBytes) = true) (ht : ts[j]? = some t) (hd : ds[j]? = some d) (hu : P.underlying t = some (.slice e)) (he : P.underlying e = some (.int k)) (hc : P.cellsOf e = 1) {B : Nat} (hB : P.bytesOf e = B)
 (h : DataW.Trod enc P W base spare held t (.slice a len cap) d ps) : len * B ≤ 140737488351232 := by
 obtain ⟨fuel, hf⟩ := h
 rcases open_ints hu he hc hf with ⟨hcs, _⟩ | ⟨x, l, c, zs, hcs, _, hl, _, hz, hx, _, _⟩
 · simp [Value.cells] at hcs
   obtain ⟨rfl, rfl, rfl⟩ := hcs
   simp
 · simp [Value.cells] at hcs
   obtain ⟨rfl, rfl, rfl⟩ := hcs
   obtain ⟨hx, _⟩ := Prod.mk.inj hx
   subst hx
   have z := sized_slice hsz ht hd hu
   rw [hB] at z
   have hl2 : len ≤ zs.length := by
    rw [hz]
    split
    · exact hl
    · exact Nat.le_refl _
   have h1 : (lits (H := H) k (zs.take len)).length + (lits (H := H) k (zs.drop len)).length = zs.length := by
    simp [lits]
    omega
   rw [h1] at z
   exact Nat.le_trans (Nat.mul_le_mul_right _ hl2) z
end Go.Proofs.YtjjajcldmkmgkaaW.PrintWords
end
