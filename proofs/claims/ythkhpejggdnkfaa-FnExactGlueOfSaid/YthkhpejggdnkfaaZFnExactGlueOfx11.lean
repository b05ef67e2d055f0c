-- Bundled by shake.py from this session's printed and written texts; Lean checks it.
import Derived.Below
import Derived.ChangeOld
import Derived.ChangeSlices
import Derived.Deep.Fields
import Derived.Lib.SmallJoins
import Derived.OpenShut
import Derived.ProofKit
import Derived.SizedLaws
import Derived.Test.YthkhpejggdnkfaaZFnExactGlueOfx1
import Derived.Test.YthkhpejggdnkfaaZFnExactGlueOfx10
import Derived.Test.YthkhpejggdnkfaaZFnExactGlueOfx4
import Derived.Test.YthkhpejggdnkfaaZFnExactGlueOfx6
import Derived.Test.YthkhpejggdnkfaaZFnExactGlueOfx8
import Derived.Test.YthkhpejggdnkfaaZFnExactGlueOfx9
import Derived.WalkKit
section
namespace Go.Proofs.Ythkhpejggdnkfaa.E
open Go.RowKit Go.Proofs.Ythkhpejggdnkfaa.PA Go.Proofs.YthkhpejggdnkfaaW.PrintWords Go.Proofs.YthkhpejggdnkfaaW.PrintLast Go.Proofs.YthkhpejggdnkfaaW.PrintMore
set_option linter.unusedVariables false
set_option linter.unusedSimpArgs false
theorem markIntS_l {n : Nat} (a : Int) (ha : 0 ≤ a) (hn : a + n ≤ 4611686018427387904) (d : Nat) : ∀ (i : Int) (l : List Int), 0 ≤ i → i + d = n → l.length = n → (∀ j, 0 ≤ j → j < i → rd l j = a + j) → Ev (fun k => laws_markIntS.l0 k l (a + i) i) (a + n, marks a n) := by
 induction d with
 | zero =>
  intro i l h0 h1 h2 h3
  refine Ev.step (fun k => by rw [laws_markIntS.l0]) ?_
  simp (disch := omega) only [if_neg]
  refine ev_to (Ev.now _) ?_
  rw [show a + i = a + n from by omega]
  congr 1
  refine rd_ext (by rw [h2, marks_len]) fun j hj hj' => ?_
  rw [h3 j hj (by omega), marks_rd _ _ _ hj (by omega)]
 | succ d ih =>
  intro i l h0 h1 h2 h3
  refine Ev.step (fun k => by rw [laws_markIntS.l0]) ?_
  simp (disch := omega) only [if_pos, w64]
  rw [Int.add_assoc]
  refine ih (i + 1) _ (by omega) (by omega) (by simpa using h2) fun j hj hj' => ?_
  rw [rd_set _ h0 (by omega) hj]
  by_cases e : j = i
  · rw [if_pos e, e]
  · rw [if_neg e]; exact h3 j hj (by omega)
theorem markIntS_ev {l : List Int} {a : Int} (ha : 0 ≤ a) (hl : a + l.length ≤ 4611686018427387904) : Ev (fun k => laws_markIntS.f k l a) (a + l.length, marks a l.length) := by
 unfold laws_markIntS.f
 have := markIntS_l a ha hl l.length 0 l (by omega) (by omega) rfl (fun j h h' => by omega)
 rwa [Int.add_zero] at this
theorem heldIntS_l {n : Nat} (a : Int) (ha : 0 ≤ a) (hn : a + n ≤ 4611686018427387904) (d : Nat) : ∀ (i : Int), 0 ≤ i → i + d = n → Ev (fun k => laws_heldIntS.l0 k (marks a n) (a + i) i) (a + n) := by
 have hm := marks_len a n
 induction d with
 | zero =>
  intro i h0 h1
  refine Ev.step (fun k => by rw [laws_heldIntS.l0]) ?_
  simp (disch := omega) only [if_neg]
  exact ev_to (Ev.now _) (by omega)
 | succ d ih =>
  intro i h0 h1
  refine Ev.step (fun k => by rw [laws_heldIntS.l0]) ?_
  simp (disch := omega) only [if_pos, w64]
  refine ev_ifp (marks_rd _ _ _ h0 (by omega)) ?_
  rw [Int.add_assoc]
  exact ih (i + 1) (by omega) (by omega)
theorem heldIntS_ev {n : Nat} {a : Int} (ha : 0 ≤ a) (hn : a + n ≤ 4611686018427387904) : Ev (fun k => laws_heldIntS.f k (marks a n) a) (a + n) := by
 unfold laws_heldIntS.f
 have := heldIntS_l a ha hn n 0 (by omega) (by omega)
 rwa [Int.add_zero] at this
end Go.Proofs.Ythkhpejggdnkfaa.E
end
section
namespace Go.Proofs.Ythkhpejggdnkfaa.E
open Go.RowKit Go.Proofs.Ythkhpejggdnkfaa.PA Go.Proofs.YthkhpejggdnkfaaW.PrintWords Go.Proofs.YthkhpejggdnkfaaW.PrintLast Go.Proofs.YthkhpejggdnkfaaW.PrintMore
set_option linter.unusedVariables false
set_option linter.unusedSimpArgs false
theorem markSg_ev {l : List Int} {a : Int} (ha : 0 ≤ a) (hl : a + l.length ≤ 4611686018427387904) : Ev (fun k => laws_markSemigroup.f k l a) (a + l.length, marks a l.length) := by
 unfold laws_markSemigroup.f
 exact ev_bind _ (markIntS_ev ha hl) (Ev.now _)
theorem heldSg_ev {n : Nat} {a : Int} (ha : 0 ≤ a) (hn : a + n ≤ 4611686018427387904) : Ev (fun k => laws_heldSemigroup.f k (marks a n) a) (a + n) := by
 unfold laws_heldSemigroup.f
 exact ev_bind _ (heldIntS_ev ha hn) (ev_ifn (by omega) (Ev.now _))
end Go.Proofs.Ythkhpejggdnkfaa.E
end
section
namespace Go.Proofs.Ythkhpejggdnkfaa.E
open Go.RowKit Go.Proofs.Ythkhpejggdnkfaa.PA Go.Proofs.YthkhpejggdnkfaaW.PrintWords Go.Proofs.YthkhpejggdnkfaaW.PrintLast Go.Proofs.YthkhpejggdnkfaaW.PrintMore
set_option linter.unusedVariables false
set_option linter.unusedSimpArgs false
theorem toIntS_l {l : List Int} (hl : l.length ≤ 1048576) (d : Nat) : ∀ (i : Int) (out : List Int), 0 ≤ i → i + d = l.length → out.length = l.length → out.take i.toNat = l.take i.toNat → Ev (fun k => laws_toIntS.l0 k l out i) l := by
 induction d with
 | zero =>
  intro i out h0 h1 h2 h3
  refine Ev.step (fun k => by rw [laws_toIntS.l0]) ?_
  simp (disch := omega) only [if_neg]
  rw [List.take_of_length_le (by omega), List.take_of_length_le (by omega)] at h3
  subst h3
  exact Ev.now _
 | succ d ih =>
  intro i out h0 h1 h2 h3
  refine Ev.step (fun k => by rw [laws_toIntS.l0]) ?_
  simp (disch := omega) only [if_pos, w64]
  refine ih _ _ (by omega) (by omega) (by simpa using h2) ?_
  rw [take_rd h0 (by simp; omega), take_rd h0 (by omega), rd_set _ h0 (by omega) h0, if_pos rfl, ← h3]
  congr 1
  rw [List.take_set_of_le (Nat.le_refl _)]
theorem toIntS_ev {l : List Int} (hl : l.length ≤ 1048576) : Ev (fun k => laws_toIntS.f k l) l := by
 unfold laws_toIntS.f
 simp (disch := omega) only [if_pos]
 exact toIntS_l hl l.length _ _ (by omega) (by omega) (by simp) (by simp)
theorem eqIntS_l {l m : List Int} (hl : l.length ≤ 1099511627776) (e : l.length = m.length) (d : Nat) : ∀ (i : Int), 0 ≤ i → i + d = l.length → Ev (fun k => laws_eqIntS.l0 k l m i) (decide (l.drop i.toNat = m.drop i.toNat)) := by
 induction d with
 | zero =>
  intro i h0 h1
  refine Ev.step (fun k => by rw [laws_eqIntS.l0]) ?_
  simp (disch := omega) only [if_neg]
  refine ev_to (Ev.now _) ?_
  rw [List.drop_of_length_le (by omega), List.drop_of_length_le (by omega)]; simp
 | succ d ih =>
  intro i h0 h1
  refine Ev.step (fun k => by rw [laws_eqIntS.l0]) ?_
  simp (disch := omega) only [if_pos, w64]
  rw [drop_rd h0 (by omega), drop_rd (l := m) h0 (by omega)]
  by_cases h : rd l i = rd m i
  · refine ev_ifp h (ev_to (ih (i + 1) (by omega) (by omega)) ?_)
    simp [h]
  · refine ev_ifn h (ev_to (Ev.now _) ?_)
    simp [h]
theorem eqIntS_ev {l m : List Int} (hl : l.length ≤ 1099511627776) : Ev (fun k => laws_eqIntS.f k l m) (decide (l = m)) := by
 unfold laws_eqIntS.f
 by_cases e : l.length = m.length
 · refine ev_ifp (by omega) (ev_to (eqIntS_l hl e l.length 0 (by omega) (by omega)) ?_)
   simp
 · refine ev_ifn (by omega) (ev_to (Ev.now _) ?_)
   simp; intro h; exact e (by rw [h])
end Go.Proofs.Ythkhpejggdnkfaa.E
end
section
namespace Go.Proofs.Ythkhpejggdnkfaa.E
open Go.RowKit Go.Proofs.Ythkhpejggdnkfaa.PA Go.Proofs.YthkhpejggdnkfaaW.PrintWords Go.Proofs.YthkhpejggdnkfaaW.PrintLast Go.Proofs.YthkhpejggdnkfaaW.PrintMore
set_option linter.unusedVariables false
set_option linter.unusedSimpArgs false
theorem szSg_small {l : List Int} {a : Int} (h : (l.length : Int) ≤ a) (ha : a ≤ 1048576) : laws_szSemigroup.f l a = some (a - l.length) := by
 unfold laws_szSemigroup.f laws_szIntS.f
 rw [w64 (x := a - l.length) (by omega) (by omega), if_neg (by omega)]
 simp only [Option.bind_some]
 rw [if_neg (by omega)]
theorem szSg_big {l : List Int} {a : Int} (h : ¬ (l.length : Int) ≤ a) (h0 : 0 ≤ a) (ha : a ≤ 1048576) (hl : l.length ≤ 1152921504606846976) : laws_szSemigroup.f l a = some (-1) := by
 unfold laws_szSemigroup.f laws_szIntS.f
 rw [w64 (x := a - l.length) (by omega) (by omega), if_pos (by omega)]
 rfl
theorem toSg_ev {l : List Int} (hl : l.length ≤ 1048576) : Ev (fun k => laws_toSemigroup.f k l) l := by
 unfold laws_toSemigroup.f
 exact ev_bind _ (toIntS_ev hl) (Ev.now _)
theorem eqSg_ev {l m : List Int} (hl : l.length ≤ 1099511627776) : Ev (fun k => laws_eqSemigroup.f k l m) (decide (l = m)) := by
 unfold laws_eqSemigroup.f
 refine ev_bind _ (eqIntS_ev hl) ?_
 by_cases e : l = m
 · exact ev_ifp (by simpa using e) (ev_to (Ev.now _) (by simp [e]))
 · exact ev_ifn (by simpa using e) (ev_to (Ev.now _) (by simp [e]))
theorem eqSg_same {l : List Int} (hl : l.length ≤ 1099511627776) : Ev (fun k => laws_eqSemigroup.f k l l) true := ev_to (eqSg_ev hl) (by simp)
end Go.Proofs.Ythkhpejggdnkfaa.E
end
section
namespace Go.Proofs.Ythkhpejggdnkfaa.Pure
open Go.RowKit Go.Proofs.Ythkhpejggdnkfaa.PA Go.Proofs.Ythkhpejggdnkfaa.E Go.Proofs.YthkhpejggdnkfaaW.PrintWords Go.Proofs.YthkhpejggdnkfaaW.PrintLast Go.Proofs.YthkhpejggdnkfaaW.PrintMore
set_option linter.unusedVariables false
set_option linter.unusedSimpArgs false
theorem FnExactGlueOf (l0 l1 : List Int) (a2 a3 : Int) (h0 : l0.length ≤ maxLen) (y0 : l0.length * 8 ≤ 140737488351232) (w0 : ∀ x ∈ l0, (Lit.int .i64 x).wf = true) (h1 : l1.length ≤ maxLen) (y1 : l1.length * 8 ≤ 140737488351232) (w1 : ∀ x ∈ l1, (Lit.int .i64 x).wf = true) (w2 : (Lit.int .i64 a2).wf = true) (w3 : (Lit.int .i64 a3).wf = true) : ∃ k, laws_FnExactGlueOf.f k l0 l1 a2 a3 = some true := by
 apply Ev.rounds
 unfold laws_FnExactGlueOf.f
 by_cases h : (l0.length : Int) ≤ 1048576
 · rw [szSg_small h (by omega)]
   simp only [Option.bind_some]
   refine ev_ifn (by omega) ?_
   by_cases g : (l1.length : Int) ≤ 1048576 - l0.length
   · rw [szSg_small g (by omega)]
     simp only [Option.bind_some]
     refine ev_ifn (by omega) ?_
     have hl0 : l0.length ≤ 1048576 := by omega
     have hl1 : l1.length ≤ 1048576 := by omega
     have hi := glueI_ev (a := l0) (b := l1) a2 a3 (by omega) (by omega)
     have hs := glueS_ev (a := l0) (b := l1) a2 a3 (by omega) (by omega)
     have ll := glu_len l0 l1 a2 a3
     have em := markSg_ev (l := l0) (a := 1) (by omega) (by omega)
     have en := markSg_ev (l := l1) (a := 1 + l0.length) (by omega) (by omega)
     have ea := markSg_ev (l := (glu l0 l1 a2 a3).1) (a := 1) (by omega) (by omega)
     have eh := heldSg_ev (n := (glu l0 l1 a2 a3).1.length) (a := 1) (by omega) (by omega)
     have es := eqSg_same (l := (glu l0 l1 a2 a3).1) (by omega)
     refine ev_bind _ (toSg_ev hl0) ?_
     refine ev_bind _ (toSg_ev hl1) ?_
     refine ev_bind _ hs ?_
     refine ev_bind _ (toSg_ev hl0) ?_
     refine ev_bind _ (toSg_ev hl1) ?_
     refine ev_bind _ hi ?_
     refine ev_bind _ es ?_
     refine ev_ifp rfl ?_
     refine Ev.step (fun k => by rw [laws_FnExactGlueOf.j0]) ?_
     refine ev_ifn (by simp) ?_
     refine ev_bind _ (toSg_ev hl0) ?_
     refine ev_bind _ (eqSg_same (l := l0) (by omega)) ?_
     refine ev_ifp rfl ?_
     refine ev_bind _ (toSg_ev hl1) ?_
     refine ev_bind _ (eqSg_same (l := l1) (by omega)) ?_
     refine ev_ifp rfl ?_
     refine ev_bind _ em ?_
     refine ev_bind _ en ?_
     refine ev_ifn (show ¬ (1 + (l0.length : Int) + (l1.length : Int) < 0) by omega) ?_
     refine ev_bind _ es ?_
     refine ev_ifp rfl ?_
     refine Ev.step (fun k => by rw [laws_FnExactGlueOf.j1]) ?_
     refine ev_ifn (by simp) ?_
     refine ev_bind _ ea ?_
     refine ev_bind _ eh ?_
     refine ev_ifn (show ¬ (1 + ((glu l0 l1 a2 a3).1.length : Int) < 0) by omega) ?_
     refine ev_ifp rfl ?_
     refine ev_bind _ (toSg_ev hl0) ?_
     refine ev_bind _ (toSg_ev hl1) ?_
     refine ev_bind _ hi ?_
     refine ev_bind _ es ?_
     refine ev_ifp rfl ?_
     refine Ev.step (fun k => by rw [laws_FnExactGlueOf.j2]) ?_
     refine ev_ifn (by simp) ?_
     refine ev_bind _ eh ?_
     refine ev_ifn (show ¬ (1 + ((glu l0 l1 a2 a3).1.length : Int) < 0) by omega) ?_
     refine ev_ifp rfl ?_
     exact Ev.now _
   · rw [szSg_big g (by omega) (by omega) (by omega)]
     simp only [Option.bind_some]
     exact ev_ifp (by omega) (Ev.now _)
 · rw [szSg_big h (by omega) (by omega) (by omega)]
   simp only [Option.bind_some]
   exact ev_ifp (by omega) (Ev.now _)
end Go.Proofs.Ythkhpejggdnkfaa.Pure
end
section
namespace Go.Proofs.Ythkhpejggdnkfaa.E
open Go.ChangeShapes Go.WideShapes Go.ChangeAt Go.RowKit Go.Deep Go.Joins
theorem array1_ {α : Type} {cs : Array α} (h : cs.size = 1) : ∃ c0, cs = #[c0] := by
 obtain ⟨l⟩ := cs
 match l, h with
 | [c0], _ => exact ⟨c0, rfl⟩
theorem open_agg1_ {H : Type} {enc : TypeId × Value → H} {P : Program} {w : World} {base : Nat} {spare : Nat → Bool} {held : Bool} {r : Reach} {b0 : Nat} {t : TypeId} {f0 : Field} {v : Value} {d : DataW H} {p : List MemPlace} (hs : P.underlying t = some (.struct #[f0])) (hone : oneCellFields P #[f0] = true) (hC : P.cellsOf t = 1)
 (hv : Value.okWide P w r b0 t v) (h : DataW.Trod enc P w base spare held t v d p) :
 ∃ (v0 : Value) (y0 : DataW H × List MemPlace) (n : Nat), v = .agg #[v0] ∧ d = .agg [y0.1] ∧ p = y0.2 ∧ DataW.trod enc P w base spare held n f0.type [v0] = some y0 := by
 obtain ⟨cs, rfl, hsz⟩ := okWide_struct hs hv
 obtain ⟨c0, rfl⟩ := array1_ (hsz.trans hC)
 obtain ⟨fuel, hf⟩ := h
 obtain ⟨y0, n, hx, _, h0⟩ := trod_struct1 hs hf
 obtain ⟨o0, k0⟩ := hone_of hone 0 f0 rfl
 simp only [Prod.mk.injEq] at hx
 exact ⟨c0, y0, n, rfl, hx.1, hx.2, by simpa [Value.cells, o0, k0] using h0⟩
theorem sized_agg_ {H : Type} {P : Program} {ts : List TypeId} {ds : List (DataW H)} (h : (DataW.weightsEach P ts ds).all (· ≤ reachBytes) = true) {j : Nat} {t : TypeId} {fs : Array Field} {parts : List (DataW H)} (ht : ts[j]? = some t) (hd : ds[j]? = some (.agg parts)) (hu : P.underlying t = some (.struct fs)) :
 (DataW.weightsEach P (fs.toList.map (·.type)) parts).all (· ≤ reachBytes) = true := by
 refine List.all_eq_true.2 fun n hn => List.all_eq_true.1 h n (DataW.weights_mem_each ht hd n ?_)
 simpa [DataW.weights, hu] using hn
end Go.Proofs.Ythkhpejggdnkfaa.E
end
section
namespace Go.Proofs.YthkhpejggdnkfaaW.PrintWords
open Go.ChangeShapes Go.WideShapes
theorem sized_ints {H : Type} {enc : TypeId × Value → H} {P : Program} {W : World} {base : Nat} {spare : Nat → Bool} {held : Bool} {t e : TypeId} {k : IntKind} {a : Option Addr} {len cap : Nat} {d : DataW H} {ps : List MemPlace} {ts : List TypeId} {ds : List (DataW H)} {j : Nat}
 (hsz : (DataW.weightsEach P ts ds).all (· ≤ reachBytes) = true) (ht : ts[j]? = some t) (hd : ds[j]? = some d) (hu : P.underlying t = some (.slice e)) (he : P.underlying e = some (.int k)) (hc : P.cellsOf e = 1) {B : Nat} (hB : P.bytesOf e = B)
 (h : DataW.Trod enc P W base spare held t (.slice a len cap) d ps) : len * B ≤ 140737488351232 := by
 obtain ⟨fuel, hf⟩ := h
 rcases open_ints hu he hc hf with ⟨hcs, _⟩ | ⟨x, l, c, zs, hcs, _, hl, _, hz, hx, _, _⟩
 · simp [Value.cells] at hcs
   obtain ⟨rfl, rfl, rfl⟩ := hcs
   simp
 · simp [Value.cells] at hcs
   obtain ⟨rfl, rfl, rfl⟩ := hcs
   obtain ⟨hx, _⟩ := Prod.mk.inj hx
   subst hx
   have z := sized_slice hsz ht hd hu
   rw [hB] at z
   have hl2 : len ≤ zs.length := by
    rw [hz]
    split
    · exact hl
    · exact Nat.le_refl _
   have h1 : (lits (H := H) k (zs.take len)).length + (lits (H := H) k (zs.drop len)).length = zs.length := by
    simp [lits]
    omega
   rw [h1] at z
   exact Nat.le_trans (Nat.mul_le_mul_right _ hl2) z
end Go.Proofs.YthkhpejggdnkfaaW.PrintWords
end
