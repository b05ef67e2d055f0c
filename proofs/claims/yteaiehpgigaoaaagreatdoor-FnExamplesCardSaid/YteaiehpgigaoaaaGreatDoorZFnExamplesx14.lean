-- Bundled by shake.py from this session's printed and written texts; Lean checks it.
import Derived.ChangeSlices
import Derived.KernelRfl
import Derived.Lib.Join
import Derived.SizedLaws
import Derived.Test.YteaiehpgigaoaaaGreatDoorZFnExamplesx1
import Derived.Test.YteaiehpgigaoaaaGreatDoorZFnExamplesx11
import Derived.Test.YteaiehpgigaoaaaGreatDoorZFnExamplesx12
import Derived.Test.YteaiehpgigaoaaaGreatDoorZFnExamplesx13
import Derived.Test.YteaiehpgigaoaaaGreatDoorZFnExamplesx2
import Derived.Test.YteaiehpgigaoaaaGreatDoorZFnExamplesx3
import Derived.Test.YteaiehpgigaoaaaGreatDoorZFnExamplesx4
import Derived.Test.YteaiehpgigaoaaaGreatDoorZFnExamplesx5
import Derived.Test.YteaiehpgigaoaaaGreatDoorZFnExamplesx6
import Derived.Test.YteaiehpgigaoaaaGreatDoorZFnExamplesx8
import Derived.Test.YteaiehpgigaoaaaGreatDoorZFnExamplesx9
section
namespace Go.Proofs.YteaiehpgigaoaaaGreatDoor.E
open Go.RowKit Go.Proofs.YteaiehpgigaoaaaGreatDoor.PB Go.Proofs.YteaiehpgigaoaaaGreatDoorW.PrintWords Go.Proofs.YteaiehpgigaoaaaGreatDoorW.PrintLast Go.Proofs.YteaiehpgigaoaaaGreatDoorW.PrintMore
set_option linter.unusedVariables false
set_option linter.unusedSimpArgs false
theorem cdI_ev {v : List Int} (hl : v.length ≤ 1099511627776) : Ev (fun k => impl_ConductorOf.f k v) (cd v) := by
 have := fob_small v
 unfold impl_ConductorOf.f cd
 refine ev_bind _ (frI_ev hl) ?_
 rw [w64 (by omega) (by omega)]; exact Ev.now _
theorem cdS_ev {v : List Int} (hl : v.length ≤ 1099511627776) : Ev (fun k => spec_ConductorOf.f k v) (cd v) := by
 have := fob_small v
 unfold spec_ConductorOf.f cd
 refine ev_bind _ (frS_ev hl) ?_
 rw [w64 (by omega) (by omega)]; exact Ev.now _
theorem smI_l {v : List Int} {c : Int} (hc : c ≤ 200) (d : Nat) : ∀ (i : Int) (out : List Int), 0 ≤ i → i + d = c → (out.length : Int) ≤ i → Ev (fun k => impl_SmallElements.l0 k out (stab v 200) c i) (out ++ fl (fun n => decide (Su v n)) i d) := by
 have sl := stab_len (v := v) (m := 200) (by omega)
 induction d with
 | zero =>
  intro i out h0 h1 h2
  refine Ev.step (fun k => by rw [impl_SmallElements.l0]) (ev_ifn (by omega) (ev_to (Ev.now _) ?_))
  simp [fl]
 | succ d ih =>
  intro i out h0 h1 h2
  have s := stab_iff (v := v) (m := 200) h0 (by omega)
  refine Ev.step (fun k => by rw [impl_SmallElements.l0]) ?_
  rw [w64 (x := i + 1) (by omega) (by omega)]
  by_cases c : Su v i
  · rw [fl_yes (by simpa using c)]
    refine ev_ifp (by omega) (ev_ifp h0 (ev_ifp (by omega) (ev_ifp (s.2 c) (ev_ifp (by omega) (ev_to (ih (i + 1) (out ++ [i]) (by omega) (by omega) (by simp; omega)) ?_)))))
    simp
  · rw [fl_no (by simpa using c)]
    exact ev_ifp (by omega) (ev_ifp h0 (ev_ifp (by omega) (ev_ifn (fun h => c (s.1 h)) (ih (i + 1) out (by omega) (by omega) (by omega)))))
theorem smS_l {v : List Int} {c : Int} (hc : c ≤ 1000) (hc0 : 0 ≤ c) (d : Nat) : ∀ (i : Int) (out : List Int), 0 ≤ i → i + d = c → (out.length : Int) ≤ i → Ev (fun k => spec_l4Small.l0 k c out (stab v c) i) (out ++ fl (fun n => decide (Su v n)) i d) := by
 have sl := stab_len (v := v) (m := c) hc0
 induction d with
 | zero =>
  intro i out h0 h1 h2
  refine Ev.step (fun k => by rw [spec_l4Small.l0]) (ev_ifn (by omega) (ev_to (Ev.now _) ?_))
  simp [fl]
 | succ d ih =>
  intro i out h0 h1 h2
  have s := stab_iff (v := v) (m := c) h0 (by omega)
  refine Ev.step (fun k => by rw [spec_l4Small.l0]) ?_
  rw [w64 (x := i + 1) (by omega) (by omega)]
  by_cases c : Su v i
  · rw [fl_yes (by simpa using c)]
    refine ev_ifp (by omega) (ev_ifp h0 (ev_ifp (by omega) (ev_ifp (s.2 c) (ev_ifp (by omega) (ev_to (ih (i + 1) (out ++ [i]) (by omega) (by omega) (by simp; omega)) ?_)))))
    simp
  · rw [fl_no (by simpa using c)]
    exact ev_ifp (by omega) (ev_ifp h0 (ev_ifp (by omega) (ev_ifn (fun h => c (s.1 h)) (ih (i + 1) out (by omega) (by omega) (by omega)))))
theorem l4Small_ev {v : List Int} (h : SG v) {c : Int} (hc : c ≤ 1000) : Ev (fun k => spec_l4Small.f k v c) (sml v c) := by
 unfold spec_l4Small.f sml
 simp only [Option.bind_some]
 by_cases e : c < 1
 · rw [show c.toNat = 0 from by omega]; exact ev_ifp e (Ev.now _)
 · exact ev_ifn e (ev_bind _ (h.sutabS (by omega) (by omega)) (smS_l hc (by omega) c.toNat 0 [] (by omega) (by omega) (by simp)))
noncomputable def sme (v : List Int) : List Int := if SG v then sml v (cd v) else []
theorem sme_len (v : List Int) : (sme v).length ≤ 200 := by
 unfold sme; split
 · rename_i c
   have := sml_len v (cd v); have := cd_fact c; omega
 · simp
theorem smI_ev {v : List Int} (hl : v.length ≤ 1099511627776) : Ev (fun k => impl_SmallElements.f k v) (sme v) := by
 unfold impl_SmallElements.f sme
 refine ev_bind _ (sgI_ev hl) ?_
 by_cases c : SG v
 · have f := cd_fact c
   rw [if_pos c]
   exact ev_ifp (by simpa using c) (ev_bind _ (c.sutab (by omega) (by omega)) (ev_bind _ (cdI_ev hl) (smI_l f.2.1 (cd v).toNat 0 [] (by omega) (by omega) (by simp))))
 · rw [if_neg c]; exact ev_ifn (by simpa using c) (Ev.now _)
theorem smS_ev {v : List Int} (hl : v.length ≤ 1099511627776) : Ev (fun k => spec_SmallElements.f k v) (sme v) := by
 unfold spec_SmallElements.f sme
 refine ev_bind _ (sgS_ev hl) ?_
 by_cases c : SG v
 · have f := cd_fact c
   rw [if_pos c]
   exact ev_ifp (by simpa using c) (ev_bind _ (cdS_ev hl) (ev_bind _ (l4Small_ev c (by omega)) (Ev.now _)))
 · rw [if_neg c]; exact ev_ifn (by simpa using c) (Ev.now _)
noncomputable def mir (v : List Int) (f but x : Int) : Bool := @decide (∀ y, x ≤ y → y ≤ f → y ≠ but → ¬ (Su v y ↔ Su v (f - y))) (Classical.propDecidable _)
theorem mir_t {v : List Int} {f but x : Int} : mir v f but x = true ↔ ∀ y, x ≤ y → y ≤ f → y ≠ but → ¬ (Su v y ↔ Su v (f - y)) := by unfold mir; exact @decide_eq_true_iff _ (Classical.propDecidable _)
theorem mir_end {v : List Int} {f but x : Int} (h : f < x) : true = mir v f but x := (mir_t.2 fun y h1 h2 _ => by omega).symm
theorem mir_skip {v : List Int} {f but x : Int} (h : x = but) : mir v f but (x + 1) = mir v f but x := by
 rw [Bool.eq_iff_iff, mir_t, mir_t]
 exact ⟨fun k y h1 h2 h3 => k y (by omega) h2 h3, fun k y h1 h2 h3 => k y (by omega) h2 h3⟩
theorem mir_no {v : List Int} {f but x : Int} (hx : x ≤ f) (h : x ≠ but) (e : Su v x ↔ Su v (f - x)) : false = mir v f but x := by
 symm
 rw [Bool.eq_false_iff]
 exact fun k => mir_t.1 k x (Int.le_refl _) hx h e
theorem mir_yes {v : List Int} {f but x : Int} (e : ¬ (Su v x ↔ Su v (f - x))) : mir v f but (x + 1) = mir v f but x := by
 rw [Bool.eq_iff_iff, mir_t, mir_t]
 refine ⟨fun k y h1 h2 h3 => ?_, fun k y h1 h2 h3 => k y (by omega) h2 h3⟩
 by_cases c : y = x
 · subst c; exact e
 · exact k y (by omega) h2 h3
theorem same_su {v : List Int} {a b : Int} : ((decide (Su v a) == decide (Su v b)) = true) ↔ (Su v a ↔ Su v b) := by rw [beq_iff_eq, decide_eq_decide]
theorem halved_l {v : List Int} {f but : Int} (hf : f ≤ 199) (d : Nat) : ∀ x : Int, 0 ≤ x → x + d = f + 1 → Ev (fun k => impl_halved.l0 k but f (stab v 200) x) (mir v f but x) := by
 have sl := stab_len (v := v) (m := 200) (by omega)
 induction d with
 | zero =>
  intro x h0 h1
  exact Ev.step (fun k => by rw [impl_halved.l0]) (ev_ifn (by omega) (ev_to (Ev.now _) (mir_end (by omega))))
 | succ d ih =>
  intro x h0 h1
  refine Ev.step (fun k => by rw [impl_halved.l0]) ?_
  rw [w64 (x := x + 1) (by omega) (by omega), w64 (x := f - x) (by omega) (by omega), stab_rd (v := v) (m := 200) h0 (by omega), stab_rd (v := v) (m := 200) (j := f - x) (by omega) (by omega)]
  refine ev_ifp (by omega) ?_
  by_cases c : x = but
  · exact ev_ifp c (ev_to (ih (x + 1) (by omega) (by omega)) (mir_skip c))
  · refine ev_ifn c (ev_ifp h0 (ev_ifp (by omega) (ev_ifp (by omega) (ev_ifp (by omega) ?_))))
    by_cases e : (Su v x ↔ Su v (f - x))
    · exact ev_ifp (same_su.2 e) (ev_to (Ev.now _) (mir_no (by omega) c e))
    · exact ev_ifn (fun k => e (same_su.1 k)) (ev_to (ih (x + 1) (by omega) (by omega)) (mir_yes e))
theorem halved_ev {v : List Int} (h : SG v) (but : Int) : Ev (fun k => impl_halved.f k v but) (mir v (fob v) but 0) := by
 have fs := fob_small v
 have l := h.len
 unfold impl_halved.f
 exact ev_bind _ (frI_ev (by omega)) (ev_bind _ (h.sutab (by omega) (by omega)) (halved_l fs.2 (fob v + 1).toNat 0 (by omega) (by omega)))
theorem has3_ev {v : List Int} (h : SG v) (a : Int) : Ev (fun k => spec_l3Has.f k v a) (decide (Su v a)) := by
 unfold spec_l3Has.f
 by_cases h0 : a < 0
 · refine ev_ifp h0 (ev_to (Ev.now _) ?_)
   rw [decide_eq_decide]
   exact ⟨fun k => by omega, fun k => by have := k.pos h.pos; omega⟩
 refine ev_ifn h0 ?_
 by_cases h2 : a ≥ 200
 · refine ev_ifp h2 (ev_to (Ev.now _) ?_)
   rw [decide_eq_decide]
   exact ⟨fun _ => h.ends a h2, fun _ => by omega⟩
 have sl := stab_len (v := v) (m := a) (by omega)
 exact ev_ifn h2 (ev_bind _ (h.sutabS (by omega) (by omega)) (ev_ifp (by omega) (ev_ifp (by omega) (ev_to (Ev.now _) (stab_rd (by omega) (Int.le_refl _))))))
theorem mirror_l {v : List Int} (h : SG v) {f but : Int} {m : Bool} (hf : f ≤ 199) (hm : ∀ y, 0 ≤ y → y ≤ f → (y = but ↔ m = true ∧ 2 * y = f)) (d : Nat) : ∀ x : Int, 0 ≤ x → x + d = f + 1 → Ev (fun k => spec_l9Mirror.l0 k m f x v) (mir v f but x) := by
 induction d with
 | zero =>
  intro x h0 h1
  exact Ev.step (fun k => by rw [spec_l9Mirror.l0]) (ev_ifn (by omega) (ev_to (Ev.now _) (mir_end (by omega))))
 | succ d ih =>
  intro x h0 h1
  have hj : ∀ b : Bool, (b = true ↔ x = but) → Ev (fun k => spec_l9Mirror.j1 k m f x b v) (mir v f but x) := fun b hb => by
   refine Ev.step (fun k => by rw [spec_l9Mirror.j1]) ?_
   rw [w64 (x := x + 1) (by omega) (by omega), w64 (x := f - x) (by omega) (by omega)]
   by_cases c : x = but
   · exact ev_ifp (hb.2 c) (ev_to (ih (x + 1) (by omega) (by omega)) (mir_skip c))
   · refine ev_ifn (fun k => c (hb.1 k)) (ev_bind _ (has3_ev h x) (ev_bind _ (has3_ev h (f - x)) ?_))
     by_cases e : (Su v x ↔ Su v (f - x))
     · exact ev_ifp (same_su.2 e) (ev_to (Ev.now _) (mir_no (by omega) c e))
     · exact ev_ifn (fun k => e (same_su.1 k)) (ev_to (ih (x + 1) (by omega) (by omega)) (mir_yes e))
  refine Ev.step (fun k => by rw [spec_l9Mirror.l0]) (ev_ifp (by omega) ?_)
  have q := hm x h0 (by omega)
  cases m with
  | true => exact ev_ifp rfl (hj _ (by rw [w64 (by omega) (by omega), beq_iff_eq, q]; simp))
  | false => exact ev_ifn (by simp) (hj _ (by rw [q]; simp))
theorem mirror_ev {v : List Int} (h : SG v) {but : Int} {m : Bool} (hm : ∀ y, 0 ≤ y → y ≤ fob v → (y = but ↔ m = true ∧ 2 * y = fob v)) : Ev (fun k => spec_l9Mirror.f k v m) (mir v (fob v) but 0) := by
 have fs := fob_small v
 have l := h.len
 unfold spec_l9Mirror.f
 exact ev_bind _ (frS_ev (by omega)) (mirror_l h fs.2 hm (fob v + 1).toNat 0 (by omega) (by omega))
theorem symI_ev {v : List Int} (h : SG v) : Ev (fun k => impl_IsSymmetric.f k v) (mir v (fob v) (-1) 0) := by
 have l := h.len
 unfold impl_IsSymmetric.f
 exact ev_bind _ (sgI_ev (by omega)) (ev_ifp (by simpa using h) (ev_bind _ (halved_ev h (-1)) (Ev.now _)))
theorem symS_ev {v : List Int} (h : SG v) : Ev (fun k => spec_IsSymmetric.f k v) (mir v (fob v) (-1) 0) := by
 have l := h.len
 unfold spec_IsSymmetric.f
 exact ev_bind _ (sgS_ev (by omega)) (ev_ifp (by simpa using h) (ev_bind _ (mirror_ev h fun y h0 h1 => ⟨fun e => by omega, fun e => by simp at e⟩) (Ev.now _)))
noncomputable def psy (v : List Int) : Bool := if 0 < fob v ∧ fob v % 2 = 0 then mir v (fob v) (fob v / 2) 0 else false
theorem psyI_ev {v : List Int} (h : SG v) : Ev (fun k => impl_IsPseudoSymmetric.f k v) (psy v) := by
 have l := h.len
 have fs := fob_small v
 have nz : fob v ≠ 0 := fun e => by have := cd_fact h; unfold cd at this; omega
 unfold impl_IsPseudoSymmetric.f psy
 refine ev_bind _ (frI_ev (by omega)) (ev_bind _ (sgI_ev (by omega)) (ev_ifp (by simpa using h) ?_))
 by_cases c : fob v ≥ 0
 · refine ev_ifp c ?_
   rw [Int.tmod_eq_emod_of_nonneg c, Int.tdiv_eq_ediv_of_nonneg c, w64 (by omega) (by omega)]
   by_cases e : fob v % 2 = 0
   · rw [if_pos ⟨by omega, e⟩]; exact ev_ifp e (ev_bind _ (halved_ev h _) (Ev.now _))
   · rw [if_neg (fun k => e k.2)]; exact ev_ifn e (Ev.now _)
 · rw [if_neg (fun k => c (by omega))]; exact ev_ifn c (Ev.now _)
theorem psyS_ev {v : List Int} (h : SG v) : Ev (fun k => spec_IsPseudoSymmetric.f k v) (psy v) := by
 have l := h.len
 have fs := fob_small v
 unfold spec_IsPseudoSymmetric.f psy
 refine ev_bind _ (frS_ev (by omega)) ?_
 by_cases c : fob v > 0
 · refine ev_ifp c ?_
   rw [Int.tmod_eq_emod_of_nonneg (by omega)]
   by_cases e : fob v % 2 = 0
   · rw [if_pos ⟨by omega, e⟩]
     exact ev_ifp e (ev_bind _ (mirror_ev h fun y h0 h1 => ⟨fun q => ⟨rfl, by omega⟩, fun q => by omega⟩) (Ev.now _))
   · rw [if_neg (fun k => e k.2)]; exact ev_ifn e (Ev.now _)
 · rw [if_neg (fun k => c (by omega))]; exact ev_ifn c (Ev.now _)
def ba (l : List UInt8) : ByteArray := ⟨l.toArray⟩
def tn (l : List UInt8) : List Int := l.map fun b => (b.toNat : Int)
theorem ba_app (a b : List UInt8) : ba a ++ ba b = ba (a ++ b) := ByteArray.ext (by simp [ba])
theorem ba_size (l : List UInt8) : (ba l).size = l.length := by simp [ba, ByteArray.size]
theorem ba_list (l : List UInt8) : (ba l).data.toList = l := by simp [ba]
theorem tn_app (a b : List UInt8) : tn (a ++ b) = tn a ++ tn b := by simp [tn]
theorem tn_len (a : List UInt8) : (tn a).length = a.length := by simp [tn]
theorem bytes_ba (l : List UInt8) : bytesOf (ba l) = tn l := by simp [bytesOf, ba, tn]
theorem nums_ba (l : List UInt8) : strOfNums (tn l) = ba l := by
 unfold strOfNums ba tn
 rw [List.map_map]
 congr 2
 conv => rhs; rw [← List.map_id l]
 exact List.map_congr_left fun b _ => by simp
theorem digit_ba (u : Nat) (h : u < 10) : strOfNums [wrap64 (48 + (u : Int)) % 256] = ba [UInt8.ofNat (48 + u)] := by
 rw [w64 (by omega) (by omega), Int.emod_eq_of_lt (by omega) (by omega)]
 unfold strOfNums ba
 simp only [List.map_cons, List.map_nil]
 rw [show ((48 : Int) + (u : Int)).toNat = 48 + u from by omega]
def fmts (n : Int) : List UInt8 := if n < 0 then 45 :: digs_ 17 n.natAbs else digs_ 17 n.toNat
theorem digs_len : ∀ f u, (digs_ f u).length ≤ f + 1
 | 0, u => by simp [digs_]
 | f + 1, u => by
  have := digs_len f (u / 10)
  unfold digs_
  split
  · simp
  · simp; omega
theorem fmts_len (n : Int) : (fmts n).length ≤ 19 := by
 unfold fmts
 split
 · have := digs_len 17 n.natAbs; simp; omega
 · have := digs_len 17 n.toNat; omega
theorem fmtI_eq {n : Int} (h0 : -1000000 < n) (h1 : n < 1000000) (k : Nat) : impl_FormatI.f k n = some (ba (fmts n)) := by
 unfold impl_FormatI.f
 rw [if_pos ⟨by omega, by omega⟩]
 rfl
theorem fmtS_l (f : Nat) : ∀ (u : Nat) (x : Int) (b : Bool) (out : List UInt8), 1 ≤ u → u < 10 ^ (f + 1) → (x = u ∨ x = -(u : Int)) → u ≤ 1000000000 → out.length + f ≤ 1000 → Ev (fun k => spec_FormatInt.l0 k x b (ba out)) (ba ((if b = true then [45] else []) ++ (digs_ f u ++ out))) := by
 have fin : ∀ (b : Bool) (s : List UInt8), s.length ≤ 1002 → Ev (fun k => spec_FormatInt.l0 k 0 b (ba s)) (ba ((if b = true then [45] else []) ++ s)) := fun b s hs => by
  refine Ev.step (fun k => by rw [spec_FormatInt.l0]) (ev_ifp rfl ?_)
  cases b with
  | true =>
   refine ev_ifp rfl (ev_ifp (by rw [ba_size]; omega) (ev_to (Ev.now _) ?_))
   rw [show (⟨#[45]⟩ : ByteArray) = ba [45] from rfl, ba_app]; simp
  | false => exact ev_ifn (by simp) (ev_to (Ev.now _) (by simp))
 have main : ∀ (f : Nat) (u : Nat) (x : Int) (b : Bool) (out : List UInt8), 1 ≤ u → (x = u ∨ x = -(u : Int)) → u ≤ 1000000000 → out.length + f ≤ 1000 → ∀ r, (∀ x' : Int, (x' = ((u / 10 : Nat) : Int) ∨ x' = -((u / 10 : Nat) : Int)) → Ev (fun k => spec_FormatInt.l0 k x' b (ba (UInt8.ofNat (48 + u % 10) :: out))) r) → Ev (fun k => spec_FormatInt.l0 k x b (ba out)) r := by
  intro f u x b out h1 hx hu ho r go
  have dg := digit_ba (u % 10) (by omega)
  have ap : ba [UInt8.ofNat (48 + u % 10)] ++ ba out = ba (UInt8.ofNat (48 + u % 10) :: out) := by rw [ba_app]; rfl
  have sz : (ba [UInt8.ofNat (48 + u % 10)]).size + (ba out).size ≤ 9223372036854775807 := by rw [ba_size, ba_size]; simp; omega
  refine Ev.step (fun k => by rw [spec_FormatInt.l0]) (ev_ifn (by omega) ?_)
  rcases hx with rfl | rfl
  · have t : Int.tmod (u : Int) 10 = ((u % 10 : Nat) : Int) := by rw [Int.tmod_eq_emod_of_nonneg (by omega)]; omega
    have q : Int.tdiv (u : Int) 10 = ((u / 10 : Nat) : Int) := by rw [Int.tdiv_eq_ediv_of_nonneg (by omega)]; omega
    rw [t, q]
    refine ev_ifn (by omega) ?_
    simp only [Option.bind_some]
    rw [dg]
    refine ev_ifp sz ?_
    rw [w64 (x := ((u / 10 : Nat) : Int)) (by omega) (by omega), ap]
    exact go _ (.inl rfl)
  · have t : Int.tmod (-(u : Int)) 10 = -((u % 10 : Nat) : Int) := by rw [Int.neg_tmod, Int.tmod_eq_emod_of_nonneg (by omega)]; omega
    have q : Int.tdiv (-(u : Int)) 10 = -((u / 10 : Nat) : Int) := by rw [Int.neg_tdiv, Int.tdiv_eq_ediv_of_nonneg (by omega)]; omega
    rw [t, q]
    by_cases c : u % 10 = 0
    · refine ev_ifn (by omega) ?_
      simp only [Option.bind_some]
      rw [show (48 : Int) + -((u % 10 : Nat) : Int) = 48 + ((u % 10 : Nat) : Int) from by omega, dg]
      refine ev_ifp sz ?_
      rw [w64 (x := -((u / 10 : Nat) : Int)) (by omega) (by omega), ap]
      exact go _ (.inr rfl)
    · refine ev_ifp (by omega) ?_
      simp only [Option.bind_some]
      rw [w64 (x := - -((u % 10 : Nat) : Int)) (by omega) (by omega), show - -((u % 10 : Nat) : Int) = ((u % 10 : Nat) : Int) from by omega, dg]
      refine ev_ifp sz ?_
      rw [w64 (x := -((u / 10 : Nat) : Int)) (by omega) (by omega), ap]
      exact go _ (.inr rfl)
 have one : ∀ (u : Nat) (x : Int) (b : Bool) (out : List UInt8), 1 ≤ u → u < 10 → (x = u ∨ x = -(u : Int)) → out.length ≤ 1000 → Ev (fun k => spec_FormatInt.l0 k x b (ba out)) (ba ((if b = true then [45] else []) ++ ([UInt8.ofNat (48 + u)] ++ out))) := by
  intro u x b out h1 h2 hx ho
  refine main 0 u x b out h1 hx (by omega) ho _ fun x' hx' => ?_
  have e : x' = 0 := by omega
  rw [e, show u % 10 = u from by omega]
  exact fin b _ (by simp; omega)
 induction f with
 | zero =>
  intro u x b out h1 h2 hx hu ho
  exact one u x b out h1 (by omega) hx (by omega)
 | succ f ih =>
  intro u x b out h1 h2 hx hu ho
  unfold digs_
  by_cases c : u < 10
  · rw [if_pos c]; exact one u x b out h1 c hx (by omega)
  · rw [if_neg c]
    refine main (f + 1) u x b out h1 hx hu ho _ fun x' hx' => ?_
    have := ih (u / 10) x' b (UInt8.ofNat (48 + u % 10) :: out) (by omega) (by rw [Nat.pow_succ] at h2; omega) hx' (by omega) (by simp; omega)
    rw [List.append_assoc (digs_ f (u / 10))]
    exact this
theorem fmtS_ev {n : Int} (h0 : -1000000 < n) (h1 : n < 1000000) : Ev (fun k => spec_FormatInt.f k n) (ba (fmts n)) := by
 unfold spec_FormatInt.f
 by_cases c : n = 0
 · subst c
   exact ev_ifp rfl (ev_to (Ev.now _) rfl)
 · refine ev_ifn c (ev_to (fmtS_l 17 n.natAbs n _ [] (by omega) (by omega) (by omega) (by omega) (by simp)) ?_)
   unfold fmts
   by_cases e : n < 0
   · rw [if_pos e, if_pos (by simpa using e), List.append_nil]; rfl
   · rw [if_neg e, if_neg (by simpa using e), List.append_nil, show n.toNat = n.natAbs from by omega]; rfl
theorem rd_ba {L : List (List UInt8)} {i : Int} (h0 : 0 ≤ i) (h1 : i < L.length) : rdOf ByteArray.empty (L.map ba) i = ba (L[i.toNat]'(by omega)) := by
 unfold rdOf
 rw [List.getD_eq_getElem?_getD, List.getElem?_map, List.getElem?_eq_getElem (by omega)]
 rfl
theorem tail_cons (sep x : List UInt8) (r : List (List UInt8)) : Lib.joinTail sep (x :: r) = sep ++ x ++ Lib.joinTail sep r := by simp [Lib.joinTail]
theorem tail_len {sep : List UInt8} (hs : sep.length ≤ 10) : ∀ {r : List (List UInt8)}, (∀ x ∈ r, x.length ≤ 10000) → (Lib.joinTail sep r).length ≤ r.length * 10010
 | [], _ => by simp [Lib.joinTail]
 | x :: r, h => by
  have a := h x (by simp)
  have b := tail_len hs (r := r) fun y hy => h y (by simp [hy])
  rw [tail_cons]
  simp only [List.length_append, List.length_cons]
  omega
theorem join_len {sep : List UInt8} (hs : sep.length ≤ 10) {L : List (List UInt8)} (h : ∀ x ∈ L, x.length ≤ 10000) : (Lib.join L sep).length ≤ L.length * 10010 := by
 cases L with
 | nil => simp [Lib.join_nil]
 | cons x r =>
  have a := h x (by simp)
  have b := tail_len hs (r := r) fun y hy => h y (by simp [hy])
  rw [Lib.join_cons]
  simp only [List.length_append, List.length_cons]
  omega
theorem joinS_l {L : List (List UInt8)} {sep : List UInt8} (hs : sep.length ≤ 10) (hL : ∀ x ∈ L, x.length ≤ 10000) (hl : L.length ≤ 1000) (d : Nat) : ∀ (i : Int) (A : List UInt8), 1 ≤ i → i + d = L.length → (A.length : Int) ≤ i * 10010 → Ev (fun k => spec_Join.l0 k (L.map ba) (ba sep) (tn A) i) (ba (A ++ Lib.joinTail sep (L.drop i.toNat))) := by
 induction d with
 | zero =>
  intro i A h0 h1 h2
  refine Ev.step (fun k => by rw [spec_Join.l0]) (ev_ifn (by simp; omega) (ev_to (Ev.now _) ?_))
  rw [nums_ba, List.drop_of_length_le (by omega)]; simp [Lib.joinTail]
 | succ d ih =>
  intro i A h0 h1 h2
  have hx := hL _ (List.getElem_mem (l := L) (n := i.toNat) (by omega))
  refine Ev.step (fun k => by rw [spec_Join.l0]) (ev_ifp (by simp; omega) (ev_ifp (by omega) (ev_ifp (by rw [tn_len, ba_size]; omega) ?_)))
  simp only [Option.bind_some]
  rw [rd_ba (by omega) (by omega), bytes_ba, bytes_ba, ← tn_app, ← tn_app, w64 (x := i + 1) (by omega) (by omega)]
  refine ev_ifp (by omega) (ev_ifp (by rw [tn_len, ba_size, List.length_append]; omega) (ev_to (ih (i + 1) _ (by omega) (by omega) (by rw [List.length_append, List.length_append]; omega)) ?_))
  rw [List.drop_eq_getElem_cons (i := i.toNat) (by omega), tail_cons, show (i + 1).toNat = i.toNat + 1 from by omega]
  simp
theorem joinS_ev {L : List (List UInt8)} {sep : List UInt8} (hs : sep.length ≤ 10) (hL : ∀ x ∈ L, x.length ≤ 10000) (hl : L.length ≤ 1000) : Ev (fun k => spec_Join.f k (L.map ba) (ba sep)) (ba (Lib.join L sep)) := by
 unfold spec_Join.f
 cases L with
 | nil =>
  refine Ev.step (fun k => by rw [spec_Join.l0]) ?_
  exact ev_ifn (by simp) (ev_to (Ev.now _) rfl)
 | cons x r =>
  have hx := hL x (by simp)
  refine Ev.step (fun k => by rw [spec_Join.l0]) (ev_ifp (by simp) (ev_ifn (by omega) ?_))
  rw [rd_ba (by omega) (by simp), bytes_ba, List.nil_append, w64 (x := (0 : Int) + 1) (by omega) (by omega), Lib.join_cons]
  refine ev_ifp (by omega) (ev_ifp (by rw [ba_size]; simp; omega) ?_)
  exact joinS_l hs hL hl r.length 1 x (by omega) (by simp; omega) (by omega)
theorem joinI_eq {L : List (List UInt8)} {sep : List UInt8} (hs : sep.length ≤ 10) (hL : ∀ x ∈ L, x.length ≤ 10000) (hl : L.length ≤ 1000) (k : Nat) : impl_Join.f k (L.map ba) (ba sep) = some (ba (Lib.join L sep)) := by
 have e : (L.map ba).map (fun s => s.data.toList) = L := by
  rw [List.map_map]
  conv => rhs; rw [← List.map_id L]
  exact List.map_congr_left fun x _ => by simp [ba]
 have b := join_len hs hL
 unfold impl_Join.f
 rw [e, ba_list, if_pos ⟨by simp; omega, by omega⟩]
 rfl
def ltx (l : List Int) : List UInt8 := if l.length = 0 then [110, 111, 110, 101] else Lib.join (l.map fmts) [44]
theorem fms_le (l : List Int) : ∀ x ∈ l.map fmts, x.length ≤ 10000 := fun x hx => by
 obtain ⟨n, _, rfl⟩ := List.mem_map.1 hx
 have := fmts_len n
 omega
theorem ltI_l {l : List Int} (hl : l.length ≤ 1000) (hb : ∀ x ∈ l, -1000000 < x ∧ x < 1000000) (d : Nat) : ∀ i : Int, 0 ≤ i → i + d = l.length → Ev (fun k => impl_ListText.l0 k (((l.take i.toNat).map fmts).map ba) l (l.length : Int) i) (ba (Lib.join (l.map fmts) [44])) := by
 induction d with
 | zero =>
  intro i h0 h1
  refine Ev.step (fun k => by rw [impl_ListText.l0]) (ev_ifn (by omega) ?_)
  rw [List.take_of_length_le (by omega)]
  exact ev_bind _ ⟨0, fun k _ => joinI_eq (sep := [44]) (by simp) (fms_le l) (by simpa using hl) k⟩ (Ev.now _)
 | succ d ih =>
  intro i h0 h1
  have m := hb _ (rd_mem (l := l) h0 (by omega))
  refine Ev.step (fun k => by rw [impl_ListText.l0]) (ev_ifp (by omega) (ev_ifp h0 (ev_ifp (by omega) (ev_bind _ ⟨0, fun k _ => fmtI_eq m.1 m.2 k⟩ ?_))))
  refine ev_ifp (by rw [List.length_map, List.length_map, List.length_take]; omega) ?_
  rw [w64 (x := i + 1) (by omega) (by omega)]
  have := ih (i + 1) (by omega) (by omega)
  rw [take_rd h0 (by omega), List.map_append, List.map_append] at this
  exact this
theorem ltI_ev {l : List Int} (hl : l.length ≤ 1000) (hb : ∀ x ∈ l, -1000000 < x ∧ x < 1000000) : Ev (fun k => impl_ListText.f k l) (ba (ltx l)) := by
 unfold impl_ListText.f ltx
 by_cases c : l.length = 0
 · rw [if_pos c]; exact ev_ifp (by omega) (ev_to (Ev.now _) rfl)
 · rw [if_neg c]; exact ev_ifn (by omega) (ltI_l hl hb l.length 0 (by omega) (by omega))
theorem ltS_l {l : List Int} (hl : l.length ≤ 1000) (hb : ∀ x ∈ l, -1000000 < x ∧ x < 1000000) (d : Nat) : ∀ i : Int, 0 ≤ i → i + d = l.length → Ev (fun k => spec_ListText.l0 k l (((l.take i.toNat).map fmts).map ba) i) (ba (Lib.join (l.map fmts) [44])) := by
 induction d with
 | zero =>
  intro i h0 h1
  refine Ev.step (fun k => by rw [spec_ListText.l0]) (ev_ifn (by omega) ?_)
  rw [List.take_of_length_le (by omega)]
  exact ev_bind _ (joinS_ev (sep := [44]) (by simp) (fms_le l) (by simpa using hl)) (Ev.now _)
 | succ d ih =>
  intro i h0 h1
  have m := hb _ (rd_mem (l := l) h0 (by omega))
  refine Ev.step (fun k => by rw [spec_ListText.l0]) (ev_ifp (by omega) (ev_ifp h0 (ev_bind _ (fmtS_ev m.1 m.2) ?_)))
  refine ev_ifp (by rw [List.length_map, List.length_map, List.length_take]; omega) ?_
  rw [w64 (x := i + 1) (by omega) (by omega)]
  have := ih (i + 1) (by omega) (by omega)
  rw [take_rd h0 (by omega), List.map_append, List.map_append] at this
  exact this
theorem ltS_ev {l : List Int} (hl : l.length ≤ 1000) (hb : ∀ x ∈ l, -1000000 < x ∧ x < 1000000) : Ev (fun k => spec_ListText.f k l) (ba (ltx l)) := by
 unfold spec_ListText.f ltx
 by_cases c : l.length = 0
 · rw [if_pos c]; exact ev_ifp (by omega) (ev_to (Ev.now _) rfl)
 · rw [if_neg c]; exact ev_ifn (by omega) (ltS_l hl hb l.length 0 (by omega) (by omega))
theorem gp_small (v : List Int) : ∀ x ∈ gp v, -1000000 < x ∧ x < 1000000 := fun x hx => by have := gp_mem.1 hx; omega
theorem gtI_ev {v : List Int} (h : SG v) : Ev (fun k => impl_GapText.f k v) (ba (ltx (gp v))) := by
 have l := h.len
 have g := gp_len v
 unfold impl_GapText.f
 exact ev_bind _ (sgI_ev (by omega)) (ev_ifp (by simpa using h) (ev_bind _ (ev_to (gapsI_ev (by omega)) (if_pos h)) (ev_bind _ (ltI_ev (by omega) (gp_small v)) (Ev.now _))))
theorem gtS_ev {v : List Int} (h : SG v) : Ev (fun k => spec_GapText.f k v) (ba (ltx (gp v))) := by
 have l := h.len
 have g := gp_len v
 unfold spec_GapText.f
 exact ev_bind _ (sgS_ev (by omega)) (ev_ifp (by simpa using h) (ev_bind _ (ev_to (gapsS_gps (by omega)) (gps_sg h)) (ev_bind _ (ltS_ev (by omega) (gp_small v)) (Ev.now _))))
noncomputable def lc (v : List Int) : Int := if SG v then ((sme v).length : Int) else -1
theorem lc_sg {v : List Int} (h : SG v) : lc v = (sme v).length := by unfold lc; rw [if_pos h]
theorem lcI_ev {v : List Int} (hl : v.length ≤ 1099511627776) : Ev (fun k => impl_LeftCount.f k v) (lc v) := by
 unfold impl_LeftCount.f lc
 refine ev_bind _ (sgI_ev hl) ?_
 by_cases c : SG v
 · rw [if_pos c]; exact ev_ifp (by simpa using c) (ev_bind _ (smI_ev hl) (Ev.now _))
 · rw [if_neg c]; exact ev_ifn (by simpa using c) (Ev.now _)
theorem lcS_ev {v : List Int} (hl : v.length ≤ 1099511627776) : Ev (fun k => spec_LeftCount.f k v) (lc v) := by
 unfold spec_LeftCount.f lc
 refine ev_bind _ (sgS_ev hl) ?_
 by_cases c : SG v
 · rw [if_pos c]; exact ev_ifp (by simpa using c) (ev_bind _ (smS_ev hl) (Ev.now _))
 · rw [if_neg c]; exact ev_ifn (by simpa using c) (Ev.now _)
noncomputable def wilf (v : List Int) : Int := if SG v then wrap64 (wrap64 ((v.length : Int) * lc v) - cd v) else -1
theorem wilfI_ev {v : List Int} (hl : v.length ≤ 1099511627776) : Ev (fun k => impl_WilfNumber.f k v) (wilf v) := by
 unfold impl_WilfNumber.f wilf
 refine ev_bind _ (sgI_ev hl) ?_
 by_cases c : SG v
 · rw [if_pos c]; exact ev_ifp (by simpa using c) (ev_bind _ (lcI_ev hl) (ev_bind _ (cdI_ev hl) (Ev.now _)))
 · rw [if_neg c]; exact ev_ifn (by simpa using c) (Ev.now _)
theorem wilfS_ev {v : List Int} (hl : v.length ≤ 1099511627776) : Ev (fun k => spec_WilfNumber.f k v) (wilf v) := by
 unfold spec_WilfNumber.f wilf
 refine ev_bind _ (sgS_ev hl) ?_
 by_cases c : SG v
 · rw [if_pos c]; exact ev_ifp (by simpa using c) (ev_bind _ (lcS_ev hl) (ev_bind _ (cdS_ev hl) (Ev.now _)))
 · rw [if_neg c]; exact ev_ifn (by simpa using c) (Ev.now _)
end Go.Proofs.YteaiehpgigaoaaaGreatDoor.E
end
section
namespace Go.Proofs.YteaiehpgigaoaaaGreatDoor.E
open Go.RowKit Go.Proofs.YteaiehpgigaoaaaGreatDoor.PB Go.Proofs.YteaiehpgigaoaaaGreatDoorW.PrintWords Go.Proofs.YteaiehpgigaoaaaGreatDoorW.PrintLast Go.Proofs.YteaiehpgigaoaaaGreatDoorW.PrintMore
set_option linter.unusedVariables false
set_option linter.unusedSimpArgs false
set_option maxHeartbeats 8000000
set_option maxRecDepth 100000
noncomputable def knd (v : List Int) : List UInt8 := if mir v (fob v) (-1) 0 = true then [115, 121, 109, 109, 101, 116, 114, 105, 99] else if psy v = true then [112, 115, 101, 117, 100, 111, 45, 115, 121, 109, 109, 101, 116, 114, 105, 99] else [114, 101, 100, 117, 99, 105, 98, 108, 101]
theorem knd_len (v : List Int) : (knd v).length ≤ 16 := by
 unfold knd; split
 · simp
 · split <;> simp
noncomputable def words (v : List Int) : List (List UInt8) :=
 [[102, 114, 111, 98, 101, 110, 105, 117, 115], fmts (fob v), [103, 101, 110, 117, 115], fmts ((gp v).length : Int), [116, 121, 112, 101], fmts (typ v), knd v, [103, 97, 112, 115], ltx (gp v), [108, 101, 97, 115, 116], ltx (apl v (rd v 0)), [119, 105, 108, 102], fmts (wilf v)]
noncomputable def desc (v : List Int) : List UInt8 := if SG v then Lib.join (words v) [32] else []
theorem lt_len2 {l : List Int} (hl : l.length ≤ 300) : (ltx l).length ≤ 10000 := by
 unfold ltx
 split
 · simp
 · have : ∀ m : List Int, (Lib.joinTail [44] (m.map fmts)).length ≤ m.length * 20 := fun m => by
    induction m with
    | nil => simp [Lib.joinTail]
    | cons x r ih =>
     have := fmts_len x
     rw [List.map_cons, tail_cons]
     simp only [List.length_append, List.length_cons, List.length_nil]
     omega
   cases l with
   | nil => simp [Lib.join_nil]
   | cons x r =>
    have a := fmts_len x
    have b := this r
    rw [List.map_cons, Lib.join_cons, List.length_append]
    simp only [List.length_cons] at hl
    omega
theorem typ_le (v : List Int) : 0 ≤ typ v ∧ typ v ≤ 199 := by
 have := pff_len v
 unfold typ; split <;> omega
theorem wilf_le {v : List Int} (h : SG v) : -1000000 < wilf v ∧ wilf v < 1000000 := by
 have l := h.len
 have a := sme_len v
 have c := cd_fact h
 have p : 0 ≤ (v.length : Int) * ((sme v).length : Int) := Int.mul_nonneg (by omega) (by omega)
 have q : (v.length : Int) * ((sme v).length : Int) ≤ 12 * 200 := Int.mul_le_mul (by omega) (by omega) (by omega) (by omega)
 unfold wilf
 rw [if_pos h, lc_sg h, w64 (x := (v.length : Int) * ((sme v).length : Int)) (by omega) (by omega), w64 (by omega) (by omega)]
 omega
theorem fmtI_ev {n : Int} (h0 : -1000000 < n) (h1 : n < 1000000) : Ev (fun k => impl_FormatI.f k n) (ba (fmts n)) := ⟨0, fun k _ => fmtI_eq h0 h1 k⟩
theorem descI_ev {v : List Int} (hl : v.length ≤ 1099511627776) : Ev (fun k => impl_DescribeSemigroup.f k v) (ba (desc v)) := by
 unfold impl_DescribeSemigroup.f desc
 refine ev_bind _ (sgI_ev hl) ?_
 by_cases h : SG v
 · rw [if_pos h]
   obtain ⟨g, hg⟩ : ∃ g : Int, g = ((gp v).length : Int) := ⟨_, rfl⟩
   have hG : Ev (fun k => impl_GenusOf.f k v) g := by rw [hg]; exact ev_to (genusI_ev hl) (if_pos h)
   obtain ⟨f1, f2, f3⟩ := h.ul.first
   have fs := fob_small v
   have gl := gp_len v
   have ul := h.ul.1
   have al := apl_len v (n := rd v 0) (by omega)
   have ty := typ_le v
   have wl := wilf_le h
   have hj : ∀ s : ByteArray, s = ba (knd v) → Ev (fun k => impl_DescribeSemigroup.j0 k s v) (ba (Lib.join (words v) [32])) := by
    rintro s rfl
    refine Ev.step (fun k => by rw [impl_DescribeSemigroup.j0]) (ev_bind _ (frI_ev hl) (ev_bind _ (fmtI_ev (n := fob v) (by omega) (by omega)) (ev_bind _ hG (ev_bind _ (fmtI_ev (n := g) (by omega) (by omega)) (ev_bind _ (typI_ev h) (ev_bind _ (fmtI_ev (n := typ v) (by omega) (by omega)) (ev_bind _ (gtI_ev h) ?_)))))))
    refine ev_ifp (by omega) (ev_bind _ (apI_ev h) (ev_bind _ (ltI_ev (by omega) fun x hx => by have := apl_mem h f2 f3 hx; omega) (ev_bind _ (wilfI_ev hl) (ev_bind _ (fmtI_ev wl.1 wl.2) (ev_bind _ ⟨0, fun k _ => ?_⟩ (Ev.now _))))))
    subst hg
    refine joinI_eq (L := words v) (sep := [32]) (by simp) (fun x hx => ?_) (by simp [words]) k
    unfold words at hx
    have k1 := fmts_len (fob v)
    have k2 := fmts_len ((gp v).length : Int)
    have k3 := fmts_len (typ v)
    have k4 := fmts_len (wilf v)
    have k5 := knd_len v
    have k6 := lt_len2 (l := gp v) (by omega)
    have k7 := lt_len2 (l := apl v (rd v 0)) (by omega)
    simp only [List.mem_cons, List.not_mem_nil, or_false] at hx
    rcases hx with rfl | rfl | rfl | rfl | rfl | rfl | rfl | rfl | rfl | rfl | rfl | rfl | rfl <;> first | omega | (simp; done) | (simp; omega)
   refine ev_ifp (by simpa using h) (ev_bind _ (symI_ev h) ?_)
   by_cases c : mir v (fob v) (-1) 0 = true
   · exact ev_ifp c (hj _ (by unfold knd; rw [if_pos c]; rfl))
   · refine ev_ifn c (ev_bind _ (psyI_ev h) ?_)
     by_cases e : psy v = true
     · exact ev_ifp e (hj _ (by unfold knd; rw [if_neg c, if_pos e]; rfl))
     · exact ev_ifn e (hj _ (by unfold knd; rw [if_neg c, if_neg e]; rfl))
 · rw [if_neg h]; exact ev_ifn (by simpa using h) (ev_to (Ev.now _) rfl)
theorem kndS_ev {v : List Int} (h : SG v) : Ev (fun k => spec_l29Kind.f k v) (ba (knd v)) := by
 unfold spec_l29Kind.f
 refine ev_bind _ (symS_ev h) ?_
 by_cases c : mir v (fob v) (-1) 0 = true
 · exact ev_ifp c (ev_to (Ev.now _) (by unfold knd; rw [if_pos c]; rfl))
 · refine ev_ifn c (ev_bind _ (psyS_ev h) ?_)
   by_cases e : psy v = true
   · exact ev_ifp e (ev_to (Ev.now _) (by unfold knd; rw [if_neg c, if_pos e]; rfl))
   · exact ev_ifn e (ev_to (Ev.now _) (by unfold knd; rw [if_neg c, if_neg e]; rfl))
theorem lit_ba (l : List UInt8) : (⟨l.toArray⟩ : ByteArray) = ba l := rfl
theorem lit_sz (l : List UInt8) : (⟨l.toArray⟩ : ByteArray).size = l.length := ba_size l
theorem descS_ev {v : List Int} (hl : v.length ≤ 1099511627776) : Ev (fun k => spec_DescribeSemigroup.f k v) (ba (desc v)) := by
 unfold spec_DescribeSemigroup.f desc
 refine ev_bind _ (sgS_ev hl) ?_
 by_cases h : SG v
 · rw [if_pos h]
   obtain ⟨g, hg⟩ : ∃ g : Int, g = ((gp v).length : Int) := ⟨_, rfl⟩
   have hG : Ev (fun k => spec_GenusOf.f k v) g := by rw [hg]; exact ev_to (genusS_ev hl) (if_pos h)
   obtain ⟨f1, f2, f3⟩ := h.ul.first
   have fs := fob_small v
   have gl := gp_len v
   have ul := h.ul.1
   have al := apl_len v (n := rd v 0) (by omega)
   have ty := typ_le v
   have wl := wilf_le h
   have k1 := fmts_len (fob v)
   have k2 := fmts_len g
   have k3 := fmts_len (typ v)
   have k4 := fmts_len (wilf v)
   have k5 := knd_len v
   have k6 := lt_len2 (l := gp v) (by omega)
   have k7 := lt_len2 (l := apl v (rd v 0)) (by omega)
   refine ev_ifp (by simpa using h) (ev_bind _ (frS_ev hl) (ev_bind _ (fmtS_ev (n := fob v) (by omega) (by omega)) ?_))
   refine ev_ifp (by simp only [ByteArray.size_append, ba_size, lit_sz, List.length_cons, List.length_nil]; omega) (ev_ifp (by simp only [ByteArray.size_append, ba_size, lit_sz, List.length_cons, List.length_nil]; omega) (ev_bind _ hG (ev_bind _ (fmtS_ev (n := g) (by omega) (by omega)) ?_)))
   refine ev_ifp (by simp only [ByteArray.size_append, ba_size, lit_sz, List.length_cons, List.length_nil]; omega) (ev_ifp (by simp only [ByteArray.size_append, ba_size, lit_sz, List.length_cons, List.length_nil]; omega) (ev_bind _ (typS_ev h) (ev_bind _ (fmtS_ev (n := typ v) (by omega) (by omega)) ?_)))
   refine ev_ifp (by simp only [ByteArray.size_append, ba_size, lit_sz, List.length_cons, List.length_nil]; omega) (ev_ifp (by simp only [ByteArray.size_append, ba_size, lit_sz, List.length_cons, List.length_nil]; omega) (ev_bind _ (kndS_ev h) ?_))
   refine ev_ifp (by simp only [ByteArray.size_append, ba_size, lit_sz, List.length_cons, List.length_nil]; omega) (ev_ifp (by simp only [ByteArray.size_append, ba_size, lit_sz, List.length_cons, List.length_nil]; omega) (ev_bind _ (gtS_ev h) ?_))
   refine ev_ifp (by simp only [ByteArray.size_append, ba_size, lit_sz, List.length_cons, List.length_nil]; omega) (ev_ifp (by simp only [ByteArray.size_append, ba_size, lit_sz, List.length_cons, List.length_nil]; omega) (ev_ifp (by omega) (ev_bind _ (apS_ev h) (ev_bind _ (ltS_ev (l := apl v (rd v 0)) (by omega) fun x hx => by have := apl_mem h f2 f3 hx; omega) ?_))))
   refine ev_ifp (by simp only [ByteArray.size_append, ba_size, lit_sz, List.length_cons, List.length_nil]; omega) (ev_ifp (by simp only [ByteArray.size_append, ba_size, lit_sz, List.length_cons, List.length_nil]; omega) (ev_bind _ (wilfS_ev hl) (ev_bind _ (fmtS_ev wl.1 wl.2) ?_)))
   refine ev_ifp (by simp only [ByteArray.size_append, ba_size, lit_sz, List.length_cons, List.length_nil]; omega) (ev_to (Ev.now _) ?_)
   simp only [lit_ba, ba_app]
   refine congrArg ba ?_
   subst hg
   unfold words
   rw [Lib.join_cons]
   simp only [tail_cons, show Lib.joinTail [32] [] = [] from rfl, List.append_assoc, List.cons_append, List.nil_append, List.append_nil]
 · rw [if_neg h]; exact ev_ifn (by simpa using h) (ev_to (Ev.now _) rfl)
end Go.Proofs.YteaiehpgigaoaaaGreatDoor.E
end
section
namespace Go.Proofs.YteaiehpgigaoaaaGreatDoor.E
open Go.RowKit Go.Proofs.YteaiehpgigaoaaaGreatDoor.PB Go.Proofs.YteaiehpgigaoaaaGreatDoorW.PrintWords Go.Proofs.YteaiehpgigaoaaaGreatDoorW.PrintLast Go.Proofs.YteaiehpgigaoaaaGreatDoorW.PrintMore
set_option linter.unusedVariables false
set_option linter.unusedSimpArgs false
theorem and255 (a : Int) : 0 ≤ Go.bits .and .i64 a 255 ∧ Go.bits .and .i64 a 255 ≤ 255 := by
 have h : ((BitVec.ofInt 64 a &&& BitVec.ofInt 64 255).toNat : Nat) ≤ 255 := by
  rw [BitVec.toNat_and]
  exact Nat.le_trans Nat.and_le_right (by decide)
 show 0 ≤ IntKind.i64.wrap ((BitVec.ofInt 64 a &&& BitVec.ofInt 64 255).toNat : Int) ∧ IntKind.i64.wrap ((BitVec.ofInt 64 a &&& BitVec.ofInt 64 255).toNat : Int) ≤ 255
 rw [Go.IntKind.wrap_i64]
 omega
def Cu (b : List Int) (i : Int) : Prop := 0 ≤ i ∧ i ≤ b.length ∧ (b.length : Int) ≤ 1099511627776
theorem byte_ok {b : List Int} {i : Int} (h : Int) (c : Cu b i) : ∃ x j g, spec_l1Byte.f b i h = some (x, j, g) ∧ (0 ≤ x ∧ x ≤ 255) ∧ Cu b j := by
 obtain ⟨c1, c2, c3⟩ := c
 unfold spec_l1Byte.f
 by_cases e : i < b.length
 · rw [if_pos e, if_pos c1, w64 (x := i + 1) (by omega) (by omega)]
   exact ⟨_, _, _, rfl, and255 _, by omega, by omega, c3⟩
 · rw [if_neg e]
   exact ⟨_, _, _, rfl, and255 _, c1, c2, c3⟩
theorem below_ok {b : List Int} {i : Int} (h : Int) (c : Cu b i) {n : Int} (hn : 0 < n) : ∃ x j g, spec_l1Below.f b i h n = some (x, j, g) ∧ (0 ≤ x ∧ x < n) ∧ Cu b j := by
 unfold spec_l1Below.f
 rw [if_neg (by omega)]
 by_cases e : n ≤ 256
 · obtain ⟨x, j, g, e1, hx, c'⟩ := byte_ok h c
   rw [if_pos e, e1]
   simp only [Option.bind_some]
   rw [if_neg (by omega), Int.tmod_eq_emod_of_nonneg hx.1]
   exact ⟨_, _, _, rfl, ⟨Int.emod_nonneg _ (by omega), Int.emod_lt_of_pos _ hn⟩, c'⟩
 · obtain ⟨x, j, g, e1, hx, c1⟩ := byte_ok h c
   obtain ⟨y, j2, g2, e2, hy, c2⟩ := byte_ok g c1
   obtain ⟨z, j3, g3, e3, hz, c3⟩ := byte_ok g2 c2
   obtain ⟨u, j4, g4, e4, hu, c4⟩ := byte_ok g3 c3
   rw [if_neg e, e1]
   simp only [Option.bind_some]
   rw [e2]
   simp only [Option.bind_some]
   rw [e3]
   simp only [Option.bind_some]
   rw [e4]
   simp only [Option.bind_some]
   rw [if_neg (by omega), w64 (x := x * 16777216) (by omega) (by omega), w64 (x := y * 65536) (by omega) (by omega), w64 (x := z * 256) (by omega) (by omega), w64 (x := x * 16777216 + y * 65536) (by omega) (by omega), w64 (x := x * 16777216 + y * 65536 + z * 256) (by omega) (by omega), w64 (x := x * 16777216 + y * 65536 + z * 256 + u) (by omega) (by omega), Int.tmod_eq_emod_of_nonneg (by omega)]
   exact ⟨_, _, _, rfl, ⟨Int.emod_nonneg _ (by omega), Int.emod_lt_of_pos _ hn⟩, c4⟩
theorem pick_ok {b : List Int} {i : Int} (h : Int) (c : Cu b i) {l : List Int} (hl : 0 < (l.length : Int)) : ∃ x j g, spec_l1PickInt.f b i h l = some (x, j, g) ∧ x ∈ l ∧ Cu b j := by
 obtain ⟨x, j, g, e, hx, c'⟩ := below_ok h c hl
 unfold spec_l1PickInt.f
 rw [e]
 simp only [Option.bind_some]
 rw [if_pos hx.1, if_pos hx.2]
 exact ⟨_, _, _, rfl, rd_mem hx.1 hx.2, c'⟩
theorem new_l {b : List Int} (hb : (b.length : Int) ≤ 1099511627776) (d : Nat) : ∀ i h : Int, 0 ≤ i → i + d = max i (min 4000 b.length) → ∃ g, Ev (fun k => spec_l1New.l0 k b h i) (b, 0, g) := by
 induction d with
 | zero =>
  intro i h h0 h1
  refine ⟨h, Ev.step (fun k => by rw [spec_l1New.l0]) ?_⟩
  by_cases c : i < b.length
  · exact ev_ifp c (ev_ifn (by omega) (Ev.now _))
  · exact ev_ifn c (Ev.now _)
 | succ d ih =>
  intro i h h0 h1
  obtain ⟨g, hE⟩ := ih (i + 1) (Go.bits .and .i64 (wrap64 ((wrap64 ((wrap64 (h * 131)) + (wrap64 (rd b i)))) + 7)) 1073741823) (by omega) (by omega)
  refine ⟨g, Ev.step (fun k => by rw [spec_l1New.l0]) ?_⟩
  rw [w64 (x := i + 1) (by omega) (by omega)]
  exact ev_ifp (by omega) (ev_ifp (by omega) (ev_ifp h0 hE))
theorem new_ev {b : List Int} (hb : (b.length : Int) ≤ 1099511627776) : ∃ g, Ev (fun k => spec_l1New.f k b) (b, 0, g) ∧ Cu b 0 := by
 obtain ⟨g, hE⟩ := new_l hb (min 4000 b.length) 0 (wrap64 (26583 + (b.length : Int))) (by omega) (by omega)
 exact ⟨g, hE, by omega, by omega, hb⟩
end Go.Proofs.YteaiehpgigaoaaaGreatDoor.E
end
section
namespace Go.Proofs.YteaiehpgigaoaaaGreatDoor.E
open Go.RowKit Go.Proofs.YteaiehpgigaoaaaGreatDoorW.PrintWords Go.Proofs.YteaiehpgigaoaaaGreatDoorW.PrintLast Go.Proofs.YteaiehpgigaoaaaGreatDoorW.PrintMore
set_option linter.unusedVariables false
set_option linter.unusedSimpArgs false
theorem asc_lt {g : List Int} (h : Asc g) (d : Nat) : ∀ i j : Int, 0 ≤ i → j = i + d + 1 → j < g.length → rd g i < rd g j := by
 induction d with
 | zero =>
  intro i j h0 h1 h2
  have := h j (by omega) h2
  rwa [show j - 1 = i from by omega] at this
 | succ d ih =>
  intro i j h0 h1 h2
  have a := ih i (j - 1) h0 (by omega) (by omega)
  have b := h j (by omega) h2
  omega
end Go.Proofs.YteaiehpgigaoaaaGreatDoor.E
end
section
namespace Go.Proofs.YteaiehpgigaoaaaGreatDoor.E
open Go.RowKit Go.Proofs.YteaiehpgigaoaaaGreatDoor.PB Go.Proofs.YteaiehpgigaoaaaGreatDoorW.PrintWords Go.Proofs.YteaiehpgigaoaaaGreatDoorW.PrintLast Go.Proofs.YteaiehpgigaoaaaGreatDoorW.PrintMore
set_option linter.unusedVariables false
set_option linter.unusedSimpArgs false
def pw (l : List Int) : Prop := l.Pairwise (· < ·)
theorem pw_asc {l : List Int} (h : pw l) : Asc l := by
 induction l with
 | nil => intro i h0 h1; simp at h1; omega
 | cons x l ih => exact asc_cons (List.pairwise_cons.1 h).1 (ih (List.pairwise_cons.1 h).2)
theorem pw_eq : ∀ {a b : List Int}, pw a → pw b → (∀ z, z ∈ a ↔ z ∈ b) → a = b
 | [], [], _, _, _ => rfl
 | [], y :: b, _, _, h => absurd ((h y).2 (List.mem_cons_self ..)) (by simp)
 | x :: a, [], _, _, h => absurd ((h x).1 (List.mem_cons_self ..)) (by simp)
 | x :: a, y :: b, ha, hb, h => by
  have ha' := List.pairwise_cons.1 ha
  have hb' := List.pairwise_cons.1 hb
  have e : x = y := by
   rcases List.mem_cons.1 ((h x).1 (List.mem_cons_self ..)) with k | k
   · exact k
   · rcases List.mem_cons.1 ((h y).2 (List.mem_cons_self ..)) with q | q
     · exact q.symm
     · have := ha'.1 y q; have := hb'.1 x k; omega
  subst e
  refine congrArg (x :: ·) (pw_eq ha'.2 hb'.2 fun z => ⟨fun k => ?_, fun k => ?_⟩)
  · rcases List.mem_cons.1 ((h z).1 (List.mem_cons_of_mem _ k)) with q | q
    · have := ha'.1 z k; omega
    · exact q
  · rcases List.mem_cons.1 ((h z).2 (List.mem_cons_of_mem _ k)) with q | q
    · have := hb'.1 z k; omega
    · exact q
def ins1 (x : Int) : List Int → List Int
 | [] => [x]
 | y :: l => if x < y then x :: y :: l else if x = y then y :: l else y :: ins1 x l
theorem ins1_mem {x z : Int} : ∀ {l : List Int}, z ∈ ins1 x l ↔ z = x ∨ z ∈ l
 | [] => by simp [ins1]
 | y :: l => by
  unfold ins1
  split
  · simp
  · split
    · rename_i e; subst e; simp
    · rw [List.mem_cons, ins1_mem, List.mem_cons]; constructor
      · rintro (a | a | a)
        · exact .inr (.inl a)
        · exact .inl a
        · exact .inr (.inr a)
      · rintro (a | a | a)
        · exact .inr (.inl a)
        · exact .inl a
        · exact .inr (.inr a)
theorem ins1_pw {x : Int} : ∀ {l : List Int}, pw l → pw (ins1 x l)
 | [], _ => by simp [ins1, pw]
 | y :: l, h => by
  have h' := List.pairwise_cons.1 h
  unfold ins1
  split
  · rename_i c
    refine List.pairwise_cons.2 ⟨fun z hz => ?_, h⟩
    rcases List.mem_cons.1 hz with rfl | k
    · exact c
    · have := h'.1 z k; omega
  · split
    · exact h
    · rename_i c e
      refine List.pairwise_cons.2 ⟨fun z hz => ?_, ins1_pw h'.2⟩
      rcases ins1_mem.1 hz with rfl | k
      · omega
      · exact h'.1 z k
def srt (l : List Int) : List Int := l.foldr ins1 []
theorem srt_mem {z : Int} : ∀ {l : List Int}, z ∈ srt l ↔ z ∈ l
 | [] => by simp [srt]
 | x :: l => by
  have := srt_mem (z := z) (l := l)
  unfold srt at this ⊢
  rw [List.foldr_cons, ins1_mem, this, List.mem_cons]
theorem srt_pw : ∀ l : List Int, pw (srt l)
 | [] => by simp [srt, pw]
 | x :: l => by have := srt_pw l; unfold srt at this ⊢; rw [List.foldr_cons]; exact ins1_pw this
theorem ins1_len {x : Int} : ∀ {l : List Int}, (ins1 x l).length ≤ l.length + 1
 | [] => by simp [ins1]
 | y :: l => by
  have := ins1_len (x := x) (l := l)
  unfold ins1
  split
  · simp
  · split <;> simp <;> omega
theorem srt_len : ∀ l : List Int, (srt l).length ≤ l.length
 | [] => by simp [srt]
 | x :: l => by
  have := srt_len l
  have h := ins1_len (x := x) (l := srt l)
  unfold srt at this h ⊢
  rw [List.foldr_cons, List.length_cons]; omega
theorem pw_put {l : List Int} {x : Int} {p : Nat} (h : pw l) (lo : ∀ z ∈ l.take p, z < x) (hi : ∀ z ∈ l.drop p, x < z) : pw (l.take p ++ [x] ++ l.drop p) := by
 unfold pw at h ⊢
 rw [List.append_assoc]
 refine List.pairwise_append.2 ⟨h.sublist (List.take_sublist ..), List.pairwise_append.2 ⟨by simp, h.sublist (List.drop_sublist ..), fun a ha b hb => ?_⟩, fun a ha b hb => ?_⟩
 · rw [List.mem_singleton] at ha; subst ha; exact hi b hb
 · rcases List.mem_append.1 hb with q | q
   · rw [List.mem_singleton] at q; subst q; exact lo a ha
   · have := lo a ha; have := hi b q; omega
theorem srt_l1 {l : List Int} (hl : l.length ≤ 1048576) {i : Int} (h0 : 0 ≤ i) (hi : i < l.length) {x3 : List Int} (h3 : pw x3) (hn : (x3.length : Int) ≤ i) {r : List Int} (N : ∀ y, pw y → (y.length : Int) ≤ i + 1 → (∀ z, z ∈ y ↔ z ∈ x3 ∨ z = rd l i) → Ev (fun k => spec_SortList.l0 k l y (i + 1)) r) (d : Nat) : ∀ p : Int, p = d → p ≤ x3.length → (∀ z ∈ x3.drop p.toNat, rd l i < z) → Ev (fun k => spec_SortList.l1 k l x3 i p) r := by
 have put : ∀ p : Int, 0 ≤ p → p ≤ x3.length → (∀ z ∈ x3.take p.toNat, z < rd l i) → (∀ z ∈ x3.drop p.toNat, rd l i < z) → Ev (fun k => spec_SortList.l0 k l (x3.take p.toNat ++ [rd l i] ++ ([] ++ x3.drop p.toNat)) (i + 1)) r := fun p p0 p1 a b => by
  rw [List.nil_append]
  refine N _ (pw_put h3 a b) ?_ fun z => ?_
  · have := take_len p0 p1
    rw [List.length_append, List.length_append, List.length_singleton, List.length_drop]; omega
  · have e := List.take_append_drop p.toNat x3
    constructor
    · intro k
      rcases List.mem_append.1 k with k | k
      · rcases List.mem_append.1 k with k | k
        · exact .inl (List.mem_of_mem_take k)
        · exact .inr (List.mem_singleton.1 k)
      · exact .inl (List.mem_of_mem_drop k)
    · rintro (k | k)
      · rw [← e] at k
        rcases List.mem_append.1 k with k | k
        · exact List.mem_append_left _ (List.mem_append_left _ k)
        · exact List.mem_append_right _ k
      · exact List.mem_append_left _ (List.mem_append_right _ (List.mem_singleton.2 k))
 have w1 := w64 (x := i + 1) (by omega) (by omega)
 induction d with
 | zero =>
  intro p hp hp' hh
  have pt := put p (by omega) hp' (fun z hz => by rw [show p.toNat = 0 from by omega] at hz; simp at hz) hh
  have tl := take_len (v := x3) (i := p) (by omega) hp'
  refine Ev.step (fun k => by rw [spec_SortList.l1]) (ev_ifn (by omega) ?_)
  simp only [Option.bind_some]
  rw [w1]
  have dl : (x3.drop p.toNat).length ≤ x3.length := by rw [List.length_drop]; omega
  refine ev_ifp (by omega) (ev_ifp (by omega) (ev_ifp (by simp only [List.length_nil]; omega) (ev_ifp (by omega) (ev_ifp (by omega) (ev_ifp (by omega) (ev_ifp (by simp only [List.length_append, List.length_nil, List.length_singleton]; omega) pt))))))
 | succ d ih =>
  intro p hp hp' hh
  have dr := drop_rd (l := x3) (i := p - 1) (by omega) (by omega)
  rw [show p - 1 + 1 = p from by omega] at dr
  have tl := take_len (v := x3) (i := p) (by omega) hp'
  have dl : (x3.drop p.toNat).length ≤ x3.length := by rw [List.length_drop]; omega
  refine Ev.step (fun k => by rw [spec_SortList.l1]) (ev_ifp (by omega) ?_)
  rw [w64 (x := p - 1) (by omega) (by omega), w1]
  refine ev_ifp (by omega) (ev_ifp (by omega) (ev_ifp (by omega) (ev_ifp (by omega) ?_)))
  by_cases c : rd x3 (p - 1) > rd l i
  · exact ev_ifp c (ih (p - 1) (by omega) (by omega) (fun z hz => by
     rw [dr] at hz
     rcases List.mem_cons.1 hz with rfl | k
     · exact c
     · exact hh z k))
  · refine ev_ifn c ?_
    by_cases e : rd x3 (p - 1) = rd l i
    · refine ev_ifp e (N x3 h3 (by omega) fun z => ⟨fun k => .inl k, fun k => ?_⟩)
      rcases k with k | k
      · exact k
      · rw [k, ← e]; exact rd_mem (by omega) (by omega)
    · have pt := put p (by omega) hp' (fun z hz => by
       obtain ⟨j, j0, j1, j2⟩ := mem_rd hz
       rw [tl] at j1
       rw [← j2, rd_lt j0 (by rw [tl]; exact j1), List.getElem_take]
       rw [show x3[j.toNat]'(by omega) = rd x3 j from (rd_lt j0 (by omega)).symm]
       by_cases q : j = p - 1
       · rw [q]; omega
       · have := asc_lt (pw_asc h3) (p - 1 - j - 1).toNat j (p - 1) j0 (by omega) (by omega)
         omega) hh
      refine ev_ifn e ?_
      simp only [Option.bind_some]
      refine ev_ifp (by omega) (ev_ifp (by omega) (ev_ifp (by simp only [List.length_nil]; omega) (ev_ifp (by omega) (ev_ifp (by simp only [List.length_append, List.length_nil, List.length_singleton]; omega) pt))))
theorem srt_l0 {l : List Int} (hl : l.length ≤ 1048576) (d : Nat) : ∀ (i : Int) (x3 : List Int), 0 ≤ i → i + d = l.length → pw x3 → (x3.length : Int) ≤ i → (∀ z, z ∈ x3 ↔ z ∈ l.take i.toNat) → Ev (fun k => spec_SortList.l0 k l x3 i) (srt l) := by
 induction d with
 | zero =>
  intro i x3 h0 h1 h3 h4 h5
  refine Ev.step (fun k => by rw [spec_SortList.l0]) (ev_ifn (by omega) (ev_to (Ev.now _) ?_))
  rw [show i.toNat = l.length from by omega, List.take_length] at h5
  exact pw_eq h3 (srt_pw l) fun z => by rw [h5, srt_mem]
 | succ d ih =>
  intro i x3 h0 h1 h3 h4 h5
  refine Ev.step (fun k => by rw [spec_SortList.l0]) (ev_ifp (by omega) (srt_l1 hl h0 (by omega) h3 h4 (fun y y1 y2 y3 => ih (i + 1) y (by omega) (by omega) y1 y2 fun z => ?_) x3.length x3.length rfl (Int.le_refl _) (fun z hz => by simp at hz)))
  rw [y3, h5, take_rd h0 (by omega), List.mem_append, List.mem_singleton]
theorem sortS_srt {l : List Int} (hl : l.length ≤ 1048576) : Ev (fun k => spec_SortList.f k l) (srt l) :=
 srt_l0 hl l.length 0 [] (by omega) (by omega) (by simp [pw]) (by simp) (fun z => by simp)
theorem Su.all {v u : List Int} (h : ∀ x ∈ u, Su v x) {n : Int} (k : Su u n) : Su v n := by
 obtain ⟨c, w⟩ := k
 induction w with
 | zero => exact Su.zero v
 | add hx _ ih => exact ih.add (h _ hx)
noncomputable def mnk (u : List Int) : Nat → List Int
 | 0 => []
 | i + 1 => if Su (u.take i) (rd u i) then mnk u i else mnk u i ++ [rd u i]
theorem mnk_yes {u : List Int} {i : Nat} (c : Su (u.take i) (rd u i)) : mnk u (i + 1) = mnk u i := if_pos c
theorem mnk_no {u : List Int} {i : Nat} (c : ¬ Su (u.take i) (rd u i)) : mnk u (i + 1) = mnk u i ++ [rd u i] := if_neg c
theorem su_nil {n : Int} (h : Su [] n) : n = 0 := by
 obtain ⟨c, w⟩ := h
 cases w with
 | zero => rfl
 | add hm _ => simp at hm
theorem mnk_len (u : List Int) (i : Nat) : (mnk u i).length ≤ i := by
 induction i with
 | zero => exact Nat.le_refl 0
 | succ i ih =>
  unfold mnk
  split
  · omega
  · rw [List.length_append, List.length_singleton]; omega
theorem srt_ul {l : List Int} (h : UL l) : UL (srt l) := by
 have hl := h.1
 refine ⟨⟨?_, by have := srt_len l; omega⟩, fun x hx => h.2 x (srt_mem.1 hx)⟩
 have := List.length_pos_of_mem (srt_mem.2 h.first.1)
 omega
theorem min_mnk {u : List Int} (hu : UL u) (d : Nat) : ∀ i : Nat, i + d = u.length → Ev (fun k => spec_l3Minimal.l0 k (mnk u i) u i) (mnk u u.length) := by
 have hlen := hu.1
 induction d with
 | zero =>
  intro i hi
  rw [show i = u.length from by omega]
  exact Ev.step (fun k => by rw [spec_l3Minimal.l0]) (ev_ifn (by omega) (Ev.now _))
 | succ d ih =>
  intro i hi
  have nx := ih (i + 1) (by omega)
  have ml := mnk_len u i
  have hx := hu.2 _ (rd_mem (l := u) (i := (i : Int)) (by omega) (by omega))
  refine Ev.step (fun k => by rw [spec_l3Minimal.l0]) ?_
  rw [w64 (x := (i : Int) + 1) (by omega) (by omega)]
  rw [show (((i + 1 : Nat)) : Int) = (i : Int) + 1 from by omega] at nx
  by_cases c0 : (i : Int) = 0
  · have : i = 0 := by omega
    subst this
    rw [mnk_no (i := 0) (fun c => by rw [List.take_zero] at c; have := su_nil c; omega)] at nx
    exact ev_ifp (by omega) (ev_ifp c0 (ev_ifp (by omega) (ev_ifp (by omega) nx)))
  · have tl := take_len (v := u) (i := (i : Int)) (by omega) (by omega)
    obtain ⟨t, t1, t2, hE⟩ := tabS_ev (v := u.take (i : Int).toNat) (by omega) (take_ul hu.2 _) (most := rd u (i : Int)) (by omega) (by omega)
    have ht := t2 (rd u (i : Int)) (by omega) (Int.le_refl _)
    rw [show (i : Int).toNat = i from by omega] at ht hE
    rw [show (i : Int).toNat = i from by omega]
    by_cases c : Su (u.take i) (rd u (i : Int))
    · rw [mnk_yes c] at nx
      exact ev_ifp (by omega) (ev_ifn c0 (ev_ifp (by omega) (ev_ifp (by omega) (ev_bind _ hE (ev_ifp (by omega) (ev_ifp (by omega) (ev_ifp (ht.2 c) nx)))))))
    · rw [mnk_no c] at nx
      exact ev_ifp (by omega) (ev_ifn c0 (ev_ifp (by omega) (ev_ifp (by omega) (ev_bind _ hE (ev_ifp (by omega) (ev_ifp (by omega) (ev_ifn (fun h => c (ht.1 h)) (ev_ifp (by omega) nx))))))))
noncomputable def mns (l : List Int) : List Int := mnk (srt l) (srt l).length
theorem mns_len {l : List Int} : (mns l).length ≤ l.length := Nat.le_trans (mnk_len _ _) (srt_len l)
theorem l3Minimal_ev {l : List Int} (h : UL l) : Ev (fun k => spec_l3Minimal.f k l) (mns l) := by
 unfold spec_l3Minimal.f
 have := min_mnk (srt_ul h) (srt l).length 0 (by omega)
 exact ev_bind _ (sortS_srt (by have := h.1; omega)) this
def FN (l : List Int) : Prop := UL l ∧ SG (mns l)
noncomputable instance (l : List Int) : Decidable (FN l) := Classical.propDecidable _
noncomputable def fns (l : List Int) : List Int × Bool := if FN l then (mns l, true) else ([], false)
theorem fromGensS_ev {l : List Int} (hl : l.length ≤ 1099511627776) : Ev (fun k => spec_FromGens.f k l) (fns l) := by
 unfold spec_FromGens.f fns
 refine ev_bind _ (gensS_ev hl) ?_
 by_cases h : UL l
 · have ml := mns_len (l := l)
   refine ev_ifp (by simpa using h) (ev_bind _ (l3Minimal_ev h) (ev_bind _ (sgS_ev (by omega)) ?_))
   by_cases s : SG (mns l)
   · exact ev_ifp (by simpa using s) (ev_to (Ev.now _) (if_pos (show FN l from ⟨h, s⟩)).symm)
   · exact ev_ifn (by simpa using s) (ev_to (Ev.now _) (if_neg (show ¬ FN l from fun k => s k.2)).symm)
 · exact ev_ifn (by simpa using h) (ev_to (Ev.now _) (if_neg (show ¬ FN l from fun k => h k.1)).symm)
theorem fg0 : spec_FromGens.f 3000 [1] = some ([1], true) := by kernel_rfl
theorem fg1 : spec_FromGens.f 3000 [3, 5] = some ([3, 5], true) := by kernel_rfl
theorem fg2 : spec_FromGens.f 3000 [4, 6, 9] = some ([4, 6, 9], true) := by kernel_rfl
theorem fg3 : spec_FromGens.f 3000 [3, 4, 5] = some ([3, 4, 5], true) := by kernel_rfl
theorem fg4 : spec_FromGens.f 3000 [6, 9, 20] = some ([6, 9, 20], true) := by kernel_rfl
theorem fg5 : spec_FromGens.f 3000 [5, 7, 9, 11] = some ([5, 7, 9, 11], true) := by kernel_rfl
theorem fg6 : spec_FromGens.f 3000 [2, 3] = some ([2, 3], true) := by kernel_rfl
theorem fg7 : spec_FromGens.f 3000 [4, 5, 11] = some ([4, 5, 11], true) := by kernel_rfl
def L8 : List (List Int) := [[1], [3, 5], [4, 6, 9], [3, 4, 5], [6, 9, 20], [5, 7, 9, 11], [2, 3], [4, 5, 11]]
theorem fg_L8 {l : List Int} (h : l ∈ L8) : Ev (fun k => spec_FromGens.f k l) (l, true) := by
 simp only [L8, List.mem_cons, List.not_mem_nil, or_false] at h
 rcases h with rfl | rfl | rfl | rfl | rfl | rfl | rfl | rfl
 · exact Ev.of (spec_FromGens.mono _) fg0
 · exact Ev.of (spec_FromGens.mono _) fg1
 · exact Ev.of (spec_FromGens.mono _) fg2
 · exact Ev.of (spec_FromGens.mono _) fg3
 · exact Ev.of (spec_FromGens.mono _) fg4
 · exact Ev.of (spec_FromGens.mono _) fg5
 · exact Ev.of (spec_FromGens.mono _) fg6
 · exact Ev.of (spec_FromGens.mono _) fg7
theorem sg_L8 {l : List Int} (h : l ∈ L8) : SG l := by
 have hl : l.length ≤ 1099511627776 := by
  simp only [L8, List.mem_cons, List.not_mem_nil, or_false] at h
  rcases h with rfl | rfl | rfl | rfl | rfl | rfl | rfl | rfl <;> simp
 have e := ev_one (fromGensS_ev hl) (fg_L8 h)
 unfold fns at e
 split at e
 · rename_i f
   rw [Prod.mk.injEq] at e
   exact e.1 ▸ f.2
 · simp at e
theorem once_ok {b : List Int} {i : Int} (h : Int) (c : Cu b i) {n : Int} (hn : 0 < n) : ∃ x j g, spec_l1Once.f b i h n = some (x, j, g) ∧ Cu b j := by
 obtain ⟨x, j, g, e, _, cj⟩ := below_ok h c hn
 exact ⟨_, j, g, by unfold spec_l1Once.f; rw [e]; rfl, cj⟩
theorem list_ok {b : List Int} {i : Int} (h : Int) (c : Cu b i) : ∃ l j g, spec_l3List.f b i h = some (l, j, g) ∧ l ∈ L8 ∧ Cu b j := by
 obtain ⟨x, j, g, e, hx, cj⟩ := below_ok h c (n := 8) (by omega)
 unfold spec_l3List.f
 rw [e]
 simp only [Option.bind_some]
 by_cases c0 : x = 0
 · exact ⟨_, j, g, by rw [if_pos c0], by simp [L8], cj⟩
 rw [if_neg c0]
 by_cases c1 : x = 1
 · exact ⟨_, j, g, by rw [if_pos c1], by simp [L8], cj⟩
 rw [if_neg c1]
 by_cases c2 : x = 2
 · exact ⟨_, j, g, by rw [if_pos c2], by simp [L8], cj⟩
 rw [if_neg c2]
 by_cases c3 : x = 3
 · exact ⟨_, j, g, by rw [if_pos c3], by simp [L8], cj⟩
 rw [if_neg c3]
 by_cases c4 : x = 4
 · exact ⟨_, j, g, by rw [if_pos c4], by simp [L8], cj⟩
 rw [if_neg c4]
 by_cases c5 : x = 5
 · exact ⟨_, j, g, by rw [if_pos c5], by simp [L8], cj⟩
 rw [if_neg c5]
 by_cases c6 : x = 6
 · exact ⟨_, j, g, by rw [if_pos c6], by simp [L8], cj⟩
 exact ⟨_, j, g, by rw [if_neg c6], by simp [L8], cj⟩
theorem l3Draw_l1 {b : List Int} {x5 m : Int} (hm : m ≤ 4) (hx : 0 ≤ x5 ∧ x5 < 4) (N : ∀ j h, Cu b j → ∃ s j' h', SG s ∧ Cu b j' ∧ Ev (fun k => spec_l3Draw.l0 k (x5 + 1) b j h) (s, j', h')) (d : Nat) : ∀ (i j h : Int) (out : List Int), 0 ≤ i → i + d = max i m → (out.length : Int) = i + 1 → i ≤ 4 → Cu b j → ∃ s j' h', SG s ∧ Cu b j' ∧ Ev (fun k => spec_l3Draw.l1 k x5 out m i b j h) (s, j', h') := by
 induction d with
 | zero =>
  intro i j h out i0 hi ho i4 cj
  by_cases f : FN out
  · refine ⟨mns out, j, h, f.2, cj, Ev.step (fun k => by rw [spec_l3Draw.l1]) (ev_ifn (by omega) (ev_bind _ (fromGensS_ev (by omega)) ?_))⟩
    rw [show fns out = (mns out, true) from if_pos f]
    exact ev_ifp rfl (Ev.now _)
  · obtain ⟨s, j', h', s1, s2, s3⟩ := N j h cj
    refine ⟨s, j', h', s1, s2, Ev.step (fun k => by rw [spec_l3Draw.l1]) (ev_ifn (by omega) (ev_bind _ (fromGensS_ev (by omega)) ?_))⟩
    rw [show fns out = ([], false) from if_neg f, w64 (x := x5 + 1) (by omega) (by omega)]
    exact ev_ifn (by simp) s3
 | succ d ih =>
  intro i j h out i0 hi ho i4 cj
  obtain ⟨x, j1, g1, e, _, c1⟩ := below_ok h cj (n := 12) (by omega)
  obtain ⟨s, j', h', s1, s2, s3⟩ := ih (i + 1) j1 g1 (out ++ [wrap64 ((wrap64 ((rd out 0) + 1)) + x)]) (by omega) (by omega) (by rw [List.length_append, List.length_singleton]; omega) (by omega) c1
  refine ⟨s, j', h', s1, s2, Ev.step (fun k => by rw [spec_l3Draw.l1]) ?_⟩
  rw [e, w64 (x := i + 1) (by omega) (by omega)]
  simp only [Option.bind_some]
  exact ev_ifp (by omega) (ev_ifp (by omega) (ev_ifp (by omega) s3))
theorem l3Draw_l0 {b : List Int} (d : Nat) : ∀ (x5 j h : Int), 0 ≤ x5 → x5 + d = 4 → Cu b j → ∃ s j' h', SG s ∧ Cu b j' ∧ Ev (fun k => spec_l3Draw.l0 k x5 b j h) (s, j', h') := by
 induction d with
 | zero =>
  intro x5 j h x0 hx cj
  obtain ⟨l, j1, g1, e, hl, c1⟩ := list_ok h cj
  refine ⟨l, j1, g1, sg_L8 hl, c1, Ev.step (fun k => by rw [spec_l3Draw.l0]) ?_⟩
  rw [e]
  simp only [Option.bind_some]
  exact ev_ifn (by omega) (ev_bind _ (fg_L8 hl) (Ev.now _))
 | succ d ih =>
  intro x5 j h x0 hx cj
  obtain ⟨x, j1, g1, e1, hx1, c1⟩ := below_ok h cj (n := 8) (by omega)
  obtain ⟨y, j2, g2, e2, hx2, c2⟩ := below_ok g1 c1 (n := 4) (by omega)
  obtain ⟨s, j', h', s1, s2, s3⟩ := l3Draw_l1 (b := b) (x5 := x5) (m := 1 + y) (by omega) ⟨x0, by omega⟩ (fun j h c => ih (x5 + 1) j h (by omega) (by omega) c) (1 + y).toNat 0 j2 g2 [wrap64 (2 + x)] (Int.le_refl _) (by omega) (by simp) (by omega) c2
  refine ⟨s, j', h', s1, s2, Ev.step (fun k => by rw [spec_l3Draw.l0]) ?_⟩
  rw [e1]
  simp only [Option.bind_some]
  rw [e2]
  simp only [Option.bind_some]
  rw [w64 (x := 1 + y) (by omega) (by omega)]
  exact ev_ifp (by omega) s3
theorem l3Draw_ev {b : List Int} {j : Int} (h : Int) (c : Cu b j) : ∃ s j' h', SG s ∧ Cu b j' ∧ Ev (fun k => spec_l3Draw.f k b j h) (s, j', h') := by
 obtain ⟨x, j1, g1, e, c1⟩ := once_ok h c (n := 4) (by omega)
 by_cases hx : x = true
 · obtain ⟨l, j2, g2, e2, hl, c2⟩ := list_ok g1 c1
   refine ⟨l, j2, g2, sg_L8 hl, c2, ?_⟩
   unfold spec_l3Draw.f
   rw [e]
   simp only [Option.bind_some]
   rw [e2]
   simp only [Option.bind_some]
   exact ev_ifp hx (ev_bind _ (fg_L8 hl) (Ev.now _))
 · obtain ⟨s, j', h', s1, s2, s3⟩ := l3Draw_l0 4 0 j1 g1 (Int.le_refl _) (by omega) c1
   refine ⟨s, j', h', s1, s2, ?_⟩
   unfold spec_l3Draw.f
   rw [e]
   simp only [Option.bind_some]
   exact ev_ifn hx s3
theorem l3Bent_ev {b : List Int} {j : Int} (h : Int) (c : Cu b j) : ∃ s j' h', s.length ≤ 13 ∧ Cu b j' ∧ Ev (fun k => spec_l3Bent.f k b j h) (s, j', h') := by
 obtain ⟨s, j1, g1, s1, c1, s3⟩ := l3Draw_ev h c
 obtain ⟨x, j2, g2, e2, hx, c2⟩ := below_ok g1 c1 (n := 12) (by omega)
 have hl := s1.len
 have hu := s1.ul.1
 by_cases x0 : x = 0
 · obtain ⟨y, j3, g3, e3, hy, c3⟩ := pick_ok g2 c2 (l := [0, 61, 12, (-3), 60]) (by simp)
   refine ⟨s ++ [y], j3, g3, by rw [List.length_append, List.length_singleton]; omega, c3, ?_⟩
   unfold spec_l3Bent.f
   refine ev_bind _ s3 ?_
   rw [e2]
   simp only [Option.bind_some]
   rw [e3]
   simp only [Option.bind_some]
   exact ev_ifp x0 (ev_ifp (by omega) (Ev.now _))
 · by_cases x1 : x = 1
   · refine ⟨s.drop (1 : Int).toNat, j2, g2, by rw [List.length_drop]; omega, c2, ?_⟩
     unfold spec_l3Bent.f
     refine ev_bind _ s3 ?_
     rw [e2]
     simp only [Option.bind_some]
     exact ev_ifn x0 (ev_ifp x1 (ev_ifp (by omega) (Ev.now _)))
   · by_cases x2 : x = 2
     · obtain ⟨y, j3, g3, e3, hy, c3⟩ := pick_ok g2 c2 (l := [0, 59, 4]) (by simp)
       refine ⟨[y, 60], j3, g3, by simp, c3, ?_⟩
       unfold spec_l3Bent.f
       refine ev_bind _ s3 ?_
       rw [e2]
       simp only [Option.bind_some]
       rw [e3]
       simp only [Option.bind_some]
       exact ev_ifn x0 (ev_ifn x1 (ev_ifp x2 (Ev.now _)))
     · refine ⟨s, j2, g2, by omega, c2, ?_⟩
       unfold spec_l3Bent.f
       refine ev_bind _ s3 ?_
       rw [e2]
       simp only [Option.bind_some]
       exact ev_ifn x0 (ev_ifn x1 (ev_ifn x2 (Ev.now _)))
theorem ps1 : spec_ParseSemigroup.f 5000 ⟨#[60, 51, 44, 53, 62]⟩ = some ([3, 5], true) := by kernel_rfl
theorem pi1 : impl_ParseSemigroup.f 5000 ⟨#[60, 51, 44, 53, 62]⟩ = some ([3, 5], true) := by kernel_rfl
theorem ps2 : spec_ParseSemigroup.f 5000 ⟨#[60, 52, 44, 54, 44, 57, 62]⟩ = some ([4, 6, 9], true) := by kernel_rfl
theorem pi2 : impl_ParseSemigroup.f 5000 ⟨#[60, 52, 44, 54, 44, 57, 62]⟩ = some ([4, 6, 9], true) := by kernel_rfl
theorem ps3 : spec_ParseSemigroup.f 5000 ⟨#[60, 54, 44, 57, 44, 50, 48, 62]⟩ = some ([6, 9, 20], true) := by kernel_rfl
theorem pi3 : impl_ParseSemigroup.f 5000 ⟨#[60, 54, 44, 57, 44, 50, 48, 62]⟩ = some ([6, 9, 20], true) := by kernel_rfl
theorem ps4 : spec_ParseSemigroup.f 5000 ⟨#[60, 51, 44, 52, 44, 53, 62]⟩ = some ([3, 4, 5], true) := by kernel_rfl
theorem pi4 : impl_ParseSemigroup.f 5000 ⟨#[60, 51, 44, 52, 44, 53, 62]⟩ = some ([3, 4, 5], true) := by kernel_rfl
theorem ps5 : spec_ParseSemigroup.f 5000 ⟨#[60, 49, 62]⟩ = some ([1], true) := by kernel_rfl
theorem pi5 : impl_ParseSemigroup.f 5000 ⟨#[60, 49, 62]⟩ = some ([1], true) := by kernel_rfl
theorem ps6 : spec_ParseSemigroup.f 5000 ⟨#[60, 53, 44, 55, 44, 57, 44, 49, 49, 62]⟩ = some ([5, 7, 9, 11], true) := by kernel_rfl
theorem pi6 : impl_ParseSemigroup.f 5000 ⟨#[60, 53, 44, 55, 44, 57, 44, 49, 49, 62]⟩ = some ([5, 7, 9, 11], true) := by kernel_rfl
theorem join_ne {x : List UInt8} (hx : x ≠ []) (r : List (List UInt8)) (sep : List UInt8) : Lib.join (x :: r) sep ≠ [] := by
 rw [Lib.join_cons]
 intro h
 exact hx (List.append_eq_nil_iff.1 h).1
theorem desc_ne {v : List Int} (h : SG v) : desc v ≠ [] := by
 unfold desc
 rw [if_pos h]
 exact join_ne (by simp) _ _
theorem ba_toList (l : List UInt8) : (ba l).toList = l := by rw [Lib.toList_data, ba_list]
def ExAt (k : Int) : Prop := ∃ (e : ByteArray) (x : List Int) (ok : Bool) (d : ByteArray), impl_ExampleText.f k = some e ∧ spec_ExampleText.f k = some e ∧ Ev (fun n => spec_ParseSemigroup.f n e) (x, ok) ∧ Ev (fun n => impl_DescribeExample.f n k) d ∧ Ev (fun n => spec_DescribeExample.f n k) d ∧ Ev (fun n => impl_DescribeSemigroup.f n x) d ∧ (ok == (e.toList != ([] : List UInt8))) = true ∧ ((d.toList == ([] : List UInt8)) == (e.toList == ([] : List UInt8))) = true
theorem ex_some {k : Int} {e : ByteArray} {x : List Int} (hx : x ∈ L8) (e1 : impl_ExampleText.f k = some e) (e2 : spec_ExampleText.f k = some e) (p1 : spec_ParseSemigroup.f 5000 e = some (x, true)) (p2 : impl_ParseSemigroup.f 5000 e = some (x, true)) (hn : (e.toList == ([] : List UInt8)) = false) : ExAt k := by
 have h := sg_L8 hx
 have hl : x.length ≤ 1099511627776 := by have := h.len; omega
 have q1 := Ev.of (spec_ParseSemigroup.mono _) p1
 have q2 := Ev.of (impl_ParseSemigroup.mono _) p2
 refine ⟨e, x, true, ba (desc x), e1, e2, q1, ?_, ?_, descI_ev hl, by rw [bne, hn]; rfl, ?_⟩
 · unfold impl_DescribeExample.f
   rw [e1]
   simp only [Option.bind_some]
   exact ev_bind _ q2 (ev_ifp rfl (ev_bind _ (descI_ev hl) (Ev.now _)))
 · unfold spec_DescribeExample.f
   rw [e2]
   simp only [Option.bind_some]
   exact ev_bind _ q1 (ev_bind _ (descS_ev hl) (Ev.now _))
 · rw [ba_toList, hn]
   have := desc_ne h
   simpa using this
theorem desc_nil : desc [] = [] := by
 unfold desc
 exact if_neg fun h => by have := h.ul.1; simp at this
theorem ex_none {k : Int} (e1 : impl_ExampleText.f k = some ⟨#[]⟩) (e2 : spec_ExampleText.f k = some ⟨#[]⟩) : ExAt k := by
 have q1 := Ev.of (spec_ParseSemigroup.mono _) (show spec_ParseSemigroup.f 50 ⟨#[]⟩ = some ([], false) by kernel_rfl)
 have q2 := Ev.of (impl_ParseSemigroup.mono _) (show impl_ParseSemigroup.f 50 ⟨#[]⟩ = some ([], false) by kernel_rfl)
 have d0 : ba (desc []) = ⟨#[]⟩ := by rw [desc_nil]; rfl
 refine ⟨⟨#[]⟩, [], false, ⟨#[]⟩, e1, e2, q1, ?_, ?_, d0 ▸ descI_ev (by simp), by decide +kernel, by decide +kernel⟩
 · unfold impl_DescribeExample.f
   rw [e1]
   simp only [Option.bind_some]
   exact ev_bind _ q2 (ev_ifn (by simp) (Ev.now _))
 · unfold spec_DescribeExample.f
   rw [e2]
   simp only [Option.bind_some]
   exact ev_bind _ q1 (ev_bind _ (d0 ▸ descS_ev (by simp)) (Ev.now _))
set_option maxRecDepth 100000 in
theorem ex_all {k : Int} (h0 : -1 ≤ k) (h1 : k ≤ 7) : ExAt k := by
 rcases (by omega : k = 1 ∨ k = 2 ∨ k = 3 ∨ k = 4 ∨ k = 5 ∨ k = 6 ∨ k = -1 ∨ k = 0 ∨ k = 7) with rfl | rfl | rfl | rfl | rfl | rfl | rfl | rfl | rfl
 · exact ex_some (e := ⟨#[60, 51, 44, 53, 62]⟩) (x := [3, 5]) (by simp [L8]) (by decide +kernel) (by decide +kernel) ps1 pi1 (by decide +kernel)
 · exact ex_some (e := ⟨#[60, 52, 44, 54, 44, 57, 62]⟩) (x := [4, 6, 9]) (by simp [L8]) (by decide +kernel) (by decide +kernel) ps2 pi2 (by decide +kernel)
 · exact ex_some (e := ⟨#[60, 54, 44, 57, 44, 50, 48, 62]⟩) (x := [6, 9, 20]) (by simp [L8]) (by decide +kernel) (by decide +kernel) ps3 pi3 (by decide +kernel)
 · exact ex_some (e := ⟨#[60, 51, 44, 52, 44, 53, 62]⟩) (x := [3, 4, 5]) (by simp [L8]) (by decide +kernel) (by decide +kernel) ps4 pi4 (by decide +kernel)
 · exact ex_some (e := ⟨#[60, 49, 62]⟩) (x := [1]) (by simp [L8]) (by decide +kernel) (by decide +kernel) ps5 pi5 (by decide +kernel)
 · exact ex_some (e := ⟨#[60, 53, 44, 55, 44, 57, 44, 49, 49, 62]⟩) (x := [5, 7, 9, 11]) (by simp [L8]) (by decide +kernel) (by decide +kernel) ps6 pi6 (by decide +kernel)
 · exact ex_none (by decide +kernel) (by decide +kernel)
 · exact ex_none (by decide +kernel) (by decide +kernel)
 · exact ex_none (by decide +kernel) (by decide +kernel)
end Go.Proofs.YteaiehpgigaoaaaGreatDoor.E
end
section
namespace Go.Proofs.YteaiehpgigaoaaaGreatDoor.Pure
open Go.RowKit Go.Proofs.YteaiehpgigaoaaaGreatDoor.PB Go.Proofs.YteaiehpgigaoaaaGreatDoor.E Go.Proofs.YteaiehpgigaoaaaGreatDoorW.PrintWords Go.Proofs.YteaiehpgigaoaaaGreatDoorW.PrintLast Go.Proofs.YteaiehpgigaoaaaGreatDoorW.PrintMore
set_option linter.unusedVariables false
set_option linter.unusedSimpArgs false
theorem FnExamples (l0 : List Int) (h0 : l0.length ≤ maxLen) (h1 : l0.length * 1 ≤ 140737488351232) (h2 : ∀ x ∈ l0, (Lit.int .u8 x).wf = true) : ∃ k, laws_FnExamples.f k l0 = some true := by
 apply Ev.rounds
 unfold laws_FnExamples.f laws_big.f
 simp only [Option.bind_some]
 by_cases big : (l0.length : Int) > 1048576
 · exact ev_ifp (d_t big) (Ev.now _)
 refine ev_ifn (d_f big) ?_
 obtain ⟨g, e, c⟩ := new_ev (b := l0) (by omega)
 obtain ⟨y, j, g1, b1, b2, b3⟩ := below_ok g c (n := 9) (by omega)
 obtain ⟨m, j2, g2, m1, m2, m3⟩ := l3Bent_ev g c
 have hm : m.length ≤ 1099511627776 := by omega
 have dk : Ev (fun k => spec_DrawDescribeExample.f k l0) (y - 1) := by
  unfold spec_DrawDescribeExample.f
  refine ev_bind _ e ?_
  dsimp only
  rw [b1]
  simp only [Option.bind_some]
  exact ev_to (Ev.now _) (w64 (by omega) (by omega))
 have dm : Ev (fun k => spec_DrawDescribeSemigroup.f k l0) m := by
  unfold spec_DrawDescribeSemigroup.f
  exact ev_bind _ e (ev_bind _ m3 (Ev.now _))
 obtain ⟨t, x, ok, d, a1, a2, a3, a4, a5, a6, a7, a8⟩ := ex_all (k := y - 1) (by omega) (by omega)
 refine ev_bind _ dk (ev_bind _ dm (ev_bind _ a4 ?_))
 rw [a1]
 simp only [Option.bind_some]
 refine ev_bind _ a3 (ev_bind _ a5 (ev_ifp rfl ?_))
 rw [a2]
 simp only [Option.bind_some]
 refine ev_ifp trivial (ev_bind _ (descI_ev hm) (ev_bind _ (descS_ev hm) (ev_ifp rfl (ev_ifp a7 (ev_ifp a8 (ev_bind _ a6 (ev_to (Ev.now _) ?_)))))))
 simp
end Go.Proofs.YteaiehpgigaoaaaGreatDoor.Pure
end
section
namespace Go.Proofs.YteaiehpgigaoaaaGreatDoorW.PrintWords
open Go.ChangeShapes Go.WideShapes
theorem sized_ints {H : Type} {enc : TypeId × Value → H} {P : Program} {W : World} {base : Nat} {spare : Nat → Bool} {held : Bool} {t e : TypeId} {k : IntKind} {a : Option Addr} {len cap : Nat} {d : DataW H} {ps : List MemPlace} {ts : List TypeId} {ds : List (DataW H)} {j : Nat}
 (hsz : (DataW.weightsEach P ts ds).all (· ≤ reachBytes) = true) (ht : ts[j]? = some t) (hd : ds[j]? = some d) (hu : P.underlying t = some (.slice e)) (he : P.underlying e = some (.int k)) (hc : P.cellsOf e = 1) {B : Nat} (hB : P.bytesOf e = B)
 (h : DataW.Trod enc P W base spare held t (.slice a len cap) d ps) : len * B ≤ 140737488351232 := by
 obtain ⟨fuel, hf⟩ := h
 rcases open_ints hu he hc hf with ⟨hcs, _⟩ | ⟨x, l, c, zs, hcs, _, hl, _, hz, hx, _, _⟩
 · simp [Value.cells] at hcs
   obtain ⟨rfl, rfl, rfl⟩ := hcs
   simp
 · simp [Value.cells] at hcs
   obtain ⟨rfl, rfl, rfl⟩ := hcs
   obtain ⟨hx, _⟩ := Prod.mk.inj hx
   subst hx
   have z := sized_slice hsz ht hd hu
   rw [hB] at z
   have hl2 : len ≤ zs.length := by
    rw [hz]
    split
    · exact hl
    · exact Nat.le_refl _
   have h1 : (lits (H := H) k (zs.take len)).length + (lits (H := H) k (zs.drop len)).length = zs.length := by
    simp [lits]
    omega
   rw [h1] at z
   exact Nat.le_trans (Nat.mul_le_mul_right _ hl2) z
end Go.Proofs.YteaiehpgigaoaaaGreatDoorW.PrintWords
end
