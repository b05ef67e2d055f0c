-- Bundled by shake.py from this session's printed and written texts; Lean checks it.
import Derived.Test.YthkhpejggdnkfaaZFnExactMultiplicitySequencex1
import Derived.Test.YthkhpejggdnkfaaZFnExactMultiplicitySequencex2
import Derived.Test.YthkhpejggdnkfaaZFnExactMultiplicitySequencex3
import Derived.Test.YthkhpejggdnkfaaZFnExactMultiplicitySequencex4
import Derived.Test.YthkhpejggdnkfaaZFnExactMultiplicitySequencex5
import Derived.Test.YthkhpejggdnkfaaZFnExactMultiplicitySequencex6
import Derived.Test.YthkhpejggdnkfaaZFnExactMultiplicitySequencex7
section
namespace Go.Proofs.Ythkhpejggdnkfaa.PA
open Go.RowKit Go.Proofs.YthkhpejggdnkfaaW.PrintWords Go.Proofs.YthkhpejggdnkfaaW.PrintLast Go.Proofs.YthkhpejggdnkfaaW.PrintMore
set_option linter.unusedVariables false
set_option linter.unusedSimpArgs false
mutual
def laws_FnExactMultiplicitySequence.j0 : Nat → List Int → Bool → List Int → Bool → Bool → List Int → List Int → Option (Bool)
 | 0, _, _, _, _, _, _, _ => none
 | k + 1, x4, x5, x7, x8, x40, x547000, x559000 => if x40 = true then (some false) else ((laws_toSemigroup.f k x547000).bind fun t564 => ((laws_eqSemigroup.f k x559000 t564).bind fun t567 => (if t567 = true then ((laws_markSemigroup.f k x559000 1).bind fun bt568 => (if bt568.1 < 0 then (laws_FnExactMultiplicitySequence.j1 k x4 x5 x7 true x547000) else ((laws_eqIntS.f k x7 x4).bind fun t570 => (if t570 = true then (laws_FnExactMultiplicitySequence.j1 k x4 x5 x7 (x8 != x5) x547000) else (laws_FnExactMultiplicitySequence.j1 k x4 x5 x7 true x547000))))) else (some false))))
def laws_FnExactMultiplicitySequence.j1 : Nat → List Int → Bool → List Int → Bool → List Int → Option (Bool)
 | 0, _, _, _, _, _ => none
 | k + 1, x4, x5, x7, x61, x547000 => if x61 = true then (some false) else ((laws_markIntS.f k x7 1).bind fun bt571 => ((laws_heldIntS.f k bt571.2 1).bind fun t573 => (if t573 < 0 then (some false) else (if t573 = bt571.1 then ((laws_toSemigroup.f k x547000).bind fun t574 => ((impl_MultiplicitySequence.f k t574).bind fun bt577 => ((laws_eqIntS.f k bt577.1 x4).bind fun t581 => (if t581 = true then (laws_FnExactMultiplicitySequence.j2 k bt571.2 bt571.1 (bt577.2 != x5)) else (laws_FnExactMultiplicitySequence.j2 k bt571.2 bt571.1 true))))) else (some false)))))
def laws_FnExactMultiplicitySequence.j2 : Nat → List Int → Int → Bool → Option (Bool)
 | 0, _, _, _ => none
 | k + 1, x7, x10, x87 => if x87 = true then (some false) else ((laws_heldIntS.f k x7 1).bind fun t582 => (if t582 < 0 then (some false) else (if t582 = x10 then (some true) else (some false))))
end
def laws_FnExactMultiplicitySequence.f (k : Nat) (l0_0 : List Int) : Option (Bool) := (laws_szSemigroup.f l0_0 1048576).bind fun t547 => (if t547 < 0 then (some true) else ((laws_toSemigroup.f k l0_0).bind fun t548 => ((spec_MultiplicitySequence.f k t548).bind fun bt551 => ((laws_toSemigroup.f k l0_0).bind fun t555 => ((impl_MultiplicitySequence.f k t555).bind fun bt559 => ((laws_eqIntS.f k bt559.1 bt551.1).bind fun t563 => (if t563 = true then (laws_FnExactMultiplicitySequence.j0 k bt551.1 bt551.2 bt559.1 bt559.2 (bt559.2 != bt551.2) l0_0 t555) else (laws_FnExactMultiplicitySequence.j0 k bt551.1 bt551.2 bt559.1 bt559.2 true l0_0 t555))))))))
set_option maxHeartbeats 8000000 in
set_option maxRecDepth 100000 in
theorem laws_FnExactMultiplicitySequence.calls (k : Nat) (A0_0 : Option Addr) (c0_0 : Nat) (l0_0 : List Int) (r : Bool) (w : World) (hr0_0 : Kd.C (Kd.int .i64) w A0_0 l0_0.length l0_0) (hc0_0 : l0_0.length ≤ c0_0) (h : laws_FnExactMultiplicitySequence.f k l0_0 = some r) (hr_ : r = true := by rfl) :
 Calls Try.prog 5 #[.agg #[.slice A0_0 l0_0.length c0_0]] w fun e w' => e = .returned (.bool r) ∧ Below w.heap.size w w' := by
 have hr_ := Aside0.mk hr_
 have hu41 := Try.underlying41
 have hu44 := Try.underlying44
 have HR0_0 := Aside0.mk hr0_0
 have HC0_0 := Aside0.mk hc0_0
 clear hr0_0 hc0_0
 have HB := Aside0.mk (Below.refl w.heap.size w)
 have H : ((laws_szSemigroup.f l0_0 1048576).bind fun t547 => (if t547 < 0 then (some true) else ((laws_toSemigroup.f k l0_0).bind fun t548 => ((spec_MultiplicitySequence.f k t548).bind fun bt551 => ((laws_toSemigroup.f k l0_0).bind fun t555 => ((impl_MultiplicitySequence.f k t555).bind fun bt559 => ((laws_eqIntS.f k bt559.1 bt551.1).bind fun t563 => (if t563 = true then (laws_FnExactMultiplicitySequence.j0 k bt551.1 bt551.2 bt559.1 bt559.2 (bt559.2 != bt551.2) l0_0 t555) else (laws_FnExactMultiplicitySequence.j0 k bt551.1 bt551.2 bt559.1 bt559.2 true l0_0 t555))))))))) = some r := h
 clear h
 replace H := Option.bind_eq_some_iff.mp H
 obtain ⟨t547, A20, H⟩ := H
 replace H : (if t547 < 0 then (some true) else ((laws_toSemigroup.f k l0_0).bind fun t548 => ((spec_MultiplicitySequence.f k t548).bind fun bt551 => ((laws_toSemigroup.f k l0_0).bind fun t555 => ((impl_MultiplicitySequence.f k t555).bind fun bt559 => ((laws_eqIntS.f k bt559.1 bt551.1).bind fun t563 => (if t563 = true then (laws_FnExactMultiplicitySequence.j0 k bt551.1 bt551.2 bt559.1 bt559.2 (bt559.2 != bt551.2) l0_0 t555) else (laws_FnExactMultiplicitySequence.j0 k bt551.1 bt551.2 bt559.1 bt559.2 true l0_0 t555)))))))) = some r := H
 have A2 := Aside0.mk A20
 clear A20
 by_cases c3 : t547 < 0
 · rw [if_pos c3] at H
   have c3b0 : decide (t547 < 0) = true := decide_eq_true c3
   clear c3
   as_aux_lemma =>
    obtain rfl := Option.some.inj H
    go_enter Try.func5, Try.ntmps5
    go_wp2_with (first | ((with_reducible refine gate_dst (N := 1) rfl ?_); refine box_event ?hg (N := 1) ?hd (cs := #[.slice A0_0 l0_0.length c0_0]) (t := 41) ?hr ?_; (case hd => rfl); (case hg => rfl); (case hr => first | (go_simp; done) | (go_simp; rfl)); intro gb546 hg w4 hbox hb; have n0_ := Aside0.mk (below_step (bl_ HB.out) hb); have n1_ := Aside0.mk (hbox); have n2_ := Aside0.mk ((by rw [hg]; exact (below_size (bl_ HB.out)) : w.heap.size ≤ gb546)); have n3_ := Aside0.mk ((by rw [hg]; exact (below_size (bl_ HB.out)) : w.heap.size ≤ gb546)); clear HB; have HB := n0_; have BK546 := n1_; have GW546 := n2_; have GE546 := n3_; clear n0_ n1_ n2_ n3_; clear hb hbox hg; have hcz5_0 : w4.cell? ⟨gb546, 0, none⟩ = some (.slice A0_0 l0_0.length c0_0) := (blk_cell BK546.out 0).trans rfl; have hfz5_0 := blk_frozen BK546.out 0) | ((with_reducible refine gate_callee (f := 26) rfl ?_); refine goesL_ (some 16) rfl rfl Try.func26 (by kernel_rfl) rfl #[.agg #[.slice A0_0 l0_0.length c0_0], .int .i64 1048576] rfl (by (try simp only [List.map_toArray, List.map_cons, List.map_nil]); first | done | rfl | (simp only [List.length_drop, List.length_take]; rfl)) ?_; (with_reducible refine (laws_szSemigroup.calls _ _ l0_0 1048576 t547 _ ?side1 ?side2 A2.out).mono ?_); (case side1 => exact ce_ ((Kd.C_below HR0_0.out HB.out))); (case side2 => exact HC0_0.out); rintro e w6 ⟨rfl, hb⟩; refine ⟨_, rfl, ?_⟩; have n0_ := Aside0.mk (blk_below (g := gb546) (o := .cells #[.slice A0_0 l0_0.length c0_0] 41 (0, 0)) (be_ BK546.out) hb); have n1_ := Aside0.mk (below_step (by repeat (first | (with_reducible first | exact HB.out | apply below_alloc | apply pw_below_drewN | apply below_drew1 | refine below_set ?_ GE546.out) | exact HB.out)) hb); clear BK546; clear HB; have BK546 := n0_; have HB := n1_; clear n0_ n1_; (try clear hb); (try clear hb2); (try clear hk); (try clear hi)))
    go_ret
    exact ⟨by first | rfl | (simp [errW_none, errW_some] <;> rfl) | (simp [*, errW_none, errW_some] <;> rfl), by repeat (first | (with_reducible first | exact HB.out | apply below_alloc | apply pw_below_drewN | apply below_drew1 | refine below_set ?_ GE546.out) | exact HB.out)⟩
 · rw [if_neg c3] at H
   have c3b0 : decide (t547 < 0) = false := decide_eq_false c3
   clear c3
   replace H := Option.bind_eq_some_iff.mp H
   obtain ⟨t548, A70, H⟩ := H
   replace H : ((spec_MultiplicitySequence.f k t548).bind fun bt551 => ((laws_toSemigroup.f k l0_0).bind fun t555 => ((impl_MultiplicitySequence.f k t555).bind fun bt559 => ((laws_eqIntS.f k bt559.1 bt551.1).bind fun t563 => (if t563 = true then (laws_FnExactMultiplicitySequence.j0 k bt551.1 bt551.2 bt559.1 bt559.2 (bt559.2 != bt551.2) l0_0 t555) else (laws_FnExactMultiplicitySequence.j0 k bt551.1 bt551.2 bt559.1 bt559.2 true l0_0 t555)))))) = some r := H
   have A7 := Aside0.mk A70
   clear A70
   replace H := Option.bind_eq_some_iff.mp H
   obtain ⟨⟨t551, t554⟩, A80, H⟩ := H
   replace H : ((laws_toSemigroup.f k l0_0).bind fun t555 => ((impl_MultiplicitySequence.f k t555).bind fun bt559 => ((laws_eqIntS.f k bt559.1 t551).bind fun t563 => (if t563 = true then (laws_FnExactMultiplicitySequence.j0 k t551 t554 bt559.1 bt559.2 (bt559.2 != t554) l0_0 t555) else (laws_FnExactMultiplicitySequence.j0 k t551 t554 bt559.1 bt559.2 true l0_0 t555))))) = some r := H
   have A8 := Aside0.mk A80
   clear A80
   replace H := Option.bind_eq_some_iff.mp H
   obtain ⟨t555, A90, H⟩ := H
   replace H : ((impl_MultiplicitySequence.f k t555).bind fun bt559 => ((laws_eqIntS.f k bt559.1 t551).bind fun t563 => (if t563 = true then (laws_FnExactMultiplicitySequence.j0 k t551 t554 bt559.1 bt559.2 (bt559.2 != t554) l0_0 t555) else (laws_FnExactMultiplicitySequence.j0 k t551 t554 bt559.1 bt559.2 true l0_0 t555)))) = some r := H
   have A9 := Aside0.mk A90
   clear A90
   replace H := Option.bind_eq_some_iff.mp H
   obtain ⟨⟨t559, t562⟩, A100, H⟩ := H
   replace H : ((laws_eqIntS.f k t559 t551).bind fun t563 => (if t563 = true then (laws_FnExactMultiplicitySequence.j0 k t551 t554 t559 t562 (t562 != t554) l0_0 t555) else (laws_FnExactMultiplicitySequence.j0 k t551 t554 t559 t562 true l0_0 t555))) = some r := H
   have A10 := Aside0.mk A100
   clear A100
   have HC11 := Aside0.mk H
   clear H
   go_enter Try.func5, Try.ntmps5
   go_upto_region 8 with (first | ((with_reducible refine gate_dst (N := 1) rfl ?_); refine box_event ?hg (N := 1) ?hd (cs := #[.slice A0_0 l0_0.length c0_0]) (t := 41) ?hr ?_; (case hd => rfl); (case hg => rfl); (case hr => first | (go_simp; done) | (go_simp; rfl)); intro gb546 hg w12 hbox hb; have n0_ := Aside0.mk (below_step (bl_ HB.out) hb); have n1_ := Aside0.mk (hbox); have n2_ := Aside0.mk ((by rw [hg]; exact (below_size (bl_ HB.out)) : w.heap.size ≤ gb546)); have n3_ := Aside0.mk ((by rw [hg]; exact (below_size (bl_ HB.out)) : w.heap.size ≤ gb546)); clear HB; have HB := n0_; have BK546 := n1_; have GW546 := n2_; have GE546 := n3_; clear n0_ n1_ n2_ n3_; clear hb hbox hg; have hcz13_0 : w12.cell? ⟨gb546, 0, none⟩ = some (.slice A0_0 l0_0.length c0_0) := (blk_cell BK546.out 0).trans rfl; have hfz13_0 := blk_frozen BK546.out 0) | ((with_reducible refine gate_callee (f := 26) rfl ?_); refine goesL_ (some 16) rfl rfl Try.func26 (by kernel_rfl) rfl #[.agg #[.slice A0_0 l0_0.length c0_0], .int .i64 1048576] rfl (by (try simp only [List.map_toArray, List.map_cons, List.map_nil]); first | done | rfl | (simp only [List.length_drop, List.length_take]; rfl)) ?_; (with_reducible refine (laws_szSemigroup.calls _ _ l0_0 1048576 t547 _ ?side1 ?side2 A2.out).mono ?_); (case side1 => exact ce_ ((Kd.C_below HR0_0.out HB.out))); (case side2 => exact HC0_0.out); rintro e w14 ⟨rfl, hb⟩; refine ⟨_, rfl, ?_⟩; have n0_ := Aside0.mk (blk_below (g := gb546) (o := .cells #[.slice A0_0 l0_0.length c0_0] 41 (0, 0)) (be_ BK546.out) hb); have n1_ := Aside0.mk (below_step (by repeat (first | (with_reducible first | exact HB.out | apply below_alloc | apply pw_below_drewN | apply below_drew1 | refine below_set ?_ GE546.out) | exact HB.out)) hb); clear BK546; clear HB; have BK546 := n0_; have HB := n1_; clear n0_ n1_; (try clear hb); (try clear hb2); (try clear hk); (try clear hi); have hcz15_0 : w14.cell? ⟨gb546, 0, none⟩ = some (.slice A0_0 l0_0.length c0_0) := (blk_cell BK546.out 0).trans rfl; have hfz15_0 := blk_frozen BK546.out 0) | ((with_reducible refine gate_callee (f := 28) rfl ?_); refine goesL_ (some 21) rfl rfl Try.func28 (by kernel_rfl) rfl #[.agg #[.slice A0_0 l0_0.length c0_0]] rfl (by (try simp only [List.map_toArray, List.map_cons, List.map_nil]); first | done | rfl | (simp only [List.length_drop, List.length_take]; rfl)) ?_; (with_reducible refine (laws_toSemigroup.calls k _ _ l0_0 t548 _ ?side1 ?side2 A7.out).mono ?_); (case side1 => exact ce_ ((Kd.C_below HR0_0.out HB.out))); (case side2 => exact HC0_0.out); rintro e w16 ⟨v549, rfl, ho0, hb⟩; refine ⟨_, rfl, ?_⟩; have n0_ := Aside0.mk (Kd.R_lower ho0 (below_size (by repeat (first | (with_reducible first | exact HB.out | apply below_alloc | apply pw_below_drewN | apply below_drew1 | refine below_set ?_ GE546.out) | exact HB.out)))); have n1_ := Aside0.mk (blk_below (g := gb546) (o := .cells #[.slice A0_0 l0_0.length c0_0] 41 (0, 0)) (be_ BK546.out) hb); have n2_ := Aside0.mk (below_step (by repeat (first | (with_reducible first | exact HB.out | apply below_alloc | apply pw_below_drewN | apply below_drew1 | refine below_set ?_ GE546.out) | exact HB.out)) hb); clear BK546; clear HB; have HO550 := n0_; have BK546 := n1_; have HB := n2_; clear n0_ n1_ n2_; (try clear hb); (try clear hb2); (try clear hk); (try clear hi); (try clear ho0); obtain ⟨Ao17, co17, eo17⟩ := Kd.R_slice HO550.out; subst eo17) | ((with_reducible refine gate_callee (f := 27) rfl ?_); refine goesL_ (some 22) rfl rfl Try.func27 (by kernel_rfl) rfl #[.agg #[.slice Ao17 t548.length co17]] rfl (by (try simp only [List.map_toArray, List.map_cons, List.map_nil]); first | done | rfl | (simp only [List.length_drop, List.length_take]; rfl)) ?_; (with_reducible refine (spec_MultiplicitySequence.calls k (fun k_ => some k_ = (.slice Ao17 t548.length co17 : Value).ownBlock) _ _ t548 t551 t554 _ ?side1 A8.out).mono ?_); (case side1 => exact Kd.R_V (Kd.R_tight rfl (Kd.R_types (HO550.out) BK546.out (by decide)))); rintro e w18 ⟨v552, rfl, ho0, hb⟩; refine ⟨_, rfl, ?_⟩; have n0_ := Aside0.mk (Kd.R_elder' (re_ HO550.out) (Kd.R_base ho0) hb); have n1_ := Aside0.mk (Kd.R_lower (Kd.R_new' (Kd.R_mono (ok' := fun k_ => True) ho0 (fun _ hk_ => trivial)) (Kd.R_lt (re_ HO550.out))) (below_size (by repeat (first | (with_reducible first | exact HB.out | apply below_alloc | apply pw_below_drewN | apply below_drew1 | refine below_set ?_ GE546.out) | exact HB.out)))); have n2_ := Aside0.mk (blk_below (g := gb546) (o := .cells #[.slice A0_0 l0_0.length c0_0] 41 (0, 0)) (be_ BK546.out) hb); have n3_ := Aside0.mk (below_step (by repeat (first | (with_reducible first | exact HB.out | apply below_alloc | apply pw_below_drewN | apply below_drew1 | refine below_set ?_ GE546.out) | exact HB.out)) hb); clear HO550; clear BK546; clear HB; have HO550 := n0_; have HO553 := n1_; have BK546 := n2_; have HB := n3_; clear n0_ n1_ n2_ n3_; (try clear hb); (try clear hb2); (try clear hk); (try clear hi); (try clear ho0); have hcz19_0 : w18.cell? ⟨gb546, 0, none⟩ = some (.slice A0_0 l0_0.length c0_0) := (blk_cell BK546.out 0).trans rfl; have hfz19_0 := blk_frozen BK546.out 0) | ((with_reducible refine gate_callee (f := 28) rfl ?_); refine goesL_ (some 26) rfl rfl Try.func28 (by kernel_rfl) rfl #[.agg #[.slice A0_0 l0_0.length c0_0]] rfl (by (try simp only [List.map_toArray, List.map_cons, List.map_nil]); first | done | rfl | (simp only [List.length_drop, List.length_take]; rfl)) ?_; (with_reducible refine (laws_toSemigroup.calls k _ _ l0_0 t555 _ ?side1 ?side2 A9.out).mono ?_); (case side1 => exact ce_ ((Kd.C_below HR0_0.out HB.out))); (case side2 => exact HC0_0.out); rintro e w20 ⟨v556, rfl, ho0, hb⟩; refine ⟨_, rfl, ?_⟩; have n0_ := Aside0.mk (Kd.R_elder' (re_ HO550.out) (Kd.R_base ho0) hb); have n1_ := Aside0.mk (Kd.R_elder' (re_ HO553.out) (Kd.R_base ho0) hb); have n2_ := Aside0.mk (Kd.R_lower (Kd.R_new' (Kd.R_new' ho0 (Kd.R_lt (re_ HO550.out))) (Kd.R_lt (re_ HO553.out))) (below_size (by repeat (first | (with_reducible first | exact HB.out | apply below_alloc | apply pw_below_drewN | apply below_drew1 | refine below_set ?_ GE546.out) | exact HB.out)))); have n3_ := Aside0.mk (blk_below (g := gb546) (o := .cells #[.slice A0_0 l0_0.length c0_0] 41 (0, 0)) (be_ BK546.out) hb); have n4_ := Aside0.mk (below_step (by repeat (first | (with_reducible first | exact HB.out | apply below_alloc | apply pw_below_drewN | apply below_drew1 | refine below_set ?_ GE546.out) | exact HB.out)) hb); clear HO550; clear HO553; clear BK546; clear HB; have HO550 := n0_; have HO553 := n1_; have HO557 := n2_; have BK546 := n3_; have HB := n4_; clear n0_ n1_ n2_ n3_ n4_; (try clear hb); (try clear hb2); (try clear hk); (try clear hi); (try clear ho0)) | ((with_reducible refine gate_dst (N := 6) rfl ?_); refine box_event ?hg (N := 6) ?hd (cs := #[.slice none 0 0]) (t := 44) ?hr ?_; (case hd => rfl); (case hg => rfl); (case hr => first | (go_simp; done) | (go_simp; rfl)); intro gb558 hg w21 hbox hb; have n0_ := Aside0.mk (Kd.R_below (re_ HO550.out) hb); have n1_ := Aside0.mk (Kd.R_below (re_ HO553.out) hb); have n2_ := Aside0.mk (Kd.R_below (re_ HO557.out) hb); have n3_ := Aside0.mk (blk_below (g := gb546) (o := .cells #[.slice A0_0 l0_0.length c0_0] 41 (0, 0)) (be_ BK546.out) hb); have n4_ := Aside0.mk (below_step (by repeat (first | (with_reducible first | exact HB.out | apply below_alloc | apply pw_below_drewN | apply below_drew1 | refine below_set ?_ GE546.out) | exact HB.out)) hb); have n5_ := Aside0.mk (hbox); have n6_ := Aside0.mk ((by rw [hg]; exact (below_size (by repeat (first | (with_reducible first | exact HB.out | apply below_alloc | apply pw_below_drewN | apply below_drew1 | refine below_set ?_ GE546.out) | exact HB.out))) : w.heap.size ≤ gb558)); have n7_ := Aside0.mk ((by rw [hg]; exact (below_size (by repeat (first | (with_reducible first | exact HB.out | apply below_alloc | apply pw_below_drewN | apply below_drew1 | refine below_set ?_ GE546.out) | exact HB.out))) : w.heap.size ≤ gb558)); have n8_ := Aside0.mk ((by rw [hg]; exact Nat.ne_of_lt (blk_lt (g := gb546) (o := .cells #[.slice A0_0 l0_0.length c0_0] 41 (0, 0)) (be_ BK546.out)) : gb546 ≠ gb558)); have n9_ := Aside0.mk ((by rw [hg]; exact Nat.ne_of_gt (blk_lt (g := gb546) (o := .cells #[.slice A0_0 l0_0.length c0_0] 41 (0, 0)) (be_ BK546.out)) : gb558 ≠ gb546)); clear HO550; clear HO553; clear HO557; clear BK546; clear HB; have HO550 := n0_; have HO553 := n1_; have HO557 := n2_; have BK546 := n3_; have HB := n4_; have BK558 := n5_; have GW558 := n6_; have GE558 := n7_; have NB546_558 := n8_; have NB558_546 := n9_; clear n0_ n1_ n2_ n3_ n4_ n5_ n6_ n7_ n8_ n9_; clear hb hbox hg; obtain ⟨Ao22, co22, eo22⟩ := Kd.R_slice HO557.out; subst eo22; have hnb23 := NB558_546.out; have hnc23 := NB546_558.out; have hcz24_0 : w21.cell? ⟨gb558, 0, none⟩ = some (.slice none 0 0) := (blk_cell BK558.out 0).trans rfl; have hfz24_0 := blk_frozen BK558.out 0) | ((with_reducible refine gate_store (t := 44) (p := 6) rfl ?_); refine store_event (t := 44) (p := 6) (v := ?vo_w25) (w1 := (w21.setCell ⟨gb558, 0, none⟩ (.slice Ao22 t555.length co22))) ?hg ?ho ?hn ?hr ?_; (case ho => rfl); (case hg => rfl); (case hn => rfl); (case hr => first | (go_simp; done) | (go_simp; rfl)); intro w25 hw; have n0_ : Aside0 (Kd.R (Kd.int .i64) 3 w25 w.heap.size (fun k_ => some k_ ≠ (v552 : Value).ownBlock ∧ some k_ ≠ (.slice Ao22 t555.length co22 : Value).ownBlock) (.slice Ao17 t548.length co17) t548) := ⟨(by rw [hw]; exact (by (with_reducible repeat (first | apply Kd.R_alloc | apply Kd.R_drewN | apply Kd.R_drew)); exact Kd.R_mono (Kd.R_far (p := ⟨gb558, 0, none⟩) (Kd.R_types HO550.out BK558.out (by decide)) (fun _ hk => hk.2) (.slice Ao22 t555.length co22)) (fun _ hk => ⟨hk.1.1.2, hk.1.2⟩)))⟩; have n1_ : Aside0 (Kd.R (Kd.int .i64) 3 w25 w.heap.size (fun k_ => some k_ ≠ (.slice Ao17 t548.length co17 : Value).ownBlock ∧ some k_ ≠ (.slice Ao22 t555.length co22 : Value).ownBlock) v552 t551) := ⟨(by rw [hw]; exact (by (with_reducible repeat (first | apply Kd.R_alloc | apply Kd.R_drewN | apply Kd.R_drew)); exact Kd.R_mono (Kd.R_far (p := ⟨gb558, 0, none⟩) (Kd.R_types HO553.out BK558.out (by decide)) (fun _ hk => hk.2) (.slice Ao22 t555.length co22)) (fun _ hk => ⟨hk.1.1.2, hk.1.2⟩)))⟩; have n2_ : Aside0 (Kd.R (Kd.int .i64) 3 w25 w.heap.size (fun k_ => some k_ ≠ (.slice Ao17 t548.length co17 : Value).ownBlock ∧ some k_ ≠ (v552 : Value).ownBlock) (.slice Ao22 t555.length co22) t555) := ⟨(by rw [hw]; exact (by (with_reducible repeat (first | apply Kd.R_alloc | apply Kd.R_drewN | apply Kd.R_drew)); exact Kd.R_mono (Kd.R_far (p := ⟨gb558, 0, none⟩) (Kd.R_types HO557.out BK558.out (by decide)) (fun _ hk => hk.2) (.slice Ao22 t555.length co22)) (fun _ hk => ⟨hk.1.1.2, hk.1.2⟩)))⟩; have n3_ : Aside0 (w25.heap[gb546]? = some (.cells #[.slice A0_0 l0_0.length c0_0] 41 (0, 0))) := ⟨(by rw [hw]; exact (by (with_reducible repeat (first | refine blk_drewN ?_ _ | refine blk_drew ?_ | refine blk_alloc ?_ _)); refine blk_far ?_ NB546_558.out _; (with_reducible repeat (first | refine blk_drewN ?_ _ | refine blk_drew ?_ | refine blk_alloc ?_ _)); exact BK546.out))⟩; have n4_ : Aside0 (w25.heap[gb558]? = some (.cells #[.slice Ao22 t555.length co22] 44 (0, 0))) := ⟨(by rw [hw]; exact (by (with_reducible repeat (first | refine blk_drewN ?_ _ | refine blk_drew ?_ | refine blk_alloc ?_ _)); refine blk_put (cs := #[.slice none 0 0]) ?_ 0 _ rfl; (with_reducible repeat (first | refine blk_drewN ?_ _ | refine blk_drew ?_ | refine blk_alloc ?_ _)); exact BK558.out))⟩; have n5_ : Aside0 (Below w.heap.size w w25) := ⟨(by rw [hw]; exact (by repeat (first | (with_reducible first | exact HB.out | apply below_alloc | apply pw_below_drewN | apply below_drew1 | refine below_set ?_ GE546.out | refine below_set ?_ GE558.out) | exact HB.out)))⟩; clear hw; clear HO550; clear HO553; clear HO557; clear BK546; clear BK558; clear HB; have HO550 := n0_; have HO553 := n1_; have HO557 := n2_; have BK546 := n3_; have BK558 := n4_; have HB := n5_; clear n0_ n1_ n2_ n3_ n4_ n5_; have hcz26_0 : w25.cell? ⟨gb558, 0, none⟩ = some (.slice Ao22 t555.length co22) := (blk_cell BK558.out 0).trans rfl; have hfz26_0 := blk_frozen BK558.out 0) | ((with_reducible refine gate_callee (f := 29) rfl ?_); refine goesL_ (some 29) rfl rfl Try.func29 (by kernel_rfl) rfl #[.agg #[.slice Ao22 t555.length co22]] rfl (by (try simp only [List.map_toArray, List.map_cons, List.map_nil]); first | done | rfl | (simp only [List.length_drop, List.length_take]; rfl)) ?_; (with_reducible refine (impl_MultiplicitySequence.calls k (fun k_ => some k_ = (.slice Ao22 t555.length co22 : Value).ownBlock) _ _ t555 t559 t562 _ ?side1 A10.out).mono ?_); (case side1 => exact Kd.R_V (Kd.R_tight rfl (Kd.R_types (Kd.R_types (HO557.out) BK546.out (by decide)) BK558.out (by decide)))); rintro e w27 ⟨v560, rfl, ho0, hb⟩; refine ⟨_, rfl, ?_⟩; have n0_ := Aside0.mk (Kd.R_elder' (re_ HO550.out) (Kd.R_base ho0) hb); have n1_ := Aside0.mk (Kd.R_elder' (re_ HO553.out) (Kd.R_base ho0) hb); have n2_ := Aside0.mk (Kd.R_elder' (re_ HO557.out) (Kd.R_base ho0) hb); have n3_ := Aside0.mk (Kd.R_lower (Kd.R_new' (Kd.R_new' (Kd.R_new' (Kd.R_mono (ok' := fun k_ => True) ho0 (fun _ hk_ => trivial)) (Kd.R_lt (re_ HO550.out))) (Kd.R_lt (re_ HO553.out))) (Kd.R_lt (re_ HO557.out))) (below_size (by repeat (first | (with_reducible first | exact HB.out | apply below_alloc | apply pw_below_drewN | apply below_drew1 | refine below_set ?_ GE546.out | refine below_set ?_ GE558.out) | exact HB.out)))); have n4_ := Aside0.mk (blk_below (g := gb546) (o := .cells #[.slice A0_0 l0_0.length c0_0] 41 (0, 0)) (be_ BK546.out) hb); have n5_ := Aside0.mk (blk_below (g := gb558) (o := .cells #[.slice Ao22 t555.length co22] 44 (0, 0)) (be_ BK558.out) hb); have n6_ := Aside0.mk (below_step (by repeat (first | (with_reducible first | exact HB.out | apply below_alloc | apply pw_below_drewN | apply below_drew1 | refine below_set ?_ GE546.out | refine below_set ?_ GE558.out) | exact HB.out)) hb); clear HO550; clear HO553; clear HO557; clear BK546; clear BK558; clear HB; have HO550 := n0_; have HO553 := n1_; have HO557 := n2_; have HO561 := n3_; have BK546 := n4_; have BK558 := n5_; have HB := n6_; clear n0_ n1_ n2_ n3_ n4_ n5_ n6_; (try clear hb); (try clear hb2); (try clear hk); (try clear hi); (try clear ho0)))
   (try simp only [Act.put, z1_, z2_, z3_])
   go_cut [40] (fun v40 wc => ∃ (kq : Nat) (x40_10 : Bool), v40 = .bool x40_10 ∧ Aside0 (laws_FnExactMultiplicitySequence.j0 kq t551 t554 t559 t562 x40_10 l0_0 t555 = some r) ∧ Aside0 (kq ≤ k) ∧ Aside0 (Kd.R (Kd.int .i64) 3 wc w.heap.size (fun k_ => some k_ ≠ (v560 : Value).ownBlock ∧ some k_ ≠ ((.slice Ao22 t555.length co22) : Value).ownBlock) v552 t551) ∧ Aside0 (Kd.R (Kd.int .i64) 3 wc w.heap.size (fun k_ => some k_ ≠ (v552 : Value).ownBlock ∧ some k_ ≠ ((.slice Ao22 t555.length co22) : Value).ownBlock) v560 t559) ∧ Aside0 (Kd.R (Kd.int .i64) 3 wc w.heap.size (fun k_ => some k_ ≠ (v552 : Value).ownBlock ∧ some k_ ≠ (v560 : Value).ownBlock) (.slice Ao22 t555.length co22) t555) ∧ Aside0 (wc.heap[gb546]? = some (.cells #[(.slice A0_0 l0_0.length c0_0)] 41 (0, 0))) ∧ Aside0 (wc.heap[gb558]? = some (.cells #[(.slice Ao22 t555.length co22)] 44 (0, 0))) ∧ Aside0 (Below w.heap.size w wc))
   case first =>
    have H := HC11.out
    clear HC11
    replace H := Option.bind_eq_some_iff.mp H
    obtain ⟨t563, A280, H⟩ := H
    replace H : (if t563 = true then (laws_FnExactMultiplicitySequence.j0 k t551 t554 t559 t562 (t562 != t554) l0_0 t555) else (laws_FnExactMultiplicitySequence.j0 k t551 t554 t559 t562 true l0_0 t555)) = some r := H
    have A28 := Aside0.mk A280
    clear A280
    by_cases c29 : t563 = true
    · subst c29
      have H1 : (laws_FnExactMultiplicitySequence.j0 k t551 t554 t559 t562 (t562 != t554) l0_0 t555) = some r := by rw [if_pos rfl] at H; exact H
      clear H
      have H := H1
      clear H1
      as_aux_lemma =>
       have H' := Aside0.mk H
       clear H
       obtain ⟨Ao30, co30, eo30⟩ := Kd.R_slice HO561.out
       subst eo30
       obtain ⟨Ao31, co31, eo31⟩ := Kd.R_slice HO553.out
       subst eo31
       go_wp2_with (first | ((with_reducible refine gate_callee (f := 10) rfl ?_); refine goesL_ (some 34) rfl rfl Try.func10 (by kernel_rfl) rfl #[.slice Ao30 t559.length co30, .slice Ao31 t551.length co31] rfl (by (try simp only [List.map_toArray, List.map_cons, List.map_nil]); first | done | rfl | (simp only [List.length_drop, List.length_take]; rfl)) ?_; (with_reducible refine (laws_eqIntS.calls k _ _ t559 _ _ t551 true _ ?side1 ?side2 ?side3 ?side4 A28.out).mono ?_); (case side1 => exact ce_ ((Kd.R_reads' HO561.out).2.2)); (case side2 => exact (Kd.R_reads' HO561.out).2.1); (case side3 => exact ce_ ((Kd.R_reads' HO553.out).2.2)); (case side4 => exact (Kd.R_reads' HO553.out).2.1); rintro e w' ⟨rfl, ⟨nd, rfl⟩⟩; refine ⟨_, rfl, ?_⟩))
       go_meet
       case rel => exact ⟨_, ((t562 != t554)), (by first | rfl | (simp; done) | (simp [*]; done)), H', ⟨by first | omega | exact Nat.le_refl _⟩, ⟨by (with_reducible repeat (first | apply Kd.R_alloc | apply Kd.R_drewN | apply Kd.R_drew)); exact Kd.R_mono HO553.out (fun _ hk => ⟨hk.2, hk.1.2⟩)⟩, ⟨by (with_reducible repeat (first | apply Kd.R_alloc | apply Kd.R_drewN | apply Kd.R_drew)); exact Kd.R_mono HO561.out (fun _ hk => ⟨hk.1.2, hk.2⟩)⟩, ⟨by (with_reducible repeat (first | apply Kd.R_alloc | apply Kd.R_drewN | apply Kd.R_drew)); exact Kd.R_mono HO557.out (fun _ hk => ⟨hk.1.2, hk.2⟩)⟩, ⟨be_ BK546.out⟩, ⟨be_ BK558.out⟩, ⟨by repeat (first | (with_reducible first | exact HB.out | apply below_alloc | apply pw_below_drewN | apply below_drew1 | refine below_set ?_ GE546.out | refine below_set ?_ GE558.out) | exact HB.out)⟩⟩
    · replace c29 := Bool.eq_false_iff.mpr c29
      subst c29
      have H1 : (laws_FnExactMultiplicitySequence.j0 k t551 t554 t559 t562 true l0_0 t555) = some r := by rw [if_neg (show ¬ (false = true) by decide)] at H; exact H
      exact absurd (H1.trans (congrArg some hr_.out)) (by cases k <;> simp [laws_FnExactMultiplicitySequence.j0])
   case rest =>
    clear HC11
    try clear c1
    try clear c2
    try clear p2
    try clear c3
    try clear c3b0
    try clear c5
    try clear c10
    try clear c23
    try clear c26
    try clear c27
    try clear c28
    try clear c29
    try clear hcz13_0
    try clear hcz15_0
    try clear hcz19_0
    try clear hcz24_0
    try clear hcz26_0
    try clear hcz5_0
    try clear hfz13_0
    try clear hfz15_0
    try clear hfz19_0
    try clear hfz24_0
    try clear hfz26_0
    try clear hfz5_0
    obtain ⟨kq, x40_10, rfl, HA, HJ10, HO_4, HO_7, HO_559000, BK546, BK558, HB⟩ := hcut
    cases kq with
    | zero => exact absurd HA.out (by simp [laws_FnExactMultiplicitySequence.j0])
    | succ kj10 =>
     have H := HA.out
     clear HA
     simp only [laws_FnExactMultiplicitySequence.j0] at H
     by_cases c34 : x40_10 = true
     · subst c34
       have H1 : (some false) = some r := by rw [if_pos rfl] at H; exact H
       exact absurd (H1.trans (congrArg some hr_.out)) (by simp)
     · replace c34 := Bool.eq_false_iff.mpr c34
       subst c34
       have H1 : ((laws_toSemigroup.f kj10 l0_0).bind fun t564 => ((laws_eqSemigroup.f kj10 t555 t564).bind fun t567 => (if t567 = true then ((laws_markSemigroup.f kj10 t555 1).bind fun bt568 => (if bt568.1 < 0 then (laws_FnExactMultiplicitySequence.j1 kj10 t551 t554 t559 true l0_0) else ((laws_eqIntS.f kj10 t559 t551).bind fun t570 => (if t570 = true then (laws_FnExactMultiplicitySequence.j1 kj10 t551 t554 t559 (t562 != t554) l0_0) else (laws_FnExactMultiplicitySequence.j1 kj10 t551 t554 t559 true l0_0))))) else (some false)))) = some r := by rw [if_neg (show ¬ (false = true) by decide)] at H; exact H
       clear H
       have H := H1
       clear H1
       replace H := Option.bind_eq_some_iff.mp H
       obtain ⟨t564, A350, H⟩ := H
       replace H : ((laws_eqSemigroup.f kj10 t555 t564).bind fun t567 => (if t567 = true then ((laws_markSemigroup.f kj10 t555 1).bind fun bt568 => (if bt568.1 < 0 then (laws_FnExactMultiplicitySequence.j1 kj10 t551 t554 t559 true l0_0) else ((laws_eqIntS.f kj10 t559 t551).bind fun t570 => (if t570 = true then (laws_FnExactMultiplicitySequence.j1 kj10 t551 t554 t559 (t562 != t554) l0_0) else (laws_FnExactMultiplicitySequence.j1 kj10 t551 t554 t559 true l0_0))))) else (some false))) = some r := H
       have A35 := Aside0.mk A350
       clear A350
       replace H := Option.bind_eq_some_iff.mp H
       obtain ⟨t567, A360, H⟩ := H
       replace H : (if t567 = true then ((laws_markSemigroup.f kj10 t555 1).bind fun bt568 => (if bt568.1 < 0 then (laws_FnExactMultiplicitySequence.j1 kj10 t551 t554 t559 true l0_0) else ((laws_eqIntS.f kj10 t559 t551).bind fun t570 => (if t570 = true then (laws_FnExactMultiplicitySequence.j1 kj10 t551 t554 t559 (t562 != t554) l0_0) else (laws_FnExactMultiplicitySequence.j1 kj10 t551 t554 t559 true l0_0))))) else (some false)) = some r := H
       have A36 := Aside0.mk A360
       clear A360
       by_cases c37 : t567 = true
       · subst c37
         have H1 : ((laws_markSemigroup.f kj10 t555 1).bind fun bt568 => (if bt568.1 < 0 then (laws_FnExactMultiplicitySequence.j1 kj10 t551 t554 t559 true l0_0) else ((laws_eqIntS.f kj10 t559 t551).bind fun t570 => (if t570 = true then (laws_FnExactMultiplicitySequence.j1 kj10 t551 t554 t559 (t562 != t554) l0_0) else (laws_FnExactMultiplicitySequence.j1 kj10 t551 t554 t559 true l0_0))))) = some r := by rw [if_pos rfl] at H; exact H
         clear H
         have H := H1
         clear H1
         replace H := Option.bind_eq_some_iff.mp H
         obtain ⟨⟨t568, t569⟩, A380, H⟩ := H
         replace H : (if t568 < 0 then (laws_FnExactMultiplicitySequence.j1 kj10 t551 t554 t559 true l0_0) else ((laws_eqIntS.f kj10 t559 t551).bind fun t570 => (if t570 = true then (laws_FnExactMultiplicitySequence.j1 kj10 t551 t554 t559 (t562 != t554) l0_0) else (laws_FnExactMultiplicitySequence.j1 kj10 t551 t554 t559 true l0_0)))) = some r := H
         have A38 := Aside0.mk A380
         clear A380
         have HC39 := Aside0.mk H
         clear H
         try go_wp2
         have n0_ := Aside0.mk (Kd.R_drew HO_4.out)
         have n1_ := Aside0.mk (Kd.R_drew HO_7.out)
         have n2_ := Aside0.mk (Kd.R_drew HO_559000.out)
         have n3_ := Aside0.mk (blk_drew BK546.out)
         have n4_ := Aside0.mk (blk_drew BK558.out)
         have n5_ := Aside0.mk (below_drew1 HB.out)
         clear HO_4
         clear HO_7
         clear HO_559000
         clear BK546
         clear BK558
         clear HB
         have HO_4 := n0_
         have HO_7 := n1_
         have HO_559000 := n2_
         have BK546 := n3_
         have BK558 := n4_
         have HB := n5_
         clear n0_ n1_ n2_ n3_ n4_ n5_
         refine start_ (n := 5) (S := fun w' => w'.cell? ⟨gb558, 0, none⟩ = some (.slice Ao22 t555.length co22) ∧ w'.cell? ⟨gb546, 0, none⟩ = some (.slice A0_0 l0_0.length c0_0)) (ds := []) (B_ 0 5) (by kernel_rfl) rfl rfl ⟨(blk_cell BK558.out 0).trans rfl, (blk_cell BK546.out 0).trans rfl⟩ (fun hHeld => ?_)
         generalize wc.drew = w40 at HO_4 HO_7 HO_559000 BK546 BK558 HB hHeld ⊢
         refine take_ (i := 0) (N := some 41) (v := ?_) (a' := ?_) (B_ 1 5) rfl rfl (by kernel_rfl) (fun _ _ _ h => h) (Or.inl ⟨by rfl, ?_⟩) hHeld ?_ ?_
         rotate_left
         · rintro w' ⟨s0, s1⟩
           go_simp
           with_reducible rfl
         rotate_left
         · simp only [Act.put, z1_, z2_, z3_, i64_w, i32_w]
           rfl
         refine take_ (i := 1) (N := some 42) (v := ?_) (a' := ?_) (B_ 3 5) rfl rfl (by kernel_rfl) (fun _ _ _ h => h) (Or.inl ⟨by rfl, ?_⟩) hHeld ?_ ?_
         rotate_left
         · rintro w' ⟨s0, s1⟩
           go_simp
           with_reducible rfl
         rotate_left
         · simp only [Act.put, z1_, z2_, z3_, i64_w, i32_w]
           rfl
         refine one_ (i := 2) (N := some 43) (B_ 7 5) rfl rfl (by kernel_rfl) (by decide) (fun K hK => ?_)
         refine goes_ Try.func28 (by kernel_rfl) rfl #[.agg #[.slice A0_0 l0_0.length c0_0]] (by rfl) rfl rfl (by (try simp only [List.map_toArray, List.map_cons, List.map_nil]); first | done | rfl | (simp only [List.length_drop, List.length_take]; rfl)) ?_
         with_reducible refine (laws_toSemigroup.calls kj10 _ _ l0_0 t564 _ ?side1 ?side2 A35.out).mono ?_
         (case side1 => exact ce_ ((Kd.C_below HR0_0.out HB.out)))
         (case side2 => exact HC0_0.out)
         rintro e w41 ⟨v565, rfl, ho0, hb⟩
         refine ⟨_, rfl, ?_⟩
         have n0_ := Aside0.mk (Kd.R_elder' (re_ HO_4.out) (Kd.R_base ho0) hb)
         have n1_ := Aside0.mk (Kd.R_elder' (re_ HO_7.out) (Kd.R_base ho0) hb)
         have n2_ := Aside0.mk (Kd.R_elder' (re_ HO_559000.out) (Kd.R_base ho0) hb)
         have n3_ := Aside0.mk (Kd.R_lower (Kd.R_new' (Kd.R_new' (Kd.R_new' ho0 (Kd.R_lt (re_ HO_4.out))) (Kd.R_lt (re_ HO_7.out))) (Kd.R_lt (re_ HO_559000.out))) (below_size (by repeat (first | (with_reducible first | exact HB.out | apply below_alloc | apply pw_below_drewN | apply below_drew1 | refine below_set ?_ GE546.out | refine below_set ?_ GE558.out) | exact HB.out))))
         have n4_ := Aside0.mk (blk_below (g := gb546) (o := .cells #[.slice A0_0 l0_0.length c0_0] 41 (0, 0)) (be_ BK546.out) hb)
         have n5_ := Aside0.mk (blk_below (g := gb558) (o := .cells #[.slice Ao22 t555.length co22] 44 (0, 0)) (be_ BK558.out) hb)
         have n6_ := Aside0.mk (below_step (by repeat (first | (with_reducible first | exact HB.out | apply below_alloc | apply pw_below_drewN | apply below_drew1 | refine below_set ?_ GE546.out | refine below_set ?_ GE558.out) | exact HB.out)) hb)
         clear HO_4
         clear HO_7
         clear HO_559000
         clear BK546
         clear BK558
         clear HB
         have HO_4 := n0_
         have HO_7 := n1_
         have HO_559000 := n2_
         have HO566 := n3_
         have BK546 := n4_
         have BK558 := n5_
         have HB := n6_
         clear n0_ n1_ n2_ n3_ n4_ n5_ n6_
         (try clear hb)
         (try clear hb2)
         (try clear hk)
         (try clear hi)
         (try clear ho0)
         obtain ⟨Ao42, co42, eo42⟩ := Kd.R_slice HO566.out
         (first | subst eo42 | (injection eo42 with f1_ f2_ f3_; have f4_ := f1_.symm; have f5_ := f3_.symm; clear f1_ f2_ f3_; subst f4_; subst f5_))
         refine hK.out _ _ ⟨(blk_cell BK558.out 0).trans rfl, (blk_cell BK546.out 0).trans rfl⟩ (fun hHeld => ?_)
         clear hK K
         refine norm_ (a' := ?_) ?_ ?_
         rotate_left
         · show Act.put _ (some 43) _ = _
           simp only [Act.put, z1_, z2_, z3_, i64_w, i32_w]
           rfl
         refine one_ (i := 3) (N := some 44) (B_ 15 5) rfl rfl (by kernel_rfl) (by decide) (fun K hK => ?_)
         refine goes_ Try.func30 (by kernel_rfl) rfl #[.agg #[.slice Ao22 t555.length co22], .agg #[.slice Ao42 t564.length co42]] (by rfl) rfl rfl (by (try simp only [List.map_toArray, List.map_cons, List.map_nil]); first | done | rfl | (simp only [List.length_drop, List.length_take]; rfl)) ?_
         with_reducible refine (laws_eqSemigroup.calls kj10 _ _ t555 _ _ t564 true _ ?side1 ?side2 ?side3 ?side4 A36.out).mono ?_
         (case side1 => exact ce_ ((Kd.R_reads' HO_559000.out).2.2))
         (case side2 => exact (Kd.R_reads' HO_559000.out).2.1)
         (case side3 => exact ce_ ((Kd.R_reads' HO566.out).2.2))
         (case side4 => exact (Kd.R_reads' HO566.out).2.1)
         rintro e w43 ⟨rfl, hb⟩
         refine ⟨_, rfl, ?_⟩
         have n0_ := Aside0.mk (Kd.R_below (re_ HO_4.out) hb)
         have n1_ := Aside0.mk (Kd.R_below (re_ HO_7.out) hb)
         have n2_ := Aside0.mk (Kd.R_below (re_ HO_559000.out) hb)
         have n3_ := Aside0.mk (Kd.R_below (re_ HO566.out) hb)
         have n4_ := Aside0.mk (blk_below (g := gb546) (o := .cells #[.slice A0_0 l0_0.length c0_0] 41 (0, 0)) (be_ BK546.out) hb)
         have n5_ := Aside0.mk (blk_below (g := gb558) (o := .cells #[.slice Ao22 t555.length co22] 44 (0, 0)) (be_ BK558.out) hb)
         have n6_ := Aside0.mk (below_step (by repeat (first | (with_reducible first | exact HB.out | apply below_alloc | apply pw_below_drewN | apply below_drew1 | refine below_set ?_ GE546.out | refine below_set ?_ GE558.out) | exact HB.out)) hb)
         clear HO_4
         clear HO_7
         clear HO_559000
         clear HO566
         clear BK546
         clear BK558
         clear HB
         have HO_4 := n0_
         have HO_7 := n1_
         have HO_559000 := n2_
         have HO566 := n3_
         have BK546 := n4_
         have BK558 := n5_
         have HB := n6_
         clear n0_ n1_ n2_ n3_ n4_ n5_ n6_
         (try clear hb)
         (try clear hb2)
         (try clear hk)
         (try clear hi)
         refine hK.out _ _ ⟨(blk_cell BK558.out 0).trans rfl, (blk_cell BK546.out 0).trans rfl⟩ (fun hHeld => ?_)
         clear hK K
         refine norm_ (a' := ?_) ?_ ?_
         rotate_left
         · show Act.put _ (some 44) _ = _
           simp only [Act.put, z1_, z2_, z3_, i64_w, i32_w]
           rfl
         refine pure_ (i := 4) (N := some 45) (v := ?_) (a' := ?_) (B_ 31 5) rfl rfl (by kernel_rfl) (fun _ _ _ h => h) (Or.inl ⟨by rfl, ?_⟩) ?_ ?_
         rotate_left
         · intro w'
           go_simp
           with_reducible rfl
         rotate_left
         · simp only [Act.put, z1_, z2_, z3_, i64_w, i32_w]
           rfl
         refine done_ (by kernel_rfl) ?_
         have hnb44 := NB558_546.out
         have hnc44 := NB546_558.out
         have hcz45_0 : w43.cell? ⟨gb558, 0, none⟩ = some (.slice Ao22 t555.length co22) := (blk_cell BK558.out 0).trans rfl
         have hfz45_0 := blk_frozen BK558.out 0
         go_upto_region 14 with (first | ((with_reducible refine gate_callee (f := 31) rfl ?_); refine goesL_ (some 48) rfl rfl Try.func31 (by kernel_rfl) rfl #[.agg #[.slice Ao22 t555.length co22], .int .i64 1] rfl (by (try simp only [List.map_toArray, List.map_cons, List.map_nil]); first | done | rfl | (simp only [List.length_drop, List.length_take]; rfl)) ?_; (with_reducible refine (laws_markSemigroup.calls kj10 (fun k_ => some k_ = (.slice Ao22 t555.length co22 : Value).ownBlock) (.slice Ao22 t555.length co22) t555 1 t568 t569 w _ ?side1 ?side2 A38.out).mono ?_); (case side1 => repeat (first | (with_reducible first | exact HB.out | apply below_alloc | apply pw_below_drewN | apply below_drew1 | refine below_set ?_ GE546.out | refine below_set ?_ GE558.out) | exact HB.out)); (case side2 => exact Kd.R_tight rfl HO_559000.out); rintro e w46 ⟨rfl, hy0, hb, hkp⟩; refine ⟨_, rfl, ?_⟩; have n0_ := Aside0.mk (Kd.R_mono (ok' := fun k_ => some k_ ≠ (v560 : Value).ownBlock ∧ some k_ ≠ (.slice Ao22 t555.length co22 : Value).ownBlock ∧ some k_ ≠ (.slice Ao42 t564.length co42 : Value).ownBlock) (Kd.R_keptB (HO_4.out) hkp (fun k_ hk_ hs_ => (hk_.1.2) hs_)) (fun k_ hk_ => ⟨hk_.1.1.1, hk_.1.1.2, hk_.1.2⟩)); have n1_ := Aside0.mk (Kd.R_mono (ok' := fun k_ => some k_ ≠ (v552 : Value).ownBlock ∧ some k_ ≠ (.slice Ao22 t555.length co22 : Value).ownBlock ∧ some k_ ≠ (.slice Ao42 t564.length co42 : Value).ownBlock) (Kd.R_keptB (HO_7.out) hkp (fun k_ hk_ hs_ => (hk_.1.2) hs_)) (fun k_ hk_ => ⟨hk_.1.1.1, hk_.1.1.2, hk_.1.2⟩)); have n2_ := Aside0.mk (Kd.R_reok rfl hy0 (fun k_ e_ => HO_559000.out.1 k_ e_)); have n3_ := Aside0.mk (blk_kept (be_ BK546.out) hkp (fun hs_ => (fun e_ => (Kd.R_ne HO_559000.out BK546.out (by decide)) e_) hs_)); have n4_ := Aside0.mk (blk_kept (be_ BK558.out) hkp (fun hs_ => (fun e_ => (Kd.R_ne HO_559000.out BK558.out (by decide)) e_) hs_)); have n5_ := Aside0.mk (Kd.R_mono (ok' := fun k_ => some k_ ≠ (v552 : Value).ownBlock ∧ some k_ ≠ (v560 : Value).ownBlock ∧ some k_ ≠ (.slice Ao22 t555.length co22 : Value).ownBlock) (Kd.R_keptB (HO566.out) hkp (fun k_ hk_ hs_ => (hk_.2) hs_)) (fun k_ hk_ => ⟨hk_.1.1.1.2, hk_.1.1.2, hk_.1.2⟩)); have n6_ := Aside0.mk (hb); clear HO_4; clear HO_7; clear HO_559000; clear BK546; clear BK558; clear HO566; clear HB; have HO_4 := n0_; have HO_7 := n1_; have HO_559000 := n2_; have BK546 := n3_; have BK558 := n4_; have HO566 := n5_; have HB := n6_; clear n0_ n1_ n2_ n3_ n4_ n5_ n6_; (try clear hb); (try clear hkp); (try clear hy0)))
         (try simp only [Act.put, z1_, z2_, z3_])
         go_cut [61] (fun v61 wc => ∃ (kq : Nat) (x61_38 : Bool), v61 = .bool x61_38 ∧ Aside0 (laws_FnExactMultiplicitySequence.j1 kq t551 t554 t559 x61_38 l0_0 = some r) ∧ Aside0 (kq ≤ kj10) ∧ Aside0 (Kd.R (Kd.int .i64) 3 wc w.heap.size (fun k_ => some k_ ≠ (v560 : Value).ownBlock ∧ some k_ ≠ ((.slice Ao22 t555.length co22) : Value).ownBlock) v552 t551) ∧ Aside0 (Kd.R (Kd.int .i64) 3 wc w.heap.size (fun k_ => some k_ ≠ (v552 : Value).ownBlock ∧ some k_ ≠ ((.slice Ao22 t555.length co22) : Value).ownBlock) v560 t559) ∧ Aside0 (Kd.R (Kd.int .i64) 3 wc w.heap.size (fun k_ => some k_ ≠ (v552 : Value).ownBlock ∧ some k_ ≠ (v560 : Value).ownBlock) (.slice Ao22 t555.length co22) t569) ∧ Aside0 (wc.heap[gb546]? = some (.cells #[(.slice A0_0 l0_0.length c0_0)] 41 (0, 0))) ∧ Aside0 (wc.heap[gb558]? = some (.cells #[(.slice Ao22 t555.length co22)] 44 (0, 0))) ∧ Aside0 (Below w.heap.size w wc))
         case first =>
          have H := HC39.out
          clear HC39
          by_cases c47 : t568 < 0
          · rw [if_pos c47] at H
            exact absurd (H.trans (congrArg some hr_.out)) (by cases kj10 <;> simp [laws_FnExactMultiplicitySequence.j1])
          · rw [if_neg c47] at H
            have c47b0 : decide (t568 < 0) = false := decide_eq_false c47
            clear c47
            (first | rw [c47b0] | (simp only [i64_w, i32_w]; rw [c47b0]) | skip)
            replace H := Option.bind_eq_some_iff.mp H
            obtain ⟨t570, A480, H⟩ := H
            replace H : (if t570 = true then (laws_FnExactMultiplicitySequence.j1 kj10 t551 t554 t559 (t562 != t554) l0_0) else (laws_FnExactMultiplicitySequence.j1 kj10 t551 t554 t559 true l0_0)) = some r := H
            have A48 := Aside0.mk A480
            clear A480
            by_cases c49 : t570 = true
            · subst c49
              have H1 : (laws_FnExactMultiplicitySequence.j1 kj10 t551 t554 t559 (t562 != t554) l0_0) = some r := by rw [if_pos rfl] at H; exact H
              clear H
              have H := H1
              clear H1
              as_aux_lemma =>
               have H' := Aside0.mk H
               clear H
               obtain ⟨Ao50, co50, eo50⟩ := Kd.R_slice HO_7.out
               subst eo50
               obtain ⟨Ao51, co51, eo51⟩ := Kd.R_slice HO_4.out
               subst eo51
               go_wp2_with (first | (go_at_call 10; (with_reducible refine (laws_eqIntS.calls kj10 _ _ t559 _ _ t551 true _ ?side1 ?side2 ?side3 ?side4 A48.out).mono ?_); (case side1 => exact ce_ ((Kd.R_reads' HO_7.out).2.2)); (case side2 => exact (Kd.R_reads' HO_7.out).2.1); (case side3 => exact ce_ ((Kd.R_reads' HO_4.out).2.2)); (case side4 => exact (Kd.R_reads' HO_4.out).2.1); rintro e w' ⟨rfl, ⟨nd, rfl⟩⟩))
               go_meet
               case rel => exact ⟨_, ((t562 != t554)), (by first | rfl | (simp; done) | (simp [*]; done)), H', ⟨by have := HJ10.out; first | omega | exact Nat.le_refl _⟩, ⟨by (with_reducible repeat (first | apply Kd.R_alloc | apply Kd.R_drewN | apply Kd.R_drew)); exact Kd.R_mono HO_4.out (fun _ hk => ⟨hk.1, hk.2.1⟩)⟩, ⟨by (with_reducible repeat (first | apply Kd.R_alloc | apply Kd.R_drewN | apply Kd.R_drew)); exact Kd.R_mono HO_7.out (fun _ hk => ⟨hk.1, hk.2.1⟩)⟩, ⟨by (with_reducible repeat (first | apply Kd.R_alloc | apply Kd.R_drewN | apply Kd.R_drew)); exact Kd.R_mono HO_559000.out (fun _ hk => ⟨hk.1.1, hk.1.2⟩)⟩, ⟨be_ BK546.out⟩, ⟨be_ BK558.out⟩, ⟨by repeat (first | (with_reducible first | exact HB.out | apply below_alloc | apply pw_below_drewN | apply below_drew1 | refine below_set ?_ GE546.out | refine below_set ?_ GE558.out) | exact HB.out)⟩⟩
            · replace c49 := Bool.eq_false_iff.mpr c49
              subst c49
              have H1 : (laws_FnExactMultiplicitySequence.j1 kj10 t551 t554 t559 true l0_0) = some r := by rw [if_neg (show ¬ (false = true) by decide)] at H; exact H
              exact absurd (H1.trans (congrArg some hr_.out)) (by cases kj10 <;> simp [laws_FnExactMultiplicitySequence.j1])
         case rest =>
          clear HC39
          try clear c1
          try clear c2
          try clear p2
          try clear c3
          try clear c3b0
          try clear c4
          try clear c5
          try clear c10
          try clear c23
          try clear c26
          try clear c27
          try clear c28
          try clear c29
          try clear c30
          try clear c31
          try clear c34
          try clear c37
          try clear c44
          try clear c47
          try clear c47b0
          try clear c49
          try clear hcz13_0
          try clear hcz15_0
          try clear hcz19_0
          try clear hcz24_0
          try clear hcz26_0
          try clear hcz45_0
          try clear hcz5_0
          try clear hfz13_0
          try clear hfz15_0
          try clear hfz19_0
          try clear hfz24_0
          try clear hfz26_0
          try clear hfz45_0
          try clear hfz5_0
          try clear p2
          obtain ⟨kq, x61_38, rfl, HA, HJ38, HO_4, HO_7, HO_559000, BK546, BK558, HB⟩ := hcut
          have hl559000_38 := (Kd.R_reads' HO_559000.out).1
          rw [hl559000_38] at HO_559000
          (try simp only [hl559000_38])
          (try simp only [hl559000_38] at BK546)
          (try simp only [hl559000_38] at BK558)
          (try simp only [hl559000_38] at HO_4)
          (try simp only [hl559000_38] at HO_7)
          cases kq with
          | zero => exact absurd HA.out (by simp [laws_FnExactMultiplicitySequence.j1])
          | succ kj38 =>
           have H := HA.out
           clear HA
           simp only [laws_FnExactMultiplicitySequence.j1] at H
           by_cases c54 : x61_38 = true
           · subst c54
             have H1 : (some false) = some r := by rw [if_pos rfl] at H; exact H
             exact absurd (H1.trans (congrArg some hr_.out)) (by simp)
           · replace c54 := Bool.eq_false_iff.mpr c54
             subst c54
             have H1 : ((laws_markIntS.f kj38 t559 1).bind fun bt571 => ((laws_heldIntS.f kj38 bt571.2 1).bind fun t573 => (if t573 < 0 then (some false) else (if t573 = bt571.1 then ((laws_toSemigroup.f kj38 l0_0).bind fun t574 => ((impl_MultiplicitySequence.f kj38 t574).bind fun bt577 => ((laws_eqIntS.f kj38 bt577.1 t551).bind fun t581 => (if t581 = true then (laws_FnExactMultiplicitySequence.j2 kj38 bt571.2 bt571.1 (bt577.2 != t554)) else (laws_FnExactMultiplicitySequence.j2 kj38 bt571.2 bt571.1 true))))) else (some false))))) = some r := by rw [if_neg (show ¬ (false = true) by decide)] at H; exact H
             clear H
             have H := H1
             clear H1
             replace H := Option.bind_eq_some_iff.mp H
             obtain ⟨⟨t571, t572⟩, A550, H⟩ := H
             replace H : ((laws_heldIntS.f kj38 t572 1).bind fun t573 => (if t573 < 0 then (some false) else (if t573 = t571 then ((laws_toSemigroup.f kj38 l0_0).bind fun t574 => ((impl_MultiplicitySequence.f kj38 t574).bind fun bt577 => ((laws_eqIntS.f kj38 bt577.1 t551).bind fun t581 => (if t581 = true then (laws_FnExactMultiplicitySequence.j2 kj38 t572 t571 (bt577.2 != t554)) else (laws_FnExactMultiplicitySequence.j2 kj38 t572 t571 true))))) else (some false)))) = some r := H
             have A55 := Aside0.mk A550
             clear A550
             replace H := Option.bind_eq_some_iff.mp H
             obtain ⟨t573, A560, H⟩ := H
             replace H : (if t573 < 0 then (some false) else (if t573 = t571 then ((laws_toSemigroup.f kj38 l0_0).bind fun t574 => ((impl_MultiplicitySequence.f kj38 t574).bind fun bt577 => ((laws_eqIntS.f kj38 bt577.1 t551).bind fun t581 => (if t581 = true then (laws_FnExactMultiplicitySequence.j2 kj38 t572 t571 (bt577.2 != t554)) else (laws_FnExactMultiplicitySequence.j2 kj38 t572 t571 true))))) else (some false))) = some r := H
             have A56 := Aside0.mk A560
             clear A560
             by_cases c57 : t573 < 0
             · rw [if_pos c57] at H
               exact absurd (H.trans (congrArg some hr_.out)) (by simp)
             · rw [if_neg c57] at H
               have c57b0 : decide (t573 < 0) = false := decide_eq_false c57
               clear c57
               by_cases c60 : t573 = t571
               · rw [if_pos c60] at H
                 have c60b0 : (t573 == t571) = true := beq_iff_eq.mpr c60
                 have c60b1 : (t573 != t571) = false := bne_eq_false_iff_eq.mpr c60
                 clear c60
                 replace H := Option.bind_eq_some_iff.mp H
                 obtain ⟨t574, A610, H⟩ := H
                 replace H : ((impl_MultiplicitySequence.f kj38 t574).bind fun bt577 => ((laws_eqIntS.f kj38 bt577.1 t551).bind fun t581 => (if t581 = true then (laws_FnExactMultiplicitySequence.j2 kj38 t572 t571 (bt577.2 != t554)) else (laws_FnExactMultiplicitySequence.j2 kj38 t572 t571 true)))) = some r := H
                 have A61 := Aside0.mk A610
                 clear A610
                 replace H := Option.bind_eq_some_iff.mp H
                 obtain ⟨⟨t577, t580⟩, A620, H⟩ := H
                 replace H : ((laws_eqIntS.f kj38 t577 t551).bind fun t581 => (if t581 = true then (laws_FnExactMultiplicitySequence.j2 kj38 t572 t571 (t580 != t554)) else (laws_FnExactMultiplicitySequence.j2 kj38 t572 t571 true))) = some r := H
                 have A62 := Aside0.mk A620
                 clear A620
                 have HC63 := Aside0.mk H
                 clear H
                 obtain ⟨Ao64, co64, eo64⟩ := Kd.R_slice HO_7.out
                 subst eo64
                 go_upto_region 25 with (first | ((with_reducible refine gate_callee (f := 11) rfl ?_); refine goesL_ (some 64) rfl rfl Try.func11 (by kernel_rfl) rfl #[.slice Ao64 t559.length co64, .int .i64 1] rfl (by (try simp only [List.map_toArray, List.map_cons, List.map_nil]); first | done | rfl | (simp only [List.length_drop, List.length_take]; rfl)) ?_; (with_reducible refine (laws_markIntS.calls kj38 (fun k_ => some k_ = (.slice Ao64 t559.length co64 : Value).ownBlock) (.slice Ao64 t559.length co64) t559 1 t571 t572 w _ ?side1 ?side2 A55.out).mono ?_); (case side1 => repeat (first | (with_reducible first | exact HB.out | apply below_alloc | apply pw_below_drewN | apply below_drew1 | refine below_set ?_ GE546.out | refine below_set ?_ GE558.out) | exact HB.out)); (case side2 => exact Kd.R_tight rfl HO_7.out); rintro e w65 ⟨rfl, hy0, hb, hkp⟩; refine ⟨_, rfl, ?_⟩; have n0_ := Aside0.mk (Kd.R_mono (ok' := fun k_ => some k_ ≠ (.slice Ao64 t559.length co64 : Value).ownBlock ∧ some k_ ≠ (.slice Ao22 t569.length co22 : Value).ownBlock) (Kd.R_keptB (HO_4.out) hkp (fun k_ hk_ hs_ => (hk_.1) hs_)) (fun k_ hk_ => ⟨hk_.1.1, hk_.1.2⟩)); have n1_ := Aside0.mk (Kd.R_reok rfl hy0 (fun k_ e_ => HO_7.out.1 k_ e_)); have n2_ := Aside0.mk (Kd.R_mono (ok' := fun k_ => some k_ ≠ (v552 : Value).ownBlock ∧ some k_ ≠ (.slice Ao64 t559.length co64 : Value).ownBlock) (Kd.R_keptB (HO_559000.out) hkp (fun k_ hk_ hs_ => (hk_.2) hs_)) (fun k_ hk_ => ⟨hk_.1.1, hk_.1.2⟩)); have n3_ := Aside0.mk (blk_kept (be_ BK546.out) hkp (fun hs_ => (fun e_ => (Kd.R_ne HO_7.out BK546.out (by decide)) e_) hs_)); have n4_ := Aside0.mk (blk_kept (be_ BK558.out) hkp (fun hs_ => (fun e_ => (Kd.R_ne HO_7.out BK558.out (by decide)) e_) hs_)); have n5_ := Aside0.mk (hb); clear HO_4; clear HO_7; clear HO_559000; clear BK546; clear BK558; clear HB; have HO_4 := n0_; have HO_7 := n1_; have HO_559000 := n2_; have BK546 := n3_; have BK558 := n4_; have HB := n5_; clear n0_ n1_ n2_ n3_ n4_ n5_; (try clear hb); (try clear hkp); (try clear hy0)) | ((with_reducible refine gate_callee (f := 12) rfl ?_); refine goesL_ (some 67) rfl rfl Try.func12 (by kernel_rfl) rfl #[.slice Ao64 t572.length co64, .int .i64 1] rfl (by (try simp only [List.map_toArray, List.map_cons, List.map_nil]); first | done | (rw [show t572.length = t559.length from (Kd.R_reads' HO_7.out).1.symm] <;> rfl) | rfl | (simp only [List.length_drop, List.length_take]; rfl)) ?_; (with_reducible refine (laws_heldIntS.calls kj38 _ _ t572 1 t573 _ ?side1 ?side2 A56.out).mono ?_); (case side1 => exact ce_ ((Kd.R_reads' HO_7.out).2.2)); (case side2 => rw [show t572.length = t559.length from (Kd.R_reads' HO_7.out).1.symm]; exact (Kd.R_reads' HO_7.out).2.1); rintro e w' ⟨rfl, ⟨nd, rfl⟩⟩; refine ⟨_, rfl, ?_⟩; have hnb66 := NB546_558.out; have hnc66 := NB558_546.out; have hcz67_0 : w65.cell? ⟨gb546, 0, none⟩ = some (.slice A0_0 l0_0.length c0_0) := (blk_cell BK546.out 0).trans rfl; have hfz67_0 := blk_frozen BK546.out 0) | ((with_reducible refine gate_callee (f := 28) rfl ?_); refine goesL_ (some 75) rfl rfl Try.func28 (by kernel_rfl) rfl #[.agg #[.slice A0_0 l0_0.length c0_0]] rfl (by (try simp only [List.map_toArray, List.map_cons, List.map_nil]); first | done | rfl | (simp only [List.length_drop, List.length_take]; rfl)) ?_; (with_reducible refine (laws_toSemigroup.calls kj38 _ _ l0_0 t574 _ ?side1 ?side2 A61.out).mono ?_); (case side1 => repeat (first | exact (Kd.C_below HR0_0.out (by repeat (first | (with_reducible first | exact HB.out | apply below_alloc | apply pw_below_drewN | apply below_drew1 | refine below_set ?_ GE546.out | refine below_set ?_ GE558.out) | exact HB.out))) | (with_reducible refine Kd.C_alloc ?_ _) | (with_reducible refine Kd.C_drewN ?_ _) | (with_reducible refine Kd.C_drew ?_))); (case side2 => exact HC0_0.out); rintro e w68 ⟨v575, rfl, ho0, hb⟩; refine ⟨_, rfl, ?_⟩; have n0_ := Aside0.mk (Kd.R_elder' (re_ HO_4.out) (Kd.R_base ho0) hb); have n1_ := Aside0.mk (Kd.R_elder' (re_ HO_7.out) (Kd.R_base ho0) hb); have n2_ := Aside0.mk (Kd.R_elder' (re_ HO_559000.out) (Kd.R_base ho0) hb); have n3_ := Aside0.mk (Kd.R_lower (Kd.R_new' (Kd.R_new' (Kd.R_new' ho0 (Kd.R_lt (re_ HO_4.out))) (Kd.R_lt (re_ HO_7.out))) (Kd.R_lt (re_ HO_559000.out))) (below_size (by repeat (first | (with_reducible first | exact HB.out | apply below_alloc | apply pw_below_drewN | apply below_drew1 | refine below_set ?_ GE546.out | refine below_set ?_ GE558.out) | exact HB.out)))); have n4_ := Aside0.mk (blk_below (g := gb546) (o := .cells #[.slice A0_0 l0_0.length c0_0] 41 (0, 0)) (be_ BK546.out) hb); have n5_ := Aside0.mk (blk_below (g := gb558) (o := .cells #[.slice Ao22 t569.length co22] 44 (0, 0)) (be_ BK558.out) hb); have n6_ := Aside0.mk (below_step (by repeat (first | (with_reducible first | exact HB.out | apply below_alloc | apply pw_below_drewN | apply below_drew1 | refine below_set ?_ GE546.out | refine below_set ?_ GE558.out) | exact HB.out)) hb); clear HO_4; clear HO_7; clear HO_559000; clear BK546; clear BK558; clear HB; have HO_4 := n0_; have HO_7 := n1_; have HO_559000 := n2_; have HO576 := n3_; have BK546 := n4_; have BK558 := n5_; have HB := n6_; clear n0_ n1_ n2_ n3_ n4_ n5_ n6_; (try clear hb); (try clear hb2); (try clear hk); (try clear hi); (try clear ho0); obtain ⟨Ao69, co69, eo69⟩ := Kd.R_slice HO576.out; subst eo69) | ((with_reducible refine gate_callee (f := 29) rfl ?_); refine goesL_ (some 76) rfl rfl Try.func29 (by kernel_rfl) rfl #[.agg #[.slice Ao69 t574.length co69]] rfl (by (try simp only [List.map_toArray, List.map_cons, List.map_nil]); first | done | rfl | (simp only [List.length_drop, List.length_take]; rfl)) ?_; (with_reducible refine (impl_MultiplicitySequence.calls kj38 (fun k_ => some k_ = (.slice Ao69 t574.length co69 : Value).ownBlock) _ _ t574 t577 t580 _ ?side1 A62.out).mono ?_); (case side1 => exact Kd.R_V (Kd.R_tight rfl (Kd.R_types (Kd.R_types (HO576.out) BK546.out (by decide)) BK558.out (by decide)))); rintro e w70 ⟨v578, rfl, ho0, hb⟩; refine ⟨_, rfl, ?_⟩; have n0_ := Aside0.mk (Kd.R_elder' (re_ HO_4.out) (Kd.R_base ho0) hb); have n1_ := Aside0.mk (Kd.R_elder' (re_ HO_7.out) (Kd.R_base ho0) hb); have n2_ := Aside0.mk (Kd.R_elder' (re_ HO_559000.out) (Kd.R_base ho0) hb); have n3_ := Aside0.mk (Kd.R_elder' (re_ HO576.out) (Kd.R_base ho0) hb); have n4_ := Aside0.mk (Kd.R_lower (Kd.R_new' (Kd.R_new' (Kd.R_new' (Kd.R_new' (Kd.R_mono (ok' := fun k_ => True) ho0 (fun _ hk_ => trivial)) (Kd.R_lt (re_ HO_4.out))) (Kd.R_lt (re_ HO_7.out))) (Kd.R_lt (re_ HO_559000.out))) (Kd.R_lt (re_ HO576.out))) (below_size (by repeat (first | (with_reducible first | exact HB.out | apply below_alloc | apply pw_below_drewN | apply below_drew1 | refine below_set ?_ GE546.out | refine below_set ?_ GE558.out) | exact HB.out)))); have n5_ := Aside0.mk (blk_below (g := gb546) (o := .cells #[.slice A0_0 l0_0.length c0_0] 41 (0, 0)) (be_ BK546.out) hb); have n6_ := Aside0.mk (blk_below (g := gb558) (o := .cells #[.slice Ao22 t569.length co22] 44 (0, 0)) (be_ BK558.out) hb); have n7_ := Aside0.mk (below_step (by repeat (first | (with_reducible first | exact HB.out | apply below_alloc | apply pw_below_drewN | apply below_drew1 | refine below_set ?_ GE546.out | refine below_set ?_ GE558.out) | exact HB.out)) hb); clear HO_4; clear HO_7; clear HO_559000; clear HO576; clear BK546; clear BK558; clear HB; have HO_4 := n0_; have HO_7 := n1_; have HO_559000 := n2_; have HO576 := n3_; have HO579 := n4_; have BK546 := n5_; have BK558 := n6_; have HB := n7_; clear n0_ n1_ n2_ n3_ n4_ n5_ n6_ n7_; (try clear hb); (try clear hb2); (try clear hk); (try clear hi); (try clear ho0)))
                 (try simp only [Act.put, z1_, z2_, z3_])
                 go_cut [87] (fun v87 wc => ∃ (kq : Nat) (x87_62 : Bool), v87 = .bool x87_62 ∧ Aside0 (laws_FnExactMultiplicitySequence.j2 kq t572 t571 x87_62 = some r) ∧ Aside0 (kq ≤ kj38) ∧ Aside0 (Kd.R (Kd.int .i64) 3 wc w.heap.size (fun k_ => some k_ ≠ ((.slice Ao22 t569.length co22) : Value).ownBlock) (.slice Ao64 t559.length co64) t572) ∧ Aside0 (Kd.R (Kd.int .i64) 3 wc w.heap.size (fun k_ => some k_ ≠ ((.slice Ao64 t559.length co64) : Value).ownBlock) (.slice Ao22 t569.length co22) t569) ∧ Aside0 (wc.heap[gb546]? = some (.cells #[(.slice A0_0 l0_0.length c0_0)] 41 (0, 0))) ∧ Aside0 (wc.heap[gb558]? = some (.cells #[(.slice Ao22 t569.length co22)] 44 (0, 0))) ∧ Aside0 (Below w.heap.size w wc))
                 case first =>
                  have H := HC63.out
                  clear HC63
                  replace H := Option.bind_eq_some_iff.mp H
                  obtain ⟨t581, A710, H⟩ := H
                  replace H : (if t581 = true then (laws_FnExactMultiplicitySequence.j2 kj38 t572 t571 (t580 != t554)) else (laws_FnExactMultiplicitySequence.j2 kj38 t572 t571 true)) = some r := H
                  have A71 := Aside0.mk A710
                  clear A710
                  by_cases c72 : t581 = true
                  · subst c72
                    have H1 : (laws_FnExactMultiplicitySequence.j2 kj38 t572 t571 (t580 != t554)) = some r := by rw [if_pos rfl] at H; exact H
                    clear H
                    have H := H1
                    clear H1
                    as_aux_lemma =>
                     have H' := Aside0.mk H
                     clear H
                     obtain ⟨Ao73, co73, eo73⟩ := Kd.R_slice HO579.out
                     subst eo73
                     obtain ⟨Ao74, co74, eo74⟩ := Kd.R_slice HO_4.out
                     subst eo74
                     go_wp2_with (first | ((with_reducible refine gate_callee (f := 10) rfl ?_); refine goesL_ (some 81) rfl rfl Try.func10 (by kernel_rfl) rfl #[.slice Ao73 t577.length co73, .slice Ao74 t551.length co74] rfl (by (try simp only [List.map_toArray, List.map_cons, List.map_nil]); first | done | rfl | (simp only [List.length_drop, List.length_take]; rfl)) ?_; (with_reducible refine (laws_eqIntS.calls kj38 _ _ t577 _ _ t551 true _ ?side1 ?side2 ?side3 ?side4 A71.out).mono ?_); (case side1 => exact ce_ ((Kd.R_reads' HO579.out).2.2)); (case side2 => exact (Kd.R_reads' HO579.out).2.1); (case side3 => exact ce_ ((Kd.R_reads' HO_4.out).2.2)); (case side4 => exact (Kd.R_reads' HO_4.out).2.1); rintro e w' ⟨rfl, ⟨nd, rfl⟩⟩; refine ⟨_, rfl, ?_⟩))
                     go_meet
                     case rel => exact ⟨_, ((t580 != t554)), (by first | rfl | (simp; done) | (simp [*]; done)), H', ⟨by have := HJ10.out; have := HJ38.out; first | omega | exact Nat.le_refl _⟩, ⟨by (try simp only [hl559000_38]); (with_reducible repeat (first | apply Kd.R_alloc | apply Kd.R_drewN | apply Kd.R_drew)); exact Kd.R_mono HO_7.out (fun _ hk => hk.1.1.2)⟩, ⟨by (try simp only [hl559000_38]); (with_reducible repeat (first | apply Kd.R_alloc | apply Kd.R_drewN | apply Kd.R_drew)); exact Kd.R_mono HO_559000.out (fun _ hk => hk.1.1.2)⟩, ⟨by (try simp only [hl559000_38]); (with_reducible repeat (first | refine blk_drewN ?_ _ | refine blk_drew ?_ | refine blk_alloc ?_ _)); exact BK546.out⟩, ⟨by (try simp only [hl559000_38]); (with_reducible repeat (first | refine blk_drewN ?_ _ | refine blk_drew ?_ | refine blk_alloc ?_ _)); exact BK558.out⟩, ⟨by repeat (first | (with_reducible first | exact HB.out | apply below_alloc | apply pw_below_drewN | apply below_drew1 | refine below_set ?_ GE546.out | refine below_set ?_ GE558.out) | exact HB.out)⟩⟩
                  · replace c72 := Bool.eq_false_iff.mpr c72
                    subst c72
                    have H1 : (laws_FnExactMultiplicitySequence.j2 kj38 t572 t571 true) = some r := by rw [if_neg (show ¬ (false = true) by decide)] at H; exact H
                    exact absurd (H1.trans (congrArg some hr_.out)) (by cases kj38 <;> simp [laws_FnExactMultiplicitySequence.j2])
                 case rest =>
                  clear HC63
                  try clear c1
                  try clear c2
                  try clear p2
                  try clear c3
                  try clear c3b0
                  try clear c4
                  try clear c5
                  try clear c6
                  try clear c7
                  try clear c10
                  try clear c11
                  try clear c12
                  try clear c23
                  try clear c26
                  try clear c27
                  try clear c28
                  try clear c29
                  try clear c30
                  try clear c31
                  try clear c34
                  try clear c37
                  try clear c44
                  try clear c47
                  try clear c47b0
                  try clear c49
                  try clear c54
                  try clear c57
                  try clear c57b0
                  try clear c60
                  try clear c60b0
                  try clear c60b1
                  try clear c66
                  try clear c72
                  try clear hcz13_0
                  try clear hcz15_0
                  try clear hcz19_0
                  try clear hcz24_0
                  try clear hcz26_0
                  try clear hcz45_0
                  try clear hcz5_0
                  try clear hcz67_0
                  try clear hfz13_0
                  try clear hfz15_0
                  try clear hfz19_0
                  try clear hfz24_0
                  try clear hfz26_0
                  try clear hfz45_0
                  try clear hfz5_0
                  try clear hfz67_0
                  try clear p2
                  obtain ⟨kq, x87_62, rfl, HA, HJ62, HO_7, HO_559000, BK546, BK558, HB⟩ := hcut
                  have hl7_62 := (Kd.R_reads' HO_7.out).1
                  rw [hl7_62] at HO_7
                  (try simp only [hl7_62])
                  (try simp only [hl7_62] at BK546)
                  (try simp only [hl7_62] at BK558)
                  (try simp only [hl7_62] at HO_559000)
                  cases kq with
                  | zero => exact absurd HA.out (by simp [laws_FnExactMultiplicitySequence.j2])
                  | succ kj62 =>
                   have H := HA.out
                   clear HA
                   simp only [laws_FnExactMultiplicitySequence.j2] at H
                   by_cases c77 : x87_62 = true
                   · subst c77
                     have H1 : (some false) = some r := by rw [if_pos rfl] at H; exact H
                     exact absurd (H1.trans (congrArg some hr_.out)) (by simp)
                   · replace c77 := Bool.eq_false_iff.mpr c77
                     subst c77
                     have H1 : ((laws_heldIntS.f kj62 t572 1).bind fun t582 => (if t582 < 0 then (some false) else (if t582 = t571 then (some true) else (some false)))) = some r := by rw [if_neg (show ¬ (false = true) by decide)] at H; exact H
                     clear H
                     have H := H1
                     clear H1
                     replace H := Option.bind_eq_some_iff.mp H
                     obtain ⟨t582, A780, H⟩ := H
                     replace H : (if t582 < 0 then (some false) else (if t582 = t571 then (some true) else (some false))) = some r := H
                     have A78 := Aside0.mk A780
                     clear A780
                     by_cases c79 : t582 < 0
                     · rw [if_pos c79] at H
                       exact absurd (H.trans (congrArg some hr_.out)) (by simp)
                     · rw [if_neg c79] at H
                       have c79b0 : decide (t582 < 0) = false := decide_eq_false c79
                       clear c79
                       by_cases c80 : t582 = t571
                       · rw [if_pos c80] at H
                         have c80b0 : (t582 == t571) = true := beq_iff_eq.mpr c80
                         have c80b1 : (t582 != t571) = false := bne_eq_false_iff_eq.mpr c80
                         clear c80
                         as_aux_lemma =>
                          obtain rfl := Option.some.inj H
                          go_wp2_with (first | ((with_reducible refine gate_callee (f := 12) rfl ?_); refine goesL_ (some 90) rfl rfl Try.func12 (by kernel_rfl) rfl #[.slice Ao64 t572.length co64, .int .i64 1] rfl (by (try simp only [List.map_toArray, List.map_cons, List.map_nil]); first | done | rfl | (simp only [List.length_drop, List.length_take]; rfl)) ?_; (with_reducible refine (laws_heldIntS.calls kj62 _ _ t572 1 t582 _ ?side1 ?side2 A78.out).mono ?_); (case side1 => exact ce_ ((Kd.R_reads' HO_7.out).2.2)); (case side2 => exact (Kd.R_reads' HO_7.out).2.1); rintro e w' ⟨rfl, ⟨nd, rfl⟩⟩; refine ⟨_, rfl, ?_⟩))
                          go_ret
                          exact ⟨by first | rfl | (simp [errW_none, errW_some] <;> rfl) | (simp [*, errW_none, errW_some] <;> rfl), by repeat (first | (with_reducible first | exact HB.out | apply below_alloc | apply pw_below_drewN | apply below_drew1 | refine below_set ?_ GE546.out | refine below_set ?_ GE558.out) | exact HB.out)⟩
                       · rw [if_neg c80] at H
                         exact absurd (H.trans (congrArg some hr_.out)) (by simp)
               · rw [if_neg c60] at H
                 exact absurd (H.trans (congrArg some hr_.out)) (by simp)
       · replace c37 := Bool.eq_false_iff.mpr c37
         subst c37
         have H1 : (some false) = some r := by rw [if_neg (show ¬ (false = true) by decide)] at H; exact H
         exact absurd (H1.trans (congrArg some hr_.out)) (by simp)
end Go.Proofs.Ythkhpejggdnkfaa.PA
end
section
namespace Go.Proofs.Ythkhpejggdnkfaa.E
open Go.RowKit Go.Proofs.YthkhpejggdnkfaaW.PrintWords Go.Proofs.YthkhpejggdnkfaaW.PrintLast Go.Proofs.YthkhpejggdnkfaaW.PrintMore
set_option linter.unusedVariables false
set_option linter.unusedSimpArgs false
theorem w64 {x : Int} (h1 : -9223372036854775808 ≤ x) (h2 : x ≤ 9223372036854775807) : wrap64 x = x := by
 unfold wrap64; omega
theorem nd_t {p : Prop} [Decidable p] (h : ¬ p) : (!decide p) = true := by simp [h]
theorem emod_le_self {n x : Int} (h : 0 ≤ n) (hx : 0 < x) : n % x ≤ n := by
 have h1 := Int.mul_ediv_add_emod n x
 have h2 : 0 ≤ x * (n / x) := Int.mul_nonneg (by omega) (Int.ediv_nonneg h (by omega))
 omega
theorem ev_ifp {α : Type} {c : Prop} [Decidable c] {a b : Nat → Option α} {r : α} (h : c) (k : Ev a r) : Ev (fun n => if c then a n else b n) r :=
 Ev.congr (fun _ => if_pos h) k
theorem ev_ifn {α : Type} {c : Prop} [Decidable c] {a b : Nat → Option α} {r : α} (h : ¬ c) (k : Ev b r) : Ev (fun n => if c then a n else b n) r :=
 Ev.congr (fun _ => if_neg h) k
theorem ev_bind {α β : Type} {g : Nat → Option α} {f : Nat → α → Option β} (a : α) {r : β} (h : Ev g a) (k : Ev (fun n => f n a) r) : Ev (fun n => (g n).bind (f n)) r := Ev.bind h k
theorem ev_to {α : Type} {g : Nat → Option α} {a b : α} (h : Ev g a) (e : a = b) : Ev g b := e ▸ h
theorem rd_lt {l : List Int} {i : Int} (h0 : 0 ≤ i) (h : i < l.length) : rd l i = l[i.toNat]'(by omega) := by
 unfold rd; rw [List.getD_eq_getElem?_getD, List.getElem?_eq_getElem (by omega)]; rfl
theorem rd_mem {l : List Int} {i : Int} (h0 : 0 ≤ i) (h : i < l.length) : rd l i ∈ l := by
 rw [rd_lt h0 h]; exact List.getElem_mem _
theorem drop_rd {l : List Int} {i : Int} (h0 : 0 ≤ i) (h : i < l.length) : l.drop i.toNat = rd l i :: l.drop (i + 1).toNat := by
 rw [rd_lt h0 h, List.drop_eq_getElem_cons (by omega)]
 congr 2; omega
theorem take_rd {l : List Int} {i : Int} (h0 : 0 ≤ i) (h : i < l.length) : l.take (i + 1).toNat = l.take i.toNat ++ [rd l i] := by
 rw [rd_lt h0 h, show (i + 1).toNat = i.toNat + 1 from by omega, List.take_succ_eq_append_getElem (by omega)]
theorem rd_ext {l m : List Int} (hl : l.length = m.length) (h : ∀ i : Int, 0 ≤ i → i < l.length → rd l i = rd m i) : l = m := by
 refine List.ext_getElem hl fun n h1 h2 => ?_
 have := h n (by omega) (by omega)
 rw [rd_lt (by omega) (by omega), rd_lt (by omega) (by omega)] at this
 simpa using this
theorem rd_set {l : List Int} {i j : Int} (x : Int) (hi : 0 ≤ i) (hi' : i < l.length) (hj : 0 ≤ j) : rd (l.set i.toNat x) j = if j = i then x else rd l j := by
 unfold rd
 rw [List.getD_eq_getElem?_getD, List.getD_eq_getElem?_getD, List.getElem?_set]
 by_cases h : j = i
 · subst h; rw [if_pos rfl, if_pos rfl, if_pos (by omega)]; rfl
 · rw [if_neg h, if_neg (by omega)]
theorem rd_rep {n : Nat} {x : Int} {i : Int} (hi : 0 ≤ i) (h : i < n) : rd (List.replicate n x) i = x := by
 rw [rd_lt hi (by simpa using h)]; simp
theorem mem_rd {l : List Int} {x : Int} (h : x ∈ l) : ∃ i : Int, 0 ≤ i ∧ i < l.length ∧ rd l i = x := by
 obtain ⟨n, hn, rfl⟩ := List.mem_iff_getElem.1 h
 exact ⟨n, by omega, by omega, by rw [rd_lt (by omega) (by omega)]; simp⟩
def marks (a : Int) : Nat → List Int
 | 0 => []
 | n + 1 => a :: marks (a + 1) n
theorem marks_len (a : Int) (n : Nat) : (marks a n).length = n := by
 induction n generalizing a with
 | zero => rfl
 | succ n ih => simp [marks, ih]
theorem marks_rd (a : Int) (n : Nat) (i : Int) (h0 : 0 ≤ i) (h : i < n) : rd (marks a n) i = a + i := by
 induction n generalizing a i with
 | zero => omega
 | succ n ih =>
  by_cases h1 : i = 0
  · subst h1; simp [marks, rd]
  · have := ih (a + 1) (i - 1) (by omega) (by omega)
    unfold rd at this ⊢
    rw [marks, show i.toNat = (i - 1).toNat + 1 from by omega, List.getD_cons_succ, this]
    omega
end Go.Proofs.Ythkhpejggdnkfaa.E
end
section
namespace Go.Proofs.Ythkhpejggdnkfaa.E
open Go.RowKit Go.Proofs.Ythkhpejggdnkfaa.PA Go.Proofs.YthkhpejggdnkfaaW.PrintWords Go.Proofs.YthkhpejggdnkfaaW.PrintLast Go.Proofs.YthkhpejggdnkfaaW.PrintMore
set_option linter.unusedVariables false
set_option linter.unusedSimpArgs false
theorem toIntS_l {l : List Int} (hl : l.length ≤ 1048576) (d : Nat) : ∀ (i : Int) (out : List Int), 0 ≤ i → i + d = l.length → out.length = l.length → out.take i.toNat = l.take i.toNat → Ev (fun k => laws_toIntS.l0 k l out i) l := by
 induction d with
 | zero =>
  intro i out h0 h1 h2 h3
  refine Ev.step (fun k => by rw [laws_toIntS.l0]) ?_
  simp (disch := omega) only [if_neg]
  rw [List.take_of_length_le (by omega), List.take_of_length_le (by omega)] at h3
  subst h3
  exact Ev.now _
 | succ d ih =>
  intro i out h0 h1 h2 h3
  refine Ev.step (fun k => by rw [laws_toIntS.l0]) ?_
  simp (disch := omega) only [if_pos, w64]
  refine ih _ _ (by omega) (by omega) (by simpa using h2) ?_
  rw [take_rd h0 (by simp; omega), take_rd h0 (by omega), rd_set _ h0 (by omega) h0, if_pos rfl, ← h3]
  congr 1
  rw [List.take_set_of_le (Nat.le_refl _)]
theorem toIntS_ev {l : List Int} (hl : l.length ≤ 1048576) : Ev (fun k => laws_toIntS.f k l) l := by
 unfold laws_toIntS.f
 simp (disch := omega) only [if_pos]
 exact toIntS_l hl l.length _ _ (by omega) (by omega) (by simp) (by simp)
theorem eqIntS_l {l m : List Int} (hl : l.length ≤ 1099511627776) (e : l.length = m.length) (d : Nat) : ∀ (i : Int), 0 ≤ i → i + d = l.length → Ev (fun k => laws_eqIntS.l0 k l m i) (decide (l.drop i.toNat = m.drop i.toNat)) := by
 induction d with
 | zero =>
  intro i h0 h1
  refine Ev.step (fun k => by rw [laws_eqIntS.l0]) ?_
  simp (disch := omega) only [if_neg]
  refine ev_to (Ev.now _) ?_
  rw [List.drop_of_length_le (by omega), List.drop_of_length_le (by omega)]; simp
 | succ d ih =>
  intro i h0 h1
  refine Ev.step (fun k => by rw [laws_eqIntS.l0]) ?_
  simp (disch := omega) only [if_pos, w64]
  rw [drop_rd h0 (by omega), drop_rd (l := m) h0 (by omega)]
  by_cases h : rd l i = rd m i
  · refine ev_ifp h (ev_to (ih (i + 1) (by omega) (by omega)) ?_)
    simp [h]
  · refine ev_ifn h (ev_to (Ev.now _) ?_)
    simp [h]
theorem eqIntS_ev {l m : List Int} (hl : l.length ≤ 1099511627776) : Ev (fun k => laws_eqIntS.f k l m) (decide (l = m)) := by
 unfold laws_eqIntS.f
 by_cases e : l.length = m.length
 · refine ev_ifp (by omega) (ev_to (eqIntS_l hl e l.length 0 (by omega) (by omega)) ?_)
   simp
 · refine ev_ifn (by omega) (ev_to (Ev.now _) ?_)
   simp; intro h; exact e (by rw [h])
theorem eqIntS_same {l : List Int} (hl : l.length ≤ 1099511627776) : Ev (fun k => laws_eqIntS.f k l l) true := ev_to (eqIntS_ev hl) (by simp)
end Go.Proofs.Ythkhpejggdnkfaa.E
end
section
namespace Go.Proofs.Ythkhpejggdnkfaa.E
open Go.RowKit Go.Proofs.Ythkhpejggdnkfaa.PA Go.Proofs.YthkhpejggdnkfaaW.PrintWords Go.Proofs.YthkhpejggdnkfaaW.PrintLast Go.Proofs.YthkhpejggdnkfaaW.PrintMore
set_option linter.unusedVariables false
set_option linter.unusedSimpArgs false
theorem markIntS_l {n : Nat} (a : Int) (ha : 0 ≤ a) (hn : a + n ≤ 4611686018427387904) (d : Nat) : ∀ (i : Int) (l : List Int), 0 ≤ i → i + d = n → l.length = n → (∀ j, 0 ≤ j → j < i → rd l j = a + j) → Ev (fun k => laws_markIntS.l0 k l (a + i) i) (a + n, marks a n) := by
 induction d with
 | zero =>
  intro i l h0 h1 h2 h3
  refine Ev.step (fun k => by rw [laws_markIntS.l0]) ?_
  simp (disch := omega) only [if_neg]
  refine ev_to (Ev.now _) ?_
  rw [show a + i = a + n from by omega]
  congr 1
  refine rd_ext (by rw [h2, marks_len]) fun j hj hj' => ?_
  rw [h3 j hj (by omega), marks_rd _ _ _ hj (by omega)]
 | succ d ih =>
  intro i l h0 h1 h2 h3
  refine Ev.step (fun k => by rw [laws_markIntS.l0]) ?_
  simp (disch := omega) only [if_pos, w64]
  rw [Int.add_assoc]
  refine ih (i + 1) _ (by omega) (by omega) (by simpa using h2) fun j hj hj' => ?_
  rw [rd_set _ h0 (by omega) hj]
  by_cases e : j = i
  · rw [if_pos e, e]
  · rw [if_neg e]; exact h3 j hj (by omega)
theorem markIntS_ev {l : List Int} {a : Int} (ha : 0 ≤ a) (hl : a + l.length ≤ 4611686018427387904) : Ev (fun k => laws_markIntS.f k l a) (a + l.length, marks a l.length) := by
 unfold laws_markIntS.f
 have := markIntS_l a ha hl l.length 0 l (by omega) (by omega) rfl (fun j h h' => by omega)
 rwa [Int.add_zero] at this
theorem heldIntS_l {n : Nat} (a : Int) (ha : 0 ≤ a) (hn : a + n ≤ 4611686018427387904) (d : Nat) : ∀ (i : Int), 0 ≤ i → i + d = n → Ev (fun k => laws_heldIntS.l0 k (marks a n) (a + i) i) (a + n) := by
 have hm := marks_len a n
 induction d with
 | zero =>
  intro i h0 h1
  refine Ev.step (fun k => by rw [laws_heldIntS.l0]) ?_
  simp (disch := omega) only [if_neg]
  exact ev_to (Ev.now _) (by omega)
 | succ d ih =>
  intro i h0 h1
  refine Ev.step (fun k => by rw [laws_heldIntS.l0]) ?_
  simp (disch := omega) only [if_pos, w64]
  refine ev_ifp (marks_rd _ _ _ h0 (by omega)) ?_
  rw [Int.add_assoc]
  exact ih (i + 1) (by omega) (by omega)
theorem heldIntS_ev {n : Nat} {a : Int} (ha : 0 ≤ a) (hn : a + n ≤ 4611686018427387904) : Ev (fun k => laws_heldIntS.f k (marks a n) a) (a + n) := by
 unfold laws_heldIntS.f
 have := heldIntS_l a ha hn n 0 (by omega) (by omega)
 rwa [Int.add_zero] at this
end Go.Proofs.Ythkhpejggdnkfaa.E
end
section
namespace Go.Proofs.Ythkhpejggdnkfaa.E
open Go.RowKit Go.Proofs.Ythkhpejggdnkfaa.PA Go.Proofs.YthkhpejggdnkfaaW.PrintWords Go.Proofs.YthkhpejggdnkfaaW.PrintLast Go.Proofs.YthkhpejggdnkfaaW.PrintMore
set_option linter.unusedVariables false
set_option linter.unusedSimpArgs false
theorem markSg_ev {l : List Int} {a : Int} (ha : 0 ≤ a) (hl : a + l.length ≤ 4611686018427387904) : Ev (fun k => laws_markSemigroup.f k l a) (a + l.length, marks a l.length) := by
 unfold laws_markSemigroup.f
 exact ev_bind _ (markIntS_ev ha hl) (Ev.now _)
end Go.Proofs.Ythkhpejggdnkfaa.E
end
section
namespace Go.Proofs.Ythkhpejggdnkfaa.E
open Go.RowKit Go.Proofs.Ythkhpejggdnkfaa.PA Go.Proofs.YthkhpejggdnkfaaW.PrintWords Go.Proofs.YthkhpejggdnkfaaW.PrintLast Go.Proofs.YthkhpejggdnkfaaW.PrintMore
set_option linter.unusedVariables false
set_option linter.unusedSimpArgs false
theorem l1In_eq (n lo hi : Int) : spec_l1In.f n lo hi = some (decide (lo ≤ n ∧ n ≤ hi)) := by
 unfold spec_l1In.f; by_cases h : n ≥ lo
 · rw [if_pos h]; simp [h]
 · rw [if_neg h]; simp [show ¬ lo ≤ n from h]
theorem within_eq (n lo hi : Int) : impl_within.f n lo hi = some (decide (lo ≤ n ∧ n ≤ hi)) := l1In_eq n lo hi
theorem allWithin_l {l : List Int} {lo hi : Int} (hl : l.length ≤ 1099511627776) (d : Nat) : ∀ (i : Int), 0 ≤ i → i + d = l.length → Ev (fun k => impl_allWithin.l0 k lo hi l l.length i) (decide (∀ x ∈ l.drop i.toNat, lo ≤ x ∧ x ≤ hi)) := by
 induction d with
 | zero =>
  intro i h0 h1
  refine Ev.step (fun k => by rw [impl_allWithin.l0]) ?_
  simp (disch := omega) only [if_neg]
  refine ev_to (Ev.now _) ?_
  rw [List.drop_of_length_le (by omega)]; simp
 | succ d ih =>
  intro i h0 h1
  refine Ev.step (fun k => by rw [impl_allWithin.l0]) ?_
  simp (disch := omega) only [if_pos, w64, within_eq, Option.bind_some]
  rw [drop_rd h0 (by omega)]
  by_cases h : lo ≤ rd l i ∧ rd l i ≤ hi
  · refine ev_ifp (by simpa using h) (ev_to (ih (i + 1) (by omega) (by omega)) ?_)
    simp [h]
  · refine ev_ifn (by simpa using h) (ev_to (Ev.now _) ?_)
    simp only [List.mem_cons, forall_eq_or_imp, h, false_and, decide_false]
theorem allWithin_ev {l : List Int} (lo hi : Int) (hl : l.length ≤ 1099511627776) : Ev (fun k => impl_allWithin.f k l lo hi) (decide (∀ x ∈ l, lo ≤ x ∧ x ≤ hi)) :=
 ev_to (allWithin_l hl l.length 0 (by omega) (by omega)) (by simp)
def Asc (l : List Int) : Prop := ∀ i : Int, 0 < i → i < l.length → rd l (i - 1) < rd l i
noncomputable instance (l : List Int) : Decidable (Asc l) := Classical.propDecidable _
theorem asc_l {l : List Int} (hl : l.length ≤ 1099511627776) (d : Nat) : ∀ (i : Int), 0 < i → i + d = max 1 l.length → (∀ j, 0 < j → j < i → rd l (j - 1) < rd l j) → Ev (fun k => impl_IsAscending.l0 k l i) (decide (Asc l)) ∧ Ev (fun k => spec_IsAscending.l0 k l i) (decide (Asc l)) := by
 induction d with
 | zero =>
  intro i h0 h1 h2
  have ha : Asc l := fun j hj hj' => h2 j hj (by omega)
  constructor
  · refine Ev.step (fun k => by rw [impl_IsAscending.l0]) ?_
    simp (disch := omega) only [if_neg]
    exact ev_to (Ev.now _) (by simp [ha])
  · refine Ev.step (fun k => by rw [spec_IsAscending.l0]) ?_
    simp (disch := omega) only [if_neg]
    exact ev_to (Ev.now _) (by simp [ha])
 | succ d ih =>
  intro i h0 h1 h2
  by_cases h : rd l (i - 1) < rd l i
  · obtain ⟨a, b⟩ := ih (i + 1) (by omega) (by omega) (fun j hj hj' => by
     by_cases e : j = i
     · subst e; exact h
     · exact h2 j hj (by omega))
    constructor
    · refine Ev.step (fun k => by rw [impl_IsAscending.l0]) ?_
      simp (disch := omega) only [if_pos, if_neg, w64]
      exact a
    · refine Ev.step (fun k => by rw [spec_IsAscending.l0]) ?_
      simp (disch := omega) only [if_pos, if_neg, w64]
      exact b
  · have hn : ¬ Asc l := fun ha => h (ha i h0 (by omega))
    constructor
    · refine Ev.step (fun k => by rw [impl_IsAscending.l0]) ?_
      simp (disch := omega) only [if_pos, w64]
      exact ev_to (Ev.now _) (by simp [hn])
    · refine Ev.step (fun k => by rw [spec_IsAscending.l0]) ?_
      simp (disch := omega) only [if_pos, w64]
      exact ev_to (Ev.now _) (by simp [hn])
theorem ascI_ev {l : List Int} (hl : l.length ≤ 1099511627776) : Ev (fun k => impl_IsAscending.f k l) (decide (Asc l)) :=
 (asc_l hl (l.length - 1) 1 (by omega) (by omega) (fun j h h' => by omega)).1
theorem ascS_ev {l : List Int} (hl : l.length ≤ 1099511627776) : Ev (fun k => spec_IsAscending.f k l) (decide (Asc l)) :=
 (asc_l hl (l.length - 1) 1 (by omega) (by omega) (fun j h h' => by omega)).2
end Go.Proofs.Ythkhpejggdnkfaa.E
end
section
namespace Go.Proofs.Ythkhpejggdnkfaa.E
open Go.RowKit Go.Proofs.YthkhpejggdnkfaaW.PrintWords Go.Proofs.YthkhpejggdnkfaaW.PrintLast Go.Proofs.YthkhpejggdnkfaaW.PrintMore
set_option linter.unusedVariables false
set_option linter.unusedSimpArgs false
theorem asc_lt {g : List Int} (h : Asc g) (d : Nat) : ∀ i j : Int, 0 ≤ i → j = i + d + 1 → j < g.length → rd g i < rd g j := by
 induction d with
 | zero =>
  intro i j h0 h1 h2
  have := h j (by omega) h2
  rwa [show j - 1 = i from by omega] at this
 | succ d ih =>
  intro i j h0 h1 h2
  have a := ih i (j - 1) h0 (by omega) (by omega)
  have b := h j (by omega) h2
  omega
end Go.Proofs.Ythkhpejggdnkfaa.E
end
section
namespace Go.Proofs.Ythkhpejggdnkfaa.E
open Go.RowKit Go.Proofs.YthkhpejggdnkfaaW.PrintWords Go.Proofs.YthkhpejggdnkfaaW.PrintLast Go.Proofs.YthkhpejggdnkfaaW.PrintMore
set_option linter.unusedVariables false
set_option linter.unusedSimpArgs false
inductive Way (v : List Int) : Int → Int → Prop
 | zero : Way v 0 0
 | add {x k c : Int} : x ∈ v → Way v k c → Way v (k + x) (c + 1)
theorem Way.mono {v u : List Int} (h : ∀ x ∈ v, x ∈ u) {k c : Int} (w : Way v k c) : Way u k c := by
 induction w with
 | zero => exact .zero
 | add hx _ ih => exact .add (h _ hx) ih
theorem Way.pos {v : List Int} (h : ∀ x ∈ v, 1 ≤ x) {k c : Int} (w : Way v k c) : 0 ≤ c ∧ c ≤ k := by
 induction w with
 | zero => omega
 | add hx _ ih => have := h _ hx; omega
theorem Way.plus {v : List Int} {k c : Int} (w : Way v k c) {k' c' : Int} (w' : Way v k' c') : Way v (k + k') (c + c') := by
 induction w' with
 | zero => simpa using w
 | @add x k1 c1 hx _ ih =>
  rw [← Int.add_assoc, ← Int.add_assoc]
  exact .add hx ih
theorem Way.times {v : List Int} {x : Int} (hx : x ∈ v) (j : Nat) : Way v (j * x) j := by
 induction j with
 | zero => simpa using Way.zero
 | succ j ih =>
  have := Way.add hx ih
  rw [show ((j + 1 : Nat) : Int) * x = j * x + x from by rw [Int.natCast_add, Int.add_mul]; simp]
  exact this
theorem Way.last {v : List Int} {k c : Int} (w : Way v k c) : (k = 0 ∧ c = 0) ∨ ∃ x ∈ v, Way v (k - x) (c - 1) := by
 cases w with
 | zero => exact .inl ⟨rfl, rfl⟩
 | @add x k c hx hw => exact .inr ⟨x, hx, by rwa [show k + x - x = k from by omega, show c + 1 - 1 = c from by omega]⟩
theorem Way.split {u : List Int} {x : Int} {k c : Int} (w : Way (u ++ [x]) k c) : ∃ j : Nat, Way u (k - j * x) (c - j) := by
 induction w with
 | zero => exact ⟨0, by simpa using Way.zero⟩
 | @add y k c hy _ ih =>
  obtain ⟨j, h⟩ := ih
  rcases List.mem_append.1 hy with hu | hx
  · refine ⟨j, ?_⟩
    have := Way.add hu h
    rwa [show k - j * x + y = k + y - j * x from by omega, show c - (j : Int) + 1 = c + 1 - j from by omega] at this
  · obtain rfl : y = x := by simpa using hx
    refine ⟨j + 1, ?_⟩
    rw [show ((j + 1 : Nat) : Int) * y = j * y + y from by rw [Int.natCast_add, Int.add_mul]; simp, show k + y - (j * y + y) = k - j * y from by omega, show c + 1 - ((j + 1 : Nat) : Int) = c - j from by omega]
    exact h
def Fw (v : List Int) (k m : Int) : Prop := (m = -1 ∧ ∀ c, ¬ Way v k c) ∨ (Way v k m ∧ ∀ c, Way v k c → m ≤ c)
theorem Fw.one {v : List Int} (hv : ∀ x ∈ v, 1 ≤ x) {k m m' : Int} (h : Fw v k m) (h' : Fw v k m') : m = m' := by
 rcases h with ⟨h1, h2⟩ | ⟨h1, h2⟩ <;> rcases h' with ⟨h3, h4⟩ | ⟨h3, h4⟩
 · omega
 · exact absurd h3 (h2 _)
 · exact absurd h1 (h4 _)
 · have := h2 _ h3; have := h4 _ h1; omega
theorem Fw.ge {v : List Int} (hv : ∀ x ∈ v, 1 ≤ x) {k m : Int} (h : Fw v k m) : -1 ≤ m := by
 rcases h with ⟨h1, h2⟩ | ⟨h1, h2⟩
 · omega
 · have := h1.pos hv; omega
theorem Fw.le {v : List Int} (hv : ∀ x ∈ v, 1 ≤ x) {k m : Int} (h : Fw v k m) (hk : 0 ≤ k) : m ≤ k := by
 rcases h with ⟨h1, h2⟩ | ⟨h1, h2⟩
 · omega
 · have := h1.pos hv; omega
theorem Fw.way {v : List Int} {k m : Int} (h : Fw v k m) (hm : 0 ≤ m) : Way v k m ∧ ∀ c, Way v k c → m ≤ c := by
 rcases h with ⟨h1, h2⟩ | h
 · omega
 · exact h
theorem Fw.nil {k : Int} (hk : 0 ≤ k) : Fw [] k (if k = 0 then 0 else -1) := by
 by_cases h : k = 0
 · subst h
   exact .inr ⟨.zero, fun c w => (w.pos (by simp)).1⟩
 · rw [if_neg h]
   refine .inl ⟨rfl, fun c w => ?_⟩
   rcases w.last with ⟨h1, _⟩ | ⟨x, hx, _⟩
   · exact h h1
   · simp at hx
theorem Fw.below {u : List Int} {x k m : Int} (hu : ∀ y ∈ u, 1 ≤ y) (hk : k < x) (h : Fw u k m) (h0 : 0 ≤ k) : Fw (u ++ [x]) k m := by
 have hv : ∀ y ∈ u ++ [x], 1 ≤ y := by
  intro y hy
  rcases List.mem_append.1 hy with hy | hy
  · exact hu y hy
  · have : y = x := by simpa using hy
    omega
 have key : ∀ c, Way (u ++ [x]) k c → Way u k c := by
  intro c w
  obtain ⟨j, hj⟩ := w.split
  by_cases h : j = 0
  · subst h; simpa using hj
  · exfalso
    have := hj.pos hu
    have hj1 : x ≤ (j : Int) * x := by
     have := Int.mul_le_mul_of_nonneg_right (show (1 : Int) ≤ j from by omega) (show 0 ≤ x from by omega)
     omega
    omega
 rcases h with ⟨h1, h2⟩ | ⟨h1, h2⟩
 · exact .inl ⟨h1, fun c w => h2 c (key c w)⟩
 · exact .inr ⟨h1.mono (fun y hy => List.mem_append.2 (.inl hy)), fun c w => h2 c (key c w)⟩
end Go.Proofs.Ythkhpejggdnkfaa.E
end
section
namespace Go.Proofs.Ythkhpejggdnkfaa.E
open Go.RowKit Go.Proofs.YthkhpejggdnkfaaW.PrintWords Go.Proofs.YthkhpejggdnkfaaW.PrintLast Go.Proofs.YthkhpejggdnkfaaW.PrintMore
set_option linter.unusedVariables false
set_option linter.unusedSimpArgs false
structure Lst (v : List Int) (a G : Int) (t : List Int) : Prop where
 len : (t.length : Int) = a
 ge : ∀ r, 0 ≤ r → r < a → -1 ≤ rd t r
 way : ∀ r, 0 ≤ r → r < a → 0 ≤ rd t r → (∃ c, Way v (rd t r) c) ∧ rd t r % a = r
 least : ∀ n c, Way v n c → 0 ≤ rd t (n % a) ∧ rd t (n % a) ≤ n
 bound : ∀ r, 0 ≤ r → r < a → rd t r ≤ (a - 1) * G
def sets (t : List Int) : Nat := t.countP (fun x => decide (0 ≤ x))
theorem sets_le (t : List Int) : sets t ≤ t.length := List.countP_le_length
def weight (B : Int) (t : List Int) : Int := (t.map fun x => if x < 0 then B else x).sum
theorem weight_nonneg {B : Int} (hB : 0 ≤ B) (t : List Int) : 0 ≤ weight B t := by
 induction t with
 | nil => simp [weight]
 | cons x t ih =>
  unfold weight at *
  rw [List.map_cons, List.sum_cons]
  by_cases h : x < 0
  · rw [if_pos h]; omega
  · rw [if_neg h]; omega
theorem weight_set (B : Int) (t : List Int) (i : Nat) (h : i < t.length) (x : Int) : weight B (t.set i x) + (if t[i] < 0 then B else t[i]) = weight B t + (if x < 0 then B else x) := by
 induction t generalizing i with
 | nil => simp at h
 | cons y t ih =>
  unfold weight at *
  cases i with
  | zero => simp only [z2_, List.map_cons, List.sum_cons, List.getElem_cons_zero]; omega
  | succ i =>
   have := ih i (by simpa using h)
   simp only [z3_, List.map_cons, List.sum_cons, List.getElem_cons_succ]
   omega
theorem sets_set (t : List Int) (i : Nat) (h : i < t.length) (x : Int) (hx : 0 ≤ x) : sets (t.set i x) + (if 0 ≤ t[i] then 1 else 0) = sets t + 1 := by
 induction t generalizing i with
 | nil => simp at h
 | cons y t ih =>
  unfold sets at *
  cases i with
  | zero =>
   simp only [z2_, List.countP_cons, List.getElem_cons_zero]
   by_cases e : 0 ≤ y <;> simp [e, hx]
  | succ i =>
   have := ih i (by simpa using h)
   simp only [z3_, List.countP_cons, List.getElem_cons_succ]
   omega
structure LInv (v : List Int) (a G : Int) (t : List Int) : Prop where
 len : (t.length : Int) = a
 zero : rd t 0 = 0
 ge : ∀ r, 0 ≤ r → r < a → -1 ≤ rd t r
 way : ∀ r, 0 ≤ r → r < a → 0 ≤ rd t r → (∃ c, Way v (rd t r) c) ∧ rd t r % a = r
 bound : ∀ r, 0 ≤ r → r < a → rd t r ≤ ((sets t : Int) - 1) * G
theorem mul_le_of {x y G : Int} (hG : 0 ≤ G) (h : x ≤ y) : x * G ≤ y * G := Int.mul_le_mul_of_nonneg_right h hG
theorem LInv.top {v : List Int} {a G : Int} {t : List Int} (hG : 0 ≤ G) (h : LInv v a G t) {r : Int} (h0 : 0 ≤ r) (h1 : r < a) : rd t r ≤ (a - 1) * G := by
 have := h.bound r h0 h1
 have := sets_le t
 have := h.len
 have := mul_le_of (x := (sets t : Int) - 1) (y := a - 1) hG (by omega)
 omega
theorem LInv.step {v : List Int} {a G : Int} {t : List Int} (hv : ∀ x ∈ v, 1 ≤ x ∧ x ≤ G) (ha : 1 ≤ a) (h : LInv v a G t) {r g : Int} (hr0 : 0 ≤ r) (hr1 : r < a) (hg : g ∈ v) (hs : 0 ≤ rd t r)
 (hc : rd t ((rd t r + g) % a) < 0 ∨ rd t r + g < rd t ((rd t r + g) % a)) :
 LInv v a G (t.set ((rd t r + g) % a).toNat (rd t r + g)) ∧ weight (a * G + 1) (t.set ((rd t r + g) % a).toNat (rd t r + g)) < weight (a * G + 1) t ∧ rd t r + g ≤ a * G ∧ (rd t r + g) % a ≠ r := by
 have hgv := hv g hg
 have hG : 0 ≤ G := by omega
 have q0 := Int.emod_nonneg (rd t r + g) (b := a) (by omega)
 have q1 := Int.emod_lt_of_pos (rd t r + g) (b := a) (by omega)
 generalize hto : (rd t r + g) % a = y0 at *
 have hl := h.len
 have hb := h.bound r hr0 hr1
 have hbt := h.bound y0 q0 q1
 have hsl := sets_le t
 have hne : y0 ≠ r := by rintro rfl; omega
 have h00 : y0 ≠ 0 := by rintro rfl; rw [h.zero] at hc; omega
 have hrd : rd t y0 = t[y0.toNat]'(by omega) := rd_lt q0 (by omega)
 have hss := sets_set t y0.toNat (by omega) (rd t r + g) (by omega)
 have hws := weight_set (a * G + 1) t y0.toNat (by omega) (rd t r + g)
 rw [← hrd] at hss hws
 have hset0 : (sets (t.set y0.toNat (rd t r + g)) : Int) + (if 0 ≤ rd t y0 then 1 else 0) = sets t + 1 := by
  split at hss <;> omega
 have hm : a * G = (a - 1) * G + G := by rw [Int.sub_mul]; omega
 have hm2 : ((sets t : Int)) * G = ((sets t : Int) - 1) * G + G := by rw [Int.sub_mul]; omega
 have hm3 := mul_le_of (x := (sets t : Int) - 1) (y := a - 1) hG (by omega)
 obtain ⟨⟨c, hw⟩, hmod⟩ := h.way r hr0 hr1 hs
 have hset : (sets (t.set y0.toNat (rd t r + g)) : Int) = if rd t y0 < 0 then (sets t : Int) + 1 else sets t := by
  by_cases e : rd t y0 < 0
  · rw [if_pos e]; rw [if_neg (by omega)] at hset0; omega
  · rw [if_neg e]; rw [if_pos (by omega)] at hset0; omega
 have hsets : (sets t : Int) ≤ sets (t.set y0.toNat (rd t r + g)) := by rw [hset]; split <;> omega
 have hup : ((sets t : Int) - 1) * G ≤ ((sets (t.set y0.toNat (rd t r + g)) : Int) - 1) * G := mul_le_of hG (by omega)
 have hy : rd t r + g ≤ ((sets (t.set y0.toNat (rd t r + g)) : Int) - 1) * G := by
  by_cases e : rd t y0 < 0
  · rw [hset, if_pos e, show (sets t : Int) + 1 - 1 = sets t from by omega]; omega
  · omega
 refine ⟨⟨by simpa using hl, ?_, ?_, ?_, ?_⟩, ?_, by omega, hne⟩
 · have := rd_set (l := t) (rd t r + g) q0 (by omega) (show (0 : Int) ≤ 0 by omega)
   rw [this, if_neg (fun e => h00 e.symm)]; exact h.zero
 · intro s hs0 hs1
   rw [rd_set _ q0 (by omega) hs0]
   by_cases e : s = y0
   · rw [if_pos e]; omega
   · rw [if_neg e]; exact h.ge s hs0 hs1
 · intro s hs0 hs1 hpos
   rw [rd_set _ q0 (by omega) hs0] at hpos ⊢
   by_cases e : s = y0
   · rw [if_pos e] at hpos ⊢
     exact ⟨⟨c + 1, .add hg hw⟩, by rw [hto, e]⟩
   · rw [if_neg e] at hpos ⊢; exact h.way s hs0 hs1 hpos
 · intro s hs0 hs1
   rw [rd_set _ q0 (by omega) hs0]
   by_cases e : s = y0
   · rw [if_pos e]; exact hy
   · rw [if_neg e]; have := h.bound s hs0 hs1; omega
 · rw [if_neg (show ¬ rd t r + g < 0 by omega)] at hws
   by_cases e : rd t y0 < 0
   · rw [if_pos e] at hws; omega
   · rw [if_neg e] at hws; omega
def Closed (v : List Int) (a : Int) (t : List Int) : Prop := ∀ r, 0 ≤ r → r < a → 0 ≤ rd t r → ∀ g ∈ v, 0 ≤ rd t ((rd t r + g) % a) ∧ rd t ((rd t r + g) % a) ≤ rd t r + g
theorem LInv.done {v : List Int} {a G : Int} {t : List Int} (hv : ∀ x ∈ v, 1 ≤ x ∧ x ≤ G) (hG : 0 ≤ G) (ha : 1 ≤ a) (h : LInv v a G t) (hc : Closed v a t) : Lst v a G t := by
 refine ⟨h.len, h.ge, h.way, fun n c w => ?_, fun r h0 h1 => h.top hG h0 h1⟩
 induction w with
 | zero => simp [h.zero]
 | @add g k c hg hw ih =>
  have q0 := Int.emod_nonneg k (b := a) (by omega)
  have q1 := Int.emod_lt_of_pos k (b := a) (by omega)
  obtain ⟨c1, c2⟩ := hc (k % a) q0 q1 ih.1 g hg
  have hmod := (h.way (k % a) q0 q1 ih.1).2
  have e : (rd t (k % a) + g) % a = (k + g) % a := by
   rw [Int.add_emod, hmod, ← Int.add_emod]
  rw [e] at c1 c2
  exact ⟨c1, by omega⟩
theorem Lst.one {v : List Int} {a G G' : Int} {t u : List Int} (h : Lst v a G t) (k : Lst v a G' u) : t = u := by
 refine rd_ext (by have := h.len; have := k.len; omega) fun r h0 h1 => ?_
 have ha : r < a := by have := h.len; omega
 have g1 := h.ge r h0 ha
 have g2 := k.ge r h0 ha
 have l1 : 0 ≤ rd t r → 0 ≤ rd u r ∧ rd u r ≤ rd t r := fun hs => by
  obtain ⟨⟨c, w⟩, e⟩ := h.way r h0 ha hs
  have := k.least _ _ w
  rwa [e] at this
 have l2 : 0 ≤ rd u r → 0 ≤ rd t r ∧ rd t r ≤ rd u r := fun hs => by
  obtain ⟨⟨c, w⟩, e⟩ := k.way r h0 ha hs
  have := h.least _ _ w
  rwa [e] at this
 by_cases e1 : 0 ≤ rd t r
 · have := l1 e1; have := l2 (by omega); omega
 · by_cases e2 : 0 ≤ rd u r
   · have := l2 e2; omega
   · omega
theorem LInv.first {v : List Int} {a G : Int} (ha : 1 ≤ a) (hG : 0 ≤ G) : LInv v a G ((List.replicate a.toNat (-1)).set 0 0) := by
 have hl : ((List.replicate a.toNat (-1 : Int)).length : Int) = a := by simp; omega
 have hr : ∀ r, 0 ≤ r → r < a → rd ((List.replicate a.toNat (-1)).set 0 0) r = if r = 0 then 0 else -1 := fun r h0 h1 => by
  have := rd_set (l := List.replicate a.toNat (-1)) (i := 0) (j := r) 0 (by omega) (by omega) h0
  rw [show (0 : Int).toNat = 0 from rfl] at this
  rw [this]
  by_cases e : r = 0
  · rw [if_pos e, if_pos e]
  · rw [if_neg e, if_neg e, rd_rep h0 (by omega)]
 have hs : 1 ≤ sets ((List.replicate a.toNat (-1)).set 0 0) := by
  have := sets_set (List.replicate a.toNat (-1)) 0 (by simp; omega) 0 (by omega)
  simp at this
  omega
 have hp : 0 ≤ ((sets ((List.replicate a.toNat (-1)).set 0 0) : Int) - 1) * G := Int.mul_nonneg (by omega) hG
 refine ⟨by simp; omega, by rw [hr 0 (by omega) (by omega)]; rfl, fun r h0 h1 => ?_, fun r h0 h1 h2 => ?_, fun r h0 h1 => ?_⟩
 · rw [hr r h0 h1]; split <;> omega
 · rw [hr r h0 h1] at h2 ⊢
   by_cases e : r = 0
   · rw [if_pos e]; exact ⟨⟨0, .zero⟩, by rw [e]; rfl⟩
   · rw [if_neg e] at h2; omega
 · rw [hr r h0 h1]; split <;> omega
end Go.Proofs.Ythkhpejggdnkfaa.E
end
section
namespace Go.Proofs.Ythkhpejggdnkfaa.E
open Go.RowKit Go.Proofs.YthkhpejggdnkfaaW.PrintWords Go.Proofs.YthkhpejggdnkfaaW.PrintLast Go.Proofs.YthkhpejggdnkfaaW.PrintMore
set_option linter.unusedVariables false
set_option linter.unusedSimpArgs false
def Su (v : List Int) (n : Int) : Prop := ∃ c, Way v n c
noncomputable instance (v : List Int) (n : Int) : Decidable (Su v n) := Classical.propDecidable _
theorem Su.zero (v : List Int) : Su v 0 := ⟨0, .zero⟩
theorem Su.add {v : List Int} {n m : Int} (h : Su v n) (k : Su v m) : Su v (n + m) := by
 obtain ⟨c, h⟩ := h; obtain ⟨d, k⟩ := k; exact ⟨c + d, h.plus k⟩
theorem Su.mem {v : List Int} {x : Int} (h : x ∈ v) : Su v x := ⟨0 + 1, by have := Way.add h Way.zero; rwa [Int.zero_add] at this⟩
theorem Su.pos {v : List Int} (hv : ∀ x ∈ v, 1 ≤ x) {n : Int} (h : Su v n) : 0 ≤ n := by
 obtain ⟨c, h⟩ := h; have := h.pos hv; omega
theorem Su.mono {v u : List Int} (h : ∀ x ∈ v, x ∈ u) {n : Int} (k : Su v n) : Su u n := by
 obtain ⟨c, k⟩ := k; exact ⟨c, k.mono h⟩
theorem Su.last {v : List Int} {n : Int} (hn : n ≠ 0) : Su v n ↔ ∃ x ∈ v, Su v (n - x) := by
 constructor
 · rintro ⟨c, w⟩
   rcases w.last with h | ⟨x, hx, h⟩
   · exact absurd h.1 hn
   · exact ⟨x, hx, _, h⟩
 · rintro ⟨x, hx, h⟩
   have := h.add (Su.mem hx)
   rwa [show n - x + x = n from by omega] at this
theorem Su.times {v : List Int} {x : Int} (h : Su v x) (j : Nat) : Su v (j * x) := by
 induction j with
 | zero => simpa using Su.zero v
 | succ j ih =>
  have := ih.add h
  rwa [show (j : Int) * x + x = ((j + 1 : Nat) : Int) * x from by rw [Int.natCast_add, Int.add_mul]; simp] at this
theorem Su.dvd {v : List Int} {d : Int} (h : ∀ x ∈ v, d ∣ x) {n : Int} (k : Su v n) : d ∣ n := by
 obtain ⟨c, w⟩ := k
 induction w with
 | zero => exact Int.dvd_zero _
 | add hx _ ih => exact Int.dvd_add ih (h _ hx)
theorem Su.up {v : List Int} {a : Int} (ha : 1 ≤ a) (h : Su v a) {n m : Int} (hn : Su v n) (hle : n ≤ m) (hm : n % a = m % a) : Su v m := by
 have e1 := Int.mul_ediv_add_emod n a
 have e2 := Int.mul_ediv_add_emod m a
 have hq : n / a ≤ m / a := Int.ediv_le_ediv (by omega) hle
 have := hn.add (h.times (m / a - n / a).toNat)
 rw [show (((m / a - n / a).toNat : Nat) : Int) = m / a - n / a from by omega] at this
 rwa [show n + (m / a - n / a) * a = m from by rw [Int.sub_mul, Int.mul_comm (m / a), Int.mul_comm (n / a)]; omega] at this
theorem Lst.su {v : List Int} {a G : Int} {t : List Int} (h : Lst v a G t) (ha : 1 ≤ a) (hav : Su v a) {n : Int} : Su v n ↔ 0 ≤ rd t (n % a) ∧ rd t (n % a) ≤ n := by
 have q0 := Int.emod_nonneg n (b := a) (by omega)
 have q1 := Int.emod_lt_of_pos n (b := a) (by omega)
 constructor
 · rintro ⟨c, w⟩; exact h.least _ _ w
 · rintro ⟨h1, h2⟩
   obtain ⟨w, e⟩ := h.way _ q0 q1 h1
   exact Su.up ha hav w h2 (by omega)
def UL (v : List Int) : Prop := (1 ≤ (v.length : Int) ∧ (v.length : Int) ≤ 20) ∧ ∀ x ∈ v, 1 ≤ x ∧ x ≤ 60
noncomputable instance (v : List Int) : Decidable (UL v) := Classical.propDecidable _
theorem UL.pos {v : List Int} (h : UL v) : ∀ x ∈ v, 1 ≤ x := fun x hx => (h.2 x hx).1
theorem UL.first {v : List Int} (h : UL v) : rd v 0 ∈ v ∧ 1 ≤ rd v 0 ∧ rd v 0 ≤ 60 := by
 have := rd_mem (l := v) (i := 0) (by omega) (by have := h.1; omega)
 exact ⟨this, h.2 _ this⟩
end Go.Proofs.Ythkhpejggdnkfaa.E
end
section
namespace Go.Proofs.Ythkhpejggdnkfaa.E
open Go.RowKit Go.Proofs.Ythkhpejggdnkfaa.PA Go.Proofs.YthkhpejggdnkfaaW.PrintWords Go.Proofs.YthkhpejggdnkfaaW.PrintLast Go.Proofs.YthkhpejggdnkfaaW.PrintMore
set_option linter.unusedVariables false
set_option linter.unusedSimpArgs false
theorem rdb_set {l : List Bool} {i j : Int} (x : Bool) (hi : 0 ≤ i) (hi' : i < l.length) (hj : 0 ≤ j) : rdOf false (l.set i.toNat x) j = if j = i then x else rdOf false l j := by
 unfold rdOf
 rw [List.getD_eq_getElem?_getD, List.getD_eq_getElem?_getD, List.getElem?_set]
 by_cases h : j = i
 · subst h; rw [if_pos rfl, if_pos rfl, if_pos (by omega)]; rfl
 · rw [if_neg h, if_neg (by omega)]
theorem rdb_rep {n : Nat} {i : Int} : rdOf false (List.replicate n false) i = false := by
 unfold rdOf
 rw [List.getD_eq_getElem?_getD, List.getElem?_replicate]
 split <;> rfl
def TabAt (v : List Int) (n : Int) (t : List Bool) : Prop := (∀ j, 0 ≤ j → j < n → (rdOf false t j = true ↔ Su v j)) ∧ ∀ j, n ≤ j → rdOf false t j = false
theorem tab_l1 {v : List Int} (hl : v.length ≤ 1048576) (hv : ∀ x ∈ v, 1 ≤ x ∧ x ≤ 1048576) {most n : Int} (hm : most ≤ 1048576) (hn : 1 ≤ n) (hn' : n ≤ most) {r : List Bool}
 (H : ∀ t : List Bool, (t.length : Int) = most + 1 → TabAt v (n + 1) t → Ev (fun k => spec_l3Table.l0 k v most t (n + 1)) r → True) (d : Nat) :
 ∀ (i : Int) (t : List Bool), 0 ≤ i → i + d = v.length → (t.length : Int) = most + 1 → (∀ j, 0 ≤ j → j < n → (rdOf false t j = true ↔ Su v j)) → (∀ j, n < j → rdOf false t j = false) → (rdOf false t n = true ↔ ∃ j, 0 ≤ j ∧ j < i ∧ rd v j ≤ n ∧ Su v (n - rd v j)) →
  ∃ t' : List Bool, (t'.length : Int) = most + 1 ∧ TabAt v (n + 1) t' ∧ ∀ r, Ev (fun k => spec_l3Table.l0 k v most t' (n + 1)) r → Ev (fun k => spec_l3Table.l1 k v most t n i) r := by
 have hv1 : ∀ x ∈ v, 1 ≤ x := fun x hx => (hv x hx).1
 induction d with
 | zero =>
  intro i t h0 h1 h2 h3 h4 h5
  refine ⟨t, h2, ⟨fun j hj hj' => ?_, fun j hj => h4 j (by omega)⟩, fun r hr => Ev.step (fun k => by rw [spec_l3Table.l1]) (ev_ifn (by omega) ?_)⟩
  · by_cases e : j = n
    · subst e
      rw [h5, Su.last (by omega)]
      constructor
      · rintro ⟨q, a, b, _, c⟩; exact ⟨_, rd_mem a (by omega), c⟩
      · rintro ⟨x, hx, c⟩
        obtain ⟨q, a, b, rfl⟩ := mem_rd hx
        have := c.pos hv1
        exact ⟨q, a, by omega, by omega, c⟩
    · exact h3 j hj (by omega)
  · rw [w64 (by omega) (by omega)]; exact hr
 | succ d ih =>
  intro i t h0 h1 h2 h3 h4 h5
  have hx := hv _ (rd_mem (l := v) h0 (by omega))
  by_cases c : n ≥ rd v i
  · have e := h3 (n - rd v i) (by omega) (by omega)
    by_cases b : rdOf false t (n - rd v i) = true
    · obtain ⟨t', a1, a2, a3⟩ := ih (i + 1) (t.set n.toNat true) (by omega) (by omega) (by simpa using h2) (fun j hj hj' => by rw [rdb_set _ (by omega) (by omega) hj, if_neg (by omega)]; exact h3 j hj hj') (fun j hj => by rw [rdb_set _ (by omega) (by omega) (by omega), if_neg (by omega)]; exact h4 j hj)
       (by rw [rdb_set _ (by omega) (by omega) (by omega), if_pos rfl]; exact ⟨fun _ => ⟨i, h0, by omega, c, e.1 b⟩, fun _ => rfl⟩)
      refine ⟨t', a1, a2, fun r hr => Ev.step (fun k => by rw [spec_l3Table.l1]) ?_⟩
      rw [w64 (x := n - rd v i) (by omega) (by omega), w64 (x := i + 1) (by omega) (by omega)]
      exact ev_ifp (by omega) (ev_ifp h0 (ev_ifp c (ev_ifp (by omega) (ev_ifp (by omega) (ev_ifp b (ev_ifp (by omega) (ev_ifp (by omega) (a3 r hr))))))))
    · obtain ⟨t', a1, a2, a3⟩ := ih (i + 1) t (by omega) (by omega) h2 h3 h4 (by
       rw [h5]
       constructor
       · rintro ⟨q, u1, u2, u3⟩; exact ⟨q, u1, by omega, u3⟩
       · rintro ⟨q, u1, u2, u3, u4⟩
         by_cases eq : q = i
         · subst eq; exact absurd (e.2 u4) b
         · exact ⟨q, u1, by omega, u3, u4⟩)
      refine ⟨t', a1, a2, fun r hr => Ev.step (fun k => by rw [spec_l3Table.l1]) ?_⟩
      rw [w64 (x := n - rd v i) (by omega) (by omega), w64 (x := i + 1) (by omega) (by omega)]
      exact ev_ifp (by omega) (ev_ifp h0 (ev_ifp c (ev_ifp (by omega) (ev_ifp (by omega) (ev_ifn b (a3 r hr))))))
  · obtain ⟨t', a1, a2, a3⟩ := ih (i + 1) t (by omega) (by omega) h2 h3 h4 (by
     rw [h5]
     constructor
     · rintro ⟨q, u1, u2, u3⟩; exact ⟨q, u1, by omega, u3⟩
     · rintro ⟨q, u1, u2, u3, u4⟩
       by_cases eq : q = i
       · subst eq; omega
       · exact ⟨q, u1, by omega, u3, u4⟩)
    refine ⟨t', a1, a2, fun r hr => Ev.step (fun k => by rw [spec_l3Table.l1]) ?_⟩
    rw [w64 (x := i + 1) (by omega) (by omega)]
    exact ev_ifp (by omega) (ev_ifp h0 (ev_ifn c (a3 r hr)))
theorem tab_l0 {v : List Int} (hl : v.length ≤ 1048576) (hv : ∀ x ∈ v, 1 ≤ x ∧ x ≤ 1048576) {most : Int} (hm : most ≤ 1048576) (d : Nat) : ∀ (n : Int) (t : List Bool), 1 ≤ n → n + d = most + 1 → (t.length : Int) = most + 1 → TabAt v n t →
 ∃ t' : List Bool, (t'.length : Int) = most + 1 ∧ (∀ j, 0 ≤ j → j ≤ most → (rdOf false t' j = true ↔ Su v j)) ∧ Ev (fun k => spec_l3Table.l0 k v most t n) t' := by
 induction d with
 | zero =>
  intro n t h0 h1 h2 h3
  exact ⟨t, h2, fun j hj hj' => h3.1 j hj (by omega), Ev.step (fun k => by rw [spec_l3Table.l0]) (ev_ifn (by omega) (Ev.now _))⟩
 | succ d ih =>
  intro n t h0 h1 h2 h3
  obtain ⟨t', a1, a2, a3⟩ := tab_l1 (r := t) hl hv hm h0 (by omega) (fun _ _ _ _ => trivial) v.length 0 t (by omega) (by omega) h2 h3.1 (fun j hj => h3.2 j (by omega)) (by
   rw [h3.2 n (Int.le_refl _)]
   exact ⟨fun h => (by cases h), fun ⟨j, u1, u2, _⟩ => by omega⟩)
  obtain ⟨t'', b1, b2, b3⟩ := ih (n + 1) t' (by omega) (by omega) a1 a2
  refine ⟨t'', b1, b2, Ev.step (fun k => by rw [spec_l3Table.l0]) ?_⟩
  exact ev_ifp (by omega) (a3 _ b3)
theorem tabG_ev {v : List Int} (hl : v.length ≤ 1048576) (hv : ∀ x ∈ v, 1 ≤ x ∧ x ≤ 1048576) {most : Int} (hm0 : 0 ≤ most) (hm : most ≤ 1048576) :
 ∃ t : List Bool, (t.length : Int) = most + 1 ∧ (∀ j, 0 ≤ j → j ≤ most → (rdOf false t j = true ↔ Su v j)) ∧ Ev (fun k => spec_l3Table.f k v most) t := by
 have e0 : ((List.replicate (most + 1).toNat false).length : Int) = most + 1 := by simp; omega
 obtain ⟨t, a, b, c⟩ := tab_l0 hl hv hm most.toNat 1 ((List.replicate (most + 1).toNat false).set (0 : Int).toNat true) (by omega) (by omega) (by rw [List.length_set]; exact e0) ⟨fun j hj hj' => by
  rw [rdb_set _ (by omega) (by omega) hj, if_pos (by omega), show j = 0 from by omega]
  exact ⟨fun _ => Su.zero v, fun _ => rfl⟩, fun j hj => by
  rw [rdb_set _ (by omega) (by omega) (by omega), if_neg (by omega)]; exact rdb_rep⟩
 refine ⟨t, a, b, ?_⟩
 unfold spec_l3Table.f
 rw [w64 (by omega) (by omega)]
 simp only [Option.bind_some]
 exact ev_ifp (by omega) (ev_ifp (by omega) (ev_ifp (by omega) c))
theorem tabS_ev {v : List Int} (hl : v.length ≤ 20) (hv : ∀ x ∈ v, 1 ≤ x ∧ x ≤ 60) {most : Int} (hm0 : 0 ≤ most) (hm : most ≤ 1048576) :
 ∃ t : List Bool, (t.length : Int) = most + 1 ∧ (∀ j, 0 ≤ j → j ≤ most → (rdOf false t j = true ↔ Su v j)) ∧ Ev (fun k => spec_l3Table.f k v most) t :=
 tabG_ev (by omega) (fun x hx => ⟨(hv x hx).1, by have := (hv x hx).2; omega⟩) hm0 hm
end Go.Proofs.Ythkhpejggdnkfaa.E
end
section
namespace Go.Proofs.Ythkhpejggdnkfaa.E
open Go.RowKit Go.Proofs.Ythkhpejggdnkfaa.PA Go.Proofs.YthkhpejggdnkfaaW.PrintWords Go.Proofs.YthkhpejggdnkfaaW.PrintLast Go.Proofs.YthkhpejggdnkfaaW.PrintMore
set_option linter.unusedVariables false
set_option linter.unusedSimpArgs false
theorem l2Small_eq (n : Int) : spec_l2Small.f n = some (decide (-1000000 ≤ n ∧ n ≤ 1000000)) := by
 unfold spec_l2Small.f; rw [l1In_eq]; rfl
theorem l1Max_eq (a b : Int) : spec_l1Max.f a b = some (max a b) := by
 unfold spec_l1Max.f
 by_cases h : a > b
 · rw [if_pos h, Int.max_eq_left (by omega)]
 · rw [if_neg h, Int.max_eq_right (by omega)]
theorem mx_eq (a b : Int) : mx a b = max a b := by unfold mx; omega
theorem gcdI_l (m : Nat) : ∀ n : Nat, Ev (fun k => impl_GcdOf.l0 k (m : Int) (n : Int)) (Nat.gcd m n : Int) := by
 induction m using Nat.strongRecOn with
 | _ m ih =>
  intro n
  refine Ev.step (fun k => by rw [impl_GcdOf.l0]) ?_
  by_cases h : m = 0
  · subst h
    refine ev_ifp (by rfl) (ev_to (Ev.now _) (by simp))
  · refine ev_ifn (by omega) ?_
    rw [show Int.tmod (n : Int) (m : Int) = ((n % m : Nat) : Int) from rfl, Nat.gcd_rec]
    exact ih _ (Nat.mod_lt _ (by omega)) m
theorem gcdS_l (n : Nat) : ∀ m : Nat, Ev (fun k => spec_GcdOf.l0 k (m : Int) (n : Int)) (Nat.gcd m n : Int) := by
 induction n using Nat.strongRecOn with
 | _ n ih =>
  intro m
  refine Ev.step (fun k => by rw [spec_GcdOf.l0]) ?_
  by_cases h : n = 0
  · subst h
    refine ev_ifn (by simp) (ev_to (Ev.now _) (by simp))
  · refine ev_ifp (by omega) (ev_ifn (by omega) ?_)
    rw [show Int.tmod (m : Int) (n : Int) = ((m % n : Nat) : Int) from rfl, Nat.gcd_comm, Nat.gcd_rec, Nat.gcd_comm]
    exact ih _ (Nat.mod_lt _ (by omega)) n
def gcdOf (a b : Int) : Int := if (-1000000 ≤ a ∧ a ≤ 1000000) ∧ -1000000 ≤ b ∧ b ≤ 1000000 then (Int.gcd a b : Int) else 0
theorem abs_cast (a : Int) : max a (-a) = ((a.natAbs : Nat) : Int) := by omega
theorem gcdI_ev (a b : Int) : Ev (fun k => impl_GcdOf.f k a b) (gcdOf a b) := by
 unfold impl_GcdOf.f gcdOf
 refine ev_bind _ (allWithin_ev _ _ (by simp)) ?_
 by_cases h : (-1000000 ≤ a ∧ a ≤ 1000000) ∧ -1000000 ≤ b ∧ b ≤ 1000000
 · rw [if_pos h]
   refine ev_ifp (by simpa using h) ?_
   obtain ⟨h1, h2⟩ := h
   rw [w64 (by omega) (by omega), w64 (by omega) (by omega), mx_eq, mx_eq, abs_cast, abs_cast]
   exact gcdI_l _ _
 · rw [if_neg h]
   refine ev_ifn (by simpa using h) (Ev.now _)
theorem gcdS_ev (a b : Int) : Ev (fun k => spec_GcdOf.f k a b) (gcdOf a b) := by
 unfold spec_GcdOf.f gcdOf
 simp only [l2Small_eq, Option.bind_some]
 by_cases h1 : -1000000 ≤ a ∧ a ≤ 1000000
 · refine ev_ifp (by simpa using h1) (Ev.step (fun k => by rw [spec_GcdOf.j0]) ?_)
   by_cases h2 : -1000000 ≤ b ∧ b ≤ 1000000
   · rw [if_pos ⟨h1, h2⟩]
     refine ev_ifn (by simpa using h2) ?_
     simp only [l1Max_eq, Option.bind_some]
     rw [w64 (by omega) (by omega), w64 (by omega) (by omega), abs_cast, abs_cast]
     exact gcdS_l _ _
   · rw [if_neg (fun h => h2 h.2)]
     exact ev_ifp (nd_t h2) (Ev.now _)
 · rw [if_neg (fun h => h1 h.1)]
   refine ev_ifn (by simpa using h1) (Ev.step (fun k => by rw [spec_GcdOf.j0]) ?_)
   exact ev_ifp rfl (Ev.now _)
end Go.Proofs.Ythkhpejggdnkfaa.E
end
section
namespace Go.Proofs.Ythkhpejggdnkfaa.E
open Go.RowKit Go.Proofs.Ythkhpejggdnkfaa.PA Go.Proofs.YthkhpejggdnkfaaW.PrintWords Go.Proofs.YthkhpejggdnkfaaW.PrintLast Go.Proofs.YthkhpejggdnkfaaW.PrintMore
set_option linter.unusedVariables false
set_option linter.unusedSimpArgs false
def gl (l : List Int) : Int := l.foldl gcdOf 0
theorem gcdListI_l {l : List Int} (hl : l.length ≤ 1099511627776) (d : Nat) : ∀ (i acc : Int), 0 ≤ i → i + d = l.length → Ev (fun k => impl_GcdOfList.l0 k acc l l.length i) ((l.drop i.toNat).foldl gcdOf acc) := by
 induction d with
 | zero =>
  intro i acc h0 h1
  refine Ev.step (fun k => by rw [impl_GcdOfList.l0]) ?_
  rw [List.drop_of_length_le (by omega)]
  exact ev_ifn (by omega) (Ev.now _)
 | succ d ih =>
  intro i acc h0 h1
  refine Ev.step (fun k => by rw [impl_GcdOfList.l0]) ?_
  rw [drop_rd h0 (by omega), List.foldl_cons, w64 (by omega) (by omega)]
  exact ev_ifp (by omega) (ev_ifp h0 (ev_ifp (by omega) (ev_bind _ (gcdI_ev _ _) (ih (i + 1) _ (by omega) (by omega)))))
theorem gcdListI_ev {l : List Int} (hl : l.length ≤ 1099511627776) : Ev (fun k => impl_GcdOfList.f k l) (gl l) := by
 unfold impl_GcdOfList.f
 have := gcdListI_l hl l.length 0 0 (by omega) (by omega)
 simpa [gl] using this
theorem gcdListS_l {l : List Int} (hl : l.length ≤ 1099511627776) (d : Nat) : ∀ (i acc : Int), 0 ≤ i → i + d = l.length → Ev (fun k => spec_GcdOfList.l0 k l acc i) ((l.drop i.toNat).foldl gcdOf acc) := by
 induction d with
 | zero =>
  intro i acc h0 h1
  refine Ev.step (fun k => by rw [spec_GcdOfList.l0]) ?_
  rw [List.drop_of_length_le (by omega)]
  exact ev_ifn (by omega) (Ev.now _)
 | succ d ih =>
  intro i acc h0 h1
  refine Ev.step (fun k => by rw [spec_GcdOfList.l0]) ?_
  rw [drop_rd h0 (by omega), List.foldl_cons, w64 (by omega) (by omega)]
  exact ev_ifp (by omega) (ev_ifp h0 (ev_bind _ (gcdS_ev _ _) (ih (i + 1) _ (by omega) (by omega))))
theorem gcdListS_ev {l : List Int} (hl : l.length ≤ 1099511627776) : Ev (fun k => spec_GcdOfList.f k l) (gl l) := by
 unfold spec_GcdOfList.f
 have := gcdListS_l hl l.length 0 0 (by omega) (by omega)
 simpa [gl] using this
theorem gcdOf_small {a x : Int} (h0 : 0 ≤ a) (h1 : a ≤ 60) (hx : 1 ≤ x ∧ x ≤ 60) : 1 ≤ gcdOf a x ∧ gcdOf a x ≤ 60 ∧ gcdOf a x ∣ a ∧ gcdOf a x ∣ x := by
 have e : gcdOf a x = (Int.gcd a x : Int) := by unfold gcdOf; rw [if_pos ⟨⟨by omega, by omega⟩, by omega, by omega⟩]
 have d1 := Int.gcd_dvd_left a x
 have d2 := Int.gcd_dvd_right a x
 have p : 0 < Int.gcd a x := Int.gcd_pos_of_ne_zero_right _ (by omega)
 have le := Int.le_of_dvd (by omega) d2
 rw [e]
 exact ⟨by omega, by omega, d1, d2⟩
end Go.Proofs.Ythkhpejggdnkfaa.E
end
section
namespace Go.Proofs.Ythkhpejggdnkfaa.E
open Go.RowKit Go.Proofs.YthkhpejggdnkfaaW.PrintWords Go.Proofs.YthkhpejggdnkfaaW.PrintLast Go.Proofs.YthkhpejggdnkfaaW.PrintMore
set_option linter.unusedVariables false
set_option linter.unusedSimpArgs false
def Dn (v : List Int) (a z : Int) : Prop := ∃ n, Su v n ∧ n % a = z % a
theorem Dn.add {v : List Int} {a z y : Int} (h : Dn v a z) (k : Dn v a y) : Dn v a (z + y) := by
 obtain ⟨n, h1, h2⟩ := h; obtain ⟨m, k1, k2⟩ := k
 exact ⟨n + m, h1.add k1, by rw [Int.add_emod, h2, k2, ← Int.add_emod]⟩
theorem Dn.mul {v : List Int} {a z : Int} (ha : 1 ≤ a) (h : Dn v a z) (k : Int) : Dn v a (z * k) := by
 obtain ⟨n, h1, h2⟩ := h
 have q := Int.emod_nonneg k (b := a) (by omega)
 have := h1.times (k % a).toNat
 rw [show (((k % a).toNat : Nat) : Int) = k % a from by omega] at this
 refine ⟨_, this, ?_⟩
 rw [Int.mul_comm, Int.mul_emod, h2, Int.emod_emod_of_dvd _ (Int.dvd_refl a), ← Int.mul_emod]
theorem Dn.gcd {v : List Int} {a : Int} (ha : 1 ≤ a) (m : Nat) : ∀ n : Nat, Dn v a m → Dn v a n → Dn v a (Nat.gcd m n : Int) := by
 induction m using Nat.strongRecOn with
 | _ m ih =>
  intro n hm hn
  by_cases h : m = 0
  · subst h; simpa using hn
  · rw [Nat.gcd_rec]
    refine ih _ (Nat.mod_lt _ (by omega)) m ?_ hm
    have := hn.add (hm.mul ha (-((n / m : Nat) : Int)))
    have e : (n : Int) + (m : Int) * -((n / m : Nat) : Int) = ((n % m : Nat) : Int) := by
     have := Nat.div_add_mod n m
     have e2 : ((m * (n / m) + n % m : Nat) : Int) = (n : Int) := by rw [this]
     rw [Int.natCast_add, Int.natCast_mul] at e2
     rw [Int.mul_neg]; omega
    rwa [e] at this
theorem Dn.fold {v : List Int} {a : Int} (ha : 1 ≤ a) {l : List Int} (hl : ∀ x ∈ l, (1 ≤ x ∧ x ≤ 60) ∧ Dn v a x) : ∀ acc : Int, 0 ≤ acc → acc ≤ 60 → Dn v a acc → Dn v a (l.foldl gcdOf acc) := by
 induction l with
 | nil => intro acc _ _ h; exact h
 | cons x l ih =>
  intro acc h0 h1 h
  have hx := hl x (by simp)
  have g := gcdOf_small h0 h1 hx.1
  rw [List.foldl_cons]
  refine ih (fun y hy => hl y (by simp [hy])) _ (by omega) g.2.1 ?_
  have e : gcdOf acc x = (Int.gcd acc x : Int) := by unfold gcdOf; rw [if_pos ⟨⟨by omega, by omega⟩, by omega, by omega⟩]
  rw [e, show Int.gcd acc x = Nat.gcd acc.toNat x.toNat from by unfold Int.gcd; congr 1 <;> omega]
  refine Dn.gcd ha _ _ ?_ ?_
  · rwa [show ((acc.toNat : Nat) : Int) = acc from by omega]
  · rw [show ((x.toNat : Nat) : Int) = x from by omega]; exact hx.2
theorem all_classes {v : List Int} {a : Int} (ha : 1 ≤ a) (hv : ∀ x ∈ v, 1 ≤ x ∧ x ≤ 60) (hg : gl v = 1) (z : Int) : Dn v a z := by
 have h1 : Dn v a 1 := by
  rw [← hg]
  exact Dn.fold ha (fun x hx => ⟨hv x hx, x, Su.mem hx, rfl⟩) 0 (by omega) (by omega) ⟨0, Su.zero v, rfl⟩
 have := h1.mul ha z
 rwa [Int.one_mul] at this
end Go.Proofs.Ythkhpejggdnkfaa.E
end
