-- Bundled by shake.py from this session's printed and written texts; Lean checks it.
import Derived.Test.YthkhpejggdnkfaaZFnExactGlueOfx1
import Derived.Test.YthkhpejggdnkfaaZFnExactGlueOfx4
import Derived.Test.YthkhpejggdnkfaaZFnExactGlueOfx6
import Derived.Test.YthkhpejggdnkfaaZFnExactGlueOfx7
import Derived.Test.YthkhpejggdnkfaaZFnExactGlueOfx8
section
namespace Go.Proofs.Ythkhpejggdnkfaa.PA
open Go.RowKit Go.Proofs.YthkhpejggdnkfaaW.PrintWords Go.Proofs.YthkhpejggdnkfaaW.PrintLast Go.Proofs.YthkhpejggdnkfaaW.PrintMore
set_option linter.unusedVariables false
set_option linter.unusedSimpArgs false
mutual
def laws_FnExactGlueOf.j0 : Nat → Int → Int → Bool → Bool → Bool → List Int → List Int → List Int → List Int → List Int → List Int → Option (Bool)
 | 0, _, _, _, _, _, _, _, _, _, _, _ => none
 | k + 1, x2, x3, x11, x15, x61, x661000, x662000, x675000, x679000, x683000, x688000 => if x61 = true then (some false) else ((laws_toSemigroup.f k x661000).bind fun t689 => ((laws_eqSemigroup.f k x679000 t689).bind fun t692 => (if t692 = true then ((laws_toSemigroup.f k x662000).bind fun t693 => ((laws_eqSemigroup.f k x683000 t693).bind fun t696 => (if t696 = true then ((laws_markSemigroup.f k x679000 1).bind fun bt697 => ((laws_markSemigroup.f k x683000 bt697.1).bind fun bt699 => (if bt699.1 < 0 then (laws_FnExactGlueOf.j1 k x2 x3 x11 true x661000 x662000 x675000 x688000) else ((laws_eqSemigroup.f k x688000 x675000).bind fun t701 => (if t701 = true then (laws_FnExactGlueOf.j1 k x2 x3 x11 (x15 != x11) x661000 x662000 x675000 x688000) else (laws_FnExactGlueOf.j1 k x2 x3 x11 true x661000 x662000 x675000 x688000)))))) else (some false)))) else (some false))))
def laws_FnExactGlueOf.j1 : Nat → Int → Int → Bool → Bool → List Int → List Int → List Int → List Int → Option (Bool)
 | 0, _, _, _, _, _, _, _, _ => none
 | k + 1, x2, x3, x11, x90, x661000, x662000, x675000, x688000 => if x90 = true then (some false) else ((laws_markSemigroup.f k x688000 1).bind fun bt702 => ((laws_heldSemigroup.f k bt702.2 1).bind fun t704 => (if t704 < 0 then (some false) else (if t704 = bt702.1 then ((laws_toSemigroup.f k x661000).bind fun t705 => ((laws_toSemigroup.f k x662000).bind fun t708 => ((impl_GlueOf.f k t705 t708 x2 x3).bind fun bt711 => ((laws_eqSemigroup.f k bt711.1 x675000).bind fun t716 => (if t716 = true then (laws_FnExactGlueOf.j2 k bt702.1 (bt711.2 != x11) bt702.2) else (laws_FnExactGlueOf.j2 k bt702.1 true bt702.2)))))) else (some false)))))
def laws_FnExactGlueOf.j2 : Nat → Int → Bool → List Int → Option (Bool)
 | 0, _, _, _ => none
 | k + 1, x17, x120, x688000 => if x120 = true then (some false) else ((laws_heldSemigroup.f k x688000 1).bind fun t717 => (if t717 < 0 then (some false) else (if t717 = x17 then (some true) else (some false))))
end
def laws_FnExactGlueOf.f (k : Nat) (l0_0 : List Int) (l1_0 : List Int) (a2 : Int) (a3 : Int) : Option (Bool) := (laws_szSemigroup.f l0_0 1048576).bind fun t662 => (if t662 < 0 then (some true) else ((laws_szSemigroup.f l1_0 t662).bind fun t663 => (if t663 < 0 then (some true) else ((laws_toSemigroup.f k l0_0).bind fun t664 => ((laws_toSemigroup.f k l1_0).bind fun t667 => ((spec_GlueOf.f k t664 t667 a2 a3).bind fun bt670 => ((laws_toSemigroup.f k l0_0).bind fun t675 => ((laws_toSemigroup.f k l1_0).bind fun t679 => ((impl_GlueOf.f k t675 t679 a2 a3).bind fun bt683 => ((laws_eqSemigroup.f k bt683.1 bt670.1).bind fun t688 => (if t688 = true then (laws_FnExactGlueOf.j0 k a2 a3 bt670.2 bt683.2 (bt683.2 != bt670.2) l0_0 l1_0 bt670.1 t675 t679 bt683.1) else (laws_FnExactGlueOf.j0 k a2 a3 bt670.2 bt683.2 true l0_0 l1_0 bt670.1 t675 t679 bt683.1))))))))))))
def laws_FnExactGlueOf.T8 : Bool × List (List Nat × List Nat) := (true, [([], []), ([0], [0]), ([], []), ([2, 1], [2]), ([], []), ([], []), ([1, 3, 4, 5, 3], [1, 3, 4, 5]), ([6], [6]), ([7], [7]), ([7], [7]), ([], []), ([10, 8, 6, 0, 1, 2, 3, 4, 5, 6, 7, 8, 10], [8, 10]), ([9, 11, 0, 1, 2, 3, 4, 5, 6, 7, 8, 9, 10, 11], [9])])
def laws_FnExactGlueOf.B8 : List Nat := [0, 1, 0, 7, 0, 0, 63, 127, 255, 255, 0, 1535, 4095]
theorem laws_FnExactGlueOf.tab8 : rtab .any (opsOf Try.f6 8) = laws_FnExactGlueOf.T8 := by kernel_rfl
theorem laws_FnExactGlueOf.bits8 : waitsOk laws_FnExactGlueOf.T8.2 laws_FnExactGlueOf.B8 = true := by kernel_rfl
def laws_FnExactGlueOf.T31 : Bool × List (List Nat × List Nat) := (true, [([], []), ([0], [0]), ([], []), ([2, 1], [2]), ([], []), ([], []), ([1, 3, 4, 5, 3], [1, 3, 4, 5]), ([6], [6]), ([7], [7]), ([7], [7]), ([], []), ([10, 8, 6, 0, 1, 2, 3, 4, 5, 6, 7, 8, 10], [8, 10]), ([9, 11, 0, 1, 2, 3, 4, 5, 6, 7, 8, 9, 10, 11], [9])])
def laws_FnExactGlueOf.B31 : List Nat := [0, 1, 0, 7, 0, 0, 63, 127, 255, 255, 0, 1535, 4095]
theorem laws_FnExactGlueOf.tab31 : rtab .any (opsOf Try.f6 31) = laws_FnExactGlueOf.T31 := by kernel_rfl
theorem laws_FnExactGlueOf.bits31 : waitsOk laws_FnExactGlueOf.T31.2 laws_FnExactGlueOf.B31 = true := by kernel_rfl
set_option maxHeartbeats 8000000 in
set_option maxRecDepth 100000 in
theorem laws_FnExactGlueOf.calls (k : Nat) (A0_0 : Option Addr) (c0_0 : Nat) (l0_0 : List Int) (A1_0 : Option Addr) (c1_0 : Nat) (l1_0 : List Int) (a2 : Int) (a3 : Int) (r : Bool) (w : World) (hr0_0 : Kd.C (Kd.int .i64) w A0_0 l0_0.length l0_0) (hc0_0 : l0_0.length ≤ c0_0) (hr1_0 : Kd.C (Kd.int .i64) w A1_0 l1_0.length l1_0) (hc1_0 : l1_0.length ≤ c1_0) (h : laws_FnExactGlueOf.f k l0_0 l1_0 a2 a3 = some r) (hr_ : r = true := by rfl) :
 Calls Try.prog 6 #[.agg #[.slice A0_0 l0_0.length c0_0], .agg #[.slice A1_0 l1_0.length c1_0], .int .i64 a2, .int .i64 a3] w fun e w' => e = .returned (.bool r) ∧ Below w.heap.size w w' := by
 have hr_ := Aside0.mk hr_
 have hu41 := Try.underlying41
 have hu44 := Try.underlying44
 have HR0_0 := Aside0.mk hr0_0
 have HC0_0 := Aside0.mk hc0_0
 clear hr0_0 hc0_0
 have HR1_0 := Aside0.mk hr1_0
 have HC1_0 := Aside0.mk hc1_0
 clear hr1_0 hc1_0
 have HB := Aside0.mk (Below.refl w.heap.size w)
 have H : ((laws_szSemigroup.f l0_0 1048576).bind fun t662 => (if t662 < 0 then (some true) else ((laws_szSemigroup.f l1_0 t662).bind fun t663 => (if t663 < 0 then (some true) else ((laws_toSemigroup.f k l0_0).bind fun t664 => ((laws_toSemigroup.f k l1_0).bind fun t667 => ((spec_GlueOf.f k t664 t667 a2 a3).bind fun bt670 => ((laws_toSemigroup.f k l0_0).bind fun t675 => ((laws_toSemigroup.f k l1_0).bind fun t679 => ((impl_GlueOf.f k t675 t679 a2 a3).bind fun bt683 => ((laws_eqSemigroup.f k bt683.1 bt670.1).bind fun t688 => (if t688 = true then (laws_FnExactGlueOf.j0 k a2 a3 bt670.2 bt683.2 (bt683.2 != bt670.2) l0_0 l1_0 bt670.1 t675 t679 bt683.1) else (laws_FnExactGlueOf.j0 k a2 a3 bt670.2 bt683.2 true l0_0 l1_0 bt670.1 t675 t679 bt683.1))))))))))))) = some r := h
 clear h
 replace H := Option.bind_eq_some_iff.mp H
 obtain ⟨t662, A50, H⟩ := H
 replace H : (if t662 < 0 then (some true) else ((laws_szSemigroup.f l1_0 t662).bind fun t663 => (if t663 < 0 then (some true) else ((laws_toSemigroup.f k l0_0).bind fun t664 => ((laws_toSemigroup.f k l1_0).bind fun t667 => ((spec_GlueOf.f k t664 t667 a2 a3).bind fun bt670 => ((laws_toSemigroup.f k l0_0).bind fun t675 => ((laws_toSemigroup.f k l1_0).bind fun t679 => ((impl_GlueOf.f k t675 t679 a2 a3).bind fun bt683 => ((laws_eqSemigroup.f k bt683.1 bt670.1).bind fun t688 => (if t688 = true then (laws_FnExactGlueOf.j0 k a2 a3 bt670.2 bt683.2 (bt683.2 != bt670.2) l0_0 l1_0 bt670.1 t675 t679 bt683.1) else (laws_FnExactGlueOf.j0 k a2 a3 bt670.2 bt683.2 true l0_0 l1_0 bt670.1 t675 t679 bt683.1)))))))))))) = some r := H
 have A5 := Aside0.mk A50
 clear A50
 by_cases c6 : t662 < 0
 · rw [if_pos c6] at H
   have c6b0 : decide (t662 < 0) = true := decide_eq_true c6
   clear c6
   as_aux_lemma =>
    obtain rfl := Option.some.inj H
    go_enter Try.func6, Try.ntmps6
    go_wp2_with (first | ((with_reducible refine gate_dst (N := 4) rfl ?_); refine box_event ?hg (N := 4) ?hd (cs := #[.slice A0_0 l0_0.length c0_0]) (t := 41) ?hr ?_; (case hd => rfl); (case hg => rfl); (case hr => first | (go_simp; done) | (go_simp; rfl)); intro gb660 hg w7 hbox hb; have n0_ := Aside0.mk (below_step (bl_ HB.out) hb); have n1_ := Aside0.mk (hbox); have n2_ := Aside0.mk ((by rw [hg]; exact (below_size (bl_ HB.out)) : w.heap.size ≤ gb660)); have n3_ := Aside0.mk ((by rw [hg]; exact (below_size (bl_ HB.out)) : w.heap.size ≤ gb660)); clear HB; have HB := n0_; have BK660 := n1_; have GW660 := n2_; have GE660 := n3_; clear n0_ n1_ n2_ n3_; clear hb hbox hg) | ((with_reducible refine gate_dst (N := 5) rfl ?_); refine box_event ?hg (N := 5) ?hd (cs := #[.slice A1_0 l1_0.length c1_0]) (t := 41) ?hr ?_; (case hd => rfl); (case hg => rfl); (case hr => first | (go_simp; done) | (go_simp; rfl)); intro gb661 hg w8 hbox hb; have n0_ := Aside0.mk (blk_below (be_ BK660.out) hb); have n1_ := Aside0.mk (below_step (by repeat (first | (with_reducible first | exact HB.out | apply below_alloc | apply pw_below_drewN | apply below_drew1 | refine below_set ?_ GE660.out) | exact HB.out)) hb); have n2_ := Aside0.mk (hbox); have n3_ := Aside0.mk ((by rw [hg]; exact (below_size (by repeat (first | (with_reducible first | exact HB.out | apply below_alloc | apply pw_below_drewN | apply below_drew1 | refine below_set ?_ GE660.out) | exact HB.out))) : w.heap.size ≤ gb661)); have n4_ := Aside0.mk ((by rw [hg]; exact (below_size (by repeat (first | (with_reducible first | exact HB.out | apply below_alloc | apply pw_below_drewN | apply below_drew1 | refine below_set ?_ GE660.out) | exact HB.out))) : w.heap.size ≤ gb661)); have n5_ := Aside0.mk ((by rw [hg]; exact Nat.ne_of_lt (blk_lt (be_ BK660.out)) : gb660 ≠ gb661)); have n6_ := Aside0.mk ((by rw [hg]; exact Nat.ne_of_gt (blk_lt (be_ BK660.out)) : gb661 ≠ gb660)); clear BK660; clear HB; have BK660 := n0_; have HB := n1_; have BK661 := n2_; have GW661 := n3_; have GE661 := n4_; have NB660_661 := n5_; have NB661_660 := n6_; clear n0_ n1_ n2_ n3_ n4_ n5_ n6_; clear hb hbox hg; have hnb9 := NB660_661.out; have hnc9 := NB661_660.out; have hcz10_0 : w8.cell? ⟨gb660, 0, none⟩ = some (.slice A0_0 l0_0.length c0_0) := (blk_cell BK660.out 0).trans rfl; have hfz10_0 := blk_frozen BK660.out 0) | ((with_reducible refine gate_callee (f := 26) rfl ?_); refine goesL_ (some 23) rfl rfl Try.func26 (by kernel_rfl) rfl #[.agg #[.slice A0_0 l0_0.length c0_0], .int .i64 1048576] rfl (by (try simp only [List.map_toArray, List.map_cons, List.map_nil]); first | done | rfl | (simp only [List.length_drop, List.length_take]; rfl)) ?_; (with_reducible refine (laws_szSemigroup.calls _ _ l0_0 1048576 t662 _ ?side1 ?side2 A5.out).mono ?_); (case side1 => exact ce_ ((Kd.C_below HR0_0.out HB.out))); (case side2 => exact HC0_0.out); rintro e w11 ⟨rfl, hb⟩; refine ⟨_, rfl, ?_⟩; have n0_ := Aside0.mk (blk_below (be_ BK660.out) hb); have n1_ := Aside0.mk (blk_below (be_ BK661.out) hb); have n2_ := Aside0.mk (below_step (by repeat (first | (with_reducible first | exact HB.out | apply below_alloc | apply pw_below_drewN | apply below_drew1 | refine below_set ?_ (Aside0.out (by assumption))) | exact HB.out)) hb); clear BK660; clear BK661; clear HB; have BK660 := n0_; have BK661 := n1_; have HB := n2_; clear n0_ n1_ n2_; (try clear hb); (try clear hb2); (try clear hk); (try clear hi)))
    go_ret
    exact ⟨by first | rfl | (simp [errW_none, errW_some] <;> rfl) | (simp [*, errW_none, errW_some] <;> rfl), by repeat (first | (with_reducible first | exact HB.out | apply below_alloc | apply pw_below_drewN | apply below_drew1 | refine below_set ?_ (Aside0.out (by assumption))) | exact HB.out)⟩
 · rw [if_neg c6] at H
   have c6b0 : decide (t662 < 0) = false := decide_eq_false c6
   clear c6
   replace H := Option.bind_eq_some_iff.mp H
   obtain ⟨t663, A120, H⟩ := H
   replace H : (if t663 < 0 then (some true) else ((laws_toSemigroup.f k l0_0).bind fun t664 => ((laws_toSemigroup.f k l1_0).bind fun t667 => ((spec_GlueOf.f k t664 t667 a2 a3).bind fun bt670 => ((laws_toSemigroup.f k l0_0).bind fun t675 => ((laws_toSemigroup.f k l1_0).bind fun t679 => ((impl_GlueOf.f k t675 t679 a2 a3).bind fun bt683 => ((laws_eqSemigroup.f k bt683.1 bt670.1).bind fun t688 => (if t688 = true then (laws_FnExactGlueOf.j0 k a2 a3 bt670.2 bt683.2 (bt683.2 != bt670.2) l0_0 l1_0 bt670.1 t675 t679 bt683.1) else (laws_FnExactGlueOf.j0 k a2 a3 bt670.2 bt683.2 true l0_0 l1_0 bt670.1 t675 t679 bt683.1)))))))))) = some r := H
   have A12 := Aside0.mk A120
   clear A120
   by_cases c13 : t663 < 0
   · rw [if_pos c13] at H
     have c13b0 : decide (t663 < 0) = true := decide_eq_true c13
     clear c13
     as_aux_lemma =>
      obtain rfl := Option.some.inj H
      go_enter Try.func6, Try.ntmps6
      go_wp2_with (first | ((with_reducible refine gate_dst (N := 4) rfl ?_); refine box_event ?hg (N := 4) ?hd (cs := #[.slice A0_0 l0_0.length c0_0]) (t := 41) ?hr ?_; (case hd => rfl); (case hg => rfl); (case hr => first | (go_simp; done) | (go_simp; rfl)); intro gb660 hg w14 hbox hb; have n0_ := Aside0.mk (below_step (bl_ HB.out) hb); have n1_ := Aside0.mk (hbox); have n2_ := Aside0.mk ((by rw [hg]; exact (below_size (bl_ HB.out)) : w.heap.size ≤ gb660)); have n3_ := Aside0.mk ((by rw [hg]; exact (below_size (bl_ HB.out)) : w.heap.size ≤ gb660)); clear HB; have HB := n0_; have BK660 := n1_; have GW660 := n2_; have GE660 := n3_; clear n0_ n1_ n2_ n3_; clear hb hbox hg) | ((with_reducible refine gate_dst (N := 5) rfl ?_); refine box_event ?hg (N := 5) ?hd (cs := #[.slice A1_0 l1_0.length c1_0]) (t := 41) ?hr ?_; (case hd => rfl); (case hg => rfl); (case hr => first | (go_simp; done) | (go_simp; rfl)); intro gb661 hg w15 hbox hb; have n0_ := Aside0.mk (blk_below (be_ BK660.out) hb); have n1_ := Aside0.mk (below_step (by repeat (first | (with_reducible first | exact HB.out | apply below_alloc | apply pw_below_drewN | apply below_drew1 | refine below_set ?_ GE660.out) | exact HB.out)) hb); have n2_ := Aside0.mk (hbox); have n3_ := Aside0.mk ((by rw [hg]; exact (below_size (by repeat (first | (with_reducible first | exact HB.out | apply below_alloc | apply pw_below_drewN | apply below_drew1 | refine below_set ?_ GE660.out) | exact HB.out))) : w.heap.size ≤ gb661)); have n4_ := Aside0.mk ((by rw [hg]; exact (below_size (by repeat (first | (with_reducible first | exact HB.out | apply below_alloc | apply pw_below_drewN | apply below_drew1 | refine below_set ?_ GE660.out) | exact HB.out))) : w.heap.size ≤ gb661)); have n5_ := Aside0.mk ((by rw [hg]; exact Nat.ne_of_lt (blk_lt (be_ BK660.out)) : gb660 ≠ gb661)); have n6_ := Aside0.mk ((by rw [hg]; exact Nat.ne_of_gt (blk_lt (be_ BK660.out)) : gb661 ≠ gb660)); clear BK660; clear HB; have BK660 := n0_; have HB := n1_; have BK661 := n2_; have GW661 := n3_; have GE661 := n4_; have NB660_661 := n5_; have NB661_660 := n6_; clear n0_ n1_ n2_ n3_ n4_ n5_ n6_; clear hb hbox hg; have hnb16 := NB660_661.out; have hnc16 := NB661_660.out; have hcz17_0 : w15.cell? ⟨gb660, 0, none⟩ = some (.slice A0_0 l0_0.length c0_0) := (blk_cell BK660.out 0).trans rfl; have hfz17_0 := blk_frozen BK660.out 0) | ((with_reducible refine gate_callee (f := 26) rfl ?_); refine goesL_ (some 23) rfl rfl Try.func26 (by kernel_rfl) rfl #[.agg #[.slice A0_0 l0_0.length c0_0], .int .i64 1048576] rfl (by (try simp only [List.map_toArray, List.map_cons, List.map_nil]); first | done | rfl | (simp only [List.length_drop, List.length_take]; rfl)) ?_; (with_reducible refine (laws_szSemigroup.calls _ _ l0_0 1048576 t662 _ ?side1 ?side2 A5.out).mono ?_); (case side1 => exact ce_ ((Kd.C_below HR0_0.out HB.out))); (case side2 => exact HC0_0.out); rintro e w18 ⟨rfl, hb⟩; refine ⟨_, rfl, ?_⟩; have n0_ := Aside0.mk (blk_below (be_ BK660.out) hb); have n1_ := Aside0.mk (blk_below (be_ BK661.out) hb); have n2_ := Aside0.mk (below_step (by repeat (first | (with_reducible first | exact HB.out | apply below_alloc | apply pw_below_drewN | apply below_drew1 | refine below_set ?_ (Aside0.out (by assumption))) | exact HB.out)) hb); clear BK660; clear BK661; clear HB; have BK660 := n0_; have BK661 := n1_; have HB := n2_; clear n0_ n1_ n2_; (try clear hb); (try clear hb2); (try clear hk); (try clear hi); have hcz19_0 : w18.cell? ⟨gb661, 0, none⟩ = some (.slice A1_0 l1_0.length c1_0) := (blk_cell BK661.out 0).trans rfl; have hfz19_0 := blk_frozen BK661.out 0) | ((with_reducible refine gate_callee (f := 26) rfl ?_); refine goesL_ (some 28) rfl rfl Try.func26 (by kernel_rfl) rfl #[.agg #[.slice A1_0 l1_0.length c1_0], .int .i64 t662] rfl (by (try simp only [List.map_toArray, List.map_cons, List.map_nil]); first | done | rfl | (simp only [List.length_drop, List.length_take]; rfl)) ?_; (with_reducible refine (laws_szSemigroup.calls _ _ l1_0 t662 t663 _ ?side1 ?side2 A12.out).mono ?_); (case side1 => exact ce_ ((Kd.C_below HR1_0.out HB.out))); (case side2 => exact HC1_0.out); rintro e w20 ⟨rfl, hb⟩; refine ⟨_, rfl, ?_⟩; have n0_ := Aside0.mk (blk_below (be_ BK660.out) hb); have n1_ := Aside0.mk (blk_below (be_ BK661.out) hb); have n2_ := Aside0.mk (below_step (by repeat (first | (with_reducible first | exact HB.out | apply below_alloc | apply pw_below_drewN | apply below_drew1 | refine below_set ?_ (Aside0.out (by assumption))) | exact HB.out)) hb); clear BK660; clear BK661; clear HB; have BK660 := n0_; have BK661 := n1_; have HB := n2_; clear n0_ n1_ n2_; (try clear hb); (try clear hb2); (try clear hk); (try clear hi)))
      go_ret
      exact ⟨by first | rfl | (simp [errW_none, errW_some] <;> rfl) | (simp [*, errW_none, errW_some] <;> rfl), by repeat (first | (with_reducible first | exact HB.out | apply below_alloc | apply pw_below_drewN | apply below_drew1 | refine below_set ?_ (Aside0.out (by assumption))) | exact HB.out)⟩
   · rw [if_neg c13] at H
     have c13b0 : decide (t663 < 0) = false := decide_eq_false c13
     clear c13
     replace H := Option.bind_eq_some_iff.mp H
     obtain ⟨t664, A210, H⟩ := H
     replace H : ((laws_toSemigroup.f k l1_0).bind fun t667 => ((spec_GlueOf.f k t664 t667 a2 a3).bind fun bt670 => ((laws_toSemigroup.f k l0_0).bind fun t675 => ((laws_toSemigroup.f k l1_0).bind fun t679 => ((impl_GlueOf.f k t675 t679 a2 a3).bind fun bt683 => ((laws_eqSemigroup.f k bt683.1 bt670.1).bind fun t688 => (if t688 = true then (laws_FnExactGlueOf.j0 k a2 a3 bt670.2 bt683.2 (bt683.2 != bt670.2) l0_0 l1_0 bt670.1 t675 t679 bt683.1) else (laws_FnExactGlueOf.j0 k a2 a3 bt670.2 bt683.2 true l0_0 l1_0 bt670.1 t675 t679 bt683.1)))))))) = some r := H
     have A21 := Aside0.mk A210
     clear A210
     replace H := Option.bind_eq_some_iff.mp H
     obtain ⟨t667, A220, H⟩ := H
     replace H : ((spec_GlueOf.f k t664 t667 a2 a3).bind fun bt670 => ((laws_toSemigroup.f k l0_0).bind fun t675 => ((laws_toSemigroup.f k l1_0).bind fun t679 => ((impl_GlueOf.f k t675 t679 a2 a3).bind fun bt683 => ((laws_eqSemigroup.f k bt683.1 bt670.1).bind fun t688 => (if t688 = true then (laws_FnExactGlueOf.j0 k a2 a3 bt670.2 bt683.2 (bt683.2 != bt670.2) l0_0 l1_0 bt670.1 t675 t679 bt683.1) else (laws_FnExactGlueOf.j0 k a2 a3 bt670.2 bt683.2 true l0_0 l1_0 bt670.1 t675 t679 bt683.1))))))) = some r := H
     have A22 := Aside0.mk A220
     clear A220
     replace H := Option.bind_eq_some_iff.mp H
     obtain ⟨⟨t670, t673⟩, A230, H⟩ := H
     replace H : ((laws_toSemigroup.f k l0_0).bind fun t675 => ((laws_toSemigroup.f k l1_0).bind fun t679 => ((impl_GlueOf.f k t675 t679 a2 a3).bind fun bt683 => ((laws_eqSemigroup.f k bt683.1 t670).bind fun t688 => (if t688 = true then (laws_FnExactGlueOf.j0 k a2 a3 t673 bt683.2 (bt683.2 != t673) l0_0 l1_0 t670 t675 t679 bt683.1) else (laws_FnExactGlueOf.j0 k a2 a3 t673 bt683.2 true l0_0 l1_0 t670 t675 t679 bt683.1)))))) = some r := H
     have A23 := Aside0.mk A230
     clear A230
     replace H := Option.bind_eq_some_iff.mp H
     obtain ⟨t675, A240, H⟩ := H
     replace H : ((laws_toSemigroup.f k l1_0).bind fun t679 => ((impl_GlueOf.f k t675 t679 a2 a3).bind fun bt683 => ((laws_eqSemigroup.f k bt683.1 t670).bind fun t688 => (if t688 = true then (laws_FnExactGlueOf.j0 k a2 a3 t673 bt683.2 (bt683.2 != t673) l0_0 l1_0 t670 t675 t679 bt683.1) else (laws_FnExactGlueOf.j0 k a2 a3 t673 bt683.2 true l0_0 l1_0 t670 t675 t679 bt683.1))))) = some r := H
     have A24 := Aside0.mk A240
     clear A240
     replace H := Option.bind_eq_some_iff.mp H
     obtain ⟨t679, A250, H⟩ := H
     replace H : ((impl_GlueOf.f k t675 t679 a2 a3).bind fun bt683 => ((laws_eqSemigroup.f k bt683.1 t670).bind fun t688 => (if t688 = true then (laws_FnExactGlueOf.j0 k a2 a3 t673 bt683.2 (bt683.2 != t673) l0_0 l1_0 t670 t675 t679 bt683.1) else (laws_FnExactGlueOf.j0 k a2 a3 t673 bt683.2 true l0_0 l1_0 t670 t675 t679 bt683.1)))) = some r := H
     have A25 := Aside0.mk A250
     clear A250
     replace H := Option.bind_eq_some_iff.mp H
     obtain ⟨⟨t683, t686⟩, A260, H⟩ := H
     replace H : ((laws_eqSemigroup.f k t683 t670).bind fun t688 => (if t688 = true then (laws_FnExactGlueOf.j0 k a2 a3 t673 t686 (t686 != t673) l0_0 l1_0 t670 t675 t679 t683) else (laws_FnExactGlueOf.j0 k a2 a3 t673 t686 true l0_0 l1_0 t670 t675 t679 t683))) = some r := H
     have A26 := Aside0.mk A260
     clear A260
     have HC27 := Aside0.mk H
     clear H
     go_enter Try.func6, Try.ntmps6
     try go_wp2_with (first | ((with_reducible refine gate_dst (N := 4) rfl ?_); refine box_event ?hg (N := 4) ?hd (cs := #[.slice A0_0 l0_0.length c0_0]) (t := 41) ?hr ?_; (case hd => rfl); (case hg => rfl); (case hr => first | (go_simp; done) | (go_simp; rfl)); intro gb660 hg w28 hbox hb; have n0_ := Aside0.mk (below_step (bl_ HB.out) hb); have n1_ := Aside0.mk (hbox); have n2_ := Aside0.mk ((by rw [hg]; exact (below_size (bl_ HB.out)) : w.heap.size ≤ gb660)); have n3_ := Aside0.mk ((by rw [hg]; exact (below_size (bl_ HB.out)) : w.heap.size ≤ gb660)); clear HB; have HB := n0_; have BK660 := n1_; have GW660 := n2_; have GE660 := n3_; clear n0_ n1_ n2_ n3_; clear hb hbox hg) | ((with_reducible refine gate_dst (N := 5) rfl ?_); refine box_event ?hg (N := 5) ?hd (cs := #[.slice A1_0 l1_0.length c1_0]) (t := 41) ?hr ?_; (case hd => rfl); (case hg => rfl); (case hr => first | (go_simp; done) | (go_simp; rfl)); intro gb661 hg w29 hbox hb; have n0_ := Aside0.mk (blk_below (be_ BK660.out) hb); have n1_ := Aside0.mk (below_step (by repeat (first | (with_reducible first | exact HB.out | apply below_alloc | apply pw_below_drewN | apply below_drew1 | refine below_set ?_ GE660.out) | exact HB.out)) hb); have n2_ := Aside0.mk (hbox); have n3_ := Aside0.mk ((by rw [hg]; exact (below_size (by repeat (first | (with_reducible first | exact HB.out | apply below_alloc | apply pw_below_drewN | apply below_drew1 | refine below_set ?_ GE660.out) | exact HB.out))) : w.heap.size ≤ gb661)); have n4_ := Aside0.mk ((by rw [hg]; exact (below_size (by repeat (first | (with_reducible first | exact HB.out | apply below_alloc | apply pw_below_drewN | apply below_drew1 | refine below_set ?_ GE660.out) | exact HB.out))) : w.heap.size ≤ gb661)); have n5_ := Aside0.mk ((by rw [hg]; exact Nat.ne_of_lt (blk_lt (be_ BK660.out)) : gb660 ≠ gb661)); have n6_ := Aside0.mk ((by rw [hg]; exact Nat.ne_of_gt (blk_lt (be_ BK660.out)) : gb661 ≠ gb660)); clear BK660; clear HB; have BK660 := n0_; have HB := n1_; have BK661 := n2_; have GW661 := n3_; have GE661 := n4_; have NB660_661 := n5_; have NB661_660 := n6_; clear n0_ n1_ n2_ n3_ n4_ n5_ n6_; clear hb hbox hg; have hnb30 := NB660_661.out; have hnc30 := NB661_660.out; have hcz31_0 : w29.cell? ⟨gb660, 0, none⟩ = some (.slice A0_0 l0_0.length c0_0) := (blk_cell BK660.out 0).trans rfl; have hfz31_0 := blk_frozen BK660.out 0) | ((with_reducible refine gate_callee (f := 26) rfl ?_); refine goesL_ (some 23) rfl rfl Try.func26 (by kernel_rfl) rfl #[.agg #[.slice A0_0 l0_0.length c0_0], .int .i64 1048576] rfl (by (try simp only [List.map_toArray, List.map_cons, List.map_nil]); first | done | rfl | (simp only [List.length_drop, List.length_take]; rfl)) ?_; (with_reducible refine (laws_szSemigroup.calls _ _ l0_0 1048576 t662 _ ?side1 ?side2 A5.out).mono ?_); (case side1 => exact ce_ ((Kd.C_below HR0_0.out HB.out))); (case side2 => exact HC0_0.out); rintro e w32 ⟨rfl, hb⟩; refine ⟨_, rfl, ?_⟩; have n0_ := Aside0.mk (blk_below (be_ BK660.out) hb); have n1_ := Aside0.mk (blk_below (be_ BK661.out) hb); have n2_ := Aside0.mk (below_step (by repeat (first | (with_reducible first | exact HB.out | apply below_alloc | apply pw_below_drewN | apply below_drew1 | refine below_set ?_ (Aside0.out (by assumption))) | exact HB.out)) hb); clear BK660; clear BK661; clear HB; have BK660 := n0_; have BK661 := n1_; have HB := n2_; clear n0_ n1_ n2_; (try clear hb); (try clear hb2); (try clear hk); (try clear hi); have hcz33_0 : w32.cell? ⟨gb661, 0, none⟩ = some (.slice A1_0 l1_0.length c1_0) := (blk_cell BK661.out 0).trans rfl; have hfz33_0 := blk_frozen BK661.out 0) | ((with_reducible refine gate_callee (f := 26) rfl ?_); refine goesL_ (some 28) rfl rfl Try.func26 (by kernel_rfl) rfl #[.agg #[.slice A1_0 l1_0.length c1_0], .int .i64 t662] rfl (by (try simp only [List.map_toArray, List.map_cons, List.map_nil]); first | done | rfl | (simp only [List.length_drop, List.length_take]; rfl)) ?_; (with_reducible refine (laws_szSemigroup.calls _ _ l1_0 t662 t663 _ ?side1 ?side2 A12.out).mono ?_); (case side1 => exact ce_ ((Kd.C_below HR1_0.out HB.out))); (case side2 => exact HC1_0.out); rintro e w34 ⟨rfl, hb⟩; refine ⟨_, rfl, ?_⟩; have n0_ := Aside0.mk (blk_below (be_ BK660.out) hb); have n1_ := Aside0.mk (blk_below (be_ BK661.out) hb); have n2_ := Aside0.mk (below_step (by repeat (first | (with_reducible first | exact HB.out | apply below_alloc | apply pw_below_drewN | apply below_drew1 | refine below_set ?_ (Aside0.out (by assumption))) | exact HB.out)) hb); clear BK660; clear BK661; clear HB; have BK660 := n0_; have BK661 := n1_; have HB := n2_; clear n0_ n1_ n2_; (try clear hb); (try clear hb2); (try clear hk); (try clear hi)))
     have n0_ := Aside0.mk (blk_drew BK660.out)
     have n1_ := Aside0.mk (blk_drew BK661.out)
     have n2_ := Aside0.mk (below_drew1 HB.out)
     clear BK660
     clear BK661
     clear HB
     have BK660 := n0_
     have BK661 := n1_
     have HB := n2_
     clear n0_ n1_ n2_
     refine start_ (n := 13) (S := fun w' => w'.cell? ⟨gb660, 0, none⟩ = some (.slice A0_0 l0_0.length c0_0) ∧ w'.cell? ⟨gb661, 0, none⟩ = some (.slice A1_0 l1_0.length c1_0)) (ds := []) (B_ 0 13) (by kernel_rfl) rfl rfl ⟨(blk_cell BK660.out 0).trans rfl, (blk_cell BK661.out 0).trans rfl⟩ (fun hHeld => ?_); refine with_tabW laws_FnExactGlueOf.tab8 laws_FnExactGlueOf.bits8 (fun HT_ HW_ => ?_)
     generalize w34.drew = w35 at BK660 BK661 HB hHeld ⊢
     refine pu_ HT_ 4 36 (B_ 16 13) ?_
     refine pu_ HT_ 5 37 (B_ 48 13) ?_
     refine tk2_ HT_ HW_ hHeld 0 32 (B_ 49 13) ?_
     refine tk2_ HT_ HW_ hHeld 2 34 (B_ 53 13) ?_
     refine join_ (σ := Value × Value × Value × Nat) 2 (B_ 2047 13) (fun s_ => [(33, .agg #[s_.1]), (35, .agg #[s_.2.1]), (38, .tuple #[.agg #[s_.2.2.1], .bool t673]), (10, .pointer (some ⟨s_.2.2.2, 0, none⟩)), (31, .tuple #[.agg #[s_.2.2.1], .bool t673]), (39, .agg #[s_.2.2.1]), (40, .bool t673)]) (fun s_ w' => (w'.cell? ⟨gb660, 0, none⟩ = some (.slice A0_0 l0_0.length c0_0) ∧ w'.cell? ⟨gb661, 0, none⟩ = some (.slice A1_0 l1_0.length c1_0)) ∧ (Kd.R (Kd.int .i64) 3 w' w.heap.size (fun k_ => some k_ ≠ (s_.2.1 : Value).ownBlock ∧ some k_ ≠ (s_.2.2.1 : Value).ownBlock) s_.1 t664) ∧ (Kd.R (Kd.int .i64) 3 w' w.heap.size (fun k_ => some k_ ≠ (s_.1 : Value).ownBlock ∧ some k_ ≠ (s_.2.2.1 : Value).ownBlock) s_.2.1 t667) ∧ (Kd.R (Kd.int .i64) 3 w' w.heap.size (fun k_ => some k_ ≠ (s_.1 : Value).ownBlock ∧ some k_ ≠ (s_.2.1 : Value).ownBlock) s_.2.2.1 t670) ∧ (w'.heap[gb660]? = some (.cells #[.slice A0_0 l0_0.length c0_0] 41 (0, 0))) ∧ (w'.heap[gb661]? = some (.cells #[.slice A1_0 l1_0.length c1_0] 41 (0, 0))) ∧ (w'.heap[s_.2.2.2]? = some (.cells #[.slice none 0 0] 44 (0, 0))) ∧ (w.heap.size ≤ s_.2.2.2) ∧ (w.heap.size ≤ s_.2.2.2) ∧ (gb660 ≠ s_.2.2.2) ∧ (s_.2.2.2 ≠ gb660) ∧ (gb661 ≠ s_.2.2.2) ∧ (s_.2.2.2 ≠ gb661) ∧ (Below w.heap.size w w')) ?_ ?_
     rotate_left
     · intro hCont
       refine two_ (i := 1) (j := 10) (Ni := some 33) (Nj := some 10) (B_ 55 13) (B_ 1077 13) rfl rfl rfl rfl (two_of HT_.out (by kernel_rfl)) (by decide) (by decide) (fun K hK => ?_) (fun K hK => ?_)
       · skip
         refine goes_ Try.func28 (by kernel_rfl) rfl #[.agg #[.slice A0_0 l0_0.length c0_0]] (by rfl) rfl rfl (by (try simp only [List.map_toArray, List.map_cons, List.map_nil]); first | done | rfl | (simp only [List.length_drop, List.length_take]; rfl)) ?_
         with_reducible refine (laws_toSemigroup.calls k _ _ l0_0 t664 _ ?side1 ?side2 A21.out).mono ?_
         (case side1 => exact ce_ ((Kd.C_below HR0_0.out HB.out)))
         (case side2 => exact HC0_0.out)
         rintro e w36 ⟨v665, rfl, ho0, hb⟩
         refine ⟨_, rfl, ?_⟩
         have n0_ := Aside0.mk (Kd.R_lower ho0 (below_size (by repeat (first | (with_reducible first | exact HB.out | apply below_alloc | apply pw_below_drewN | apply below_drew1 | refine below_set ?_ (Aside0.out (by assumption))) | exact HB.out))))
         have n1_ := Aside0.mk (blk_below (be_ BK660.out) hb)
         have n2_ := Aside0.mk (blk_below (be_ BK661.out) hb)
         have n3_ := Aside0.mk (below_step (by repeat (first | (with_reducible first | exact HB.out | apply below_alloc | apply pw_below_drewN | apply below_drew1 | refine below_set ?_ (Aside0.out (by assumption))) | exact HB.out)) hb)
         clear BK660
         clear BK661
         clear HB
         have HO666 := n0_
         have BK660 := n1_
         have BK661 := n2_
         have HB := n3_
         clear n0_ n1_ n2_ n3_
         (try clear hb)
         (try clear hb2)
         (try clear hk)
         (try clear hi)
         (try clear ho0)
         refine hK.out _ _ ⟨(blk_cell BK660.out 0).trans rfl, (blk_cell BK661.out 0).trans rfl⟩ (fun hHeld => ?_)
         clear hK K
         refine norm_ (a' := ?_) ?_ ?_
         rotate_left
         · show Act.put _ (some 33) _ = _
           simp only [Act.put, z1_, z2_, z3_, i64_w, i32_w]
           rfl
         refine two_ (i := 3) (j := 10) (Ni := some 35) (Nj := some 10) (B_ 63 13) (B_ 1079 13) rfl rfl rfl rfl (two_of HT_.out (by kernel_rfl)) (by decide) (by decide) (fun K hK => ?_) (fun K hK => ?_)
         · skip
           refine goes_ Try.func28 (by kernel_rfl) rfl #[.agg #[.slice A1_0 l1_0.length c1_0]] (by rfl) rfl rfl (by (try simp only [List.map_toArray, List.map_cons, List.map_nil]); first | done | rfl | (simp only [List.length_drop, List.length_take]; rfl)) ?_
           with_reducible refine (laws_toSemigroup.calls k _ _ l1_0 t667 _ ?side1 ?side2 A22.out).mono ?_
           (case side1 => exact ce_ ((Kd.C_below HR1_0.out HB.out)))
           (case side2 => exact HC1_0.out)
           rintro e w37 ⟨v668, rfl, ho0, hb⟩
           refine ⟨_, rfl, ?_⟩
           have n0_ := Aside0.mk (Kd.R_elder' (re_ HO666.out) (Kd.R_base ho0) hb)
           have n1_ := Aside0.mk (Kd.R_lower (Kd.R_new' ho0 (Kd.R_lt (re_ HO666.out))) (below_size (by repeat (first | (with_reducible first | exact HB.out | apply below_alloc | apply pw_below_drewN | apply below_drew1 | refine below_set ?_ (Aside0.out (by assumption))) | exact HB.out))))
           have n2_ := Aside0.mk (blk_below (be_ BK660.out) hb)
           have n3_ := Aside0.mk (blk_below (be_ BK661.out) hb)
           have n4_ := Aside0.mk (below_step (by repeat (first | (with_reducible first | exact HB.out | apply below_alloc | apply pw_below_drewN | apply below_drew1 | refine below_set ?_ (Aside0.out (by assumption))) | exact HB.out)) hb)
           clear HO666
           clear BK660
           clear BK661
           clear HB
           have HO666 := n0_
           have HO669 := n1_
           have BK660 := n2_
           have BK661 := n3_
           have HB := n4_
           clear n0_ n1_ n2_ n3_ n4_
           (try clear hb)
           (try clear hb2)
           (try clear hk)
           (try clear hi)
           (try clear ho0)
           obtain ⟨Ao38, co38, eo38⟩ := Kd.R_slice HO666.out
           (first | subst eo38 | (injection eo38 with f1_ f2_ f3_; have f4_ := f1_.symm; have f5_ := f3_.symm; clear f1_ f2_ f3_; subst f4_; subst f5_))
           obtain ⟨Ao39, co39, eo39⟩ := Kd.R_slice HO669.out
           (first | subst eo39 | (injection eo39 with f1_ f2_ f3_; have f4_ := f1_.symm; have f5_ := f3_.symm; clear f1_ f2_ f3_; subst f4_; subst f5_))
           refine hK.out _ _ ⟨(blk_cell BK660.out 0).trans rfl, (blk_cell BK661.out 0).trans rfl⟩ (fun hHeld => ?_)
           clear hK K
           refine norm_ (a' := ?_) ?_ ?_
           rotate_left
           · show Act.put _ (some 35) _ = _
             simp only [Act.put, z1_, z2_, z3_, i64_w, i32_w]
             rfl
           refine two_ (i := 6) (j := 10) (Ni := some 38) (Nj := some 10) (B_ 127 13) (B_ 1087 13) rfl rfl rfl rfl (two_of HT_.out (by kernel_rfl)) (by decide) (by decide) (fun K hK => ?_) (fun K hK => ?_)
           · skip
             refine goes_ Try.func32 (by kernel_rfl) rfl #[.agg #[.slice Ao38 t664.length co38], .agg #[.slice Ao39 t667.length co39], .int .i64 a2, .int .i64 a3] (by rfl) rfl rfl (by (try simp only [List.map_toArray, List.map_cons, List.map_nil]); first | done | rfl | (simp only [List.length_drop, List.length_take]; rfl)) ?_
             with_reducible refine (spec_GlueOf.calls k _ _ t664 _ _ t667 a2 a3 t670 t673 _ ?side1 ?side2 ?side3 ?side4 A23.out).mono ?_
             (case side1 => exact ce_ ((Kd.R_reads' HO666.out).2.2))
             (case side2 => exact (Kd.R_reads' HO666.out).2.1)
             (case side3 => exact ce_ ((Kd.R_reads' HO669.out).2.2))
             (case side4 => exact (Kd.R_reads' HO669.out).2.1)
             rintro e w40 ⟨v671, rfl, ho0, hb⟩
             refine ⟨_, rfl, ?_⟩
             have n0_ := Aside0.mk (Kd.R_elder' (re_ HO666.out) (Kd.R_base ho0) hb)
             have n1_ := Aside0.mk (Kd.R_elder' (re_ HO669.out) (Kd.R_base ho0) hb)
             have n2_ := Aside0.mk (Kd.R_lower (Kd.R_new' (Kd.R_new' ho0 (Kd.R_lt (re_ HO666.out))) (Kd.R_lt (re_ HO669.out))) (below_size (by repeat (first | (with_reducible first | exact HB.out | apply below_alloc | apply pw_below_drewN | apply below_drew1 | refine below_set ?_ (Aside0.out (by assumption))) | exact HB.out))))
             have n3_ := Aside0.mk (blk_below (be_ BK660.out) hb)
             have n4_ := Aside0.mk (blk_below (be_ BK661.out) hb)
             have n5_ := Aside0.mk (below_step (by repeat (first | (with_reducible first | exact HB.out | apply below_alloc | apply pw_below_drewN | apply below_drew1 | refine below_set ?_ (Aside0.out (by assumption))) | exact HB.out)) hb)
             clear HO666
             clear HO669
             clear BK660
             clear BK661
             clear HB
             have HO666 := n0_
             have HO669 := n1_
             have HO672 := n2_
             have BK660 := n3_
             have BK661 := n4_
             have HB := n5_
             clear n0_ n1_ n2_ n3_ n4_ n5_
             (try clear hb)
             (try clear hb2)
             (try clear hk)
             (try clear hi)
             (try clear ho0)
             refine hK.out _ _ ⟨(blk_cell BK660.out 0).trans rfl, (blk_cell BK661.out 0).trans rfl⟩ (fun hHeld => ?_)
             clear hK K
             refine norm_ (a' := ?_) ?_ ?_
             rotate_left
             · show Act.put _ (some 38) _ = _
               simp only [Act.put, z1_, z2_, z3_, i64_w, i32_w]
               rfl
             refine pu_ HT_ 7 31 (B_ 255 13) ?_
             refine pu_ HT_ 8 39 (B_ 511 13) ?_
             refine pu_ HT_ 9 40 (B_ 1023 13) ?_
             refine one_ (i := 10) (N := some 10) (B_ 2047 13) rfl rfl (one_of HT_.out (by kernel_rfl)) (by decide) (fun K hK => ?_)
             refine box_step ?hg (N := 10) ?hd (cs := #[.slice none 0 0]) (t := 44) ?hr ?_; (case hd => rfl); (case hg => rfl); (case hr => first | (go_simp; done) | (go_simp; rfl))
             intro gb674 hg w41 hbox hb
             have n0_ := Aside0.mk (Kd.R_below (re_ HO666.out) hb)
             have n1_ := Aside0.mk (Kd.R_below (re_ HO669.out) hb)
             have n2_ := Aside0.mk (Kd.R_below (re_ HO672.out) hb)
             have n3_ := Aside0.mk (blk_below (be_ BK660.out) hb)
             have n4_ := Aside0.mk (blk_below (be_ BK661.out) hb)
             have n5_ := Aside0.mk (below_step (by repeat (first | (with_reducible first | exact HB.out | apply below_alloc | apply pw_below_drewN | apply below_drew1 | refine below_set ?_ (Aside0.out (by assumption))) | exact HB.out)) hb)
             have n6_ := Aside0.mk (hbox)
             have n7_ := Aside0.mk ((by rw [hg]; exact (below_size (by repeat (first | (with_reducible first | exact HB.out | apply below_alloc | apply pw_below_drewN | apply below_drew1 | refine below_set ?_ (Aside0.out (by assumption))) | exact HB.out))) : w.heap.size ≤ gb674))
             have n8_ := Aside0.mk ((by rw [hg]; exact (below_size (by repeat (first | (with_reducible first | exact HB.out | apply below_alloc | apply pw_below_drewN | apply below_drew1 | refine below_set ?_ (Aside0.out (by assumption))) | exact HB.out))) : w.heap.size ≤ gb674))
             have n9_ := Aside0.mk ((by rw [hg]; exact Nat.ne_of_lt (blk_lt (be_ BK660.out)) : gb660 ≠ gb674))
             have n10_ := Aside0.mk ((by rw [hg]; exact Nat.ne_of_gt (blk_lt (be_ BK660.out)) : gb674 ≠ gb660))
             have n11_ := Aside0.mk ((by rw [hg]; exact Nat.ne_of_lt (blk_lt (be_ BK661.out)) : gb661 ≠ gb674))
             have n12_ := Aside0.mk ((by rw [hg]; exact Nat.ne_of_gt (blk_lt (be_ BK661.out)) : gb674 ≠ gb661))
             clear HO666
             clear HO669
             clear HO672
             clear BK660
             clear BK661
             clear HB
             have HO666 := n0_
             have HO669 := n1_
             have HO672 := n2_
             have BK660 := n3_
             have BK661 := n4_
             have HB := n5_
             have BK674 := n6_
             have GW674 := n7_
             have GE674 := n8_
             have NB660_674 := n9_
             have NB674_660 := n10_
             have NB661_674 := n11_
             have NB674_661 := n12_
             clear n0_ n1_ n2_ n3_ n4_ n5_ n6_ n7_ n8_ n9_ n10_ n11_ n12_
             clear hb hbox hg
             refine hK.out _ _ ⟨(blk_cell BK660.out 0).trans rfl, (blk_cell BK661.out 0).trans rfl⟩ (fun hHeld => ?_)
             clear hK K
             refine norm_ (a' := ?_) ?_ ?_
             rotate_left
             · show Act.put _ (some 10) _ = _
               simp only [Act.put, z1_, z2_, z3_, i64_w, i32_w]
               rfl
             exact norm_ (by simp only [putAll, Act.put, z1_, z2_, z3_]) (hCont (.slice Ao38 t664.length co38, .slice Ao39 t667.length co39, v671, gb674) _ ⟨hHeld, (by (with_reducible repeat (first | apply Kd.R_alloc | apply Kd.R_drewN | apply Kd.R_drew)); exact Kd.R_mono HO666.out (fun _ hk => ⟨hk.1.2, hk.2⟩)), (by (with_reducible repeat (first | apply Kd.R_alloc | apply Kd.R_drewN | apply Kd.R_drew)); exact Kd.R_mono HO669.out (fun _ hk => ⟨hk.1.2, hk.2⟩)), (by (with_reducible repeat (first | apply Kd.R_alloc | apply Kd.R_drewN | apply Kd.R_drew)); exact Kd.R_mono HO672.out (fun _ hk => ⟨hk.1.2, hk.2⟩)), (be_ BK660.out), (be_ BK661.out), (be_ BK674.out), GW674.out, GE674.out, NB660_674.out, NB674_660.out, NB661_674.out, NB674_661.out, (by repeat (first | (with_reducible first | exact HB.out | apply below_alloc | apply pw_below_drewN | apply below_drew1 | refine below_set ?_ (Aside0.out (by assumption))) | exact HB.out))⟩)
           · skip
             refine box_step ?hg (N := 10) ?hd (cs := #[.slice none 0 0]) (t := 44) ?hr ?_; (case hd => rfl); (case hg => rfl); (case hr => first | (go_simp; done) | (go_simp; rfl))
             intro gb674 hg w38 hbox hb
             have n0_ := Aside0.mk (Kd.R_below (re_ HO666.out) hb)
             have n1_ := Aside0.mk (Kd.R_below (re_ HO669.out) hb)
             have n2_ := Aside0.mk (blk_below (be_ BK660.out) hb)
             have n3_ := Aside0.mk (blk_below (be_ BK661.out) hb)
             have n4_ := Aside0.mk (below_step (by repeat (first | (with_reducible first | exact HB.out | apply below_alloc | apply pw_below_drewN | apply below_drew1 | refine below_set ?_ (Aside0.out (by assumption))) | exact HB.out)) hb)
             have n5_ := Aside0.mk (hbox)
             have n6_ := Aside0.mk ((by rw [hg]; exact (below_size (by repeat (first | (with_reducible first | exact HB.out | apply below_alloc | apply pw_below_drewN | apply below_drew1 | refine below_set ?_ (Aside0.out (by assumption))) | exact HB.out))) : w.heap.size ≤ gb674))
             have n7_ := Aside0.mk ((by rw [hg]; exact (below_size (by repeat (first | (with_reducible first | exact HB.out | apply below_alloc | apply pw_below_drewN | apply below_drew1 | refine below_set ?_ (Aside0.out (by assumption))) | exact HB.out))) : w.heap.size ≤ gb674))
             have n8_ := Aside0.mk ((by rw [hg]; exact Nat.ne_of_lt (blk_lt (be_ BK660.out)) : gb660 ≠ gb674))
             have n9_ := Aside0.mk ((by rw [hg]; exact Nat.ne_of_gt (blk_lt (be_ BK660.out)) : gb674 ≠ gb660))
             have n10_ := Aside0.mk ((by rw [hg]; exact Nat.ne_of_lt (blk_lt (be_ BK661.out)) : gb661 ≠ gb674))
             have n11_ := Aside0.mk ((by rw [hg]; exact Nat.ne_of_gt (blk_lt (be_ BK661.out)) : gb674 ≠ gb661))
             clear HO666
             clear HO669
             clear BK660
             clear BK661
             clear HB
             have HO666 := n0_
             have HO669 := n1_
             have BK660 := n2_
             have BK661 := n3_
             have HB := n4_
             have BK674 := n5_
             have GW674 := n6_
             have GE674 := n7_
             have NB660_674 := n8_
             have NB674_660 := n9_
             have NB661_674 := n10_
             have NB674_661 := n11_
             clear n0_ n1_ n2_ n3_ n4_ n5_ n6_ n7_ n8_ n9_ n10_ n11_
             clear hb hbox hg
             obtain ⟨Ao39, co39, eo39⟩ := Kd.R_slice HO666.out
             (first | subst eo39 | (injection eo39 with f1_ f2_ f3_; have f4_ := f1_.symm; have f5_ := f3_.symm; clear f1_ f2_ f3_; subst f4_; subst f5_))
             obtain ⟨Ao40, co40, eo40⟩ := Kd.R_slice HO669.out
             (first | subst eo40 | (injection eo40 with f1_ f2_ f3_; have f4_ := f1_.symm; have f5_ := f3_.symm; clear f1_ f2_ f3_; subst f4_; subst f5_))
             refine hK.out _ _ ⟨(blk_cell BK660.out 0).trans rfl, (blk_cell BK661.out 0).trans rfl⟩ (fun hHeld => ?_)
             clear hK K
             refine norm_ (a' := ?_) ?_ ?_
             rotate_left
             · show Act.put _ (some 10) _ = _
               simp only [Act.put, z1_, z2_, z3_, i64_w, i32_w]
               rfl
             refine one_ (i := 6) (N := some 38) (B_ 1151 13) rfl rfl (one_of HT_.out (by kernel_rfl)) (by decide) (fun K hK => ?_)
             refine goes_ Try.func32 (by kernel_rfl) rfl #[.agg #[.slice Ao39 t664.length co39], .agg #[.slice Ao40 t667.length co40], .int .i64 a2, .int .i64 a3] (by rfl) rfl rfl (by (try simp only [List.map_toArray, List.map_cons, List.map_nil]); first | done | rfl | (simp only [List.length_drop, List.length_take]; rfl)) ?_
             with_reducible refine (spec_GlueOf.calls k _ _ t664 _ _ t667 a2 a3 t670 t673 _ ?side1 ?side2 ?side3 ?side4 A23.out).mono ?_
             (case side1 => exact ce_ ((Kd.R_reads' HO666.out).2.2))
             (case side2 => exact (Kd.R_reads' HO666.out).2.1)
             (case side3 => exact ce_ ((Kd.R_reads' HO669.out).2.2))
             (case side4 => exact (Kd.R_reads' HO669.out).2.1)
             rintro e w41 ⟨v671, rfl, ho0, hb⟩
             refine ⟨_, rfl, ?_⟩
             have n0_ := Aside0.mk (Kd.R_elder' (re_ HO666.out) (Kd.R_base ho0) hb)
             have n1_ := Aside0.mk (Kd.R_elder' (re_ HO669.out) (Kd.R_base ho0) hb)
             have n2_ := Aside0.mk (Kd.R_lower (Kd.R_new' (Kd.R_new' ho0 (Kd.R_lt (re_ HO666.out))) (Kd.R_lt (re_ HO669.out))) (below_size (by repeat (first | (with_reducible first | exact HB.out | apply below_alloc | apply pw_below_drewN | apply below_drew1 | refine below_set ?_ (Aside0.out (by assumption))) | exact HB.out))))
             have n3_ := Aside0.mk (blk_below (be_ BK660.out) hb)
             have n4_ := Aside0.mk (blk_below (be_ BK661.out) hb)
             have n5_ := Aside0.mk (blk_below (be_ BK674.out) hb)
             have n6_ := Aside0.mk (below_step (by repeat (first | (with_reducible first | exact HB.out | apply below_alloc | apply pw_below_drewN | apply below_drew1 | refine below_set ?_ (Aside0.out (by assumption))) | exact HB.out)) hb)
             clear HO666
             clear HO669
             clear BK660
             clear BK661
             clear BK674
             clear HB
             have HO666 := n0_
             have HO669 := n1_
             have HO672 := n2_
             have BK660 := n3_
             have BK661 := n4_
             have BK674 := n5_
             have HB := n6_
             clear n0_ n1_ n2_ n3_ n4_ n5_ n6_
             (try clear hb)
             (try clear hb2)
             (try clear hk)
             (try clear hi)
             (try clear ho0)
             refine hK.out _ _ ⟨(blk_cell BK660.out 0).trans rfl, (blk_cell BK661.out 0).trans rfl⟩ (fun hHeld => ?_)
             clear hK K
             refine norm_ (a' := ?_) ?_ ?_
             rotate_left
             · show Act.put _ (some 38) _ = _
               simp only [Act.put, z1_, z2_, z3_, i64_w, i32_w]
               rfl
             refine pu_ HT_ 7 31 (B_ 1279 13) ?_
             refine pu_ HT_ 8 39 (B_ 1535 13) ?_
             refine pu_ HT_ 9 40 (B_ 2047 13) ?_
             exact norm_ (by simp only [putAll, Act.put, z1_, z2_, z3_]) (hCont (.slice Ao39 t664.length co39, .slice Ao40 t667.length co40, v671, gb674) _ ⟨hHeld, (by (with_reducible repeat (first | apply Kd.R_alloc | apply Kd.R_drewN | apply Kd.R_drew)); exact Kd.R_mono HO666.out (fun _ hk => ⟨hk.1.2, hk.2⟩)), (by (with_reducible repeat (first | apply Kd.R_alloc | apply Kd.R_drewN | apply Kd.R_drew)); exact Kd.R_mono HO669.out (fun _ hk => ⟨hk.1.2, hk.2⟩)), (by (with_reducible repeat (first | apply Kd.R_alloc | apply Kd.R_drewN | apply Kd.R_drew)); exact Kd.R_mono HO672.out (fun _ hk => ⟨hk.1.2, hk.2⟩)), (be_ BK660.out), (be_ BK661.out), (be_ BK674.out), GW674.out, GE674.out, NB660_674.out, NB674_660.out, NB661_674.out, NB674_661.out, (by repeat (first | (with_reducible first | exact HB.out | apply below_alloc | apply pw_below_drewN | apply below_drew1 | refine below_set ?_ (Aside0.out (by assumption))) | exact HB.out))⟩)
         · skip
           refine box_step ?hg (N := 10) ?hd (cs := #[.slice none 0 0]) (t := 44) ?hr ?_; (case hd => rfl); (case hg => rfl); (case hr => first | (go_simp; done) | (go_simp; rfl))
           intro gb674 hg w37 hbox hb
           have n0_ := Aside0.mk (Kd.R_below (re_ HO666.out) hb)
           have n1_ := Aside0.mk (blk_below (be_ BK660.out) hb)
           have n2_ := Aside0.mk (blk_below (be_ BK661.out) hb)
           have n3_ := Aside0.mk (below_step (by repeat (first | (with_reducible first | exact HB.out | apply below_alloc | apply pw_below_drewN | apply below_drew1 | refine below_set ?_ (Aside0.out (by assumption))) | exact HB.out)) hb)
           have n4_ := Aside0.mk (hbox)
           have n5_ := Aside0.mk ((by rw [hg]; exact (below_size (by repeat (first | (with_reducible first | exact HB.out | apply below_alloc | apply pw_below_drewN | apply below_drew1 | refine below_set ?_ (Aside0.out (by assumption))) | exact HB.out))) : w.heap.size ≤ gb674))
           have n6_ := Aside0.mk ((by rw [hg]; exact (below_size (by repeat (first | (with_reducible first | exact HB.out | apply below_alloc | apply pw_below_drewN | apply below_drew1 | refine below_set ?_ (Aside0.out (by assumption))) | exact HB.out))) : w.heap.size ≤ gb674))
           have n7_ := Aside0.mk ((by rw [hg]; exact Nat.ne_of_lt (blk_lt (be_ BK660.out)) : gb660 ≠ gb674))
           have n8_ := Aside0.mk ((by rw [hg]; exact Nat.ne_of_gt (blk_lt (be_ BK660.out)) : gb674 ≠ gb660))
           have n9_ := Aside0.mk ((by rw [hg]; exact Nat.ne_of_lt (blk_lt (be_ BK661.out)) : gb661 ≠ gb674))
           have n10_ := Aside0.mk ((by rw [hg]; exact Nat.ne_of_gt (blk_lt (be_ BK661.out)) : gb674 ≠ gb661))
           clear HO666
           clear BK660
           clear BK661
           clear HB
           have HO666 := n0_
           have BK660 := n1_
           have BK661 := n2_
           have HB := n3_
           have BK674 := n4_
           have GW674 := n5_
           have GE674 := n6_
           have NB660_674 := n7_
           have NB674_660 := n8_
           have NB661_674 := n9_
           have NB674_661 := n10_
           clear n0_ n1_ n2_ n3_ n4_ n5_ n6_ n7_ n8_ n9_ n10_
           clear hb hbox hg
           refine hK.out _ _ ⟨(blk_cell BK660.out 0).trans rfl, (blk_cell BK661.out 0).trans rfl⟩ (fun hHeld => ?_)
           clear hK K
           refine norm_ (a' := ?_) ?_ ?_
           rotate_left
           · show Act.put _ (some 10) _ = _
             simp only [Act.put, z1_, z2_, z3_, i64_w, i32_w]
             rfl
           refine one_ (i := 3) (N := some 35) (B_ 1087 13) rfl rfl (one_of HT_.out (by kernel_rfl)) (by decide) (fun K hK => ?_)
           refine goes_ Try.func28 (by kernel_rfl) rfl #[.agg #[.slice A1_0 l1_0.length c1_0]] (by rfl) rfl rfl (by (try simp only [List.map_toArray, List.map_cons, List.map_nil]); first | done | rfl | (simp only [List.length_drop, List.length_take]; rfl)) ?_
           with_reducible refine (laws_toSemigroup.calls k _ _ l1_0 t667 _ ?side1 ?side2 A22.out).mono ?_
           (case side1 => exact ce_ ((Kd.C_below HR1_0.out HB.out)))
           (case side2 => exact HC1_0.out)
           rintro e w38 ⟨v668, rfl, ho0, hb⟩
           refine ⟨_, rfl, ?_⟩
           have n0_ := Aside0.mk (Kd.R_elder' (re_ HO666.out) (Kd.R_base ho0) hb)
           have n1_ := Aside0.mk (Kd.R_lower (Kd.R_new' ho0 (Kd.R_lt (re_ HO666.out))) (below_size (by repeat (first | (with_reducible first | exact HB.out | apply below_alloc | apply pw_below_drewN | apply below_drew1 | refine below_set ?_ (Aside0.out (by assumption))) | exact HB.out))))
           have n2_ := Aside0.mk (blk_below (be_ BK660.out) hb)
           have n3_ := Aside0.mk (blk_below (be_ BK661.out) hb)
           have n4_ := Aside0.mk (blk_below (be_ BK674.out) hb)
           have n5_ := Aside0.mk (below_step (by repeat (first | (with_reducible first | exact HB.out | apply below_alloc | apply pw_below_drewN | apply below_drew1 | refine below_set ?_ (Aside0.out (by assumption))) | exact HB.out)) hb)
           clear HO666
           clear BK660
           clear BK661
           clear BK674
           clear HB
           have HO666 := n0_
           have HO669 := n1_
           have BK660 := n2_
           have BK661 := n3_
           have BK674 := n4_
           have HB := n5_
           clear n0_ n1_ n2_ n3_ n4_ n5_
           (try clear hb)
           (try clear hb2)
           (try clear hk)
           (try clear hi)
           (try clear ho0)
           obtain ⟨Ao39, co39, eo39⟩ := Kd.R_slice HO666.out
           (first | subst eo39 | (injection eo39 with f1_ f2_ f3_; have f4_ := f1_.symm; have f5_ := f3_.symm; clear f1_ f2_ f3_; subst f4_; subst f5_))
           obtain ⟨Ao40, co40, eo40⟩ := Kd.R_slice HO669.out
           (first | subst eo40 | (injection eo40 with f1_ f2_ f3_; have f4_ := f1_.symm; have f5_ := f3_.symm; clear f1_ f2_ f3_; subst f4_; subst f5_))
           refine hK.out _ _ ⟨(blk_cell BK660.out 0).trans rfl, (blk_cell BK661.out 0).trans rfl⟩ (fun hHeld => ?_)
           clear hK K
           refine norm_ (a' := ?_) ?_ ?_
           rotate_left
           · show Act.put _ (some 35) _ = _
             simp only [Act.put, z1_, z2_, z3_, i64_w, i32_w]
             rfl
           refine one_ (i := 6) (N := some 38) (B_ 1151 13) rfl rfl (one_of HT_.out (by kernel_rfl)) (by decide) (fun K hK => ?_)
           refine goes_ Try.func32 (by kernel_rfl) rfl #[.agg #[.slice Ao39 t664.length co39], .agg #[.slice Ao40 t667.length co40], .int .i64 a2, .int .i64 a3] (by rfl) rfl rfl (by (try simp only [List.map_toArray, List.map_cons, List.map_nil]); first | done | rfl | (simp only [List.length_drop, List.length_take]; rfl)) ?_
           with_reducible refine (spec_GlueOf.calls k _ _ t664 _ _ t667 a2 a3 t670 t673 _ ?side1 ?side2 ?side3 ?side4 A23.out).mono ?_
           (case side1 => exact ce_ ((Kd.R_reads' HO666.out).2.2))
           (case side2 => exact (Kd.R_reads' HO666.out).2.1)
           (case side3 => exact ce_ ((Kd.R_reads' HO669.out).2.2))
           (case side4 => exact (Kd.R_reads' HO669.out).2.1)
           rintro e w41 ⟨v671, rfl, ho0, hb⟩
           refine ⟨_, rfl, ?_⟩
           have n0_ := Aside0.mk (Kd.R_elder' (re_ HO666.out) (Kd.R_base ho0) hb)
           have n1_ := Aside0.mk (Kd.R_elder' (re_ HO669.out) (Kd.R_base ho0) hb)
           have n2_ := Aside0.mk (Kd.R_lower (Kd.R_new' (Kd.R_new' ho0 (Kd.R_lt (re_ HO666.out))) (Kd.R_lt (re_ HO669.out))) (below_size (by repeat (first | (with_reducible first | exact HB.out | apply below_alloc | apply pw_below_drewN | apply below_drew1 | refine below_set ?_ (Aside0.out (by assumption))) | exact HB.out))))
           have n3_ := Aside0.mk (blk_below (be_ BK660.out) hb)
           have n4_ := Aside0.mk (blk_below (be_ BK661.out) hb)
           have n5_ := Aside0.mk (blk_below (be_ BK674.out) hb)
           have n6_ := Aside0.mk (below_step (by repeat (first | (with_reducible first | exact HB.out | apply below_alloc | apply pw_below_drewN | apply below_drew1 | refine below_set ?_ (Aside0.out (by assumption))) | exact HB.out)) hb)
           clear HO666
           clear HO669
           clear BK660
           clear BK661
           clear BK674
           clear HB
           have HO666 := n0_
           have HO669 := n1_
           have HO672 := n2_
           have BK660 := n3_
           have BK661 := n4_
           have BK674 := n5_
           have HB := n6_
           clear n0_ n1_ n2_ n3_ n4_ n5_ n6_
           (try clear hb)
           (try clear hb2)
           (try clear hk)
           (try clear hi)
           (try clear ho0)
           refine hK.out _ _ ⟨(blk_cell BK660.out 0).trans rfl, (blk_cell BK661.out 0).trans rfl⟩ (fun hHeld => ?_)
           clear hK K
           refine norm_ (a' := ?_) ?_ ?_
           rotate_left
           · show Act.put _ (some 38) _ = _
             simp only [Act.put, z1_, z2_, z3_, i64_w, i32_w]
             rfl
           refine pu_ HT_ 7 31 (B_ 1279 13) ?_
           refine pu_ HT_ 8 39 (B_ 1535 13) ?_
           refine pu_ HT_ 9 40 (B_ 2047 13) ?_
           exact norm_ (by simp only [putAll, Act.put, z1_, z2_, z3_]) (hCont (.slice Ao39 t664.length co39, .slice Ao40 t667.length co40, v671, gb674) _ ⟨hHeld, (by (with_reducible repeat (first | apply Kd.R_alloc | apply Kd.R_drewN | apply Kd.R_drew)); exact Kd.R_mono HO666.out (fun _ hk => ⟨hk.1.2, hk.2⟩)), (by (with_reducible repeat (first | apply Kd.R_alloc | apply Kd.R_drewN | apply Kd.R_drew)); exact Kd.R_mono HO669.out (fun _ hk => ⟨hk.1.2, hk.2⟩)), (by (with_reducible repeat (first | apply Kd.R_alloc | apply Kd.R_drewN | apply Kd.R_drew)); exact Kd.R_mono HO672.out (fun _ hk => ⟨hk.1.2, hk.2⟩)), (be_ BK660.out), (be_ BK661.out), (be_ BK674.out), GW674.out, GE674.out, NB660_674.out, NB674_660.out, NB661_674.out, NB674_661.out, (by repeat (first | (with_reducible first | exact HB.out | apply below_alloc | apply pw_below_drewN | apply below_drew1 | refine below_set ?_ (Aside0.out (by assumption))) | exact HB.out))⟩)
       · skip
         refine box_step ?hg (N := 10) ?hd (cs := #[.slice none 0 0]) (t := 44) ?hr ?_; (case hd => rfl); (case hg => rfl); (case hr => first | (go_simp; done) | (go_simp; rfl))
         intro gb674 hg w36 hbox hb
         have n0_ := Aside0.mk (blk_below (be_ BK660.out) hb)
         have n1_ := Aside0.mk (blk_below (be_ BK661.out) hb)
         have n2_ := Aside0.mk (below_step (by repeat (first | (with_reducible first | exact HB.out | apply below_alloc | apply pw_below_drewN | apply below_drew1 | refine below_set ?_ (Aside0.out (by assumption))) | exact HB.out)) hb)
         have n3_ := Aside0.mk (hbox)
         have n4_ := Aside0.mk ((by rw [hg]; exact (below_size (by repeat (first | (with_reducible first | exact HB.out | apply below_alloc | apply pw_below_drewN | apply below_drew1 | refine below_set ?_ (Aside0.out (by assumption))) | exact HB.out))) : w.heap.size ≤ gb674))
         have n5_ := Aside0.mk ((by rw [hg]; exact (below_size (by repeat (first | (with_reducible first | exact HB.out | apply below_alloc | apply pw_below_drewN | apply below_drew1 | refine below_set ?_ (Aside0.out (by assumption))) | exact HB.out))) : w.heap.size ≤ gb674))
         have n6_ := Aside0.mk ((by rw [hg]; exact Nat.ne_of_lt (blk_lt (be_ BK660.out)) : gb660 ≠ gb674))
         have n7_ := Aside0.mk ((by rw [hg]; exact Nat.ne_of_gt (blk_lt (be_ BK660.out)) : gb674 ≠ gb660))
         have n8_ := Aside0.mk ((by rw [hg]; exact Nat.ne_of_lt (blk_lt (be_ BK661.out)) : gb661 ≠ gb674))
         have n9_ := Aside0.mk ((by rw [hg]; exact Nat.ne_of_gt (blk_lt (be_ BK661.out)) : gb674 ≠ gb661))
         clear BK660
         clear BK661
         clear HB
         have BK660 := n0_
         have BK661 := n1_
         have HB := n2_
         have BK674 := n3_
         have GW674 := n4_
         have GE674 := n5_
         have NB660_674 := n6_
         have NB674_660 := n7_
         have NB661_674 := n8_
         have NB674_661 := n9_
         clear n0_ n1_ n2_ n3_ n4_ n5_ n6_ n7_ n8_ n9_
         clear hb hbox hg
         refine hK.out _ _ ⟨(blk_cell BK660.out 0).trans rfl, (blk_cell BK661.out 0).trans rfl⟩ (fun hHeld => ?_)
         clear hK K
         refine norm_ (a' := ?_) ?_ ?_
         rotate_left
         · show Act.put _ (some 10) _ = _
           simp only [Act.put, z1_, z2_, z3_, i64_w, i32_w]
           rfl
         refine one_ (i := 1) (N := some 33) (B_ 1079 13) rfl rfl (one_of HT_.out (by kernel_rfl)) (by decide) (fun K hK => ?_)
         refine goes_ Try.func28 (by kernel_rfl) rfl #[.agg #[.slice A0_0 l0_0.length c0_0]] (by rfl) rfl rfl (by (try simp only [List.map_toArray, List.map_cons, List.map_nil]); first | done | rfl | (simp only [List.length_drop, List.length_take]; rfl)) ?_
         with_reducible refine (laws_toSemigroup.calls k _ _ l0_0 t664 _ ?side1 ?side2 A21.out).mono ?_
         (case side1 => exact ce_ ((Kd.C_below HR0_0.out HB.out)))
         (case side2 => exact HC0_0.out)
         rintro e w37 ⟨v665, rfl, ho0, hb⟩
         refine ⟨_, rfl, ?_⟩
         have n0_ := Aside0.mk (Kd.R_lower ho0 (below_size (by repeat (first | (with_reducible first | exact HB.out | apply below_alloc | apply pw_below_drewN | apply below_drew1 | refine below_set ?_ (Aside0.out (by assumption))) | exact HB.out))))
         have n1_ := Aside0.mk (blk_below (be_ BK660.out) hb)
         have n2_ := Aside0.mk (blk_below (be_ BK661.out) hb)
         have n3_ := Aside0.mk (blk_below (be_ BK674.out) hb)
         have n4_ := Aside0.mk (below_step (by repeat (first | (with_reducible first | exact HB.out | apply below_alloc | apply pw_below_drewN | apply below_drew1 | refine below_set ?_ (Aside0.out (by assumption))) | exact HB.out)) hb)
         clear BK660
         clear BK661
         clear BK674
         clear HB
         have HO666 := n0_
         have BK660 := n1_
         have BK661 := n2_
         have BK674 := n3_
         have HB := n4_
         clear n0_ n1_ n2_ n3_ n4_
         (try clear hb)
         (try clear hb2)
         (try clear hk)
         (try clear hi)
         (try clear ho0)
         refine hK.out _ _ ⟨(blk_cell BK660.out 0).trans rfl, (blk_cell BK661.out 0).trans rfl⟩ (fun hHeld => ?_)
         clear hK K
         refine norm_ (a' := ?_) ?_ ?_
         rotate_left
         · show Act.put _ (some 33) _ = _
           simp only [Act.put, z1_, z2_, z3_, i64_w, i32_w]
           rfl
         refine one_ (i := 3) (N := some 35) (B_ 1087 13) rfl rfl (one_of HT_.out (by kernel_rfl)) (by decide) (fun K hK => ?_)
         refine goes_ Try.func28 (by kernel_rfl) rfl #[.agg #[.slice A1_0 l1_0.length c1_0]] (by rfl) rfl rfl (by (try simp only [List.map_toArray, List.map_cons, List.map_nil]); first | done | rfl | (simp only [List.length_drop, List.length_take]; rfl)) ?_
         with_reducible refine (laws_toSemigroup.calls k _ _ l1_0 t667 _ ?side1 ?side2 A22.out).mono ?_
         (case side1 => exact ce_ ((Kd.C_below HR1_0.out HB.out)))
         (case side2 => exact HC1_0.out)
         rintro e w38 ⟨v668, rfl, ho0, hb⟩
         refine ⟨_, rfl, ?_⟩
         have n0_ := Aside0.mk (Kd.R_elder' (re_ HO666.out) (Kd.R_base ho0) hb)
         have n1_ := Aside0.mk (Kd.R_lower (Kd.R_new' ho0 (Kd.R_lt (re_ HO666.out))) (below_size (by repeat (first | (with_reducible first | exact HB.out | apply below_alloc | apply pw_below_drewN | apply below_drew1 | refine below_set ?_ (Aside0.out (by assumption))) | exact HB.out))))
         have n2_ := Aside0.mk (blk_below (be_ BK660.out) hb)
         have n3_ := Aside0.mk (blk_below (be_ BK661.out) hb)
         have n4_ := Aside0.mk (blk_below (be_ BK674.out) hb)
         have n5_ := Aside0.mk (below_step (by repeat (first | (with_reducible first | exact HB.out | apply below_alloc | apply pw_below_drewN | apply below_drew1 | refine below_set ?_ (Aside0.out (by assumption))) | exact HB.out)) hb)
         clear HO666
         clear BK660
         clear BK661
         clear BK674
         clear HB
         have HO666 := n0_
         have HO669 := n1_
         have BK660 := n2_
         have BK661 := n3_
         have BK674 := n4_
         have HB := n5_
         clear n0_ n1_ n2_ n3_ n4_ n5_
         (try clear hb)
         (try clear hb2)
         (try clear hk)
         (try clear hi)
         (try clear ho0)
         obtain ⟨Ao39, co39, eo39⟩ := Kd.R_slice HO666.out
         (first | subst eo39 | (injection eo39 with f1_ f2_ f3_; have f4_ := f1_.symm; have f5_ := f3_.symm; clear f1_ f2_ f3_; subst f4_; subst f5_))
         obtain ⟨Ao40, co40, eo40⟩ := Kd.R_slice HO669.out
         (first | subst eo40 | (injection eo40 with f1_ f2_ f3_; have f4_ := f1_.symm; have f5_ := f3_.symm; clear f1_ f2_ f3_; subst f4_; subst f5_))
         refine hK.out _ _ ⟨(blk_cell BK660.out 0).trans rfl, (blk_cell BK661.out 0).trans rfl⟩ (fun hHeld => ?_)
         clear hK K
         refine norm_ (a' := ?_) ?_ ?_
         rotate_left
         · show Act.put _ (some 35) _ = _
           simp only [Act.put, z1_, z2_, z3_, i64_w, i32_w]
           rfl
         refine one_ (i := 6) (N := some 38) (B_ 1151 13) rfl rfl (one_of HT_.out (by kernel_rfl)) (by decide) (fun K hK => ?_)
         refine goes_ Try.func32 (by kernel_rfl) rfl #[.agg #[.slice Ao39 t664.length co39], .agg #[.slice Ao40 t667.length co40], .int .i64 a2, .int .i64 a3] (by rfl) rfl rfl (by (try simp only [List.map_toArray, List.map_cons, List.map_nil]); first | done | rfl | (simp only [List.length_drop, List.length_take]; rfl)) ?_
         with_reducible refine (spec_GlueOf.calls k _ _ t664 _ _ t667 a2 a3 t670 t673 _ ?side1 ?side2 ?side3 ?side4 A23.out).mono ?_
         (case side1 => exact ce_ ((Kd.R_reads' HO666.out).2.2))
         (case side2 => exact (Kd.R_reads' HO666.out).2.1)
         (case side3 => exact ce_ ((Kd.R_reads' HO669.out).2.2))
         (case side4 => exact (Kd.R_reads' HO669.out).2.1)
         rintro e w41 ⟨v671, rfl, ho0, hb⟩
         refine ⟨_, rfl, ?_⟩
         have n0_ := Aside0.mk (Kd.R_elder' (re_ HO666.out) (Kd.R_base ho0) hb)
         have n1_ := Aside0.mk (Kd.R_elder' (re_ HO669.out) (Kd.R_base ho0) hb)
         have n2_ := Aside0.mk (Kd.R_lower (Kd.R_new' (Kd.R_new' ho0 (Kd.R_lt (re_ HO666.out))) (Kd.R_lt (re_ HO669.out))) (below_size (by repeat (first | (with_reducible first | exact HB.out | apply below_alloc | apply pw_below_drewN | apply below_drew1 | refine below_set ?_ (Aside0.out (by assumption))) | exact HB.out))))
         have n3_ := Aside0.mk (blk_below (be_ BK660.out) hb)
         have n4_ := Aside0.mk (blk_below (be_ BK661.out) hb)
         have n5_ := Aside0.mk (blk_below (be_ BK674.out) hb)
         have n6_ := Aside0.mk (below_step (by repeat (first | (with_reducible first | exact HB.out | apply below_alloc | apply pw_below_drewN | apply below_drew1 | refine below_set ?_ (Aside0.out (by assumption))) | exact HB.out)) hb)
         clear HO666
         clear HO669
         clear BK660
         clear BK661
         clear BK674
         clear HB
         have HO666 := n0_
         have HO669 := n1_
         have HO672 := n2_
         have BK660 := n3_
         have BK661 := n4_
         have BK674 := n5_
         have HB := n6_
         clear n0_ n1_ n2_ n3_ n4_ n5_ n6_
         (try clear hb)
         (try clear hb2)
         (try clear hk)
         (try clear hi)
         (try clear ho0)
         refine hK.out _ _ ⟨(blk_cell BK660.out 0).trans rfl, (blk_cell BK661.out 0).trans rfl⟩ (fun hHeld => ?_)
         clear hK K
         refine norm_ (a' := ?_) ?_ ?_
         rotate_left
         · show Act.put _ (some 38) _ = _
           simp only [Act.put, z1_, z2_, z3_, i64_w, i32_w]
           rfl
         refine pu_ HT_ 7 31 (B_ 1279 13) ?_
         refine pu_ HT_ 8 39 (B_ 1535 13) ?_
         refine pu_ HT_ 9 40 (B_ 2047 13) ?_
         exact norm_ (by simp only [putAll, Act.put, z1_, z2_, z3_]) (hCont (.slice Ao39 t664.length co39, .slice Ao40 t667.length co40, v671, gb674) _ ⟨hHeld, (by (with_reducible repeat (first | apply Kd.R_alloc | apply Kd.R_drewN | apply Kd.R_drew)); exact Kd.R_mono HO666.out (fun _ hk => ⟨hk.1.2, hk.2⟩)), (by (with_reducible repeat (first | apply Kd.R_alloc | apply Kd.R_drewN | apply Kd.R_drew)); exact Kd.R_mono HO669.out (fun _ hk => ⟨hk.1.2, hk.2⟩)), (by (with_reducible repeat (first | apply Kd.R_alloc | apply Kd.R_drewN | apply Kd.R_drew)); exact Kd.R_mono HO672.out (fun _ hk => ⟨hk.1.2, hk.2⟩)), (be_ BK660.out), (be_ BK661.out), (be_ BK674.out), GW674.out, GE674.out, NB660_674.out, NB674_660.out, NB661_674.out, NB674_661.out, (by repeat (first | (with_reducible first | exact HB.out | apply below_alloc | apply pw_below_drewN | apply below_drew1 | refine below_set ?_ (Aside0.out (by assumption))) | exact HB.out))⟩)
     rintro ⟨v665, v668, v671, gb674⟩ w42 ⟨hS_, h0_, h1_, h2_, h3_, h4_, h5_, h6_, h7_, h8_, h9_, h10_, h11_, h12_⟩
     have n0_ : Aside0 (Kd.R (Kd.int .i64) 3 w42 w.heap.size (fun k_ => some k_ ≠ (v668 : Value).ownBlock ∧ some k_ ≠ (v671 : Value).ownBlock) v665 t664) := ⟨h0_⟩
     have n1_ : Aside0 (Kd.R (Kd.int .i64) 3 w42 w.heap.size (fun k_ => some k_ ≠ (v665 : Value).ownBlock ∧ some k_ ≠ (v671 : Value).ownBlock) v668 t667) := ⟨h1_⟩
     have n2_ : Aside0 (Kd.R (Kd.int .i64) 3 w42 w.heap.size (fun k_ => some k_ ≠ (v665 : Value).ownBlock ∧ some k_ ≠ (v668 : Value).ownBlock) v671 t670) := ⟨h2_⟩
     have n3_ : Aside0 (w42.heap[gb660]? = some (.cells #[.slice A0_0 l0_0.length c0_0] 41 (0, 0))) := ⟨h3_⟩
     have n4_ : Aside0 (w42.heap[gb661]? = some (.cells #[.slice A1_0 l1_0.length c1_0] 41 (0, 0))) := ⟨h4_⟩
     have n5_ : Aside0 (w42.heap[gb674]? = some (.cells #[.slice none 0 0] 44 (0, 0))) := ⟨h5_⟩
     have n6_ : Aside0 (w.heap.size ≤ gb674) := ⟨h6_⟩
     have n7_ : Aside0 (w.heap.size ≤ gb674) := ⟨h7_⟩
     have n8_ : Aside0 (gb660 ≠ gb674) := ⟨h8_⟩
     have n9_ : Aside0 (gb674 ≠ gb660) := ⟨h9_⟩
     have n10_ : Aside0 (gb661 ≠ gb674) := ⟨h10_⟩
     have n11_ : Aside0 (gb674 ≠ gb661) := ⟨h11_⟩
     have n12_ : Aside0 (Below w.heap.size w w42) := ⟨h12_⟩
     clear BK660
     clear BK661
     clear HB
     clear h0_ h1_ h2_ h3_ h4_ h5_ h6_ h7_ h8_ h9_ h10_ h11_ h12_
     have HO666 := n0_
     have HO669 := n1_
     have HO672 := n2_
     have BK660 := n3_
     have BK661 := n4_
     have BK674 := n5_
     have GW674 := n6_
     have GE674 := n7_
     have NB660_674 := n8_
     have NB674_660 := n9_
     have NB661_674 := n10_
     have NB674_661 := n11_
     have HB := n12_
     clear n0_ n1_ n2_ n3_ n4_ n5_ n6_ n7_ n8_ n9_ n10_ n11_ n12_
     have hHeld : w42.cell? ⟨gb660, 0, none⟩ = some (.slice A0_0 l0_0.length c0_0) ∧ w42.cell? ⟨gb661, 0, none⟩ = some (.slice A1_0 l1_0.length c1_0) := hS_
     obtain ⟨Ao43, co43, eo43⟩ := Kd.R_slice HO672.out
     (first | subst eo43 | (injection eo43 with f1_ f2_ f3_; have f4_ := f1_.symm; have f5_ := f3_.symm; clear f1_ f2_ f3_; subst f4_; subst f5_))
     refine norm_ (a' := ?_) ?_ ?_
     rotate_left
     · simp only [putAll, Act.put, z1_, z2_, z3_]
       rfl
     refine one_ (i := 11) (N := none) (B_ 4095 13) rfl rfl (one_of HT_.out (by kernel_rfl)) (by decide) (fun K hK => ?_)
     have hs44 : w42.cell? ⟨gb674, 0, none⟩ = some (.slice none 0 0) := (blk_cell BK674.out 0).trans rfl
     have hfs44 := blk_frozen BK674.out 0
     have hns44_0 := NB660_674.out
     have hns44_1 := NB661_674.out
     have hms44_0 := NB674_660.out
     have hms44_1 := NB674_661.out
     refine skip_ (w1 := ?_) (by rfl) rfl ?_ ?_
     rotate_left
     · go_simp
       rfl
     refine hK.out _ _ ⟨((cell_far (p := ⟨gb674, _, none⟩) NB660_674.out _).trans (hHeld.1)), ((cell_far (p := ⟨gb674, _, none⟩) NB661_674.out _).trans (hHeld.2))⟩ (fun hHeld => ?_)
     clear hK K
     refine pu_ HT_ 12 11 (B_ 8191 13) ?_
     refine done_ (done_of HT_.out (by kernel_rfl)) ?_
     have hnb45 := NB660_674.out
     have hnc45 := NB674_660.out
     have hcz46_0 : w42.cell? ⟨gb660, 0, none⟩ = some (.slice A0_0 l0_0.length c0_0) := (blk_cell BK660.out 0).trans rfl
     have hfz46_0 := blk_frozen BK660.out 0
     go_upto_region 12 with (first | ((with_reducible refine gate_callee (f := 28) rfl ?_); refine goesL_ (some 42) rfl rfl Try.func28 (by kernel_rfl) rfl #[.agg #[.slice A0_0 l0_0.length c0_0]] rfl (by (try simp only [List.map_toArray, List.map_cons, List.map_nil]); first | done | rfl | (simp only [List.length_drop, List.length_take]; rfl)) ?_; (with_reducible refine (laws_toSemigroup.calls k _ _ l0_0 t675 _ ?side1 ?side2 A24.out).mono ?_); (case side1 => exact Kd.C_below HR0_0.out (by repeat (first | (with_reducible first | exact HB.out | apply below_alloc | apply pw_below_drewN | apply below_drew1 | refine below_set ?_ (Aside0.out (by assumption))) | exact HB.out))); (case side2 => exact HC0_0.out); rintro e w47 ⟨v676, rfl, ho0, hb⟩; refine ⟨_, rfl, ?_⟩; have n0_ := Aside0.mk (Kd.R_elder' (by (with_reducible repeat (first | apply Kd.R_alloc | apply Kd.R_drewN | apply Kd.R_drew)); exact (Kd.R_mono (Kd.R_far (p := ⟨gb674, 0, none⟩) (Kd.R_types HO666.out BK674.out (by decide)) (fun _ hk => hk.2) (.slice Ao43 t670.length co43)) (fun _ h_ => h_.1))) (Kd.R_base ho0) hb); have n1_ := Aside0.mk (Kd.R_elder' (by (with_reducible repeat (first | apply Kd.R_alloc | apply Kd.R_drewN | apply Kd.R_drew)); exact (Kd.R_mono (Kd.R_far (p := ⟨gb674, 0, none⟩) (Kd.R_types HO669.out BK674.out (by decide)) (fun _ hk => hk.2) (.slice Ao43 t670.length co43)) (fun _ h_ => h_.1))) (Kd.R_base ho0) hb); have n2_ := Aside0.mk (Kd.R_elder' (by (with_reducible repeat (first | apply Kd.R_alloc | apply Kd.R_drewN | apply Kd.R_drew)); exact (Kd.R_mono (Kd.R_far (p := ⟨gb674, 0, none⟩) (Kd.R_types HO672.out BK674.out (by decide)) (fun _ hk => hk.2) (.slice Ao43 t670.length co43)) (fun _ h_ => h_.1))) (Kd.R_base ho0) hb); have n3_ := Aside0.mk (Kd.R_lower (Kd.R_new' (Kd.R_new' (Kd.R_new' ho0 (Kd.R_lt (by (with_reducible repeat (first | apply Kd.R_alloc | apply Kd.R_drewN | apply Kd.R_drew)); exact (Kd.R_mono (Kd.R_far (p := ⟨gb674, 0, none⟩) (Kd.R_types HO666.out BK674.out (by decide)) (fun _ hk => hk.2) (.slice Ao43 t670.length co43)) (fun _ h_ => h_.1))))) (Kd.R_lt (by (with_reducible repeat (first | apply Kd.R_alloc | apply Kd.R_drewN | apply Kd.R_drew)); exact (Kd.R_mono (Kd.R_far (p := ⟨gb674, 0, none⟩) (Kd.R_types HO669.out BK674.out (by decide)) (fun _ hk => hk.2) (.slice Ao43 t670.length co43)) (fun _ h_ => h_.1))))) (Kd.R_lt (by (with_reducible repeat (first | apply Kd.R_alloc | apply Kd.R_drewN | apply Kd.R_drew)); exact (Kd.R_mono (Kd.R_far (p := ⟨gb674, 0, none⟩) (Kd.R_types HO672.out BK674.out (by decide)) (fun _ hk => hk.2) (.slice Ao43 t670.length co43)) (fun _ h_ => h_.1))))) (below_size (by repeat (first | (with_reducible first | exact HB.out | apply below_alloc | apply pw_below_drewN | apply below_drew1 | refine below_set ?_ (Aside0.out (by assumption))) | exact HB.out)))); have n4_ := Aside0.mk (blk_below (g := gb660) (o := .cells #[.slice A0_0 l0_0.length c0_0] 41 (0, 0)) (by (with_reducible repeat (first | refine blk_drewN ?_ _ | refine blk_drew ?_ | refine blk_alloc ?_ _)); refine blk_far ?_ NB660_674.out _; (with_reducible repeat (first | refine blk_drewN ?_ _ | refine blk_drew ?_ | refine blk_alloc ?_ _)); exact BK660.out) hb); have n5_ := Aside0.mk (blk_below (g := gb661) (o := .cells #[.slice A1_0 l1_0.length c1_0] 41 (0, 0)) (by (with_reducible repeat (first | refine blk_drewN ?_ _ | refine blk_drew ?_ | refine blk_alloc ?_ _)); refine blk_far ?_ NB661_674.out _; (with_reducible repeat (first | refine blk_drewN ?_ _ | refine blk_drew ?_ | refine blk_alloc ?_ _)); exact BK661.out) hb); have n6_ := Aside0.mk (blk_below (g := gb674) (o := .cells #[.slice Ao43 t670.length co43] 44 (0, 0)) (by (with_reducible repeat (first | refine blk_drewN ?_ _ | refine blk_drew ?_ | refine blk_alloc ?_ _)); refine blk_put (cs := #[.slice none 0 0]) ?_ 0 _ rfl; (with_reducible repeat (first | refine blk_drewN ?_ _ | refine blk_drew ?_ | refine blk_alloc ?_ _)); exact BK674.out) hb); have n7_ := Aside0.mk (below_step (by repeat (first | (with_reducible first | exact HB.out | apply below_alloc | apply pw_below_drewN | apply below_drew1 | refine below_set ?_ (Aside0.out (by assumption))) | exact HB.out)) hb); clear HO666; clear HO669; clear HO672; clear BK660; clear BK661; clear BK674; clear HB; have HO666 := n0_; have HO669 := n1_; have HO672 := n2_; have HO677 := n3_; have BK660 := n4_; have BK661 := n5_; have BK674 := n6_; have HB := n7_; clear n0_ n1_ n2_ n3_ n4_ n5_ n6_ n7_; (try clear hb); (try clear hb2); (try clear hk); (try clear hi); (try clear ho0)) | ((with_reducible refine gate_dst (N := 12) rfl ?_); refine box_event ?hg (N := 12) ?hd (cs := #[.slice none 0 0]) (t := 44) ?hr ?_; (case hd => rfl); (case hg => rfl); (case hr => first | (go_simp; done) | (go_simp; rfl)); intro gb678 hg w48 hbox hb; have n0_ := Aside0.mk (Kd.R_below (re_ HO666.out) hb); have n1_ := Aside0.mk (Kd.R_below (re_ HO669.out) hb); have n2_ := Aside0.mk (Kd.R_below (re_ HO672.out) hb); have n3_ := Aside0.mk (Kd.R_below (re_ HO677.out) hb); have n4_ := Aside0.mk (blk_below (be_ BK660.out) hb); have n5_ := Aside0.mk (blk_below (be_ BK661.out) hb); have n6_ := Aside0.mk (blk_below (be_ BK674.out) hb); have n7_ := Aside0.mk (below_step (by repeat (first | (with_reducible first | exact HB.out | apply below_alloc | apply pw_below_drewN | apply below_drew1 | refine below_set ?_ (Aside0.out (by assumption))) | exact HB.out)) hb); have n8_ := Aside0.mk (hbox); have n9_ := Aside0.mk ((by rw [hg]; exact (below_size (by repeat (first | (with_reducible first | exact HB.out | apply below_alloc | apply pw_below_drewN | apply below_drew1 | refine below_set ?_ (Aside0.out (by assumption))) | exact HB.out))) : w.heap.size ≤ gb678)); have n10_ := Aside0.mk ((by rw [hg]; exact (below_size (by repeat (first | (with_reducible first | exact HB.out | apply below_alloc | apply pw_below_drewN | apply below_drew1 | refine below_set ?_ (Aside0.out (by assumption))) | exact HB.out))) : w.heap.size ≤ gb678)); have n11_ := Aside0.mk ((by rw [hg]; exact Nat.ne_of_lt (blk_lt (be_ BK660.out)) : gb660 ≠ gb678)); have n12_ := Aside0.mk ((by rw [hg]; exact Nat.ne_of_gt (blk_lt (be_ BK660.out)) : gb678 ≠ gb660)); have n13_ := Aside0.mk ((by rw [hg]; exact Nat.ne_of_lt (blk_lt (be_ BK661.out)) : gb661 ≠ gb678)); have n14_ := Aside0.mk ((by rw [hg]; exact Nat.ne_of_gt (blk_lt (be_ BK661.out)) : gb678 ≠ gb661)); have n15_ := Aside0.mk ((by rw [hg]; exact Nat.ne_of_lt (blk_lt (be_ BK674.out)) : gb674 ≠ gb678)); have n16_ := Aside0.mk ((by rw [hg]; exact Nat.ne_of_gt (blk_lt (be_ BK674.out)) : gb678 ≠ gb674)); clear HO666; clear HO669; clear HO672; clear HO677; clear BK660; clear BK661; clear BK674; clear HB; have HO666 := n0_; have HO669 := n1_; have HO672 := n2_; have HO677 := n3_; have BK660 := n4_; have BK661 := n5_; have BK674 := n6_; have HB := n7_; have BK678 := n8_; have GW678 := n9_; have GE678 := n10_; have NB660_678 := n11_; have NB678_660 := n12_; have NB661_678 := n13_; have NB678_661 := n14_; have NB674_678 := n15_; have NB678_674 := n16_; clear n0_ n1_ n2_ n3_ n4_ n5_ n6_ n7_ n8_ n9_ n10_ n11_ n12_ n13_ n14_ n15_ n16_; clear hb hbox hg; obtain ⟨Ao49, co49, eo49⟩ := Kd.R_slice HO677.out; subst eo49; have hnb50 := NB678_660.out; have hnc50 := NB660_678.out; have hnb51 := NB678_661.out; have hnc51 := NB661_678.out; have hnb52 := NB678_674.out; have hnc52 := NB674_678.out; have hcz53_0 : w48.cell? ⟨gb678, 0, none⟩ = some (.slice none 0 0) := (blk_cell BK678.out 0).trans rfl; have hfz53_0 := blk_frozen BK678.out 0; have hnb54 := NB661_674.out; have hnc54 := NB674_661.out; have hcz55_0 : w48.cell? ⟨gb661, 0, none⟩ = some (.slice A1_0 l1_0.length c1_0) := (blk_cell BK661.out 0).trans rfl; have hfz55_0 := blk_frozen BK661.out 0) | ((with_reducible refine gate_callee (f := 28) rfl ?_); refine goesL_ (some 44) rfl rfl Try.func28 (by kernel_rfl) rfl #[.agg #[.slice A1_0 l1_0.length c1_0]] rfl (by (try simp only [List.map_toArray, List.map_cons, List.map_nil]); first | done | rfl | (simp only [List.length_drop, List.length_take]; rfl)) ?_; (with_reducible refine (laws_toSemigroup.calls k _ _ l1_0 t679 _ ?side1 ?side2 A25.out).mono ?_); (case side1 => exact Kd.C_below HR1_0.out (by repeat (first | (with_reducible first | exact HB.out | apply below_alloc | apply pw_below_drewN | apply below_drew1 | refine below_set ?_ (Aside0.out (by assumption))) | exact HB.out))); (case side2 => exact HC1_0.out); rintro e w56 ⟨v680, rfl, ho0, hb⟩; refine ⟨_, rfl, ?_⟩; have n0_ := Aside0.mk (Kd.R_elder' (by (with_reducible repeat (first | apply Kd.R_alloc | apply Kd.R_drewN | apply Kd.R_drew)); exact (Kd.R_mono (Kd.R_far (p := ⟨gb678, 0, none⟩) (Kd.R_types HO666.out BK678.out (by decide)) (fun _ hk => hk.2) (.slice Ao49 t675.length co49)) (fun _ h_ => h_.1))) (Kd.R_base ho0) hb); have n1_ := Aside0.mk (Kd.R_elder' (by (with_reducible repeat (first | apply Kd.R_alloc | apply Kd.R_drewN | apply Kd.R_drew)); exact (Kd.R_mono (Kd.R_far (p := ⟨gb678, 0, none⟩) (Kd.R_types HO669.out BK678.out (by decide)) (fun _ hk => hk.2) (.slice Ao49 t675.length co49)) (fun _ h_ => h_.1))) (Kd.R_base ho0) hb); have n2_ := Aside0.mk (Kd.R_elder' (by (with_reducible repeat (first | apply Kd.R_alloc | apply Kd.R_drewN | apply Kd.R_drew)); exact (Kd.R_mono (Kd.R_far (p := ⟨gb678, 0, none⟩) (Kd.R_types HO672.out BK678.out (by decide)) (fun _ hk => hk.2) (.slice Ao49 t675.length co49)) (fun _ h_ => h_.1))) (Kd.R_base ho0) hb); have n3_ := Aside0.mk (Kd.R_elder' (by (with_reducible repeat (first | apply Kd.R_alloc | apply Kd.R_drewN | apply Kd.R_drew)); exact (Kd.R_mono (Kd.R_far (p := ⟨gb678, 0, none⟩) (Kd.R_types HO677.out BK678.out (by decide)) (fun _ hk => hk.2) (.slice Ao49 t675.length co49)) (fun _ h_ => h_.1))) (Kd.R_base ho0) hb); have n4_ := Aside0.mk (Kd.R_lower (Kd.R_new' (Kd.R_new' (Kd.R_new' (Kd.R_new' ho0 (Kd.R_lt (by (with_reducible repeat (first | apply Kd.R_alloc | apply Kd.R_drewN | apply Kd.R_drew)); exact (Kd.R_mono (Kd.R_far (p := ⟨gb678, 0, none⟩) (Kd.R_types HO666.out BK678.out (by decide)) (fun _ hk => hk.2) (.slice Ao49 t675.length co49)) (fun _ h_ => h_.1))))) (Kd.R_lt (by (with_reducible repeat (first | apply Kd.R_alloc | apply Kd.R_drewN | apply Kd.R_drew)); exact (Kd.R_mono (Kd.R_far (p := ⟨gb678, 0, none⟩) (Kd.R_types HO669.out BK678.out (by decide)) (fun _ hk => hk.2) (.slice Ao49 t675.length co49)) (fun _ h_ => h_.1))))) (Kd.R_lt (by (with_reducible repeat (first | apply Kd.R_alloc | apply Kd.R_drewN | apply Kd.R_drew)); exact (Kd.R_mono (Kd.R_far (p := ⟨gb678, 0, none⟩) (Kd.R_types HO672.out BK678.out (by decide)) (fun _ hk => hk.2) (.slice Ao49 t675.length co49)) (fun _ h_ => h_.1))))) (Kd.R_lt (by (with_reducible repeat (first | apply Kd.R_alloc | apply Kd.R_drewN | apply Kd.R_drew)); exact (Kd.R_mono (Kd.R_far (p := ⟨gb678, 0, none⟩) (Kd.R_types HO677.out BK678.out (by decide)) (fun _ hk => hk.2) (.slice Ao49 t675.length co49)) (fun _ h_ => h_.1))))) (below_size (by repeat (first | (with_reducible first | exact HB.out | apply below_alloc | apply pw_below_drewN | apply below_drew1 | refine below_set ?_ (Aside0.out (by assumption))) | exact HB.out)))); have n5_ := Aside0.mk (blk_below (g := gb660) (o := .cells #[.slice A0_0 l0_0.length c0_0] 41 (0, 0)) (by (with_reducible repeat (first | refine blk_drewN ?_ _ | refine blk_drew ?_ | refine blk_alloc ?_ _)); refine blk_far ?_ NB660_678.out _; (with_reducible repeat (first | refine blk_drewN ?_ _ | refine blk_drew ?_ | refine blk_alloc ?_ _)); exact BK660.out) hb); have n6_ := Aside0.mk (blk_below (g := gb661) (o := .cells #[.slice A1_0 l1_0.length c1_0] 41 (0, 0)) (by (with_reducible repeat (first | refine blk_drewN ?_ _ | refine blk_drew ?_ | refine blk_alloc ?_ _)); refine blk_far ?_ NB661_678.out _; (with_reducible repeat (first | refine blk_drewN ?_ _ | refine blk_drew ?_ | refine blk_alloc ?_ _)); exact BK661.out) hb); have n7_ := Aside0.mk (blk_below (g := gb674) (o := .cells #[.slice Ao43 t670.length co43] 44 (0, 0)) (by (with_reducible repeat (first | refine blk_drewN ?_ _ | refine blk_drew ?_ | refine blk_alloc ?_ _)); refine blk_far ?_ NB674_678.out _; (with_reducible repeat (first | refine blk_drewN ?_ _ | refine blk_drew ?_ | refine blk_alloc ?_ _)); exact BK674.out) hb); have n8_ := Aside0.mk (blk_below (g := gb678) (o := .cells #[.slice Ao49 t675.length co49] 44 (0, 0)) (by (with_reducible repeat (first | refine blk_drewN ?_ _ | refine blk_drew ?_ | refine blk_alloc ?_ _)); refine blk_put (cs := #[.slice none 0 0]) ?_ 0 _ rfl; (with_reducible repeat (first | refine blk_drewN ?_ _ | refine blk_drew ?_ | refine blk_alloc ?_ _)); exact BK678.out) hb); have n9_ := Aside0.mk (below_step (by repeat (first | (with_reducible first | exact HB.out | apply below_alloc | apply pw_below_drewN | apply below_drew1 | refine below_set ?_ (Aside0.out (by assumption))) | exact HB.out)) hb); clear HO666; clear HO669; clear HO672; clear HO677; clear BK660; clear BK661; clear BK674; clear BK678; clear HB; have HO666 := n0_; have HO669 := n1_; have HO672 := n2_; have HO677 := n3_; have HO681 := n4_; have BK660 := n5_; have BK661 := n6_; have BK674 := n7_; have BK678 := n8_; have HB := n9_; clear n0_ n1_ n2_ n3_ n4_ n5_ n6_ n7_ n8_ n9_; (try clear hb); (try clear hb2); (try clear hk); (try clear hi); (try clear ho0)) | ((with_reducible refine gate_dst (N := 13) rfl ?_); refine box_event ?hg (N := 13) ?hd (cs := #[.slice none 0 0]) (t := 44) ?hr ?_; (case hd => rfl); (case hg => rfl); (case hr => first | (go_simp; done) | (go_simp; rfl)); intro gb682 hg w57 hbox hb; have n0_ := Aside0.mk (Kd.R_below (re_ HO666.out) hb); have n1_ := Aside0.mk (Kd.R_below (re_ HO669.out) hb); have n2_ := Aside0.mk (Kd.R_below (re_ HO672.out) hb); have n3_ := Aside0.mk (Kd.R_below (re_ HO677.out) hb); have n4_ := Aside0.mk (Kd.R_below (re_ HO681.out) hb); have n5_ := Aside0.mk (blk_below (be_ BK660.out) hb); have n6_ := Aside0.mk (blk_below (be_ BK661.out) hb); have n7_ := Aside0.mk (blk_below (be_ BK674.out) hb); have n8_ := Aside0.mk (blk_below (be_ BK678.out) hb); have n9_ := Aside0.mk (below_step (by repeat (first | (with_reducible first | exact HB.out | apply below_alloc | apply pw_below_drewN | apply below_drew1 | refine below_set ?_ (Aside0.out (by assumption))) | exact HB.out)) hb); have n10_ := Aside0.mk (hbox); have n11_ := Aside0.mk ((by rw [hg]; exact (below_size (by repeat (first | (with_reducible first | exact HB.out | apply below_alloc | apply pw_below_drewN | apply below_drew1 | refine below_set ?_ (Aside0.out (by assumption))) | exact HB.out))) : w.heap.size ≤ gb682)); have n12_ := Aside0.mk ((by rw [hg]; exact (below_size (by repeat (first | (with_reducible first | exact HB.out | apply below_alloc | apply pw_below_drewN | apply below_drew1 | refine below_set ?_ (Aside0.out (by assumption))) | exact HB.out))) : w.heap.size ≤ gb682)); have n13_ := Aside0.mk ((by rw [hg]; exact Nat.ne_of_lt (blk_lt (be_ BK660.out)) : gb660 ≠ gb682)); have n14_ := Aside0.mk ((by rw [hg]; exact Nat.ne_of_gt (blk_lt (be_ BK660.out)) : gb682 ≠ gb660)); have n15_ := Aside0.mk ((by rw [hg]; exact Nat.ne_of_lt (blk_lt (be_ BK661.out)) : gb661 ≠ gb682)); have n16_ := Aside0.mk ((by rw [hg]; exact Nat.ne_of_gt (blk_lt (be_ BK661.out)) : gb682 ≠ gb661)); have n17_ := Aside0.mk ((by rw [hg]; exact Nat.ne_of_lt (blk_lt (be_ BK674.out)) : gb674 ≠ gb682)); have n18_ := Aside0.mk ((by rw [hg]; exact Nat.ne_of_gt (blk_lt (be_ BK674.out)) : gb682 ≠ gb674)); have n19_ := Aside0.mk ((by rw [hg]; exact Nat.ne_of_lt (blk_lt (be_ BK678.out)) : gb678 ≠ gb682)); have n20_ := Aside0.mk ((by rw [hg]; exact Nat.ne_of_gt (blk_lt (be_ BK678.out)) : gb682 ≠ gb678)); clear HO666; clear HO669; clear HO672; clear HO677; clear HO681; clear BK660; clear BK661; clear BK674; clear BK678; clear HB; have HO666 := n0_; have HO669 := n1_; have HO672 := n2_; have HO677 := n3_; have HO681 := n4_; have BK660 := n5_; have BK661 := n6_; have BK674 := n7_; have BK678 := n8_; have HB := n9_; have BK682 := n10_; have GW682 := n11_; have GE682 := n12_; have NB660_682 := n13_; have NB682_660 := n14_; have NB661_682 := n15_; have NB682_661 := n16_; have NB674_682 := n17_; have NB682_674 := n18_; have NB678_682 := n19_; have NB682_678 := n20_; clear n0_ n1_ n2_ n3_ n4_ n5_ n6_ n7_ n8_ n9_ n10_ n11_ n12_ n13_ n14_ n15_ n16_ n17_ n18_ n19_ n20_; clear hb hbox hg; obtain ⟨Ao58, co58, eo58⟩ := Kd.R_slice HO681.out; subst eo58; have hnb59 := NB682_660.out; have hnc59 := NB660_682.out; have hnb60 := NB682_661.out; have hnc60 := NB661_682.out; have hnb61 := NB682_674.out; have hnc61 := NB674_682.out; have hnb62 := NB682_678.out; have hnc62 := NB678_682.out; have hcz63_0 : w57.cell? ⟨gb682, 0, none⟩ = some (.slice none 0 0) := (blk_cell BK682.out 0).trans rfl; have hfz63_0 := blk_frozen BK682.out 0; have hcz64_0 : w57.cell? ⟨gb678, 0, none⟩ = some (.slice Ao49 t675.length co49) := (blk_cell BK678.out 0).trans rfl; have hfz64_0 := blk_frozen BK678.out 0) | ((with_reducible refine gate_callee (f := 33) rfl ?_); refine goesL_ (some 50) rfl rfl Try.func33 (by kernel_rfl) rfl #[.agg #[.slice Ao49 t675.length co49], .agg #[.slice Ao58 t679.length co58], .int .i64 a2, .int .i64 a3] rfl (by (try simp only [List.map_toArray, List.map_cons, List.map_nil]); first | done | rfl | (simp only [List.length_drop, List.length_take]; rfl)) ?_; (with_reducible refine (impl_GlueOf.calls k _ _ t675 _ _ t679 a2 a3 t683 t686 _ ?side1 ?side2 ?side3 ?side4 A26.out).mono ?_); (case side1 => refine (Kd.R_reads' (e := 3) (base := w.heap.size) (ok := fun k_ => ((((True ∧ some k_ ≠ (v665 : Value).ownBlock) ∧ some k_ ≠ (v668 : Value).ownBlock) ∧ some k_ ≠ (.slice Ao43 t670.length co43 : Value).ownBlock) ∧ some k_ ≠ (.slice Ao58 t679.length co58 : Value).ownBlock)) (n := t675.length) (c := co49) ?_).2.2; exact (by (with_reducible repeat (first | apply Kd.R_alloc | apply Kd.R_drewN | apply Kd.R_drew)); exact (Kd.R_mono (Kd.R_far (p := ⟨gb682, 0, none⟩) (Kd.R_types HO677.out BK682.out (by decide)) (fun _ hk => hk.2) (.slice Ao58 t679.length co58)) (fun _ h_ => h_.1)))); (case side2 => exact (Kd.R_reads' HO677.out).2.1); (case side3 => refine (Kd.R_reads' (e := 3) (base := w.heap.size) (ok := fun k_ => ((((True ∧ some k_ ≠ (v665 : Value).ownBlock) ∧ some k_ ≠ (v668 : Value).ownBlock) ∧ some k_ ≠ (.slice Ao43 t670.length co43 : Value).ownBlock) ∧ some k_ ≠ (.slice Ao49 t675.length co49 : Value).ownBlock)) (n := t679.length) (c := co58) ?_).2.2; exact (by (with_reducible repeat (first | apply Kd.R_alloc | apply Kd.R_drewN | apply Kd.R_drew)); exact (Kd.R_mono (Kd.R_far (p := ⟨gb682, 0, none⟩) (Kd.R_types HO681.out BK682.out (by decide)) (fun _ hk => hk.2) (.slice Ao58 t679.length co58)) (fun _ h_ => h_.1)))); (case side4 => exact (Kd.R_reads' HO681.out).2.1); rintro e w65 ⟨v684, rfl, ho0, hb⟩; refine ⟨_, rfl, ?_⟩; have n0_ := Aside0.mk (Kd.R_elder' (by (with_reducible repeat (first | apply Kd.R_alloc | apply Kd.R_drewN | apply Kd.R_drew)); exact (Kd.R_mono (Kd.R_far (p := ⟨gb682, 0, none⟩) (Kd.R_types HO666.out BK682.out (by decide)) (fun _ hk => hk.2) (.slice Ao58 t679.length co58)) (fun _ h_ => h_.1))) (Kd.R_base ho0) hb); have n1_ := Aside0.mk (Kd.R_elder' (by (with_reducible repeat (first | apply Kd.R_alloc | apply Kd.R_drewN | apply Kd.R_drew)); exact (Kd.R_mono (Kd.R_far (p := ⟨gb682, 0, none⟩) (Kd.R_types HO669.out BK682.out (by decide)) (fun _ hk => hk.2) (.slice Ao58 t679.length co58)) (fun _ h_ => h_.1))) (Kd.R_base ho0) hb); have n2_ := Aside0.mk (Kd.R_elder' (by (with_reducible repeat (first | apply Kd.R_alloc | apply Kd.R_drewN | apply Kd.R_drew)); exact (Kd.R_mono (Kd.R_far (p := ⟨gb682, 0, none⟩) (Kd.R_types HO672.out BK682.out (by decide)) (fun _ hk => hk.2) (.slice Ao58 t679.length co58)) (fun _ h_ => h_.1))) (Kd.R_base ho0) hb); have n3_ := Aside0.mk (Kd.R_elder' (by (with_reducible repeat (first | apply Kd.R_alloc | apply Kd.R_drewN | apply Kd.R_drew)); exact (Kd.R_mono (Kd.R_far (p := ⟨gb682, 0, none⟩) (Kd.R_types HO677.out BK682.out (by decide)) (fun _ hk => hk.2) (.slice Ao58 t679.length co58)) (fun _ h_ => h_.1))) (Kd.R_base ho0) hb); have n4_ := Aside0.mk (Kd.R_elder' (by (with_reducible repeat (first | apply Kd.R_alloc | apply Kd.R_drewN | apply Kd.R_drew)); exact (Kd.R_mono (Kd.R_far (p := ⟨gb682, 0, none⟩) (Kd.R_types HO681.out BK682.out (by decide)) (fun _ hk => hk.2) (.slice Ao58 t679.length co58)) (fun _ h_ => h_.1))) (Kd.R_base ho0) hb); have n5_ := Aside0.mk (Kd.R_lower (Kd.R_new' (Kd.R_new' (Kd.R_new' (Kd.R_new' (Kd.R_new' ho0 (Kd.R_lt (by (with_reducible repeat (first | apply Kd.R_alloc | apply Kd.R_drewN | apply Kd.R_drew)); exact (Kd.R_mono (Kd.R_far (p := ⟨gb682, 0, none⟩) (Kd.R_types HO666.out BK682.out (by decide)) (fun _ hk => hk.2) (.slice Ao58 t679.length co58)) (fun _ h_ => h_.1))))) (Kd.R_lt (by (with_reducible repeat (first | apply Kd.R_alloc | apply Kd.R_drewN | apply Kd.R_drew)); exact (Kd.R_mono (Kd.R_far (p := ⟨gb682, 0, none⟩) (Kd.R_types HO669.out BK682.out (by decide)) (fun _ hk => hk.2) (.slice Ao58 t679.length co58)) (fun _ h_ => h_.1))))) (Kd.R_lt (by (with_reducible repeat (first | apply Kd.R_alloc | apply Kd.R_drewN | apply Kd.R_drew)); exact (Kd.R_mono (Kd.R_far (p := ⟨gb682, 0, none⟩) (Kd.R_types HO672.out BK682.out (by decide)) (fun _ hk => hk.2) (.slice Ao58 t679.length co58)) (fun _ h_ => h_.1))))) (Kd.R_lt (by (with_reducible repeat (first | apply Kd.R_alloc | apply Kd.R_drewN | apply Kd.R_drew)); exact (Kd.R_mono (Kd.R_far (p := ⟨gb682, 0, none⟩) (Kd.R_types HO677.out BK682.out (by decide)) (fun _ hk => hk.2) (.slice Ao58 t679.length co58)) (fun _ h_ => h_.1))))) (Kd.R_lt (by (with_reducible repeat (first | apply Kd.R_alloc | apply Kd.R_drewN | apply Kd.R_drew)); exact (Kd.R_mono (Kd.R_far (p := ⟨gb682, 0, none⟩) (Kd.R_types HO681.out BK682.out (by decide)) (fun _ hk => hk.2) (.slice Ao58 t679.length co58)) (fun _ h_ => h_.1))))) (below_size (by repeat (first | (with_reducible first | exact HB.out | apply below_alloc | apply pw_below_drewN | apply below_drew1 | refine below_set ?_ (Aside0.out (by assumption))) | exact HB.out)))); have n6_ := Aside0.mk (blk_below (g := gb660) (o := .cells #[.slice A0_0 l0_0.length c0_0] 41 (0, 0)) (by (with_reducible repeat (first | refine blk_drewN ?_ _ | refine blk_drew ?_ | refine blk_alloc ?_ _)); refine blk_far ?_ NB660_682.out _; (with_reducible repeat (first | refine blk_drewN ?_ _ | refine blk_drew ?_ | refine blk_alloc ?_ _)); exact BK660.out) hb); have n7_ := Aside0.mk (blk_below (g := gb661) (o := .cells #[.slice A1_0 l1_0.length c1_0] 41 (0, 0)) (by (with_reducible repeat (first | refine blk_drewN ?_ _ | refine blk_drew ?_ | refine blk_alloc ?_ _)); refine blk_far ?_ NB661_682.out _; (with_reducible repeat (first | refine blk_drewN ?_ _ | refine blk_drew ?_ | refine blk_alloc ?_ _)); exact BK661.out) hb); have n8_ := Aside0.mk (blk_below (g := gb674) (o := .cells #[.slice Ao43 t670.length co43] 44 (0, 0)) (by (with_reducible repeat (first | refine blk_drewN ?_ _ | refine blk_drew ?_ | refine blk_alloc ?_ _)); refine blk_far ?_ NB674_682.out _; (with_reducible repeat (first | refine blk_drewN ?_ _ | refine blk_drew ?_ | refine blk_alloc ?_ _)); exact BK674.out) hb); have n9_ := Aside0.mk (blk_below (g := gb678) (o := .cells #[.slice Ao49 t675.length co49] 44 (0, 0)) (by (with_reducible repeat (first | refine blk_drewN ?_ _ | refine blk_drew ?_ | refine blk_alloc ?_ _)); refine blk_far ?_ NB678_682.out _; (with_reducible repeat (first | refine blk_drewN ?_ _ | refine blk_drew ?_ | refine blk_alloc ?_ _)); exact BK678.out) hb); have n10_ := Aside0.mk (blk_below (g := gb682) (o := .cells #[.slice Ao58 t679.length co58] 44 (0, 0)) (by (with_reducible repeat (first | refine blk_drewN ?_ _ | refine blk_drew ?_ | refine blk_alloc ?_ _)); refine blk_put (cs := #[.slice none 0 0]) ?_ 0 _ rfl; (with_reducible repeat (first | refine blk_drewN ?_ _ | refine blk_drew ?_ | refine blk_alloc ?_ _)); exact BK682.out) hb); have n11_ := Aside0.mk (below_step (by repeat (first | (with_reducible first | exact HB.out | apply below_alloc | apply pw_below_drewN | apply below_drew1 | refine below_set ?_ (Aside0.out (by assumption))) | exact HB.out)) hb); clear HO666; clear HO669; clear HO672; clear HO677; clear HO681; clear BK660; clear BK661; clear BK674; clear BK678; clear BK682; clear HB; have HO666 := n0_; have HO669 := n1_; have HO672 := n2_; have HO677 := n3_; have HO681 := n4_; have HO685 := n5_; have BK660 := n6_; have BK661 := n7_; have BK674 := n8_; have BK678 := n9_; have BK682 := n10_; have HB := n11_; clear n0_ n1_ n2_ n3_ n4_ n5_ n6_ n7_ n8_ n9_ n10_ n11_; (try clear hb); (try clear hb2); (try clear hk); (try clear hi); (try clear ho0)) | ((with_reducible refine gate_dst (N := 14) rfl ?_); refine box_event ?hg (N := 14) ?hd (cs := #[.slice none 0 0]) (t := 44) ?hr ?_; (case hd => rfl); (case hg => rfl); (case hr => first | (go_simp; done) | (go_simp; rfl)); intro gb687 hg w66 hbox hb; have n0_ := Aside0.mk (Kd.R_below (re_ HO666.out) hb); have n1_ := Aside0.mk (Kd.R_below (re_ HO669.out) hb); have n2_ := Aside0.mk (Kd.R_below (re_ HO672.out) hb); have n3_ := Aside0.mk (Kd.R_below (re_ HO677.out) hb); have n4_ := Aside0.mk (Kd.R_below (re_ HO681.out) hb); have n5_ := Aside0.mk (Kd.R_below (re_ HO685.out) hb); have n6_ := Aside0.mk (blk_below (be_ BK660.out) hb); have n7_ := Aside0.mk (blk_below (be_ BK661.out) hb); have n8_ := Aside0.mk (blk_below (be_ BK674.out) hb); have n9_ := Aside0.mk (blk_below (be_ BK678.out) hb); have n10_ := Aside0.mk (blk_below (be_ BK682.out) hb); have n11_ := Aside0.mk (below_step (by repeat (first | (with_reducible first | exact HB.out | apply below_alloc | apply pw_below_drewN | apply below_drew1 | refine below_set ?_ (Aside0.out (by assumption))) | exact HB.out)) hb); have n12_ := Aside0.mk (hbox); have n13_ := Aside0.mk ((by rw [hg]; exact (below_size (by repeat (first | (with_reducible first | exact HB.out | apply below_alloc | apply pw_below_drewN | apply below_drew1 | refine below_set ?_ (Aside0.out (by assumption))) | exact HB.out))) : w.heap.size ≤ gb687)); have n14_ := Aside0.mk ((by rw [hg]; exact (below_size (by repeat (first | (with_reducible first | exact HB.out | apply below_alloc | apply pw_below_drewN | apply below_drew1 | refine below_set ?_ (Aside0.out (by assumption))) | exact HB.out))) : w.heap.size ≤ gb687)); have n15_ := Aside0.mk ((by rw [hg]; exact Nat.ne_of_lt (blk_lt (be_ BK660.out)) : gb660 ≠ gb687)); have n16_ := Aside0.mk ((by rw [hg]; exact Nat.ne_of_gt (blk_lt (be_ BK660.out)) : gb687 ≠ gb660)); have n17_ := Aside0.mk ((by rw [hg]; exact Nat.ne_of_lt (blk_lt (be_ BK661.out)) : gb661 ≠ gb687)); have n18_ := Aside0.mk ((by rw [hg]; exact Nat.ne_of_gt (blk_lt (be_ BK661.out)) : gb687 ≠ gb661)); have n19_ := Aside0.mk ((by rw [hg]; exact Nat.ne_of_lt (blk_lt (be_ BK674.out)) : gb674 ≠ gb687)); have n20_ := Aside0.mk ((by rw [hg]; exact Nat.ne_of_gt (blk_lt (be_ BK674.out)) : gb687 ≠ gb674)); have n21_ := Aside0.mk ((by rw [hg]; exact Nat.ne_of_lt (blk_lt (be_ BK678.out)) : gb678 ≠ gb687)); have n22_ := Aside0.mk ((by rw [hg]; exact Nat.ne_of_gt (blk_lt (be_ BK678.out)) : gb687 ≠ gb678)); have n23_ := Aside0.mk ((by rw [hg]; exact Nat.ne_of_lt (blk_lt (be_ BK682.out)) : gb682 ≠ gb687)); have n24_ := Aside0.mk ((by rw [hg]; exact Nat.ne_of_gt (blk_lt (be_ BK682.out)) : gb687 ≠ gb682)); clear HO666; clear HO669; clear HO672; clear HO677; clear HO681; clear HO685; clear BK660; clear BK661; clear BK674; clear BK678; clear BK682; clear HB; have HO666 := n0_; have HO669 := n1_; have HO672 := n2_; have HO677 := n3_; have HO681 := n4_; have HO685 := n5_; have BK660 := n6_; have BK661 := n7_; have BK674 := n8_; have BK678 := n9_; have BK682 := n10_; have HB := n11_; have BK687 := n12_; have GW687 := n13_; have GE687 := n14_; have NB660_687 := n15_; have NB687_660 := n16_; have NB661_687 := n17_; have NB687_661 := n18_; have NB674_687 := n19_; have NB687_674 := n20_; have NB678_687 := n21_; have NB687_678 := n22_; have NB682_687 := n23_; have NB687_682 := n24_; clear n0_ n1_ n2_ n3_ n4_ n5_ n6_ n7_ n8_ n9_ n10_ n11_ n12_ n13_ n14_ n15_ n16_ n17_ n18_ n19_ n20_ n21_ n22_ n23_ n24_; clear hb hbox hg; obtain ⟨Ao67, co67, eo67⟩ := Kd.R_slice HO685.out; subst eo67; have hnb68 := NB687_660.out; have hnc68 := NB660_687.out; have hnb69 := NB687_661.out; have hnc69 := NB661_687.out; have hnb70 := NB687_674.out; have hnc70 := NB674_687.out; have hnb71 := NB687_678.out; have hnc71 := NB678_687.out; have hnb72 := NB687_682.out; have hnc72 := NB682_687.out; have hcz73_0 : w66.cell? ⟨gb687, 0, none⟩ = some (.slice none 0 0) := (blk_cell BK687.out 0).trans rfl; have hfz73_0 := blk_frozen BK687.out 0))
     (try simp only [Act.put, z1_, z2_, z3_])
     go_cut [61] (fun v61 wc => ∃ (kq : Nat) (x61_26 : Bool), v61 = .bool x61_26 ∧ Aside0 (laws_FnExactGlueOf.j0 kq a2 a3 t673 t686 x61_26 l0_0 l1_0 t670 t675 t679 t683 = some r) ∧ Aside0 (kq ≤ k) ∧ Aside0 (Kd.R (Kd.int .i64) 3 wc w.heap.size (fun k_ => some k_ ≠ ((.slice Ao49 t675.length co49) : Value).ownBlock ∧ some k_ ≠ ((.slice Ao58 t679.length co58) : Value).ownBlock ∧ some k_ ≠ ((.slice Ao67 t683.length co67) : Value).ownBlock) (.slice Ao43 t670.length co43) t670) ∧ Aside0 (Kd.R (Kd.int .i64) 3 wc w.heap.size (fun k_ => some k_ ≠ ((.slice Ao43 t670.length co43) : Value).ownBlock ∧ some k_ ≠ ((.slice Ao58 t679.length co58) : Value).ownBlock ∧ some k_ ≠ ((.slice Ao67 t683.length co67) : Value).ownBlock) (.slice Ao49 t675.length co49) t675) ∧ Aside0 (Kd.R (Kd.int .i64) 3 wc w.heap.size (fun k_ => some k_ ≠ ((.slice Ao43 t670.length co43) : Value).ownBlock ∧ some k_ ≠ ((.slice Ao49 t675.length co49) : Value).ownBlock ∧ some k_ ≠ ((.slice Ao67 t683.length co67) : Value).ownBlock) (.slice Ao58 t679.length co58) t679) ∧ Aside0 (Kd.R (Kd.int .i64) 3 wc w.heap.size (fun k_ => some k_ ≠ ((.slice Ao43 t670.length co43) : Value).ownBlock ∧ some k_ ≠ ((.slice Ao49 t675.length co49) : Value).ownBlock ∧ some k_ ≠ ((.slice Ao58 t679.length co58) : Value).ownBlock) (.slice Ao67 t683.length co67) t683) ∧ Aside0 (wc.heap[gb660]? = some (.cells #[(.slice A0_0 l0_0.length c0_0)] 41 (0, 0))) ∧ Aside0 (wc.heap[gb661]? = some (.cells #[(.slice A1_0 l1_0.length c1_0)] 41 (0, 0))) ∧ Aside0 (wc.heap[gb674]? = some (.cells #[(.slice Ao43 t670.length co43)] 44 (0, 0))) ∧ Aside0 (wc.heap[gb678]? = some (.cells #[(.slice Ao49 t675.length co49)] 44 (0, 0))) ∧ Aside0 (wc.heap[gb682]? = some (.cells #[(.slice Ao58 t679.length co58)] 44 (0, 0))) ∧ Aside0 (wc.heap[gb687]? = some (.cells #[(.slice Ao67 t683.length co67)] 44 (0, 0))) ∧ Aside0 (Below w.heap.size w wc))
     case first =>
      have H := HC27.out
      clear HC27
      replace H := Option.bind_eq_some_iff.mp H
      obtain ⟨t688, A740, H⟩ := H
      replace H : (if t688 = true then (laws_FnExactGlueOf.j0 k a2 a3 t673 t686 (t686 != t673) l0_0 l1_0 t670 t675 t679 t683) else (laws_FnExactGlueOf.j0 k a2 a3 t673 t686 true l0_0 l1_0 t670 t675 t679 t683)) = some r := H
      have A74 := Aside0.mk A740
      clear A740
      by_cases c75 : t688 = true
      · subst c75
        have H1 : (laws_FnExactGlueOf.j0 k a2 a3 t673 t686 (t686 != t673) l0_0 l1_0 t670 t675 t679 t683) = some r := by rw [if_pos rfl] at H; exact H
        clear H
        have H := H1
        clear H1
        as_aux_lemma =>
         have H' := Aside0.mk H
         clear H
         have hnb76 := NB687_660.out
         have hnc76 := NB660_687.out
         have hnb77 := NB687_661.out
         have hnc77 := NB661_687.out
         have hnb78 := NB687_674.out
         have hnc78 := NB674_687.out
         have hnb79 := NB687_678.out
         have hnc79 := NB678_687.out
         have hnb80 := NB687_682.out
         have hnc80 := NB682_687.out
         have hcz81_0 : w66.cell? ⟨gb687, 0, none⟩ = some (.slice none 0 0) := (blk_cell BK687.out 0).trans rfl
         have hfz81_0 := blk_frozen BK687.out 0
         have hnb82 := NB674_660.out
         have hnc82 := NB660_674.out
         have hnb83 := NB674_661.out
         have hnc83 := NB661_674.out
         have hnb84 := NB674_678.out
         have hnc84 := NB678_674.out
         have hnb85 := NB674_682.out
         have hnc85 := NB682_674.out
         have hcz86_0 : w66.cell? ⟨gb674, 0, none⟩ = some (.slice Ao43 t670.length co43) := (blk_cell BK674.out 0).trans rfl
         have hfz86_0 := blk_frozen BK674.out 0
         go_wp2_with (first | ((with_reducible refine gate_callee (f := 30) rfl ?_); refine goesL_ (some 55) rfl rfl Try.func30 (by kernel_rfl) rfl #[.agg #[.slice Ao67 t683.length co67], .agg #[.slice Ao43 t670.length co43]] rfl (by (try simp only [List.map_toArray, List.map_cons, List.map_nil]); first | done | rfl | (simp only [List.length_drop, List.length_take]; rfl)) ?_; (with_reducible refine (laws_eqSemigroup.calls k _ _ t683 _ _ t670 true _ ?side1 ?side2 ?side3 ?side4 A74.out).mono ?_); (case side1 => refine (Kd.R_reads' (e := 3) (base := w.heap.size) (ok := fun k_ => (((((True ∧ some k_ ≠ (v665 : Value).ownBlock) ∧ some k_ ≠ (v668 : Value).ownBlock) ∧ some k_ ≠ (.slice Ao43 t670.length co43 : Value).ownBlock) ∧ some k_ ≠ (.slice Ao49 t675.length co49 : Value).ownBlock) ∧ some k_ ≠ (.slice Ao58 t679.length co58 : Value).ownBlock)) (n := t683.length) (c := co67) ?_).2.2; exact (by (with_reducible repeat (first | apply Kd.R_alloc | apply Kd.R_drewN | apply Kd.R_drew)); exact (Kd.R_mono (Kd.R_far (p := ⟨gb687, 0, none⟩) (Kd.R_types HO685.out BK687.out (by decide)) (fun _ hk => hk.2) (.slice Ao67 t683.length co67)) (fun _ h_ => h_.1)))); (case side2 => exact (Kd.R_reads' HO685.out).2.1); (case side3 => refine (Kd.R_reads' (e := 3) (base := w.heap.size) (ok := fun k_ => ((((some k_ ≠ (v665 : Value).ownBlock ∧ some k_ ≠ (v668 : Value).ownBlock) ∧ some k_ ≠ (.slice Ao49 t675.length co49 : Value).ownBlock) ∧ some k_ ≠ (.slice Ao58 t679.length co58 : Value).ownBlock) ∧ some k_ ≠ (.slice Ao67 t683.length co67 : Value).ownBlock)) (n := t670.length) (c := co43) ?_).2.2; exact (by (with_reducible repeat (first | apply Kd.R_alloc | apply Kd.R_drewN | apply Kd.R_drew)); exact (Kd.R_mono (Kd.R_far (p := ⟨gb687, 0, none⟩) (Kd.R_types HO672.out BK687.out (by decide)) (fun _ hk => hk.2) (.slice Ao67 t683.length co67)) (fun _ h_ => h_.1)))); (case side4 => exact (Kd.R_reads' HO672.out).2.1); rintro e w87 ⟨rfl, hb⟩; refine ⟨_, rfl, ?_⟩; have n0_ := Aside0.mk (Kd.R_below (by (with_reducible repeat (first | apply Kd.R_alloc | apply Kd.R_drewN | apply Kd.R_drew)); exact (Kd.R_mono (Kd.R_far (p := ⟨gb687, 0, none⟩) (Kd.R_types HO666.out BK687.out (by decide)) (fun _ hk => hk.2) (.slice Ao67 t683.length co67)) (fun _ h_ => h_.1))) hb); have n1_ := Aside0.mk (Kd.R_below (by (with_reducible repeat (first | apply Kd.R_alloc | apply Kd.R_drewN | apply Kd.R_drew)); exact (Kd.R_mono (Kd.R_far (p := ⟨gb687, 0, none⟩) (Kd.R_types HO669.out BK687.out (by decide)) (fun _ hk => hk.2) (.slice Ao67 t683.length co67)) (fun _ h_ => h_.1))) hb); have n2_ := Aside0.mk (Kd.R_below (by (with_reducible repeat (first | apply Kd.R_alloc | apply Kd.R_drewN | apply Kd.R_drew)); exact (Kd.R_mono (Kd.R_far (p := ⟨gb687, 0, none⟩) (Kd.R_types HO672.out BK687.out (by decide)) (fun _ hk => hk.2) (.slice Ao67 t683.length co67)) (fun _ h_ => h_.1))) hb); have n3_ := Aside0.mk (Kd.R_below (by (with_reducible repeat (first | apply Kd.R_alloc | apply Kd.R_drewN | apply Kd.R_drew)); exact (Kd.R_mono (Kd.R_far (p := ⟨gb687, 0, none⟩) (Kd.R_types HO677.out BK687.out (by decide)) (fun _ hk => hk.2) (.slice Ao67 t683.length co67)) (fun _ h_ => h_.1))) hb); have n4_ := Aside0.mk (Kd.R_below (by (with_reducible repeat (first | apply Kd.R_alloc | apply Kd.R_drewN | apply Kd.R_drew)); exact (Kd.R_mono (Kd.R_far (p := ⟨gb687, 0, none⟩) (Kd.R_types HO681.out BK687.out (by decide)) (fun _ hk => hk.2) (.slice Ao67 t683.length co67)) (fun _ h_ => h_.1))) hb); have n5_ := Aside0.mk (Kd.R_below (by (with_reducible repeat (first | apply Kd.R_alloc | apply Kd.R_drewN | apply Kd.R_drew)); exact (Kd.R_mono (Kd.R_far (p := ⟨gb687, 0, none⟩) (Kd.R_types HO685.out BK687.out (by decide)) (fun _ hk => hk.2) (.slice Ao67 t683.length co67)) (fun _ h_ => h_.1))) hb); have n6_ := Aside0.mk (blk_below (g := gb660) (o := .cells #[.slice A0_0 l0_0.length c0_0] 41 (0, 0)) (by (with_reducible repeat (first | refine blk_drewN ?_ _ | refine blk_drew ?_ | refine blk_alloc ?_ _)); refine blk_far ?_ NB660_687.out _; (with_reducible repeat (first | refine blk_drewN ?_ _ | refine blk_drew ?_ | refine blk_alloc ?_ _)); exact BK660.out) hb); have n7_ := Aside0.mk (blk_below (g := gb661) (o := .cells #[.slice A1_0 l1_0.length c1_0] 41 (0, 0)) (by (with_reducible repeat (first | refine blk_drewN ?_ _ | refine blk_drew ?_ | refine blk_alloc ?_ _)); refine blk_far ?_ NB661_687.out _; (with_reducible repeat (first | refine blk_drewN ?_ _ | refine blk_drew ?_ | refine blk_alloc ?_ _)); exact BK661.out) hb); have n8_ := Aside0.mk (blk_below (g := gb674) (o := .cells #[.slice Ao43 t670.length co43] 44 (0, 0)) (by (with_reducible repeat (first | refine blk_drewN ?_ _ | refine blk_drew ?_ | refine blk_alloc ?_ _)); refine blk_far ?_ NB674_687.out _; (with_reducible repeat (first | refine blk_drewN ?_ _ | refine blk_drew ?_ | refine blk_alloc ?_ _)); exact BK674.out) hb); have n9_ := Aside0.mk (blk_below (g := gb678) (o := .cells #[.slice Ao49 t675.length co49] 44 (0, 0)) (by (with_reducible repeat (first | refine blk_drewN ?_ _ | refine blk_drew ?_ | refine blk_alloc ?_ _)); refine blk_far ?_ NB678_687.out _; (with_reducible repeat (first | refine blk_drewN ?_ _ | refine blk_drew ?_ | refine blk_alloc ?_ _)); exact BK678.out) hb); have n10_ := Aside0.mk (blk_below (g := gb682) (o := .cells #[.slice Ao58 t679.length co58] 44 (0, 0)) (by (with_reducible repeat (first | refine blk_drewN ?_ _ | refine blk_drew ?_ | refine blk_alloc ?_ _)); refine blk_far ?_ NB682_687.out _; (with_reducible repeat (first | refine blk_drewN ?_ _ | refine blk_drew ?_ | refine blk_alloc ?_ _)); exact BK682.out) hb); have n11_ := Aside0.mk (blk_below (g := gb687) (o := .cells #[.slice Ao67 t683.length co67] 44 (0, 0)) (by (with_reducible repeat (first | refine blk_drewN ?_ _ | refine blk_drew ?_ | refine blk_alloc ?_ _)); refine blk_put (cs := #[.slice none 0 0]) ?_ 0 _ rfl; (with_reducible repeat (first | refine blk_drewN ?_ _ | refine blk_drew ?_ | refine blk_alloc ?_ _)); exact BK687.out) hb); have n12_ := Aside0.mk (below_step (by repeat (first | (with_reducible first | exact HB.out | apply below_alloc | apply pw_below_drewN | apply below_drew1 | refine below_set ?_ (Aside0.out (by assumption))) | exact HB.out)) hb); clear HO666; clear HO669; clear HO672; clear HO677; clear HO681; clear HO685; clear BK660; clear BK661; clear BK674; clear BK678; clear BK682; clear BK687; clear HB; have HO666 := n0_; have HO669 := n1_; have HO672 := n2_; have HO677 := n3_; have HO681 := n4_; have HO685 := n5_; have BK660 := n6_; have BK661 := n7_; have BK674 := n8_; have BK678 := n9_; have BK682 := n10_; have BK687 := n11_; have HB := n12_; clear n0_ n1_ n2_ n3_ n4_ n5_ n6_ n7_ n8_ n9_ n10_ n11_ n12_; (try clear hb); (try clear hb2); (try clear hk); (try clear hi)))
         go_meet
         case rel => exact ⟨_, ((t686 != t673)), (by first | rfl | (simp; done) | (simp [*]; done)), H', ⟨by first | omega | exact Nat.le_refl _⟩, ⟨by (with_reducible repeat (first | apply Kd.R_alloc | apply Kd.R_drewN | apply Kd.R_drew)); exact Kd.R_mono HO672.out (fun _ hk => ⟨hk.1.1.2, ⟨hk.1.2, hk.2⟩⟩)⟩, ⟨by (with_reducible repeat (first | apply Kd.R_alloc | apply Kd.R_drewN | apply Kd.R_drew)); exact Kd.R_mono HO677.out (fun _ hk => ⟨hk.1.1.2, ⟨hk.1.2, hk.2⟩⟩)⟩, ⟨by (with_reducible repeat (first | apply Kd.R_alloc | apply Kd.R_drewN | apply Kd.R_drew)); exact Kd.R_mono HO681.out (fun _ hk => ⟨hk.1.1.2, ⟨hk.1.2, hk.2⟩⟩)⟩, ⟨by (with_reducible repeat (first | apply Kd.R_alloc | apply Kd.R_drewN | apply Kd.R_drew)); exact Kd.R_mono HO685.out (fun _ hk => ⟨hk.1.1.2, ⟨hk.1.2, hk.2⟩⟩)⟩, ⟨be_ BK660.out⟩, ⟨be_ BK661.out⟩, ⟨be_ BK674.out⟩, ⟨be_ BK678.out⟩, ⟨be_ BK682.out⟩, ⟨be_ BK687.out⟩, ⟨by repeat (first | (with_reducible first | exact HB.out | apply below_alloc | apply pw_below_drewN | apply below_drew1 | refine below_set ?_ (Aside0.out (by assumption))) | exact HB.out)⟩⟩
      · replace c75 := Bool.eq_false_iff.mpr c75
        subst c75
        have H1 : (laws_FnExactGlueOf.j0 k a2 a3 t673 t686 true l0_0 l1_0 t670 t675 t679 t683) = some r := by rw [if_neg (show ¬ (false = true) by decide)] at H; exact H
        exact absurd (H1.trans (congrArg some hr_.out)) (by cases k <;> simp [laws_FnExactGlueOf.j0])
     case rest =>
      clear HC27
      try clear c1
      try clear c2
      try clear p2
      try clear c3
      try clear c4
      try clear c5
      try clear c6
      try clear c7
      try clear c8
      try clear c9
      try clear c28
      try clear c30
      try clear c32
      try clear c33
      try clear c45
      try clear c50
      try clear c51
      try clear c52
      try clear c54
      try clear c59
      try clear c60
      try clear c61
      try clear c62
      try clear c68
      try clear c69
      try clear c70
      try clear c71
      try clear c72
      try clear c75
      try clear c76
      try clear c77
      try clear c78
      try clear c79
      try clear c80
      try clear c82
      try clear c83
      try clear c84
      try clear c85
      try clear c88
      try clear c89
      try clear c90
      try clear c91
      try clear c92
      try clear c94
      try clear c95
      try clear c96
      try clear c97
      try clear hcz46_0
      try clear hcz53_0
      try clear hcz55_0
      try clear hcz63_0
      try clear hcz64_0
      try clear hcz73_0
      try clear hcz81_0
      try clear hcz86_0
      try clear hcz93_0
      try clear hcz98_0
      try clear hfz46_0
      try clear hfz53_0
      try clear hfz55_0
      try clear hfz63_0
      try clear hfz64_0
      try clear hfz73_0
      try clear hfz81_0
      try clear hfz86_0
      try clear hfz93_0
      try clear hfz98_0
      obtain ⟨kq, x61_26, rfl, HA, HJ26, HO_675000, HO_679000, HO_683000, HO_688000, BK660, BK661, BK674, BK678, BK682, BK687, HB⟩ := hcut
      cases kq with
      | zero => exact absurd HA.out (by simp [laws_FnExactGlueOf.j0])
      | succ kj26 =>
       have H := HA.out
       clear HA
       simp only [laws_FnExactGlueOf.j0] at H
       by_cases c100 : x61_26 = true
       · subst c100
         have H1 : (some false) = some r := by rw [if_pos rfl] at H; exact H
         exact absurd (H1.trans (congrArg some hr_.out)) (by simp)
       · replace c100 := Bool.eq_false_iff.mpr c100
         subst c100
         have H1 : ((laws_toSemigroup.f kj26 l0_0).bind fun t689 => ((laws_eqSemigroup.f kj26 t675 t689).bind fun t692 => (if t692 = true then ((laws_toSemigroup.f kj26 l1_0).bind fun t693 => ((laws_eqSemigroup.f kj26 t679 t693).bind fun t696 => (if t696 = true then ((laws_markSemigroup.f kj26 t675 1).bind fun bt697 => ((laws_markSemigroup.f kj26 t679 bt697.1).bind fun bt699 => (if bt699.1 < 0 then (laws_FnExactGlueOf.j1 kj26 a2 a3 t673 true l0_0 l1_0 t670 t683) else ((laws_eqSemigroup.f kj26 t683 t670).bind fun t701 => (if t701 = true then (laws_FnExactGlueOf.j1 kj26 a2 a3 t673 (t686 != t673) l0_0 l1_0 t670 t683) else (laws_FnExactGlueOf.j1 kj26 a2 a3 t673 true l0_0 l1_0 t670 t683)))))) else (some false)))) else (some false)))) = some r := by rw [if_neg (show ¬ (false = true) by decide)] at H; exact H
         clear H
         have H := H1
         clear H1
         replace H := Option.bind_eq_some_iff.mp H
         obtain ⟨t689, A1010, H⟩ := H
         replace H : ((laws_eqSemigroup.f kj26 t675 t689).bind fun t692 => (if t692 = true then ((laws_toSemigroup.f kj26 l1_0).bind fun t693 => ((laws_eqSemigroup.f kj26 t679 t693).bind fun t696 => (if t696 = true then ((laws_markSemigroup.f kj26 t675 1).bind fun bt697 => ((laws_markSemigroup.f kj26 t679 bt697.1).bind fun bt699 => (if bt699.1 < 0 then (laws_FnExactGlueOf.j1 kj26 a2 a3 t673 true l0_0 l1_0 t670 t683) else ((laws_eqSemigroup.f kj26 t683 t670).bind fun t701 => (if t701 = true then (laws_FnExactGlueOf.j1 kj26 a2 a3 t673 (t686 != t673) l0_0 l1_0 t670 t683) else (laws_FnExactGlueOf.j1 kj26 a2 a3 t673 true l0_0 l1_0 t670 t683)))))) else (some false)))) else (some false))) = some r := H
         have A101 := Aside0.mk A1010
         clear A1010
         replace H := Option.bind_eq_some_iff.mp H
         obtain ⟨t692, A1020, H⟩ := H
         replace H : (if t692 = true then ((laws_toSemigroup.f kj26 l1_0).bind fun t693 => ((laws_eqSemigroup.f kj26 t679 t693).bind fun t696 => (if t696 = true then ((laws_markSemigroup.f kj26 t675 1).bind fun bt697 => ((laws_markSemigroup.f kj26 t679 bt697.1).bind fun bt699 => (if bt699.1 < 0 then (laws_FnExactGlueOf.j1 kj26 a2 a3 t673 true l0_0 l1_0 t670 t683) else ((laws_eqSemigroup.f kj26 t683 t670).bind fun t701 => (if t701 = true then (laws_FnExactGlueOf.j1 kj26 a2 a3 t673 (t686 != t673) l0_0 l1_0 t670 t683) else (laws_FnExactGlueOf.j1 kj26 a2 a3 t673 true l0_0 l1_0 t670 t683)))))) else (some false)))) else (some false)) = some r := H
         have A102 := Aside0.mk A1020
         clear A1020
         by_cases c103 : t692 = true
         · subst c103
           have H1 : ((laws_toSemigroup.f kj26 l1_0).bind fun t693 => ((laws_eqSemigroup.f kj26 t679 t693).bind fun t696 => (if t696 = true then ((laws_markSemigroup.f kj26 t675 1).bind fun bt697 => ((laws_markSemigroup.f kj26 t679 bt697.1).bind fun bt699 => (if bt699.1 < 0 then (laws_FnExactGlueOf.j1 kj26 a2 a3 t673 true l0_0 l1_0 t670 t683) else ((laws_eqSemigroup.f kj26 t683 t670).bind fun t701 => (if t701 = true then (laws_FnExactGlueOf.j1 kj26 a2 a3 t673 (t686 != t673) l0_0 l1_0 t670 t683) else (laws_FnExactGlueOf.j1 kj26 a2 a3 t673 true l0_0 l1_0 t670 t683)))))) else (some false)))) = some r := by rw [if_pos rfl] at H; exact H
           clear H
           have H := H1
           clear H1
           replace H := Option.bind_eq_some_iff.mp H
           obtain ⟨t693, A1040, H⟩ := H
           replace H : ((laws_eqSemigroup.f kj26 t679 t693).bind fun t696 => (if t696 = true then ((laws_markSemigroup.f kj26 t675 1).bind fun bt697 => ((laws_markSemigroup.f kj26 t679 bt697.1).bind fun bt699 => (if bt699.1 < 0 then (laws_FnExactGlueOf.j1 kj26 a2 a3 t673 true l0_0 l1_0 t670 t683) else ((laws_eqSemigroup.f kj26 t683 t670).bind fun t701 => (if t701 = true then (laws_FnExactGlueOf.j1 kj26 a2 a3 t673 (t686 != t673) l0_0 l1_0 t670 t683) else (laws_FnExactGlueOf.j1 kj26 a2 a3 t673 true l0_0 l1_0 t670 t683)))))) else (some false))) = some r := H
           have A104 := Aside0.mk A1040
           clear A1040
           replace H := Option.bind_eq_some_iff.mp H
           obtain ⟨t696, A1050, H⟩ := H
           replace H : (if t696 = true then ((laws_markSemigroup.f kj26 t675 1).bind fun bt697 => ((laws_markSemigroup.f kj26 t679 bt697.1).bind fun bt699 => (if bt699.1 < 0 then (laws_FnExactGlueOf.j1 kj26 a2 a3 t673 true l0_0 l1_0 t670 t683) else ((laws_eqSemigroup.f kj26 t683 t670).bind fun t701 => (if t701 = true then (laws_FnExactGlueOf.j1 kj26 a2 a3 t673 (t686 != t673) l0_0 l1_0 t670 t683) else (laws_FnExactGlueOf.j1 kj26 a2 a3 t673 true l0_0 l1_0 t670 t683)))))) else (some false)) = some r := H
           have A105 := Aside0.mk A1050
           clear A1050
           by_cases c106 : t696 = true
           · subst c106
             have H1 : ((laws_markSemigroup.f kj26 t675 1).bind fun bt697 => ((laws_markSemigroup.f kj26 t679 bt697.1).bind fun bt699 => (if bt699.1 < 0 then (laws_FnExactGlueOf.j1 kj26 a2 a3 t673 true l0_0 l1_0 t670 t683) else ((laws_eqSemigroup.f kj26 t683 t670).bind fun t701 => (if t701 = true then (laws_FnExactGlueOf.j1 kj26 a2 a3 t673 (t686 != t673) l0_0 l1_0 t670 t683) else (laws_FnExactGlueOf.j1 kj26 a2 a3 t673 true l0_0 l1_0 t670 t683)))))) = some r := by rw [if_pos rfl] at H; exact H
             clear H
             have H := H1
             clear H1
             replace H := Option.bind_eq_some_iff.mp H
             obtain ⟨⟨t697, t698⟩, A1070, H⟩ := H
             replace H : ((laws_markSemigroup.f kj26 t679 t697).bind fun bt699 => (if bt699.1 < 0 then (laws_FnExactGlueOf.j1 kj26 a2 a3 t673 true l0_0 l1_0 t670 t683) else ((laws_eqSemigroup.f kj26 t683 t670).bind fun t701 => (if t701 = true then (laws_FnExactGlueOf.j1 kj26 a2 a3 t673 (t686 != t673) l0_0 l1_0 t670 t683) else (laws_FnExactGlueOf.j1 kj26 a2 a3 t673 true l0_0 l1_0 t670 t683))))) = some r := H
             have A107 := Aside0.mk A1070
             clear A1070
             replace H := Option.bind_eq_some_iff.mp H
             obtain ⟨⟨t699, t700⟩, A1080, H⟩ := H
             replace H : (if t699 < 0 then (laws_FnExactGlueOf.j1 kj26 a2 a3 t673 true l0_0 l1_0 t670 t683) else ((laws_eqSemigroup.f kj26 t683 t670).bind fun t701 => (if t701 = true then (laws_FnExactGlueOf.j1 kj26 a2 a3 t673 (t686 != t673) l0_0 l1_0 t670 t683) else (laws_FnExactGlueOf.j1 kj26 a2 a3 t673 true l0_0 l1_0 t670 t683)))) = some r := H
             have A108 := Aside0.mk A1080
             clear A1080
             have HC109 := Aside0.mk H
             clear H
             try go_wp2
             have n0_ := Aside0.mk (Kd.R_drew HO_675000.out)
             have n1_ := Aside0.mk (Kd.R_drew HO_679000.out)
             have n2_ := Aside0.mk (Kd.R_drew HO_683000.out)
             have n3_ := Aside0.mk (Kd.R_drew HO_688000.out)
             have n4_ := Aside0.mk (blk_drew BK660.out)
             have n5_ := Aside0.mk (blk_drew BK661.out)
             have n6_ := Aside0.mk (blk_drew BK674.out)
             have n7_ := Aside0.mk (blk_drew BK678.out)
             have n8_ := Aside0.mk (blk_drew BK682.out)
             have n9_ := Aside0.mk (blk_drew BK687.out)
             have n10_ := Aside0.mk (below_drew1 HB.out)
             clear HO_675000
             clear HO_679000
             clear HO_683000
             clear HO_688000
             clear BK660
             clear BK661
             clear BK674
             clear BK678
             clear BK682
             clear BK687
             clear HB
             have HO_675000 := n0_
             have HO_679000 := n1_
             have HO_683000 := n2_
             have HO_688000 := n3_
             have BK660 := n4_
             have BK661 := n5_
             have BK674 := n6_
             have BK678 := n7_
             have BK682 := n8_
             have BK687 := n9_
             have HB := n10_
             clear n0_ n1_ n2_ n3_ n4_ n5_ n6_ n7_ n8_ n9_ n10_
             refine start_ (n := 5) (S := fun w' => w'.cell? ⟨gb678, 0, none⟩ = some (.slice Ao49 t675.length co49) ∧ w'.cell? ⟨gb660, 0, none⟩ = some (.slice A0_0 l0_0.length c0_0)) (ds := []) (B_ 0 5) (by kernel_rfl) rfl rfl ⟨(blk_cell BK678.out 0).trans rfl, (blk_cell BK660.out 0).trans rfl⟩ (fun hHeld => ?_)
             generalize wc.drew = w110 at HO_675000 HO_679000 HO_683000 HO_688000 BK660 BK661 BK674 BK678 BK682 BK687 HB hHeld ⊢
             refine take_ (i := 0) (N := some 62) (v := ?_) (a' := ?_) (B_ 1 5) rfl rfl (by kernel_rfl) (fun _ _ _ h => h) (Or.inl ⟨by rfl, ?_⟩) hHeld ?_ ?_
             rotate_left
             · rintro w' ⟨s0, s1⟩
               go_simp
               with_reducible rfl
             rotate_left
             · simp only [Act.put, z1_, z2_, z3_, i64_w, i32_w]
               rfl
             refine take_ (i := 1) (N := some 63) (v := ?_) (a' := ?_) (B_ 3 5) rfl rfl (by kernel_rfl) (fun _ _ _ h => h) (Or.inl ⟨by rfl, ?_⟩) hHeld ?_ ?_
             rotate_left
             · rintro w' ⟨s0, s1⟩
               go_simp
               with_reducible rfl
             rotate_left
             · simp only [Act.put, z1_, z2_, z3_, i64_w, i32_w]
               rfl
             refine one_ (i := 2) (N := some 64) (B_ 7 5) rfl rfl (by kernel_rfl) (by decide) (fun K hK => ?_)
             refine goes_ Try.func28 (by kernel_rfl) rfl #[.agg #[.slice A0_0 l0_0.length c0_0]] (by rfl) rfl rfl (by (try simp only [List.map_toArray, List.map_cons, List.map_nil]); first | done | rfl | (simp only [List.length_drop, List.length_take]; rfl)) ?_
             with_reducible refine (laws_toSemigroup.calls kj26 _ _ l0_0 t689 _ ?side1 ?side2 A101.out).mono ?_
             (case side1 => exact ce_ ((Kd.C_below HR0_0.out HB.out)))
             (case side2 => exact HC0_0.out)
             rintro e w111 ⟨v690, rfl, ho0, hb⟩
             refine ⟨_, rfl, ?_⟩
             have n0_ := Aside0.mk (Kd.R_elder' (re_ HO_675000.out) (Kd.R_base ho0) hb)
             have n1_ := Aside0.mk (Kd.R_elder' (re_ HO_679000.out) (Kd.R_base ho0) hb)
             have n2_ := Aside0.mk (Kd.R_elder' (re_ HO_683000.out) (Kd.R_base ho0) hb)
             have n3_ := Aside0.mk (Kd.R_elder' (re_ HO_688000.out) (Kd.R_base ho0) hb)
             have n4_ := Aside0.mk (Kd.R_lower (Kd.R_new' (Kd.R_new' (Kd.R_new' (Kd.R_new' ho0 (Kd.R_lt (re_ HO_675000.out))) (Kd.R_lt (re_ HO_679000.out))) (Kd.R_lt (re_ HO_683000.out))) (Kd.R_lt (re_ HO_688000.out))) (below_size (by repeat (first | (with_reducible first | exact HB.out | apply below_alloc | apply pw_below_drewN | apply below_drew1 | refine below_set ?_ (Aside0.out (by assumption))) | exact HB.out))))
             have n5_ := Aside0.mk (blk_below (be_ BK660.out) hb)
             have n6_ := Aside0.mk (blk_below (be_ BK661.out) hb)
             have n7_ := Aside0.mk (blk_below (be_ BK674.out) hb)
             have n8_ := Aside0.mk (blk_below (be_ BK678.out) hb)
             have n9_ := Aside0.mk (blk_below (be_ BK682.out) hb)
             have n10_ := Aside0.mk (blk_below (be_ BK687.out) hb)
             have n11_ := Aside0.mk (below_step (by repeat (first | (with_reducible first | exact HB.out | apply below_alloc | apply pw_below_drewN | apply below_drew1 | refine below_set ?_ (Aside0.out (by assumption))) | exact HB.out)) hb)
             clear HO_675000
             clear HO_679000
             clear HO_683000
             clear HO_688000
             clear BK660
             clear BK661
             clear BK674
             clear BK678
             clear BK682
             clear BK687
             clear HB
             have HO_675000 := n0_
             have HO_679000 := n1_
             have HO_683000 := n2_
             have HO_688000 := n3_
             have HO691 := n4_
             have BK660 := n5_
             have BK661 := n6_
             have BK674 := n7_
             have BK678 := n8_
             have BK682 := n9_
             have BK687 := n10_
             have HB := n11_
             clear n0_ n1_ n2_ n3_ n4_ n5_ n6_ n7_ n8_ n9_ n10_ n11_
             (try clear hb)
             (try clear hb2)
             (try clear hk)
             (try clear hi)
             (try clear ho0)
             obtain ⟨Ao112, co112, eo112⟩ := Kd.R_slice HO691.out
             (first | subst eo112 | (injection eo112 with f1_ f2_ f3_; have f4_ := f1_.symm; have f5_ := f3_.symm; clear f1_ f2_ f3_; subst f4_; subst f5_))
             refine hK.out _ _ ⟨(blk_cell BK678.out 0).trans rfl, (blk_cell BK660.out 0).trans rfl⟩ (fun hHeld => ?_)
             clear hK K
             refine norm_ (a' := ?_) ?_ ?_
             rotate_left
             · show Act.put _ (some 64) _ = _
               simp only [Act.put, z1_, z2_, z3_, i64_w, i32_w]
               rfl
             refine one_ (i := 3) (N := some 65) (B_ 15 5) rfl rfl (by kernel_rfl) (by decide) (fun K hK => ?_)
             refine goes_ Try.func30 (by kernel_rfl) rfl #[.agg #[.slice Ao49 t675.length co49], .agg #[.slice Ao112 t689.length co112]] (by rfl) rfl rfl (by (try simp only [List.map_toArray, List.map_cons, List.map_nil]); first | done | rfl | (simp only [List.length_drop, List.length_take]; rfl)) ?_
             with_reducible refine (laws_eqSemigroup.calls kj26 _ _ t675 _ _ t689 true _ ?side1 ?side2 ?side3 ?side4 A102.out).mono ?_
             (case side1 => exact ce_ ((Kd.R_reads' HO_679000.out).2.2))
             (case side2 => exact (Kd.R_reads' HO_679000.out).2.1)
             (case side3 => exact ce_ ((Kd.R_reads' HO691.out).2.2))
             (case side4 => exact (Kd.R_reads' HO691.out).2.1)
             rintro e w113 ⟨rfl, hb⟩
             refine ⟨_, rfl, ?_⟩
             have n0_ := Aside0.mk (Kd.R_below (re_ HO_675000.out) hb)
             have n1_ := Aside0.mk (Kd.R_below (re_ HO_679000.out) hb)
             have n2_ := Aside0.mk (Kd.R_below (re_ HO_683000.out) hb)
             have n3_ := Aside0.mk (Kd.R_below (re_ HO_688000.out) hb)
             have n4_ := Aside0.mk (Kd.R_below (re_ HO691.out) hb)
             have n5_ := Aside0.mk (blk_below (be_ BK660.out) hb)
             have n6_ := Aside0.mk (blk_below (be_ BK661.out) hb)
             have n7_ := Aside0.mk (blk_below (be_ BK674.out) hb)
             have n8_ := Aside0.mk (blk_below (be_ BK678.out) hb)
             have n9_ := Aside0.mk (blk_below (be_ BK682.out) hb)
             have n10_ := Aside0.mk (blk_below (be_ BK687.out) hb)
             have n11_ := Aside0.mk (below_step (by repeat (first | (with_reducible first | exact HB.out | apply below_alloc | apply pw_below_drewN | apply below_drew1 | refine below_set ?_ (Aside0.out (by assumption))) | exact HB.out)) hb)
             clear HO_675000
             clear HO_679000
             clear HO_683000
             clear HO_688000
             clear HO691
             clear BK660
             clear BK661
             clear BK674
             clear BK678
             clear BK682
             clear BK687
             clear HB
             have HO_675000 := n0_
             have HO_679000 := n1_
             have HO_683000 := n2_
             have HO_688000 := n3_
             have HO691 := n4_
             have BK660 := n5_
             have BK661 := n6_
             have BK674 := n7_
             have BK678 := n8_
             have BK682 := n9_
             have BK687 := n10_
             have HB := n11_
             clear n0_ n1_ n2_ n3_ n4_ n5_ n6_ n7_ n8_ n9_ n10_ n11_
             (try clear hb)
             (try clear hb2)
             (try clear hk)
             (try clear hi)
             refine hK.out _ _ ⟨(blk_cell BK678.out 0).trans rfl, (blk_cell BK660.out 0).trans rfl⟩ (fun hHeld => ?_)
             clear hK K
             refine norm_ (a' := ?_) ?_ ?_
             rotate_left
             · show Act.put _ (some 65) _ = _
               simp only [Act.put, z1_, z2_, z3_, i64_w, i32_w]
               rfl
             refine pure_ (i := 4) (N := some 66) (v := ?_) (a' := ?_) (B_ 31 5) rfl rfl (by kernel_rfl) (fun _ _ _ h => h) (Or.inl ⟨by rfl, ?_⟩) ?_ ?_
             rotate_left
             · intro w'
               go_simp
               with_reducible rfl
             rotate_left
             · simp only [Act.put, z1_, z2_, z3_, i64_w, i32_w]
               rfl
             refine done_ (by kernel_rfl) ?_
             try go_wp2
             have n0_ := Aside0.mk (Kd.R_drew HO_675000.out)
             have n1_ := Aside0.mk (Kd.R_drew HO_679000.out)
             have n2_ := Aside0.mk (Kd.R_drew HO_683000.out)
             have n3_ := Aside0.mk (Kd.R_drew HO_688000.out)
             have n4_ := Aside0.mk (Kd.R_drew HO691.out)
             have n5_ := Aside0.mk (blk_drew BK660.out)
             have n6_ := Aside0.mk (blk_drew BK661.out)
             have n7_ := Aside0.mk (blk_drew BK674.out)
             have n8_ := Aside0.mk (blk_drew BK678.out)
             have n9_ := Aside0.mk (blk_drew BK682.out)
             have n10_ := Aside0.mk (blk_drew BK687.out)
             have n11_ := Aside0.mk (below_drew1 HB.out)
             clear HO_675000
             clear HO_679000
             clear HO_683000
             clear HO_688000
             clear HO691
             clear BK660
             clear BK661
             clear BK674
             clear BK678
             clear BK682
             clear BK687
             clear HB
             have HO_675000 := n0_
             have HO_679000 := n1_
             have HO_683000 := n2_
             have HO_688000 := n3_
             have HO691 := n4_
             have BK660 := n5_
             have BK661 := n6_
             have BK674 := n7_
             have BK678 := n8_
             have BK682 := n9_
             have BK687 := n10_
             have HB := n11_
             clear n0_ n1_ n2_ n3_ n4_ n5_ n6_ n7_ n8_ n9_ n10_ n11_
             refine start_ (n := 5) (S := fun w' => w'.cell? ⟨gb682, 0, none⟩ = some (.slice Ao58 t679.length co58) ∧ w'.cell? ⟨gb661, 0, none⟩ = some (.slice A1_0 l1_0.length c1_0)) (ds := []) (B_ 0 5) (by kernel_rfl) rfl rfl ⟨(blk_cell BK682.out 0).trans rfl, (blk_cell BK661.out 0).trans rfl⟩ (fun hHeld => ?_)
             generalize w113.drew = w114 at HO_675000 HO_679000 HO_683000 HO_688000 HO691 BK660 BK661 BK674 BK678 BK682 BK687 HB hHeld ⊢
             refine take_ (i := 0) (N := some 67) (v := ?_) (a' := ?_) (B_ 1 5) rfl rfl (by kernel_rfl) (fun _ _ _ h => h) (Or.inl ⟨by rfl, ?_⟩) hHeld ?_ ?_
             rotate_left
             · rintro w' ⟨s0, s1⟩
               go_simp
               with_reducible rfl
             rotate_left
             · simp only [Act.put, z1_, z2_, z3_, i64_w, i32_w]
               rfl
             refine take_ (i := 1) (N := some 68) (v := ?_) (a' := ?_) (B_ 3 5) rfl rfl (by kernel_rfl) (fun _ _ _ h => h) (Or.inl ⟨by rfl, ?_⟩) hHeld ?_ ?_
             rotate_left
             · rintro w' ⟨s0, s1⟩
               go_simp
               with_reducible rfl
             rotate_left
             · simp only [Act.put, z1_, z2_, z3_, i64_w, i32_w]
               rfl
             refine one_ (i := 2) (N := some 69) (B_ 7 5) rfl rfl (by kernel_rfl) (by decide) (fun K hK => ?_)
             refine goes_ Try.func28 (by kernel_rfl) rfl #[.agg #[.slice A1_0 l1_0.length c1_0]] (by rfl) rfl rfl (by (try simp only [List.map_toArray, List.map_cons, List.map_nil]); first | done | rfl | (simp only [List.length_drop, List.length_take]; rfl)) ?_
             with_reducible refine (laws_toSemigroup.calls kj26 _ _ l1_0 t693 _ ?side1 ?side2 A104.out).mono ?_
             (case side1 => exact ce_ ((Kd.C_below HR1_0.out HB.out)))
             (case side2 => exact HC1_0.out)
             rintro e w115 ⟨v694, rfl, ho0, hb⟩
             refine ⟨_, rfl, ?_⟩
             have n0_ := Aside0.mk (Kd.R_elder' (re_ HO_675000.out) (Kd.R_base ho0) hb)
             have n1_ := Aside0.mk (Kd.R_elder' (re_ HO_679000.out) (Kd.R_base ho0) hb)
             have n2_ := Aside0.mk (Kd.R_elder' (re_ HO_683000.out) (Kd.R_base ho0) hb)
             have n3_ := Aside0.mk (Kd.R_elder' (re_ HO_688000.out) (Kd.R_base ho0) hb)
             have n4_ := Aside0.mk (Kd.R_elder' (re_ HO691.out) (Kd.R_base ho0) hb)
             have n5_ := Aside0.mk (Kd.R_lower (Kd.R_new' (Kd.R_new' (Kd.R_new' (Kd.R_new' (Kd.R_new' ho0 (Kd.R_lt (re_ HO_675000.out))) (Kd.R_lt (re_ HO_679000.out))) (Kd.R_lt (re_ HO_683000.out))) (Kd.R_lt (re_ HO_688000.out))) (Kd.R_lt (re_ HO691.out))) (below_size (by repeat (first | (with_reducible first | exact HB.out | apply below_alloc | apply pw_below_drewN | apply below_drew1 | refine below_set ?_ (Aside0.out (by assumption))) | exact HB.out))))
             have n6_ := Aside0.mk (blk_below (be_ BK660.out) hb)
             have n7_ := Aside0.mk (blk_below (be_ BK661.out) hb)
             have n8_ := Aside0.mk (blk_below (be_ BK674.out) hb)
             have n9_ := Aside0.mk (blk_below (be_ BK678.out) hb)
             have n10_ := Aside0.mk (blk_below (be_ BK682.out) hb)
             have n11_ := Aside0.mk (blk_below (be_ BK687.out) hb)
             have n12_ := Aside0.mk (below_step (by repeat (first | (with_reducible first | exact HB.out | apply below_alloc | apply pw_below_drewN | apply below_drew1 | refine below_set ?_ (Aside0.out (by assumption))) | exact HB.out)) hb)
             clear HO_675000
             clear HO_679000
             clear HO_683000
             clear HO_688000
             clear HO691
             clear BK660
             clear BK661
             clear BK674
             clear BK678
             clear BK682
             clear BK687
             clear HB
             have HO_675000 := n0_
             have HO_679000 := n1_
             have HO_683000 := n2_
             have HO_688000 := n3_
             have HO691 := n4_
             have HO695 := n5_
             have BK660 := n6_
             have BK661 := n7_
             have BK674 := n8_
             have BK678 := n9_
             have BK682 := n10_
             have BK687 := n11_
             have HB := n12_
             clear n0_ n1_ n2_ n3_ n4_ n5_ n6_ n7_ n8_ n9_ n10_ n11_ n12_
             (try clear hb)
             (try clear hb2)
             (try clear hk)
             (try clear hi)
             (try clear ho0)
             obtain ⟨Ao116, co116, eo116⟩ := Kd.R_slice HO695.out
             (first | subst eo116 | (injection eo116 with f1_ f2_ f3_; have f4_ := f1_.symm; have f5_ := f3_.symm; clear f1_ f2_ f3_; subst f4_; subst f5_))
             refine hK.out _ _ ⟨(blk_cell BK682.out 0).trans rfl, (blk_cell BK661.out 0).trans rfl⟩ (fun hHeld => ?_)
             clear hK K
             refine norm_ (a' := ?_) ?_ ?_
             rotate_left
             · show Act.put _ (some 69) _ = _
               simp only [Act.put, z1_, z2_, z3_, i64_w, i32_w]
               rfl
             refine one_ (i := 3) (N := some 70) (B_ 15 5) rfl rfl (by kernel_rfl) (by decide) (fun K hK => ?_)
             refine goes_ Try.func30 (by kernel_rfl) rfl #[.agg #[.slice Ao58 t679.length co58], .agg #[.slice Ao116 t693.length co116]] (by rfl) rfl rfl (by (try simp only [List.map_toArray, List.map_cons, List.map_nil]); first | done | rfl | (simp only [List.length_drop, List.length_take]; rfl)) ?_
             with_reducible refine (laws_eqSemigroup.calls kj26 _ _ t679 _ _ t693 true _ ?side1 ?side2 ?side3 ?side4 A105.out).mono ?_
             (case side1 => exact ce_ ((Kd.R_reads' HO_683000.out).2.2))
             (case side2 => exact (Kd.R_reads' HO_683000.out).2.1)
             (case side3 => exact ce_ ((Kd.R_reads' HO695.out).2.2))
             (case side4 => exact (Kd.R_reads' HO695.out).2.1)
             rintro e w117 ⟨rfl, hb⟩
             refine ⟨_, rfl, ?_⟩
             have n0_ := Aside0.mk (Kd.R_below (re_ HO_675000.out) hb)
             have n1_ := Aside0.mk (Kd.R_below (re_ HO_679000.out) hb)
             have n2_ := Aside0.mk (Kd.R_below (re_ HO_683000.out) hb)
             have n3_ := Aside0.mk (Kd.R_below (re_ HO_688000.out) hb)
             have n4_ := Aside0.mk (Kd.R_below (re_ HO691.out) hb)
             have n5_ := Aside0.mk (Kd.R_below (re_ HO695.out) hb)
             have n6_ := Aside0.mk (blk_below (be_ BK660.out) hb)
             have n7_ := Aside0.mk (blk_below (be_ BK661.out) hb)
             have n8_ := Aside0.mk (blk_below (be_ BK674.out) hb)
             have n9_ := Aside0.mk (blk_below (be_ BK678.out) hb)
             have n10_ := Aside0.mk (blk_below (be_ BK682.out) hb)
             have n11_ := Aside0.mk (blk_below (be_ BK687.out) hb)
             have n12_ := Aside0.mk (below_step (by repeat (first | (with_reducible first | exact HB.out | apply below_alloc | apply pw_below_drewN | apply below_drew1 | refine below_set ?_ (Aside0.out (by assumption))) | exact HB.out)) hb)
             clear HO_675000
             clear HO_679000
             clear HO_683000
             clear HO_688000
             clear HO691
             clear HO695
             clear BK660
             clear BK661
             clear BK674
             clear BK678
             clear BK682
             clear BK687
             clear HB
             have HO_675000 := n0_
             have HO_679000 := n1_
             have HO_683000 := n2_
             have HO_688000 := n3_
             have HO691 := n4_
             have HO695 := n5_
             have BK660 := n6_
             have BK661 := n7_
             have BK674 := n8_
             have BK678 := n9_
             have BK682 := n10_
             have BK687 := n11_
             have HB := n12_
             clear n0_ n1_ n2_ n3_ n4_ n5_ n6_ n7_ n8_ n9_ n10_ n11_ n12_
             (try clear hb)
             (try clear hb2)
             (try clear hk)
             (try clear hi)
             refine hK.out _ _ ⟨(blk_cell BK682.out 0).trans rfl, (blk_cell BK661.out 0).trans rfl⟩ (fun hHeld => ?_)
             clear hK K
             refine norm_ (a' := ?_) ?_ ?_
             rotate_left
             · show Act.put _ (some 70) _ = _
               simp only [Act.put, z1_, z2_, z3_, i64_w, i32_w]
               rfl
             refine pure_ (i := 4) (N := some 71) (v := ?_) (a' := ?_) (B_ 31 5) rfl rfl (by kernel_rfl) (fun _ _ _ h => h) (Or.inl ⟨by rfl, ?_⟩) ?_ ?_
             rotate_left
             · intro w'
               go_simp
               with_reducible rfl
             rotate_left
             · simp only [Act.put, z1_, z2_, z3_, i64_w, i32_w]
               rfl
             refine done_ (by kernel_rfl) ?_
             have hnb118 := NB678_660.out
             have hnc118 := NB660_678.out
             have hnb119 := NB678_661.out
             have hnc119 := NB661_678.out
             have hnb120 := NB678_674.out
             have hnc120 := NB674_678.out
             have hnb121 := NB678_682.out
             have hnc121 := NB682_678.out
             have hnb122 := NB678_687.out
             have hnc122 := NB687_678.out
             have hcz123_0 : w117.cell? ⟨gb678, 0, none⟩ = some (.slice Ao49 t675.length co49) := (blk_cell BK678.out 0).trans rfl
             have hfz123_0 := blk_frozen BK678.out 0
             go_upto_region 21 with (first | ((with_reducible refine gate_callee (f := 31) rfl ?_); refine goesL_ (some 74) rfl rfl Try.func31 (by kernel_rfl) rfl #[.agg #[.slice Ao49 t675.length co49], .int .i64 1] rfl (by (try simp only [List.map_toArray, List.map_cons, List.map_nil]); first | done | rfl | (simp only [List.length_drop, List.length_take]; rfl)) ?_; (with_reducible refine (laws_markSemigroup.calls kj26 (fun k_ => some k_ = (.slice Ao49 t675.length co49 : Value).ownBlock) (.slice Ao49 t675.length co49) t675 1 t697 t698 w _ ?side1 ?side2 A107.out).mono ?_); (case side1 => repeat (first | (with_reducible first | exact HB.out | apply below_alloc | apply pw_below_drewN | apply below_drew1 | refine below_set ?_ (Aside0.out (by assumption))) | exact HB.out)); (case side2 => exact Kd.R_tight rfl HO_679000.out); rintro e w124 ⟨rfl, hy0, hb, hkp⟩; refine ⟨_, rfl, ?_⟩; have n0_ := Aside0.mk (Kd.R_mono (ok' := fun k_ => some k_ ≠ (.slice Ao49 t675.length co49 : Value).ownBlock ∧ some k_ ≠ (.slice Ao58 t679.length co58 : Value).ownBlock ∧ some k_ ≠ (.slice Ao67 t683.length co67 : Value).ownBlock ∧ some k_ ≠ (.slice Ao112 t689.length co112 : Value).ownBlock ∧ some k_ ≠ (.slice Ao116 t693.length co116 : Value).ownBlock) (Kd.R_keptB (HO_675000.out) hkp (fun k_ hk_ hs_ => (hk_.1.1.1) hs_)) (fun k_ hk_ => ⟨hk_.1.1.1.1, hk_.1.1.1.2.1, hk_.1.1.1.2.2, hk_.1.1.2, hk_.1.2⟩)); have n1_ := Aside0.mk (Kd.R_reok rfl hy0 (fun k_ e_ => HO_679000.out.1 k_ e_)); have n2_ := Aside0.mk (Kd.R_mono (ok' := fun k_ => some k_ ≠ (.slice Ao43 t670.length co43 : Value).ownBlock ∧ some k_ ≠ (.slice Ao49 t675.length co49 : Value).ownBlock ∧ some k_ ≠ (.slice Ao67 t683.length co67 : Value).ownBlock ∧ some k_ ≠ (.slice Ao112 t689.length co112 : Value).ownBlock ∧ some k_ ≠ (.slice Ao116 t693.length co116 : Value).ownBlock) (Kd.R_keptB (HO_683000.out) hkp (fun k_ hk_ hs_ => (hk_.1.1.2.1) hs_)) (fun k_ hk_ => ⟨hk_.1.1.1.1, hk_.1.1.1.2.1, hk_.1.1.1.2.2, hk_.1.1.2, hk_.1.2⟩)); have n3_ := Aside0.mk (Kd.R_mono (ok' := fun k_ => some k_ ≠ (.slice Ao43 t670.length co43 : Value).ownBlock ∧ some k_ ≠ (.slice Ao49 t675.length co49 : Value).ownBlock ∧ some k_ ≠ (.slice Ao58 t679.length co58 : Value).ownBlock ∧ some k_ ≠ (.slice Ao112 t689.length co112 : Value).ownBlock ∧ some k_ ≠ (.slice Ao116 t693.length co116 : Value).ownBlock) (Kd.R_keptB (HO_688000.out) hkp (fun k_ hk_ hs_ => (hk_.1.1.2.1) hs_)) (fun k_ hk_ => ⟨hk_.1.1.1.1, hk_.1.1.1.2.1, hk_.1.1.1.2.2, hk_.1.1.2, hk_.1.2⟩)); have n4_ := Aside0.mk (blk_kept (be_ BK660.out) hkp (fun hs_ => (fun e_ => (Kd.R_ne HO_679000.out BK660.out (by decide)) e_) hs_)); have n5_ := Aside0.mk (blk_kept (be_ BK661.out) hkp (fun hs_ => (fun e_ => (Kd.R_ne HO_679000.out BK661.out (by decide)) e_) hs_)); have n6_ := Aside0.mk (blk_kept (be_ BK674.out) hkp (fun hs_ => (fun e_ => (Kd.R_ne HO_679000.out BK674.out (by decide)) e_) hs_)); have n7_ := Aside0.mk (blk_kept (be_ BK678.out) hkp (fun hs_ => (fun e_ => (Kd.R_ne HO_679000.out BK678.out (by decide)) e_) hs_)); have n8_ := Aside0.mk (blk_kept (be_ BK682.out) hkp (fun hs_ => (fun e_ => (Kd.R_ne HO_679000.out BK682.out (by decide)) e_) hs_)); have n9_ := Aside0.mk (blk_kept (be_ BK687.out) hkp (fun hs_ => (fun e_ => (Kd.R_ne HO_679000.out BK687.out (by decide)) e_) hs_)); have n10_ := Aside0.mk (Kd.R_mono (ok' := fun k_ => some k_ ≠ (.slice Ao43 t670.length co43 : Value).ownBlock ∧ some k_ ≠ (.slice Ao49 t675.length co49 : Value).ownBlock ∧ some k_ ≠ (.slice Ao58 t679.length co58 : Value).ownBlock ∧ some k_ ≠ (.slice Ao67 t683.length co67 : Value).ownBlock ∧ some k_ ≠ (.slice Ao116 t693.length co116 : Value).ownBlock) (Kd.R_keptB (HO691.out) hkp (fun k_ hk_ hs_ => (hk_.1.1.1.2) hs_)) (fun k_ hk_ => ⟨hk_.1.1.1.1.1.2, hk_.1.1.1.1.2, hk_.1.1.1.2, hk_.1.1.2, hk_.1.2⟩)); have n11_ := Aside0.mk (Kd.R_mono (ok' := fun k_ => some k_ ≠ (.slice Ao43 t670.length co43 : Value).ownBlock ∧ some k_ ≠ (.slice Ao49 t675.length co49 : Value).ownBlock ∧ some k_ ≠ (.slice Ao58 t679.length co58 : Value).ownBlock ∧ some k_ ≠ (.slice Ao67 t683.length co67 : Value).ownBlock ∧ some k_ ≠ (.slice Ao112 t689.length co112 : Value).ownBlock) (Kd.R_keptB (HO695.out) hkp (fun k_ hk_ hs_ => (hk_.1.1.1.2) hs_)) (fun k_ hk_ => ⟨hk_.1.1.1.1.1.2, hk_.1.1.1.1.2, hk_.1.1.1.2, hk_.1.1.2, hk_.1.2⟩)); have n12_ := Aside0.mk (hb); clear HO_675000; clear HO_679000; clear HO_683000; clear HO_688000; clear BK660; clear BK661; clear BK674; clear BK678; clear BK682; clear BK687; clear HO691; clear HO695; clear HB; have HO_675000 := n0_; have HO_679000 := n1_; have HO_683000 := n2_; have HO_688000 := n3_; have BK660 := n4_; have BK661 := n5_; have BK674 := n6_; have BK678 := n7_; have BK682 := n8_; have BK687 := n9_; have HO691 := n10_; have HO695 := n11_; have HB := n12_; clear n0_ n1_ n2_ n3_ n4_ n5_ n6_ n7_ n8_ n9_ n10_ n11_ n12_; (try clear hb); (try clear hkp); (try clear hy0); have hnb125 := NB682_660.out; have hnc125 := NB660_682.out; have hnb126 := NB682_661.out; have hnc126 := NB661_682.out; have hnb127 := NB682_674.out; have hnc127 := NB674_682.out; have hnb128 := NB682_687.out; have hnc128 := NB687_682.out; have hcz129_0 : w124.cell? ⟨gb682, 0, none⟩ = some (.slice Ao58 t679.length co58) := (blk_cell BK682.out 0).trans rfl; have hfz129_0 := blk_frozen BK682.out 0) | ((with_reducible refine gate_callee (f := 31) rfl ?_); refine goesL_ (some 77) rfl rfl Try.func31 (by kernel_rfl) rfl #[.agg #[.slice Ao58 t679.length co58], .int .i64 t697] rfl (by (try simp only [List.map_toArray, List.map_cons, List.map_nil]); first | done | rfl | (simp only [List.length_drop, List.length_take]; rfl)) ?_; (with_reducible refine (laws_markSemigroup.calls kj26 (fun k_ => some k_ = (.slice Ao58 t679.length co58 : Value).ownBlock) (.slice Ao58 t679.length co58) t679 t697 t699 t700 w _ ?side1 ?side2 A108.out).mono ?_); (case side1 => repeat (first | (with_reducible first | exact HB.out | apply below_alloc | apply pw_below_drewN | apply below_drew1 | refine below_set ?_ (Aside0.out (by assumption))) | exact HB.out)); (case side2 => exact Kd.R_tight rfl HO_683000.out); rintro e w130 ⟨rfl, hy0, hb, hkp⟩; refine ⟨_, rfl, ?_⟩; have n0_ := Aside0.mk (Kd.R_mono (ok' := fun k_ => some k_ ≠ (.slice Ao49 t675.length co49 : Value).ownBlock ∧ some k_ ≠ (.slice Ao58 t679.length co58 : Value).ownBlock ∧ some k_ ≠ (.slice Ao67 t683.length co67 : Value).ownBlock ∧ some k_ ≠ (.slice Ao112 t689.length co112 : Value).ownBlock ∧ some k_ ≠ (.slice Ao116 t693.length co116 : Value).ownBlock) (Kd.R_keptB (HO_675000.out) hkp (fun k_ hk_ hs_ => (hk_.2.1) hs_)) (fun k_ hk_ => ⟨hk_.1.1, hk_.1.2.1, hk_.1.2.2.1, hk_.1.2.2.2.1, hk_.1.2.2.2.2⟩)); have n1_ := Aside0.mk (Kd.R_mono (ok' := fun k_ => some k_ ≠ (.slice Ao43 t670.length co43 : Value).ownBlock ∧ some k_ ≠ (.slice Ao58 t679.length co58 : Value).ownBlock ∧ some k_ ≠ (.slice Ao67 t683.length co67 : Value).ownBlock ∧ some k_ ≠ (.slice Ao112 t689.length co112 : Value).ownBlock ∧ some k_ ≠ (.slice Ao116 t693.length co116 : Value).ownBlock) (Kd.R_keptB (HO_679000.out) hkp (fun k_ hk_ hs_ => (hk_.1.1.2.1) hs_)) (fun k_ hk_ => ⟨hk_.1.1.1.1, hk_.1.1.1.2.1, hk_.1.1.1.2.2, hk_.1.1.2, hk_.1.2⟩)); have n2_ := Aside0.mk (Kd.R_reok rfl hy0 (fun k_ e_ => HO_683000.out.1 k_ e_)); have n3_ := Aside0.mk (Kd.R_mono (ok' := fun k_ => some k_ ≠ (.slice Ao43 t670.length co43 : Value).ownBlock ∧ some k_ ≠ (.slice Ao49 t675.length co49 : Value).ownBlock ∧ some k_ ≠ (.slice Ao58 t679.length co58 : Value).ownBlock ∧ some k_ ≠ (.slice Ao112 t689.length co112 : Value).ownBlock ∧ some k_ ≠ (.slice Ao116 t693.length co116 : Value).ownBlock) (Kd.R_keptB (HO_688000.out) hkp (fun k_ hk_ hs_ => (hk_.2.2.1) hs_)) (fun k_ hk_ => ⟨hk_.1.1, hk_.1.2.1, hk_.1.2.2.1, hk_.1.2.2.2.1, hk_.1.2.2.2.2⟩)); have n4_ := Aside0.mk (blk_kept (be_ BK660.out) hkp (fun hs_ => (fun e_ => (Kd.R_ne HO_683000.out BK660.out (by decide)) e_) hs_)); have n5_ := Aside0.mk (blk_kept (be_ BK661.out) hkp (fun hs_ => (fun e_ => (Kd.R_ne HO_683000.out BK661.out (by decide)) e_) hs_)); have n6_ := Aside0.mk (blk_kept (be_ BK674.out) hkp (fun hs_ => (fun e_ => (Kd.R_ne HO_683000.out BK674.out (by decide)) e_) hs_)); have n7_ := Aside0.mk (blk_kept (be_ BK678.out) hkp (fun hs_ => (fun e_ => (Kd.R_ne HO_683000.out BK678.out (by decide)) e_) hs_)); have n8_ := Aside0.mk (blk_kept (be_ BK682.out) hkp (fun hs_ => (fun e_ => (Kd.R_ne HO_683000.out BK682.out (by decide)) e_) hs_)); have n9_ := Aside0.mk (blk_kept (be_ BK687.out) hkp (fun hs_ => (fun e_ => (Kd.R_ne HO_683000.out BK687.out (by decide)) e_) hs_)); have n10_ := Aside0.mk (Kd.R_mono (ok' := fun k_ => some k_ ≠ (.slice Ao43 t670.length co43 : Value).ownBlock ∧ some k_ ≠ (.slice Ao49 t675.length co49 : Value).ownBlock ∧ some k_ ≠ (.slice Ao58 t679.length co58 : Value).ownBlock ∧ some k_ ≠ (.slice Ao67 t683.length co67 : Value).ownBlock ∧ some k_ ≠ (.slice Ao116 t693.length co116 : Value).ownBlock) (Kd.R_keptB (HO691.out) hkp (fun k_ hk_ hs_ => (hk_.2.2.1) hs_)) (fun k_ hk_ => ⟨hk_.1.1, hk_.1.2.1, hk_.1.2.2.1, hk_.1.2.2.2.1, hk_.1.2.2.2.2⟩)); have n11_ := Aside0.mk (Kd.R_mono (ok' := fun k_ => some k_ ≠ (.slice Ao43 t670.length co43 : Value).ownBlock ∧ some k_ ≠ (.slice Ao49 t675.length co49 : Value).ownBlock ∧ some k_ ≠ (.slice Ao58 t679.length co58 : Value).ownBlock ∧ some k_ ≠ (.slice Ao67 t683.length co67 : Value).ownBlock ∧ some k_ ≠ (.slice Ao112 t689.length co112 : Value).ownBlock) (Kd.R_keptB (HO695.out) hkp (fun k_ hk_ hs_ => (hk_.2.2.1) hs_)) (fun k_ hk_ => ⟨hk_.1.1, hk_.1.2.1, hk_.1.2.2.1, hk_.1.2.2.2.1, hk_.1.2.2.2.2⟩)); have n12_ := Aside0.mk (hb); clear HO_675000; clear HO_679000; clear HO_683000; clear HO_688000; clear BK660; clear BK661; clear BK674; clear BK678; clear BK682; clear BK687; clear HO691; clear HO695; clear HB; have HO_675000 := n0_; have HO_679000 := n1_; have HO_683000 := n2_; have HO_688000 := n3_; have BK660 := n4_; have BK661 := n5_; have BK674 := n6_; have BK678 := n7_; have BK682 := n8_; have BK687 := n9_; have HO691 := n10_; have HO695 := n11_; have HB := n12_; clear n0_ n1_ n2_ n3_ n4_ n5_ n6_ n7_ n8_ n9_ n10_ n11_ n12_; (try clear hb); (try clear hkp); (try clear hy0)))
             (try simp only [Act.put, z1_, z2_, z3_])
             go_cut [90] (fun v90 wc => ∃ (kq : Nat) (x90_108 : Bool), v90 = .bool x90_108 ∧ Aside0 (laws_FnExactGlueOf.j1 kq a2 a3 t673 x90_108 l0_0 l1_0 t670 t683 = some r) ∧ Aside0 (kq ≤ kj26) ∧ Aside0 (Kd.R (Kd.int .i64) 3 wc w.heap.size (fun k_ => some k_ ≠ ((.slice Ao49 t675.length co49) : Value).ownBlock ∧ some k_ ≠ ((.slice Ao58 t679.length co58) : Value).ownBlock ∧ some k_ ≠ ((.slice Ao67 t683.length co67) : Value).ownBlock) (.slice Ao43 t670.length co43) t670) ∧ Aside0 (Kd.R (Kd.int .i64) 3 wc w.heap.size (fun k_ => some k_ ≠ ((.slice Ao43 t670.length co43) : Value).ownBlock ∧ some k_ ≠ ((.slice Ao58 t679.length co58) : Value).ownBlock ∧ some k_ ≠ ((.slice Ao67 t683.length co67) : Value).ownBlock) (.slice Ao49 t675.length co49) t698) ∧ Aside0 (Kd.R (Kd.int .i64) 3 wc w.heap.size (fun k_ => some k_ ≠ ((.slice Ao43 t670.length co43) : Value).ownBlock ∧ some k_ ≠ ((.slice Ao49 t675.length co49) : Value).ownBlock ∧ some k_ ≠ ((.slice Ao67 t683.length co67) : Value).ownBlock) (.slice Ao58 t679.length co58) t700) ∧ Aside0 (Kd.R (Kd.int .i64) 3 wc w.heap.size (fun k_ => some k_ ≠ ((.slice Ao43 t670.length co43) : Value).ownBlock ∧ some k_ ≠ ((.slice Ao49 t675.length co49) : Value).ownBlock ∧ some k_ ≠ ((.slice Ao58 t679.length co58) : Value).ownBlock) (.slice Ao67 t683.length co67) t683) ∧ Aside0 (wc.heap[gb660]? = some (.cells #[(.slice A0_0 l0_0.length c0_0)] 41 (0, 0))) ∧ Aside0 (wc.heap[gb661]? = some (.cells #[(.slice A1_0 l1_0.length c1_0)] 41 (0, 0))) ∧ Aside0 (wc.heap[gb674]? = some (.cells #[(.slice Ao43 t670.length co43)] 44 (0, 0))) ∧ Aside0 (wc.heap[gb678]? = some (.cells #[(.slice Ao49 t675.length co49)] 44 (0, 0))) ∧ Aside0 (wc.heap[gb682]? = some (.cells #[(.slice Ao58 t679.length co58)] 44 (0, 0))) ∧ Aside0 (wc.heap[gb687]? = some (.cells #[(.slice Ao67 t683.length co67)] 44 (0, 0))) ∧ Aside0 (Below w.heap.size w wc))
             case first =>
              have H := HC109.out
              clear HC109
              by_cases c131 : t699 < 0
              · rw [if_pos c131] at H
                exact absurd (H.trans (congrArg some hr_.out)) (by cases kj26 <;> simp [laws_FnExactGlueOf.j1])
              · rw [if_neg c131] at H
                have c131b0 : decide (t699 < 0) = false := decide_eq_false c131
                clear c131
                (first | rw [c131b0] | (simp only [i64_w, i32_w]; rw [c131b0]) | skip)
                replace H := Option.bind_eq_some_iff.mp H
                obtain ⟨t701, A1320, H⟩ := H
                replace H : (if t701 = true then (laws_FnExactGlueOf.j1 kj26 a2 a3 t673 (t686 != t673) l0_0 l1_0 t670 t683) else (laws_FnExactGlueOf.j1 kj26 a2 a3 t673 true l0_0 l1_0 t670 t683)) = some r := H
                have A132 := Aside0.mk A1320
                clear A1320
                by_cases c133 : t701 = true
                · subst c133
                  have H1 : (laws_FnExactGlueOf.j1 kj26 a2 a3 t673 (t686 != t673) l0_0 l1_0 t670 t683) = some r := by rw [if_pos rfl] at H; exact H
                  clear H
                  have H := H1
                  clear H1
                  as_aux_lemma =>
                   have H' := Aside0.mk H
                   clear H
                   have hnb134 := NB687_660.out
                   have hnc134 := NB660_687.out
                   have hnb135 := NB687_661.out
                   have hnc135 := NB661_687.out
                   have hnb136 := NB687_674.out
                   have hnc136 := NB674_687.out
                   have hnb137 := NB687_678.out
                   have hnc137 := NB678_687.out
                   have hnb138 := NB687_682.out
                   have hnc138 := NB682_687.out
                   have hcz139_0 : w130.cell? ⟨gb687, 0, none⟩ = some (.slice Ao67 t683.length co67) := (blk_cell BK687.out 0).trans rfl
                   have hfz139_0 := blk_frozen BK687.out 0
                   have hnb140 := NB674_660.out
                   have hnc140 := NB660_674.out
                   have hnb141 := NB674_661.out
                   have hnc141 := NB661_674.out
                   have hnb142 := NB674_678.out
                   have hnc142 := NB678_674.out
                   have hnb143 := NB674_682.out
                   have hnc143 := NB682_674.out
                   have hcz144_0 : w130.cell? ⟨gb674, 0, none⟩ = some (.slice Ao43 t670.length co43) := (blk_cell BK674.out 0).trans rfl
                   have hfz144_0 := blk_frozen BK674.out 0
                   go_wp2_with (first | (go_at_call 30; (with_reducible refine (laws_eqSemigroup.calls kj26 _ _ t683 _ _ t670 true _ ?side1 ?side2 ?side3 ?side4 A132.out).mono ?_); (case side1 => exact ce_ ((Kd.R_reads' HO_688000.out).2.2)); (case side2 => exact (Kd.R_reads' HO_688000.out).2.1); (case side3 => exact ce_ ((Kd.R_reads' HO_675000.out).2.2)); (case side4 => exact (Kd.R_reads' HO_675000.out).2.1); rintro e w145 ⟨rfl, hb⟩; have n0_ := Aside0.mk (Kd.R_below (re_ HO_675000.out) hb); have n1_ := Aside0.mk (Kd.R_below (re_ HO_679000.out) hb); have n2_ := Aside0.mk (Kd.R_below (re_ HO_683000.out) hb); have n3_ := Aside0.mk (Kd.R_below (re_ HO_688000.out) hb); have n4_ := Aside0.mk (Kd.R_below (re_ HO691.out) hb); have n5_ := Aside0.mk (Kd.R_below (re_ HO695.out) hb); have n6_ := Aside0.mk (blk_below (be_ BK660.out) hb); have n7_ := Aside0.mk (blk_below (be_ BK661.out) hb); have n8_ := Aside0.mk (blk_below (be_ BK674.out) hb); have n9_ := Aside0.mk (blk_below (be_ BK678.out) hb); have n10_ := Aside0.mk (blk_below (be_ BK682.out) hb); have n11_ := Aside0.mk (blk_below (be_ BK687.out) hb); have n12_ := Aside0.mk (below_step (by repeat (first | (with_reducible first | exact HB.out | apply below_alloc | apply pw_below_drewN | apply below_drew1 | refine below_set ?_ (Aside0.out (by assumption))) | exact HB.out)) hb); clear HO_675000; clear HO_679000; clear HO_683000; clear HO_688000; clear HO691; clear HO695; clear BK660; clear BK661; clear BK674; clear BK678; clear BK682; clear BK687; clear HB; have HO_675000 := n0_; have HO_679000 := n1_; have HO_683000 := n2_; have HO_688000 := n3_; have HO691 := n4_; have HO695 := n5_; have BK660 := n6_; have BK661 := n7_; have BK674 := n8_; have BK678 := n9_; have BK682 := n10_; have BK687 := n11_; have HB := n12_; clear n0_ n1_ n2_ n3_ n4_ n5_ n6_ n7_ n8_ n9_ n10_ n11_ n12_; (try clear hb); (try clear hb2); (try clear hk); (try clear hi)))
                   go_meet
                   case rel => exact ⟨_, ((t686 != t673)), (by first | rfl | (simp; done) | (simp [*]; done)), H', ⟨by have := HJ26.out; first | omega | exact Nat.le_refl _⟩, ⟨by (with_reducible repeat (first | apply Kd.R_alloc | apply Kd.R_drewN | apply Kd.R_drew)); exact Kd.R_mono HO_675000.out (fun _ hk => ⟨hk.1, ⟨hk.2.1, hk.2.2.1⟩⟩)⟩, ⟨by (with_reducible repeat (first | apply Kd.R_alloc | apply Kd.R_drewN | apply Kd.R_drew)); exact Kd.R_mono HO_679000.out (fun _ hk => ⟨hk.1, ⟨hk.2.1, hk.2.2.1⟩⟩)⟩, ⟨by (with_reducible repeat (first | apply Kd.R_alloc | apply Kd.R_drewN | apply Kd.R_drew)); exact Kd.R_mono HO_683000.out (fun _ hk => ⟨hk.1, ⟨hk.2.1, hk.2.2.1⟩⟩)⟩, ⟨by (with_reducible repeat (first | apply Kd.R_alloc | apply Kd.R_drewN | apply Kd.R_drew)); exact Kd.R_mono HO_688000.out (fun _ hk => ⟨hk.1, ⟨hk.2.1, hk.2.2.1⟩⟩)⟩, ⟨be_ BK660.out⟩, ⟨be_ BK661.out⟩, ⟨be_ BK674.out⟩, ⟨be_ BK678.out⟩, ⟨be_ BK682.out⟩, ⟨be_ BK687.out⟩, ⟨by repeat (first | (with_reducible first | exact HB.out | apply below_alloc | apply pw_below_drewN | apply below_drew1 | refine below_set ?_ (Aside0.out (by assumption))) | exact HB.out)⟩⟩
                · replace c133 := Bool.eq_false_iff.mpr c133
                  subst c133
                  have H1 : (laws_FnExactGlueOf.j1 kj26 a2 a3 t673 true l0_0 l1_0 t670 t683) = some r := by rw [if_neg (show ¬ (false = true) by decide)] at H; exact H
                  exact absurd (H1.trans (congrArg some hr_.out)) (by cases kj26 <;> simp [laws_FnExactGlueOf.j1])
             case rest =>
              clear HC109
              try clear c1
              try clear c2
              try clear p2
              try clear c3
              try clear c4
              try clear c5
              try clear c6
              try clear c7
              try clear c8
              try clear c9
              try clear c10
              try clear c11
              try clear c12
              try clear c13
              try clear c14
              try clear c15
              try clear c28
              try clear c30
              try clear c31
              try clear c32
              try clear c33
              try clear c45
              try clear c50
              try clear c51
              try clear c52
              try clear c54
              try clear c59
              try clear c60
              try clear c61
              try clear c62
              try clear c68
              try clear c69
              try clear c70
              try clear c71
              try clear c72
              try clear c75
              try clear c76
              try clear c77
              try clear c78
              try clear c79
              try clear c80
              try clear c82
              try clear c83
              try clear c84
              try clear c85
              try clear c88
              try clear c89
              try clear c90
              try clear c91
              try clear c92
              try clear c94
              try clear c95
              try clear c96
              try clear c97
              try clear c100
              try clear c103
              try clear c106
              try clear c118
              try clear c119
              try clear c120
              try clear c121
              try clear c122
              try clear c125
              try clear c126
              try clear c127
              try clear c128
              try clear c131
              try clear c131b0
              try clear c133
              try clear c134
              try clear c135
              try clear c136
              try clear c137
              try clear c138
              try clear c140
              try clear c141
              try clear c142
              try clear c143
              try clear c146
              try clear c147
              try clear c148
              try clear c149
              try clear c150
              try clear c152
              try clear c153
              try clear c154
              try clear c155
              try clear hcz123_0
              try clear hcz129_0
              try clear hcz139_0
              try clear hcz144_0
              try clear hcz151_0
              try clear hcz156_0
              try clear hcz46_0
              try clear hcz53_0
              try clear hcz55_0
              try clear hcz63_0
              try clear hcz64_0
              try clear hcz73_0
              try clear hcz81_0
              try clear hcz86_0
              try clear hcz93_0
              try clear hcz98_0
              try clear hfz123_0
              try clear hfz129_0
              try clear hfz139_0
              try clear hfz144_0
              try clear hfz151_0
              try clear hfz156_0
              try clear hfz46_0
              try clear hfz53_0
              try clear hfz55_0
              try clear hfz63_0
              try clear hfz64_0
              try clear hfz73_0
              try clear hfz81_0
              try clear hfz86_0
              try clear hfz93_0
              try clear hfz98_0
              obtain ⟨kq, x90_108, rfl, HA, HJ108, HO_675000, HO_679000, HO_683000, HO_688000, BK660, BK661, BK674, BK678, BK682, BK687, HB⟩ := hcut
              have hl679000_108 := (Kd.R_reads' HO_679000.out).1
              rw [hl679000_108] at HO_679000
              (try simp only [hl679000_108])
              (try simp only [hl679000_108] at BK660)
              (try simp only [hl679000_108] at BK661)
              (try simp only [hl679000_108] at BK674)
              (try simp only [hl679000_108] at BK678)
              (try simp only [hl679000_108] at BK682)
              (try simp only [hl679000_108] at BK687)
              (try simp only [hl679000_108] at HO_675000)
              (try simp only [hl679000_108] at HO_683000)
              (try simp only [hl679000_108] at HO_688000)
              have hl683000_108 := (Kd.R_reads' HO_683000.out).1
              rw [hl683000_108] at HO_683000
              (try simp only [hl683000_108])
              (try simp only [hl683000_108] at BK660)
              (try simp only [hl683000_108] at BK661)
              (try simp only [hl683000_108] at BK674)
              (try simp only [hl683000_108] at BK678)
              (try simp only [hl683000_108] at BK682)
              (try simp only [hl683000_108] at BK687)
              (try simp only [hl683000_108] at HO_675000)
              (try simp only [hl683000_108] at HO_679000)
              (try simp only [hl683000_108] at HO_688000)
              cases kq with
              | zero => exact absurd HA.out (by simp [laws_FnExactGlueOf.j1])
              | succ kj108 =>
               have H := HA.out
               clear HA
               simp only [laws_FnExactGlueOf.j1] at H
               by_cases c158 : x90_108 = true
               · subst c158
                 have H1 : (some false) = some r := by rw [if_pos rfl] at H; exact H
                 exact absurd (H1.trans (congrArg some hr_.out)) (by simp)
               · replace c158 := Bool.eq_false_iff.mpr c158
                 subst c158
                 have H1 : ((laws_markSemigroup.f kj108 t683 1).bind fun bt702 => ((laws_heldSemigroup.f kj108 bt702.2 1).bind fun t704 => (if t704 < 0 then (some false) else (if t704 = bt702.1 then ((laws_toSemigroup.f kj108 l0_0).bind fun t705 => ((laws_toSemigroup.f kj108 l1_0).bind fun t708 => ((impl_GlueOf.f kj108 t705 t708 a2 a3).bind fun bt711 => ((laws_eqSemigroup.f kj108 bt711.1 t670).bind fun t716 => (if t716 = true then (laws_FnExactGlueOf.j2 kj108 bt702.1 (bt711.2 != t673) bt702.2) else (laws_FnExactGlueOf.j2 kj108 bt702.1 true bt702.2)))))) else (some false))))) = some r := by rw [if_neg (show ¬ (false = true) by decide)] at H; exact H
                 clear H
                 have H := H1
                 clear H1
                 replace H := Option.bind_eq_some_iff.mp H
                 obtain ⟨⟨t702, t703⟩, A1590, H⟩ := H
                 replace H : ((laws_heldSemigroup.f kj108 t703 1).bind fun t704 => (if t704 < 0 then (some false) else (if t704 = t702 then ((laws_toSemigroup.f kj108 l0_0).bind fun t705 => ((laws_toSemigroup.f kj108 l1_0).bind fun t708 => ((impl_GlueOf.f kj108 t705 t708 a2 a3).bind fun bt711 => ((laws_eqSemigroup.f kj108 bt711.1 t670).bind fun t716 => (if t716 = true then (laws_FnExactGlueOf.j2 kj108 t702 (bt711.2 != t673) t703) else (laws_FnExactGlueOf.j2 kj108 t702 true t703)))))) else (some false)))) = some r := H
                 have A159 := Aside0.mk A1590
                 clear A1590
                 replace H := Option.bind_eq_some_iff.mp H
                 obtain ⟨t704, A1600, H⟩ := H
                 replace H : (if t704 < 0 then (some false) else (if t704 = t702 then ((laws_toSemigroup.f kj108 l0_0).bind fun t705 => ((laws_toSemigroup.f kj108 l1_0).bind fun t708 => ((impl_GlueOf.f kj108 t705 t708 a2 a3).bind fun bt711 => ((laws_eqSemigroup.f kj108 bt711.1 t670).bind fun t716 => (if t716 = true then (laws_FnExactGlueOf.j2 kj108 t702 (bt711.2 != t673) t703) else (laws_FnExactGlueOf.j2 kj108 t702 true t703)))))) else (some false))) = some r := H
                 have A160 := Aside0.mk A1600
                 clear A1600
                 by_cases c161 : t704 < 0
                 · rw [if_pos c161] at H
                   exact absurd (H.trans (congrArg some hr_.out)) (by simp)
                 · rw [if_neg c161] at H
                   have c161b0 : decide (t704 < 0) = false := decide_eq_false c161
                   clear c161
                   by_cases c171 : t704 = t702
                   · rw [if_pos c171] at H
                     have c171b0 : (t704 == t702) = true := beq_iff_eq.mpr c171
                     have c171b1 : (t704 != t702) = false := bne_eq_false_iff_eq.mpr c171
                     clear c171
                     replace H := Option.bind_eq_some_iff.mp H
                     obtain ⟨t705, A1720, H⟩ := H
                     replace H : ((laws_toSemigroup.f kj108 l1_0).bind fun t708 => ((impl_GlueOf.f kj108 t705 t708 a2 a3).bind fun bt711 => ((laws_eqSemigroup.f kj108 bt711.1 t670).bind fun t716 => (if t716 = true then (laws_FnExactGlueOf.j2 kj108 t702 (bt711.2 != t673) t703) else (laws_FnExactGlueOf.j2 kj108 t702 true t703))))) = some r := H
                     have A172 := Aside0.mk A1720
                     clear A1720
                     replace H := Option.bind_eq_some_iff.mp H
                     obtain ⟨t708, A1730, H⟩ := H
                     replace H : ((impl_GlueOf.f kj108 t705 t708 a2 a3).bind fun bt711 => ((laws_eqSemigroup.f kj108 bt711.1 t670).bind fun t716 => (if t716 = true then (laws_FnExactGlueOf.j2 kj108 t702 (bt711.2 != t673) t703) else (laws_FnExactGlueOf.j2 kj108 t702 true t703)))) = some r := H
                     have A173 := Aside0.mk A1730
                     clear A1730
                     replace H := Option.bind_eq_some_iff.mp H
                     obtain ⟨⟨t711, t714⟩, A1740, H⟩ := H
                     replace H : ((laws_eqSemigroup.f kj108 t711 t670).bind fun t716 => (if t716 = true then (laws_FnExactGlueOf.j2 kj108 t702 (t714 != t673) t703) else (laws_FnExactGlueOf.j2 kj108 t702 true t703))) = some r := H
                     have A174 := Aside0.mk A1740
                     clear A1740
                     have HC175 := Aside0.mk H
                     clear H
                     have hnb176 := NB687_660.out
                     have hnc176 := NB660_687.out
                     have hnb177 := NB687_661.out
                     have hnc177 := NB661_687.out
                     have hnb178 := NB687_674.out
                     have hnc178 := NB674_687.out
                     have hnb179 := NB687_678.out
                     have hnc179 := NB678_687.out
                     have hnb180 := NB687_682.out
                     have hnc180 := NB682_687.out
                     have hcz181_0 : wc.cell? ⟨gb687, 0, none⟩ = some (.slice Ao67 t683.length co67) := (blk_cell BK687.out 0).trans rfl
                     have hfz181_0 := blk_frozen BK687.out 0
                     try go_wp2_with (first | ((with_reducible refine gate_callee (f := 31) rfl ?_); refine goesL_ (some 93) rfl rfl Try.func31 (by kernel_rfl) rfl #[.agg #[.slice Ao67 t683.length co67], .int .i64 1] rfl (by (try simp only [List.map_toArray, List.map_cons, List.map_nil]); first | done | rfl | (simp only [List.length_drop, List.length_take]; rfl)) ?_; (with_reducible refine (laws_markSemigroup.calls kj108 (fun k_ => some k_ = (.slice Ao67 t683.length co67 : Value).ownBlock) (.slice Ao67 t683.length co67) t683 1 t702 t703 w _ ?side1 ?side2 A159.out).mono ?_); (case side1 => repeat (first | (with_reducible first | exact HB.out | apply below_alloc | apply pw_below_drewN | apply below_drew1 | refine below_set ?_ (Aside0.out (by assumption))) | exact HB.out)); (case side2 => exact Kd.R_tight rfl HO_688000.out); rintro e w182 ⟨rfl, hy0, hb, hkp⟩; refine ⟨_, rfl, ?_⟩; have n0_ := Aside0.mk (Kd.R_mono (ok' := fun k_ => some k_ ≠ (.slice Ao49 t698.length co49 : Value).ownBlock ∧ some k_ ≠ (.slice Ao58 t700.length co58 : Value).ownBlock ∧ some k_ ≠ (.slice Ao67 t683.length co67 : Value).ownBlock) (Kd.R_keptB (HO_675000.out) hkp (fun k_ hk_ hs_ => (hk_.2.2) hs_)) (fun k_ hk_ => ⟨hk_.1.1, hk_.1.2.1, hk_.1.2.2⟩)); have n1_ := Aside0.mk (Kd.R_mono (ok' := fun k_ => some k_ ≠ (.slice Ao43 t670.length co43 : Value).ownBlock ∧ some k_ ≠ (.slice Ao58 t700.length co58 : Value).ownBlock ∧ some k_ ≠ (.slice Ao67 t683.length co67 : Value).ownBlock) (Kd.R_keptB (HO_679000.out) hkp (fun k_ hk_ hs_ => (hk_.2.2) hs_)) (fun k_ hk_ => ⟨hk_.1.1, hk_.1.2.1, hk_.1.2.2⟩)); have n2_ := Aside0.mk (Kd.R_mono (ok' := fun k_ => some k_ ≠ (.slice Ao43 t670.length co43 : Value).ownBlock ∧ some k_ ≠ (.slice Ao49 t698.length co49 : Value).ownBlock ∧ some k_ ≠ (.slice Ao67 t683.length co67 : Value).ownBlock) (Kd.R_keptB (HO_683000.out) hkp (fun k_ hk_ hs_ => (hk_.2.2) hs_)) (fun k_ hk_ => ⟨hk_.1.1, hk_.1.2.1, hk_.1.2.2⟩)); have n3_ := Aside0.mk (Kd.R_reok rfl hy0 (fun k_ e_ => HO_688000.out.1 k_ e_)); have n4_ := Aside0.mk (blk_kept (be_ BK660.out) hkp (fun hs_ => (fun e_ => (Kd.R_ne HO_688000.out BK660.out (by decide)) e_) hs_)); have n5_ := Aside0.mk (blk_kept (be_ BK661.out) hkp (fun hs_ => (fun e_ => (Kd.R_ne HO_688000.out BK661.out (by decide)) e_) hs_)); have n6_ := Aside0.mk (blk_kept (be_ BK674.out) hkp (fun hs_ => (fun e_ => (Kd.R_ne HO_688000.out BK674.out (by decide)) e_) hs_)); have n7_ := Aside0.mk (blk_kept (be_ BK678.out) hkp (fun hs_ => (fun e_ => (Kd.R_ne HO_688000.out BK678.out (by decide)) e_) hs_)); have n8_ := Aside0.mk (blk_kept (be_ BK682.out) hkp (fun hs_ => (fun e_ => (Kd.R_ne HO_688000.out BK682.out (by decide)) e_) hs_)); have n9_ := Aside0.mk (blk_kept (be_ BK687.out) hkp (fun hs_ => (fun e_ => (Kd.R_ne HO_688000.out BK687.out (by decide)) e_) hs_)); have n10_ := Aside0.mk (hb); clear HO_675000; clear HO_679000; clear HO_683000; clear HO_688000; clear BK660; clear BK661; clear BK674; clear BK678; clear BK682; clear BK687; clear HB; have HO_675000 := n0_; have HO_679000 := n1_; have HO_683000 := n2_; have HO_688000 := n3_; have BK660 := n4_; have BK661 := n5_; have BK674 := n6_; have BK678 := n7_; have BK682 := n8_; have BK687 := n9_; have HB := n10_; clear n0_ n1_ n2_ n3_ n4_ n5_ n6_ n7_ n8_ n9_ n10_; (try clear hb); (try clear hkp); (try clear hy0); have hcz183_0 : w182.cell? ⟨gb687, 0, none⟩ = some (.slice Ao67 t683.length co67) := (blk_cell BK687.out 0).trans rfl; have hfz183_0 := blk_frozen BK687.out 0) | ((with_reducible refine gate_callee (f := 34) rfl ?_); refine goesL_ (some 96) rfl rfl Try.func34 (by kernel_rfl) rfl #[.agg #[.slice Ao67 t703.length co67], .int .i64 1] rfl (by (try simp only [List.map_toArray, List.map_cons, List.map_nil]); first | done | (rw [show t703.length = t683.length from (Kd.R_reads' HO_688000.out).1.symm] <;> rfl) | rfl | (simp only [List.length_drop, List.length_take]; rfl)) ?_; (with_reducible refine (laws_heldSemigroup.calls kj108 _ _ t703 1 t704 _ ?side1 ?side2 A160.out).mono ?_); (case side1 => exact ce_ ((Kd.R_reads' HO_688000.out).2.2)); (case side2 => rw [show t703.length = t683.length from (Kd.R_reads' HO_688000.out).1.symm]; exact (Kd.R_reads' HO_688000.out).2.1); rintro e w184 ⟨rfl, hb⟩; refine ⟨_, rfl, ?_⟩; have n0_ := Aside0.mk (Kd.R_below (re_ HO_675000.out) hb); have n1_ := Aside0.mk (Kd.R_below (re_ HO_679000.out) hb); have n2_ := Aside0.mk (Kd.R_below (re_ HO_683000.out) hb); have n3_ := Aside0.mk (Kd.R_below (re_ HO_688000.out) hb); have n4_ := Aside0.mk (blk_below (be_ BK660.out) hb); have n5_ := Aside0.mk (blk_below (be_ BK661.out) hb); have n6_ := Aside0.mk (blk_below (be_ BK674.out) hb); have n7_ := Aside0.mk (blk_below (be_ BK678.out) hb); have n8_ := Aside0.mk (blk_below (be_ BK682.out) hb); have n9_ := Aside0.mk (blk_below (be_ BK687.out) hb); have n10_ := Aside0.mk (below_step (by repeat (first | (with_reducible first | exact HB.out | apply below_alloc | apply pw_below_drewN | apply below_drew1 | refine below_set ?_ (Aside0.out (by assumption))) | exact HB.out)) hb); clear HO_675000; clear HO_679000; clear HO_683000; clear HO_688000; clear BK660; clear BK661; clear BK674; clear BK678; clear BK682; clear BK687; clear HB; have HO_675000 := n0_; have HO_679000 := n1_; have HO_683000 := n2_; have HO_688000 := n3_; have BK660 := n4_; have BK661 := n5_; have BK674 := n6_; have BK678 := n7_; have BK682 := n8_; have BK687 := n9_; have HB := n10_; clear n0_ n1_ n2_ n3_ n4_ n5_ n6_ n7_ n8_ n9_ n10_; (try clear hb); (try clear hb2); (try clear hk); (try clear hi)))
                     have n0_ := Aside0.mk (Kd.R_drew HO_675000.out)
                     have n1_ := Aside0.mk (Kd.R_drew HO_679000.out)
                     have n2_ := Aside0.mk (Kd.R_drew HO_683000.out)
                     have n3_ := Aside0.mk (Kd.R_drew HO_688000.out)
                     have n4_ := Aside0.mk (blk_drew BK660.out)
                     have n5_ := Aside0.mk (blk_drew BK661.out)
                     have n6_ := Aside0.mk (blk_drew BK674.out)
                     have n7_ := Aside0.mk (blk_drew BK678.out)
                     have n8_ := Aside0.mk (blk_drew BK682.out)
                     have n9_ := Aside0.mk (blk_drew BK687.out)
                     have n10_ := Aside0.mk (below_drew1 HB.out)
                     clear HO_675000
                     clear HO_679000
                     clear HO_683000
                     clear HO_688000
                     clear BK660
                     clear BK661
                     clear BK674
                     clear BK678
                     clear BK682
                     clear BK687
                     clear HB
                     have HO_675000 := n0_
                     have HO_679000 := n1_
                     have HO_683000 := n2_
                     have HO_688000 := n3_
                     have BK660 := n4_
                     have BK661 := n5_
                     have BK674 := n6_
                     have BK678 := n7_
                     have BK682 := n8_
                     have BK687 := n9_
                     have HB := n10_
                     clear n0_ n1_ n2_ n3_ n4_ n5_ n6_ n7_ n8_ n9_ n10_
                     refine start_ (n := 13) (S := fun w' => w'.cell? ⟨gb660, 0, none⟩ = some (.slice A0_0 l0_0.length c0_0) ∧ w'.cell? ⟨gb661, 0, none⟩ = some (.slice A1_0 l1_0.length c1_0)) (ds := []) (B_ 0 13) (by kernel_rfl) rfl rfl ⟨(blk_cell BK660.out 0).trans rfl, (blk_cell BK661.out 0).trans rfl⟩ (fun hHeld => ?_); refine with_tabW laws_FnExactGlueOf.tab31 laws_FnExactGlueOf.bits31 (fun HT_ HW_ => ?_)
                     generalize w184.drew = w185 at HO_675000 HO_679000 HO_683000 HO_688000 BK660 BK661 BK674 BK678 BK682 BK687 HB hHeld ⊢
                     refine pu_ HT_ 4 107 (B_ 16 13) ?_
                     refine pu_ HT_ 5 108 (B_ 48 13) ?_
                     refine tk2_ HT_ HW_ hHeld 0 103 (B_ 49 13) ?_
                     refine tk2_ HT_ HW_ hHeld 2 105 (B_ 53 13) ?_
                     refine join_ (σ := Value × Value × Value × Nat) 2 (B_ 2047 13) (fun s_ => [(104, .agg #[s_.1]), (106, .agg #[s_.2.1]), (109, .tuple #[.agg #[s_.2.2.1], .bool t714]), (19, .pointer (some ⟨s_.2.2.2, 0, none⟩)), (102, .tuple #[.agg #[s_.2.2.1], .bool t714]), (110, .agg #[s_.2.2.1]), (111, .bool t714)]) (fun s_ w' => (w'.cell? ⟨gb660, 0, none⟩ = some (.slice A0_0 l0_0.length c0_0) ∧ w'.cell? ⟨gb661, 0, none⟩ = some (.slice A1_0 l1_0.length c1_0)) ∧ (Kd.R (Kd.int .i64) 3 w' w.heap.size (fun k_ => some k_ ≠ (s_.2.1 : Value).ownBlock ∧ some k_ ≠ (s_.2.2.1 : Value).ownBlock ∧ some k_ ≠ (.slice Ao43 t670.length co43 : Value).ownBlock ∧ some k_ ≠ (.slice Ao49 t698.length co49 : Value).ownBlock ∧ some k_ ≠ (.slice Ao58 t700.length co58 : Value).ownBlock ∧ some k_ ≠ (.slice Ao67 t683.length co67 : Value).ownBlock) s_.1 t705) ∧ (Kd.R (Kd.int .i64) 3 w' w.heap.size (fun k_ => some k_ ≠ (s_.1 : Value).ownBlock ∧ some k_ ≠ (s_.2.2.1 : Value).ownBlock ∧ some k_ ≠ (.slice Ao43 t670.length co43 : Value).ownBlock ∧ some k_ ≠ (.slice Ao49 t698.length co49 : Value).ownBlock ∧ some k_ ≠ (.slice Ao58 t700.length co58 : Value).ownBlock ∧ some k_ ≠ (.slice Ao67 t683.length co67 : Value).ownBlock) s_.2.1 t708) ∧ (Kd.R (Kd.int .i64) 3 w' w.heap.size (fun k_ => some k_ ≠ (s_.1 : Value).ownBlock ∧ some k_ ≠ (s_.2.1 : Value).ownBlock ∧ some k_ ≠ (.slice Ao43 t670.length co43 : Value).ownBlock ∧ some k_ ≠ (.slice Ao49 t698.length co49 : Value).ownBlock ∧ some k_ ≠ (.slice Ao58 t700.length co58 : Value).ownBlock ∧ some k_ ≠ (.slice Ao67 t683.length co67 : Value).ownBlock) s_.2.2.1 t711) ∧ (Kd.R (Kd.int .i64) 3 w' w.heap.size (fun k_ => some k_ ≠ (s_.1 : Value).ownBlock ∧ some k_ ≠ (s_.2.1 : Value).ownBlock ∧ some k_ ≠ (s_.2.2.1 : Value).ownBlock ∧ some k_ ≠ (.slice Ao49 t698.length co49 : Value).ownBlock ∧ some k_ ≠ (.slice Ao58 t700.length co58 : Value).ownBlock ∧ some k_ ≠ (.slice Ao67 t683.length co67 : Value).ownBlock) (.slice Ao43 t670.length co43) t670) ∧ (Kd.R (Kd.int .i64) 3 w' w.heap.size (fun k_ => some k_ ≠ (s_.1 : Value).ownBlock ∧ some k_ ≠ (s_.2.1 : Value).ownBlock ∧ some k_ ≠ (s_.2.2.1 : Value).ownBlock ∧ some k_ ≠ (.slice Ao43 t670.length co43 : Value).ownBlock ∧ some k_ ≠ (.slice Ao58 t700.length co58 : Value).ownBlock ∧ some k_ ≠ (.slice Ao67 t683.length co67 : Value).ownBlock) (.slice Ao49 t698.length co49) t698) ∧ (Kd.R (Kd.int .i64) 3 w' w.heap.size (fun k_ => some k_ ≠ (s_.1 : Value).ownBlock ∧ some k_ ≠ (s_.2.1 : Value).ownBlock ∧ some k_ ≠ (s_.2.2.1 : Value).ownBlock ∧ some k_ ≠ (.slice Ao43 t670.length co43 : Value).ownBlock ∧ some k_ ≠ (.slice Ao49 t698.length co49 : Value).ownBlock ∧ some k_ ≠ (.slice Ao67 t683.length co67 : Value).ownBlock) (.slice Ao58 t700.length co58) t700) ∧ (Kd.R (Kd.int .i64) 3 w' w.heap.size (fun k_ => some k_ ≠ (s_.1 : Value).ownBlock ∧ some k_ ≠ (s_.2.1 : Value).ownBlock ∧ some k_ ≠ (s_.2.2.1 : Value).ownBlock ∧ some k_ ≠ (.slice Ao43 t670.length co43 : Value).ownBlock ∧ some k_ ≠ (.slice Ao49 t698.length co49 : Value).ownBlock ∧ some k_ ≠ (.slice Ao58 t700.length co58 : Value).ownBlock) (.slice Ao67 t683.length co67) t703) ∧ (w'.heap[gb660]? = some (.cells #[.slice A0_0 l0_0.length c0_0] 41 (0, 0))) ∧ (w'.heap[gb661]? = some (.cells #[.slice A1_0 l1_0.length c1_0] 41 (0, 0))) ∧ (w'.heap[gb674]? = some (.cells #[.slice Ao43 t670.length co43] 44 (0, 0))) ∧ (w'.heap[gb678]? = some (.cells #[.slice Ao49 t698.length co49] 44 (0, 0))) ∧ (w'.heap[gb682]? = some (.cells #[.slice Ao58 t700.length co58] 44 (0, 0))) ∧ (w'.heap[gb687]? = some (.cells #[.slice Ao67 t683.length co67] 44 (0, 0))) ∧ (w'.heap[s_.2.2.2]? = some (.cells #[.slice none 0 0] 44 (0, 0))) ∧ (w.heap.size ≤ s_.2.2.2) ∧ (w.heap.size ≤ s_.2.2.2) ∧ (gb660 ≠ s_.2.2.2) ∧ (s_.2.2.2 ≠ gb660) ∧ (gb661 ≠ s_.2.2.2) ∧ (s_.2.2.2 ≠ gb661) ∧ (gb674 ≠ s_.2.2.2) ∧ (s_.2.2.2 ≠ gb674) ∧ (gb678 ≠ s_.2.2.2) ∧ (s_.2.2.2 ≠ gb678) ∧ (gb682 ≠ s_.2.2.2) ∧ (s_.2.2.2 ≠ gb682) ∧ (gb687 ≠ s_.2.2.2) ∧ (s_.2.2.2 ≠ gb687) ∧ (Below w.heap.size w w')) ?_ ?_
                     rotate_left
                     · intro hCont
                       refine two_ (i := 1) (j := 10) (Ni := some 104) (Nj := some 19) (B_ 55 13) (B_ 1077 13) rfl rfl rfl rfl (two_of HT_.out (by kernel_rfl)) (by decide) (by decide) (fun K hK => ?_) (fun K hK => ?_)
                       · skip
                         refine goes_ Try.func28 (by kernel_rfl) rfl #[.agg #[.slice A0_0 l0_0.length c0_0]] (by rfl) rfl rfl (by (try simp only [List.map_toArray, List.map_cons, List.map_nil]); first | done | rfl | (simp only [List.length_drop, List.length_take]; rfl)) ?_
                         with_reducible refine (laws_toSemigroup.calls kj108 _ _ l0_0 t705 _ ?side1 ?side2 A172.out).mono ?_
                         (case side1 => exact ce_ ((Kd.C_below HR0_0.out HB.out)))
                         (case side2 => exact HC0_0.out)
                         rintro e w186 ⟨v706, rfl, ho0, hb⟩
                         refine ⟨_, rfl, ?_⟩
                         have n0_ := Aside0.mk (Kd.R_elder' (re_ HO_675000.out) (Kd.R_base ho0) hb)
                         have n1_ := Aside0.mk (Kd.R_elder' (re_ HO_679000.out) (Kd.R_base ho0) hb)
                         have n2_ := Aside0.mk (Kd.R_elder' (re_ HO_683000.out) (Kd.R_base ho0) hb)
                         have n3_ := Aside0.mk (Kd.R_elder' (re_ HO_688000.out) (Kd.R_base ho0) hb)
                         have n4_ := Aside0.mk (Kd.R_lower (Kd.R_new' (Kd.R_new' (Kd.R_new' (Kd.R_new' ho0 (Kd.R_lt (re_ HO_675000.out))) (Kd.R_lt (re_ HO_679000.out))) (Kd.R_lt (re_ HO_683000.out))) (Kd.R_lt (re_ HO_688000.out))) (below_size (by repeat (first | (with_reducible first | exact HB.out | apply below_alloc | apply pw_below_drewN | apply below_drew1 | refine below_set ?_ (Aside0.out (by assumption))) | exact HB.out))))
                         have n5_ := Aside0.mk (blk_below (be_ BK660.out) hb)
                         have n6_ := Aside0.mk (blk_below (be_ BK661.out) hb)
                         have n7_ := Aside0.mk (blk_below (be_ BK674.out) hb)
                         have n8_ := Aside0.mk (blk_below (be_ BK678.out) hb)
                         have n9_ := Aside0.mk (blk_below (be_ BK682.out) hb)
                         have n10_ := Aside0.mk (blk_below (be_ BK687.out) hb)
                         have n11_ := Aside0.mk (below_step (by repeat (first | (with_reducible first | exact HB.out | apply below_alloc | apply pw_below_drewN | apply below_drew1 | refine below_set ?_ (Aside0.out (by assumption))) | exact HB.out)) hb)
                         clear HO_675000
                         clear HO_679000
                         clear HO_683000
                         clear HO_688000
                         clear BK660
                         clear BK661
                         clear BK674
                         clear BK678
                         clear BK682
                         clear BK687
                         clear HB
                         have HO_675000 := n0_
                         have HO_679000 := n1_
                         have HO_683000 := n2_
                         have HO_688000 := n3_
                         have HO707 := n4_
                         have BK660 := n5_
                         have BK661 := n6_
                         have BK674 := n7_
                         have BK678 := n8_
                         have BK682 := n9_
                         have BK687 := n10_
                         have HB := n11_
                         clear n0_ n1_ n2_ n3_ n4_ n5_ n6_ n7_ n8_ n9_ n10_ n11_
                         (try clear hb)
                         (try clear hb2)
                         (try clear hk)
                         (try clear hi)
                         (try clear ho0)
                         refine hK.out _ _ ⟨(blk_cell BK660.out 0).trans rfl, (blk_cell BK661.out 0).trans rfl⟩ (fun hHeld => ?_)
                         clear hK K
                         refine norm_ (a' := ?_) ?_ ?_
                         rotate_left
                         · show Act.put _ (some 104) _ = _
                           simp only [Act.put, z1_, z2_, z3_, i64_w, i32_w]
                           rfl
                         refine two_ (i := 3) (j := 10) (Ni := some 106) (Nj := some 19) (B_ 63 13) (B_ 1079 13) rfl rfl rfl rfl (two_of HT_.out (by kernel_rfl)) (by decide) (by decide) (fun K hK => ?_) (fun K hK => ?_)
                         · skip
                           refine goes_ Try.func28 (by kernel_rfl) rfl #[.agg #[.slice A1_0 l1_0.length c1_0]] (by rfl) rfl rfl (by (try simp only [List.map_toArray, List.map_cons, List.map_nil]); first | done | rfl | (simp only [List.length_drop, List.length_take]; rfl)) ?_
                           with_reducible refine (laws_toSemigroup.calls kj108 _ _ l1_0 t708 _ ?side1 ?side2 A173.out).mono ?_
                           (case side1 => exact ce_ ((Kd.C_below HR1_0.out HB.out)))
                           (case side2 => exact HC1_0.out)
                           rintro e w187 ⟨v709, rfl, ho0, hb⟩
                           refine ⟨_, rfl, ?_⟩
                           have n0_ := Aside0.mk (Kd.R_elder' (re_ HO_675000.out) (Kd.R_base ho0) hb)
                           have n1_ := Aside0.mk (Kd.R_elder' (re_ HO_679000.out) (Kd.R_base ho0) hb)
                           have n2_ := Aside0.mk (Kd.R_elder' (re_ HO_683000.out) (Kd.R_base ho0) hb)
                           have n3_ := Aside0.mk (Kd.R_elder' (re_ HO_688000.out) (Kd.R_base ho0) hb)
                           have n4_ := Aside0.mk (Kd.R_elder' (re_ HO707.out) (Kd.R_base ho0) hb)
                           have n5_ := Aside0.mk (Kd.R_lower (Kd.R_new' (Kd.R_new' (Kd.R_new' (Kd.R_new' (Kd.R_new' ho0 (Kd.R_lt (re_ HO_675000.out))) (Kd.R_lt (re_ HO_679000.out))) (Kd.R_lt (re_ HO_683000.out))) (Kd.R_lt (re_ HO_688000.out))) (Kd.R_lt (re_ HO707.out))) (below_size (by repeat (first | (with_reducible first | exact HB.out | apply below_alloc | apply pw_below_drewN | apply below_drew1 | refine below_set ?_ (Aside0.out (by assumption))) | exact HB.out))))
                           have n6_ := Aside0.mk (blk_below (be_ BK660.out) hb)
                           have n7_ := Aside0.mk (blk_below (be_ BK661.out) hb)
                           have n8_ := Aside0.mk (blk_below (be_ BK674.out) hb)
                           have n9_ := Aside0.mk (blk_below (be_ BK678.out) hb)
                           have n10_ := Aside0.mk (blk_below (be_ BK682.out) hb)
                           have n11_ := Aside0.mk (blk_below (be_ BK687.out) hb)
                           have n12_ := Aside0.mk (below_step (by repeat (first | (with_reducible first | exact HB.out | apply below_alloc | apply pw_below_drewN | apply below_drew1 | refine below_set ?_ (Aside0.out (by assumption))) | exact HB.out)) hb)
                           clear HO_675000
                           clear HO_679000
                           clear HO_683000
                           clear HO_688000
                           clear HO707
                           clear BK660
                           clear BK661
                           clear BK674
                           clear BK678
                           clear BK682
                           clear BK687
                           clear HB
                           have HO_675000 := n0_
                           have HO_679000 := n1_
                           have HO_683000 := n2_
                           have HO_688000 := n3_
                           have HO707 := n4_
                           have HO710 := n5_
                           have BK660 := n6_
                           have BK661 := n7_
                           have BK674 := n8_
                           have BK678 := n9_
                           have BK682 := n10_
                           have BK687 := n11_
                           have HB := n12_
                           clear n0_ n1_ n2_ n3_ n4_ n5_ n6_ n7_ n8_ n9_ n10_ n11_ n12_
                           (try clear hb)
                           (try clear hb2)
                           (try clear hk)
                           (try clear hi)
                           (try clear ho0)
                           obtain ⟨Ao188, co188, eo188⟩ := Kd.R_slice HO707.out
                           (first | subst eo188 | (injection eo188 with f1_ f2_ f3_; have f4_ := f1_.symm; have f5_ := f3_.symm; clear f1_ f2_ f3_; subst f4_; subst f5_))
                           obtain ⟨Ao189, co189, eo189⟩ := Kd.R_slice HO710.out
                           (first | subst eo189 | (injection eo189 with f1_ f2_ f3_; have f4_ := f1_.symm; have f5_ := f3_.symm; clear f1_ f2_ f3_; subst f4_; subst f5_))
                           refine hK.out _ _ ⟨(blk_cell BK660.out 0).trans rfl, (blk_cell BK661.out 0).trans rfl⟩ (fun hHeld => ?_)
                           clear hK K
                           refine norm_ (a' := ?_) ?_ ?_
                           rotate_left
                           · show Act.put _ (some 106) _ = _
                             simp only [Act.put, z1_, z2_, z3_, i64_w, i32_w]
                             rfl
                           refine two_ (i := 6) (j := 10) (Ni := some 109) (Nj := some 19) (B_ 127 13) (B_ 1087 13) rfl rfl rfl rfl (two_of HT_.out (by kernel_rfl)) (by decide) (by decide) (fun K hK => ?_) (fun K hK => ?_)
                           · skip
                             refine goes_ Try.func33 (by kernel_rfl) rfl #[.agg #[.slice Ao188 t705.length co188], .agg #[.slice Ao189 t708.length co189], .int .i64 a2, .int .i64 a3] (by rfl) rfl rfl (by (try simp only [List.map_toArray, List.map_cons, List.map_nil]); first | done | rfl | (simp only [List.length_drop, List.length_take]; rfl)) ?_
                             with_reducible refine (impl_GlueOf.calls kj108 _ _ t705 _ _ t708 a2 a3 t711 t714 _ ?side1 ?side2 ?side3 ?side4 A174.out).mono ?_
                             (case side1 => exact ce_ ((Kd.R_reads' HO707.out).2.2))
                             (case side2 => exact (Kd.R_reads' HO707.out).2.1)
                             (case side3 => exact ce_ ((Kd.R_reads' HO710.out).2.2))
                             (case side4 => exact (Kd.R_reads' HO710.out).2.1)
                             rintro e w190 ⟨v712, rfl, ho0, hb⟩
                             refine ⟨_, rfl, ?_⟩
                             have n0_ := Aside0.mk (Kd.R_elder' (re_ HO_675000.out) (Kd.R_base ho0) hb)
                             have n1_ := Aside0.mk (Kd.R_elder' (re_ HO_679000.out) (Kd.R_base ho0) hb)
                             have n2_ := Aside0.mk (Kd.R_elder' (re_ HO_683000.out) (Kd.R_base ho0) hb)
                             have n3_ := Aside0.mk (Kd.R_elder' (re_ HO_688000.out) (Kd.R_base ho0) hb)
                             have n4_ := Aside0.mk (Kd.R_elder' (re_ HO707.out) (Kd.R_base ho0) hb)
                             have n5_ := Aside0.mk (Kd.R_elder' (re_ HO710.out) (Kd.R_base ho0) hb)
                             have n6_ := Aside0.mk (Kd.R_lower (Kd.R_new' (Kd.R_new' (Kd.R_new' (Kd.R_new' (Kd.R_new' (Kd.R_new' ho0 (Kd.R_lt (re_ HO_675000.out))) (Kd.R_lt (re_ HO_679000.out))) (Kd.R_lt (re_ HO_683000.out))) (Kd.R_lt (re_ HO_688000.out))) (Kd.R_lt (re_ HO707.out))) (Kd.R_lt (re_ HO710.out))) (below_size (by repeat (first | (with_reducible first | exact HB.out | apply below_alloc | apply pw_below_drewN | apply below_drew1 | refine below_set ?_ (Aside0.out (by assumption))) | exact HB.out))))
                             have n7_ := Aside0.mk (blk_below (be_ BK660.out) hb)
                             have n8_ := Aside0.mk (blk_below (be_ BK661.out) hb)
                             have n9_ := Aside0.mk (blk_below (be_ BK674.out) hb)
                             have n10_ := Aside0.mk (blk_below (be_ BK678.out) hb)
                             have n11_ := Aside0.mk (blk_below (be_ BK682.out) hb)
                             have n12_ := Aside0.mk (blk_below (be_ BK687.out) hb)
                             have n13_ := Aside0.mk (below_step (by repeat (first | (with_reducible first | exact HB.out | apply below_alloc | apply pw_below_drewN | apply below_drew1 | refine below_set ?_ (Aside0.out (by assumption))) | exact HB.out)) hb)
                             clear HO_675000
                             clear HO_679000
                             clear HO_683000
                             clear HO_688000
                             clear HO707
                             clear HO710
                             clear BK660
                             clear BK661
                             clear BK674
                             clear BK678
                             clear BK682
                             clear BK687
                             clear HB
                             have HO_675000 := n0_
                             have HO_679000 := n1_
                             have HO_683000 := n2_
                             have HO_688000 := n3_
                             have HO707 := n4_
                             have HO710 := n5_
                             have HO713 := n6_
                             have BK660 := n7_
                             have BK661 := n8_
                             have BK674 := n9_
                             have BK678 := n10_
                             have BK682 := n11_
                             have BK687 := n12_
                             have HB := n13_
                             clear n0_ n1_ n2_ n3_ n4_ n5_ n6_ n7_ n8_ n9_ n10_ n11_ n12_ n13_
                             (try clear hb)
                             (try clear hb2)
                             (try clear hk)
                             (try clear hi)
                             (try clear ho0)
                             refine hK.out _ _ ⟨(blk_cell BK660.out 0).trans rfl, (blk_cell BK661.out 0).trans rfl⟩ (fun hHeld => ?_)
                             clear hK K
                             refine norm_ (a' := ?_) ?_ ?_
                             rotate_left
                             · show Act.put _ (some 109) _ = _
                               simp only [Act.put, z1_, z2_, z3_, i64_w, i32_w]
                               rfl
                             refine pu_ HT_ 7 102 (B_ 255 13) ?_
                             refine pu_ HT_ 8 110 (B_ 511 13) ?_
                             refine pu_ HT_ 9 111 (B_ 1023 13) ?_
                             refine one_ (i := 10) (N := some 19) (B_ 2047 13) rfl rfl (one_of HT_.out (by kernel_rfl)) (by decide) (fun K hK => ?_)
                             refine box_step ?hg (N := 19) ?hd (cs := #[.slice none 0 0]) (t := 44) ?hr ?_; (case hd => rfl); (case hg => rfl); (case hr => first | (go_simp; done) | (go_simp; rfl))
                             intro gb715 hg w191 hbox hb
                             have n0_ := Aside0.mk (Kd.R_below (re_ HO_675000.out) hb)
                             have n1_ := Aside0.mk (Kd.R_below (re_ HO_679000.out) hb)
                             have n2_ := Aside0.mk (Kd.R_below (re_ HO_683000.out) hb)
                             have n3_ := Aside0.mk (Kd.R_below (re_ HO_688000.out) hb)
                             have n4_ := Aside0.mk (Kd.R_below (re_ HO707.out) hb)
                             have n5_ := Aside0.mk (Kd.R_below (re_ HO710.out) hb)
                             have n6_ := Aside0.mk (Kd.R_below (re_ HO713.out) hb)
                             have n7_ := Aside0.mk (blk_below (be_ BK660.out) hb)
                             have n8_ := Aside0.mk (blk_below (be_ BK661.out) hb)
                             have n9_ := Aside0.mk (blk_below (be_ BK674.out) hb)
                             have n10_ := Aside0.mk (blk_below (be_ BK678.out) hb)
                             have n11_ := Aside0.mk (blk_below (be_ BK682.out) hb)
                             have n12_ := Aside0.mk (blk_below (be_ BK687.out) hb)
                             have n13_ := Aside0.mk (below_step (by repeat (first | (with_reducible first | exact HB.out | apply below_alloc | apply pw_below_drewN | apply below_drew1 | refine below_set ?_ (Aside0.out (by assumption))) | exact HB.out)) hb)
                             have n14_ := Aside0.mk (hbox)
                             have n15_ := Aside0.mk ((by rw [hg]; exact (below_size (by repeat (first | (with_reducible first | exact HB.out | apply below_alloc | apply pw_below_drewN | apply below_drew1 | refine below_set ?_ (Aside0.out (by assumption))) | exact HB.out))) : w.heap.size ≤ gb715))
                             have n16_ := Aside0.mk ((by rw [hg]; exact (below_size (by repeat (first | (with_reducible first | exact HB.out | apply below_alloc | apply pw_below_drewN | apply below_drew1 | refine below_set ?_ (Aside0.out (by assumption))) | exact HB.out))) : w.heap.size ≤ gb715))
                             have n17_ := Aside0.mk ((by rw [hg]; exact Nat.ne_of_lt (blk_lt (be_ BK660.out)) : gb660 ≠ gb715))
                             have n18_ := Aside0.mk ((by rw [hg]; exact Nat.ne_of_gt (blk_lt (be_ BK660.out)) : gb715 ≠ gb660))
                             have n19_ := Aside0.mk ((by rw [hg]; exact Nat.ne_of_lt (blk_lt (be_ BK661.out)) : gb661 ≠ gb715))
                             have n20_ := Aside0.mk ((by rw [hg]; exact Nat.ne_of_gt (blk_lt (be_ BK661.out)) : gb715 ≠ gb661))
                             have n21_ := Aside0.mk ((by rw [hg]; exact Nat.ne_of_lt (blk_lt (be_ BK674.out)) : gb674 ≠ gb715))
                             have n22_ := Aside0.mk ((by rw [hg]; exact Nat.ne_of_gt (blk_lt (be_ BK674.out)) : gb715 ≠ gb674))
                             have n23_ := Aside0.mk ((by rw [hg]; exact Nat.ne_of_lt (blk_lt (be_ BK678.out)) : gb678 ≠ gb715))
                             have n24_ := Aside0.mk ((by rw [hg]; exact Nat.ne_of_gt (blk_lt (be_ BK678.out)) : gb715 ≠ gb678))
                             have n25_ := Aside0.mk ((by rw [hg]; exact Nat.ne_of_lt (blk_lt (be_ BK682.out)) : gb682 ≠ gb715))
                             have n26_ := Aside0.mk ((by rw [hg]; exact Nat.ne_of_gt (blk_lt (be_ BK682.out)) : gb715 ≠ gb682))
                             have n27_ := Aside0.mk ((by rw [hg]; exact Nat.ne_of_lt (blk_lt (be_ BK687.out)) : gb687 ≠ gb715))
                             have n28_ := Aside0.mk ((by rw [hg]; exact Nat.ne_of_gt (blk_lt (be_ BK687.out)) : gb715 ≠ gb687))
                             clear HO_675000
                             clear HO_679000
                             clear HO_683000
                             clear HO_688000
                             clear HO707
                             clear HO710
                             clear HO713
                             clear BK660
                             clear BK661
                             clear BK674
                             clear BK678
                             clear BK682
                             clear BK687
                             clear HB
                             have HO_675000 := n0_
                             have HO_679000 := n1_
                             have HO_683000 := n2_
                             have HO_688000 := n3_
                             have HO707 := n4_
                             have HO710 := n5_
                             have HO713 := n6_
                             have BK660 := n7_
                             have BK661 := n8_
                             have BK674 := n9_
                             have BK678 := n10_
                             have BK682 := n11_
                             have BK687 := n12_
                             have HB := n13_
                             have BK715 := n14_
                             have GW715 := n15_
                             have GE715 := n16_
                             have NB660_715 := n17_
                             have NB715_660 := n18_
                             have NB661_715 := n19_
                             have NB715_661 := n20_
                             have NB674_715 := n21_
                             have NB715_674 := n22_
                             have NB678_715 := n23_
                             have NB715_678 := n24_
                             have NB682_715 := n25_
                             have NB715_682 := n26_
                             have NB687_715 := n27_
                             have NB715_687 := n28_
                             clear n0_ n1_ n2_ n3_ n4_ n5_ n6_ n7_ n8_ n9_ n10_ n11_ n12_ n13_ n14_ n15_ n16_ n17_ n18_ n19_ n20_ n21_ n22_ n23_ n24_ n25_ n26_ n27_ n28_
                             clear hb hbox hg
                             refine hK.out _ _ ⟨(blk_cell BK660.out 0).trans rfl, (blk_cell BK661.out 0).trans rfl⟩ (fun hHeld => ?_)
                             clear hK K
                             refine norm_ (a' := ?_) ?_ ?_
                             rotate_left
                             · show Act.put _ (some 19) _ = _
                               simp only [Act.put, z1_, z2_, z3_, i64_w, i32_w]
                               rfl
                             exact norm_ (by simp only [putAll, Act.put, z1_, z2_, z3_]) (hCont (.slice Ao188 t705.length co188, .slice Ao189 t708.length co189, v712, gb715) _ ⟨hHeld, (by (with_reducible repeat (first | apply Kd.R_alloc | apply Kd.R_drewN | apply Kd.R_drew)); exact Kd.R_mono HO707.out (fun _ hk => ⟨hk.1.2, ⟨hk.2, ⟨hk.1.1.1.1.1.2, ⟨hk.1.1.1.1.2, ⟨hk.1.1.1.2, hk.1.1.2⟩⟩⟩⟩⟩)), (by (with_reducible repeat (first | apply Kd.R_alloc | apply Kd.R_drewN | apply Kd.R_drew)); exact Kd.R_mono HO710.out (fun _ hk => ⟨hk.1.2, ⟨hk.2, ⟨hk.1.1.1.1.1.2, ⟨hk.1.1.1.1.2, ⟨hk.1.1.1.2, hk.1.1.2⟩⟩⟩⟩⟩)), (by (with_reducible repeat (first | apply Kd.R_alloc | apply Kd.R_drewN | apply Kd.R_drew)); exact Kd.R_mono HO713.out (fun _ hk => ⟨hk.1.2, ⟨hk.2, ⟨hk.1.1.1.1.1.2, ⟨hk.1.1.1.1.2, ⟨hk.1.1.1.2, hk.1.1.2⟩⟩⟩⟩⟩)), (by (with_reducible repeat (first | apply Kd.R_alloc | apply Kd.R_drewN | apply Kd.R_drew)); exact Kd.R_mono HO_675000.out (fun _ hk => ⟨hk.1.1.2, ⟨hk.1.2, ⟨hk.2, ⟨hk.1.1.1.1, ⟨hk.1.1.1.2.1, hk.1.1.1.2.2⟩⟩⟩⟩⟩)), (by (with_reducible repeat (first | apply Kd.R_alloc | apply Kd.R_drewN | apply Kd.R_drew)); exact Kd.R_mono HO_679000.out (fun _ hk => ⟨hk.1.1.2, ⟨hk.1.2, ⟨hk.2, ⟨hk.1.1.1.1, ⟨hk.1.1.1.2.1, hk.1.1.1.2.2⟩⟩⟩⟩⟩)), (by (with_reducible repeat (first | apply Kd.R_alloc | apply Kd.R_drewN | apply Kd.R_drew)); exact Kd.R_mono HO_683000.out (fun _ hk => ⟨hk.1.1.2, ⟨hk.1.2, ⟨hk.2, ⟨hk.1.1.1.1, ⟨hk.1.1.1.2.1, hk.1.1.1.2.2⟩⟩⟩⟩⟩)), (by (with_reducible repeat (first | apply Kd.R_alloc | apply Kd.R_drewN | apply Kd.R_drew)); exact Kd.R_mono HO_688000.out (fun _ hk => ⟨hk.1.1.2, ⟨hk.1.2, ⟨hk.2, ⟨hk.1.1.1.1, ⟨hk.1.1.1.2.1, hk.1.1.1.2.2⟩⟩⟩⟩⟩)), (be_ BK660.out), (be_ BK661.out), (be_ BK674.out), (be_ BK678.out), (be_ BK682.out), (be_ BK687.out), (be_ BK715.out), GW715.out, GE715.out, NB660_715.out, NB715_660.out, NB661_715.out, NB715_661.out, NB674_715.out, NB715_674.out, NB678_715.out, NB715_678.out, NB682_715.out, NB715_682.out, NB687_715.out, NB715_687.out, (by repeat (first | (with_reducible first | exact HB.out | apply below_alloc | apply pw_below_drewN | apply below_drew1 | refine below_set ?_ (Aside0.out (by assumption))) | exact HB.out))⟩)
                           · skip
                             refine box_step ?hg (N := 19) ?hd (cs := #[.slice none 0 0]) (t := 44) ?hr ?_; (case hd => rfl); (case hg => rfl); (case hr => first | (go_simp; done) | (go_simp; rfl))
                             intro gb715 hg w188 hbox hb
                             have n0_ := Aside0.mk (Kd.R_below (re_ HO_675000.out) hb)
                             have n1_ := Aside0.mk (Kd.R_below (re_ HO_679000.out) hb)
                             have n2_ := Aside0.mk (Kd.R_below (re_ HO_683000.out) hb)
                             have n3_ := Aside0.mk (Kd.R_below (re_ HO_688000.out) hb)
                             have n4_ := Aside0.mk (Kd.R_below (re_ HO707.out) hb)
                             have n5_ := Aside0.mk (Kd.R_below (re_ HO710.out) hb)
                             have n6_ := Aside0.mk (blk_below (be_ BK660.out) hb)
                             have n7_ := Aside0.mk (blk_below (be_ BK661.out) hb)
                             have n8_ := Aside0.mk (blk_below (be_ BK674.out) hb)
                             have n9_ := Aside0.mk (blk_below (be_ BK678.out) hb)
                             have n10_ := Aside0.mk (blk_below (be_ BK682.out) hb)
                             have n11_ := Aside0.mk (blk_below (be_ BK687.out) hb)
                             have n12_ := Aside0.mk (below_step (by repeat (first | (with_reducible first | exact HB.out | apply below_alloc | apply pw_below_drewN | apply below_drew1 | refine below_set ?_ (Aside0.out (by assumption))) | exact HB.out)) hb)
                             have n13_ := Aside0.mk (hbox)
                             have n14_ := Aside0.mk ((by rw [hg]; exact (below_size (by repeat (first | (with_reducible first | exact HB.out | apply below_alloc | apply pw_below_drewN | apply below_drew1 | refine below_set ?_ (Aside0.out (by assumption))) | exact HB.out))) : w.heap.size ≤ gb715))
                             have n15_ := Aside0.mk ((by rw [hg]; exact (below_size (by repeat (first | (with_reducible first | exact HB.out | apply below_alloc | apply pw_below_drewN | apply below_drew1 | refine below_set ?_ (Aside0.out (by assumption))) | exact HB.out))) : w.heap.size ≤ gb715))
                             have n16_ := Aside0.mk ((by rw [hg]; exact Nat.ne_of_lt (blk_lt (be_ BK660.out)) : gb660 ≠ gb715))
                             have n17_ := Aside0.mk ((by rw [hg]; exact Nat.ne_of_gt (blk_lt (be_ BK660.out)) : gb715 ≠ gb660))
                             have n18_ := Aside0.mk ((by rw [hg]; exact Nat.ne_of_lt (blk_lt (be_ BK661.out)) : gb661 ≠ gb715))
                             have n19_ := Aside0.mk ((by rw [hg]; exact Nat.ne_of_gt (blk_lt (be_ BK661.out)) : gb715 ≠ gb661))
                             have n20_ := Aside0.mk ((by rw [hg]; exact Nat.ne_of_lt (blk_lt (be_ BK674.out)) : gb674 ≠ gb715))
                             have n21_ := Aside0.mk ((by rw [hg]; exact Nat.ne_of_gt (blk_lt (be_ BK674.out)) : gb715 ≠ gb674))
                             have n22_ := Aside0.mk ((by rw [hg]; exact Nat.ne_of_lt (blk_lt (be_ BK678.out)) : gb678 ≠ gb715))
                             have n23_ := Aside0.mk ((by rw [hg]; exact Nat.ne_of_gt (blk_lt (be_ BK678.out)) : gb715 ≠ gb678))
                             have n24_ := Aside0.mk ((by rw [hg]; exact Nat.ne_of_lt (blk_lt (be_ BK682.out)) : gb682 ≠ gb715))
                             have n25_ := Aside0.mk ((by rw [hg]; exact Nat.ne_of_gt (blk_lt (be_ BK682.out)) : gb715 ≠ gb682))
                             have n26_ := Aside0.mk ((by rw [hg]; exact Nat.ne_of_lt (blk_lt (be_ BK687.out)) : gb687 ≠ gb715))
                             have n27_ := Aside0.mk ((by rw [hg]; exact Nat.ne_of_gt (blk_lt (be_ BK687.out)) : gb715 ≠ gb687))
                             clear HO_675000
                             clear HO_679000
                             clear HO_683000
                             clear HO_688000
                             clear HO707
                             clear HO710
                             clear BK660
                             clear BK661
                             clear BK674
                             clear BK678
                             clear BK682
                             clear BK687
                             clear HB
                             have HO_675000 := n0_
                             have HO_679000 := n1_
                             have HO_683000 := n2_
                             have HO_688000 := n3_
                             have HO707 := n4_
                             have HO710 := n5_
                             have BK660 := n6_
                             have BK661 := n7_
                             have BK674 := n8_
                             have BK678 := n9_
                             have BK682 := n10_
                             have BK687 := n11_
                             have HB := n12_
                             have BK715 := n13_
                             have GW715 := n14_
                             have GE715 := n15_
                             have NB660_715 := n16_
                             have NB715_660 := n17_
                             have NB661_715 := n18_
                             have NB715_661 := n19_
                             have NB674_715 := n20_
                             have NB715_674 := n21_
                             have NB678_715 := n22_
                             have NB715_678 := n23_
                             have NB682_715 := n24_
                             have NB715_682 := n25_
                             have NB687_715 := n26_
                             have NB715_687 := n27_
                             clear n0_ n1_ n2_ n3_ n4_ n5_ n6_ n7_ n8_ n9_ n10_ n11_ n12_ n13_ n14_ n15_ n16_ n17_ n18_ n19_ n20_ n21_ n22_ n23_ n24_ n25_ n26_ n27_
                             clear hb hbox hg
                             obtain ⟨Ao189, co189, eo189⟩ := Kd.R_slice HO707.out
                             (first | subst eo189 | (injection eo189 with f1_ f2_ f3_; have f4_ := f1_.symm; have f5_ := f3_.symm; clear f1_ f2_ f3_; subst f4_; subst f5_))
                             obtain ⟨Ao190, co190, eo190⟩ := Kd.R_slice HO710.out
                             (first | subst eo190 | (injection eo190 with f1_ f2_ f3_; have f4_ := f1_.symm; have f5_ := f3_.symm; clear f1_ f2_ f3_; subst f4_; subst f5_))
                             refine hK.out _ _ ⟨(blk_cell BK660.out 0).trans rfl, (blk_cell BK661.out 0).trans rfl⟩ (fun hHeld => ?_)
                             clear hK K
                             refine norm_ (a' := ?_) ?_ ?_
                             rotate_left
                             · show Act.put _ (some 19) _ = _
                               simp only [Act.put, z1_, z2_, z3_, i64_w, i32_w]
                               rfl
                             refine one_ (i := 6) (N := some 109) (B_ 1151 13) rfl rfl (one_of HT_.out (by kernel_rfl)) (by decide) (fun K hK => ?_)
                             refine goes_ Try.func33 (by kernel_rfl) rfl #[.agg #[.slice Ao189 t705.length co189], .agg #[.slice Ao190 t708.length co190], .int .i64 a2, .int .i64 a3] (by rfl) rfl rfl (by (try simp only [List.map_toArray, List.map_cons, List.map_nil]); first | done | rfl | (simp only [List.length_drop, List.length_take]; rfl)) ?_
                             with_reducible refine (impl_GlueOf.calls kj108 _ _ t705 _ _ t708 a2 a3 t711 t714 _ ?side1 ?side2 ?side3 ?side4 A174.out).mono ?_
                             (case side1 => exact ce_ ((Kd.R_reads' HO707.out).2.2))
                             (case side2 => exact (Kd.R_reads' HO707.out).2.1)
                             (case side3 => exact ce_ ((Kd.R_reads' HO710.out).2.2))
                             (case side4 => exact (Kd.R_reads' HO710.out).2.1)
                             rintro e w191 ⟨v712, rfl, ho0, hb⟩
                             refine ⟨_, rfl, ?_⟩
                             have n0_ := Aside0.mk (Kd.R_elder' (re_ HO_675000.out) (Kd.R_base ho0) hb)
                             have n1_ := Aside0.mk (Kd.R_elder' (re_ HO_679000.out) (Kd.R_base ho0) hb)
                             have n2_ := Aside0.mk (Kd.R_elder' (re_ HO_683000.out) (Kd.R_base ho0) hb)
                             have n3_ := Aside0.mk (Kd.R_elder' (re_ HO_688000.out) (Kd.R_base ho0) hb)
                             have n4_ := Aside0.mk (Kd.R_elder' (re_ HO707.out) (Kd.R_base ho0) hb)
                             have n5_ := Aside0.mk (Kd.R_elder' (re_ HO710.out) (Kd.R_base ho0) hb)
                             have n6_ := Aside0.mk (Kd.R_lower (Kd.R_new' (Kd.R_new' (Kd.R_new' (Kd.R_new' (Kd.R_new' (Kd.R_new' ho0 (Kd.R_lt (re_ HO_675000.out))) (Kd.R_lt (re_ HO_679000.out))) (Kd.R_lt (re_ HO_683000.out))) (Kd.R_lt (re_ HO_688000.out))) (Kd.R_lt (re_ HO707.out))) (Kd.R_lt (re_ HO710.out))) (below_size (by repeat (first | (with_reducible first | exact HB.out | apply below_alloc | apply pw_below_drewN | apply below_drew1 | refine below_set ?_ (Aside0.out (by assumption))) | exact HB.out))))
                             have n7_ := Aside0.mk (blk_below (be_ BK660.out) hb)
                             have n8_ := Aside0.mk (blk_below (be_ BK661.out) hb)
                             have n9_ := Aside0.mk (blk_below (be_ BK674.out) hb)
                             have n10_ := Aside0.mk (blk_below (be_ BK678.out) hb)
                             have n11_ := Aside0.mk (blk_below (be_ BK682.out) hb)
                             have n12_ := Aside0.mk (blk_below (be_ BK687.out) hb)
                             have n13_ := Aside0.mk (blk_below (be_ BK715.out) hb)
                             have n14_ := Aside0.mk (below_step (by repeat (first | (with_reducible first | exact HB.out | apply below_alloc | apply pw_below_drewN | apply below_drew1 | refine below_set ?_ (Aside0.out (by assumption))) | exact HB.out)) hb)
                             clear HO_675000
                             clear HO_679000
                             clear HO_683000
                             clear HO_688000
                             clear HO707
                             clear HO710
                             clear BK660
                             clear BK661
                             clear BK674
                             clear BK678
                             clear BK682
                             clear BK687
                             clear BK715
                             clear HB
                             have HO_675000 := n0_
                             have HO_679000 := n1_
                             have HO_683000 := n2_
                             have HO_688000 := n3_
                             have HO707 := n4_
                             have HO710 := n5_
                             have HO713 := n6_
                             have BK660 := n7_
                             have BK661 := n8_
                             have BK674 := n9_
                             have BK678 := n10_
                             have BK682 := n11_
                             have BK687 := n12_
                             have BK715 := n13_
                             have HB := n14_
                             clear n0_ n1_ n2_ n3_ n4_ n5_ n6_ n7_ n8_ n9_ n10_ n11_ n12_ n13_ n14_
                             (try clear hb)
                             (try clear hb2)
                             (try clear hk)
                             (try clear hi)
                             (try clear ho0)
                             refine hK.out _ _ ⟨(blk_cell BK660.out 0).trans rfl, (blk_cell BK661.out 0).trans rfl⟩ (fun hHeld => ?_)
                             clear hK K
                             refine norm_ (a' := ?_) ?_ ?_
                             rotate_left
                             · show Act.put _ (some 109) _ = _
                               simp only [Act.put, z1_, z2_, z3_, i64_w, i32_w]
                               rfl
                             refine pu_ HT_ 7 102 (B_ 1279 13) ?_
                             refine pu_ HT_ 8 110 (B_ 1535 13) ?_
                             refine pu_ HT_ 9 111 (B_ 2047 13) ?_
                             exact norm_ (by simp only [putAll, Act.put, z1_, z2_, z3_]) (hCont (.slice Ao189 t705.length co189, .slice Ao190 t708.length co190, v712, gb715) _ ⟨hHeld, (by (with_reducible repeat (first | apply Kd.R_alloc | apply Kd.R_drewN | apply Kd.R_drew)); exact Kd.R_mono HO707.out (fun _ hk => ⟨hk.1.2, ⟨hk.2, ⟨hk.1.1.1.1.1.2, ⟨hk.1.1.1.1.2, ⟨hk.1.1.1.2, hk.1.1.2⟩⟩⟩⟩⟩)), (by (with_reducible repeat (first | apply Kd.R_alloc | apply Kd.R_drewN | apply Kd.R_drew)); exact Kd.R_mono HO710.out (fun _ hk => ⟨hk.1.2, ⟨hk.2, ⟨hk.1.1.1.1.1.2, ⟨hk.1.1.1.1.2, ⟨hk.1.1.1.2, hk.1.1.2⟩⟩⟩⟩⟩)), (by (with_reducible repeat (first | apply Kd.R_alloc | apply Kd.R_drewN | apply Kd.R_drew)); exact Kd.R_mono HO713.out (fun _ hk => ⟨hk.1.2, ⟨hk.2, ⟨hk.1.1.1.1.1.2, ⟨hk.1.1.1.1.2, ⟨hk.1.1.1.2, hk.1.1.2⟩⟩⟩⟩⟩)), (by (with_reducible repeat (first | apply Kd.R_alloc | apply Kd.R_drewN | apply Kd.R_drew)); exact Kd.R_mono HO_675000.out (fun _ hk => ⟨hk.1.1.2, ⟨hk.1.2, ⟨hk.2, ⟨hk.1.1.1.1, ⟨hk.1.1.1.2.1, hk.1.1.1.2.2⟩⟩⟩⟩⟩)), (by (with_reducible repeat (first | apply Kd.R_alloc | apply Kd.R_drewN | apply Kd.R_drew)); exact Kd.R_mono HO_679000.out (fun _ hk => ⟨hk.1.1.2, ⟨hk.1.2, ⟨hk.2, ⟨hk.1.1.1.1, ⟨hk.1.1.1.2.1, hk.1.1.1.2.2⟩⟩⟩⟩⟩)), (by (with_reducible repeat (first | apply Kd.R_alloc | apply Kd.R_drewN | apply Kd.R_drew)); exact Kd.R_mono HO_683000.out (fun _ hk => ⟨hk.1.1.2, ⟨hk.1.2, ⟨hk.2, ⟨hk.1.1.1.1, ⟨hk.1.1.1.2.1, hk.1.1.1.2.2⟩⟩⟩⟩⟩)), (by (with_reducible repeat (first | apply Kd.R_alloc | apply Kd.R_drewN | apply Kd.R_drew)); exact Kd.R_mono HO_688000.out (fun _ hk => ⟨hk.1.1.2, ⟨hk.1.2, ⟨hk.2, ⟨hk.1.1.1.1, ⟨hk.1.1.1.2.1, hk.1.1.1.2.2⟩⟩⟩⟩⟩)), (be_ BK660.out), (be_ BK661.out), (be_ BK674.out), (be_ BK678.out), (be_ BK682.out), (be_ BK687.out), (be_ BK715.out), GW715.out, GE715.out, NB660_715.out, NB715_660.out, NB661_715.out, NB715_661.out, NB674_715.out, NB715_674.out, NB678_715.out, NB715_678.out, NB682_715.out, NB715_682.out, NB687_715.out, NB715_687.out, (by repeat (first | (with_reducible first | exact HB.out | apply below_alloc | apply pw_below_drewN | apply below_drew1 | refine below_set ?_ (Aside0.out (by assumption))) | exact HB.out))⟩)
                         · skip
                           refine box_step ?hg (N := 19) ?hd (cs := #[.slice none 0 0]) (t := 44) ?hr ?_; (case hd => rfl); (case hg => rfl); (case hr => first | (go_simp; done) | (go_simp; rfl))
                           intro gb715 hg w187 hbox hb
                           have n0_ := Aside0.mk (Kd.R_below (re_ HO_675000.out) hb)
                           have n1_ := Aside0.mk (Kd.R_below (re_ HO_679000.out) hb)
                           have n2_ := Aside0.mk (Kd.R_below (re_ HO_683000.out) hb)
                           have n3_ := Aside0.mk (Kd.R_below (re_ HO_688000.out) hb)
                           have n4_ := Aside0.mk (Kd.R_below (re_ HO707.out) hb)
                           have n5_ := Aside0.mk (blk_below (be_ BK660.out) hb)
                           have n6_ := Aside0.mk (blk_below (be_ BK661.out) hb)
                           have n7_ := Aside0.mk (blk_below (be_ BK674.out) hb)
                           have n8_ := Aside0.mk (blk_below (be_ BK678.out) hb)
                           have n9_ := Aside0.mk (blk_below (be_ BK682.out) hb)
                           have n10_ := Aside0.mk (blk_below (be_ BK687.out) hb)
                           have n11_ := Aside0.mk (below_step (by repeat (first | (with_reducible first | exact HB.out | apply below_alloc | apply pw_below_drewN | apply below_drew1 | refine below_set ?_ (Aside0.out (by assumption))) | exact HB.out)) hb)
                           have n12_ := Aside0.mk (hbox)
                           have n13_ := Aside0.mk ((by rw [hg]; exact (below_size (by repeat (first | (with_reducible first | exact HB.out | apply below_alloc | apply pw_below_drewN | apply below_drew1 | refine below_set ?_ (Aside0.out (by assumption))) | exact HB.out))) : w.heap.size ≤ gb715))
                           have n14_ := Aside0.mk ((by rw [hg]; exact (below_size (by repeat (first | (with_reducible first | exact HB.out | apply below_alloc | apply pw_below_drewN | apply below_drew1 | refine below_set ?_ (Aside0.out (by assumption))) | exact HB.out))) : w.heap.size ≤ gb715))
                           have n15_ := Aside0.mk ((by rw [hg]; exact Nat.ne_of_lt (blk_lt (be_ BK660.out)) : gb660 ≠ gb715))
                           have n16_ := Aside0.mk ((by rw [hg]; exact Nat.ne_of_gt (blk_lt (be_ BK660.out)) : gb715 ≠ gb660))
                           have n17_ := Aside0.mk ((by rw [hg]; exact Nat.ne_of_lt (blk_lt (be_ BK661.out)) : gb661 ≠ gb715))
                           have n18_ := Aside0.mk ((by rw [hg]; exact Nat.ne_of_gt (blk_lt (be_ BK661.out)) : gb715 ≠ gb661))
                           have n19_ := Aside0.mk ((by rw [hg]; exact Nat.ne_of_lt (blk_lt (be_ BK674.out)) : gb674 ≠ gb715))
                           have n20_ := Aside0.mk ((by rw [hg]; exact Nat.ne_of_gt (blk_lt (be_ BK674.out)) : gb715 ≠ gb674))
                           have n21_ := Aside0.mk ((by rw [hg]; exact Nat.ne_of_lt (blk_lt (be_ BK678.out)) : gb678 ≠ gb715))
                           have n22_ := Aside0.mk ((by rw [hg]; exact Nat.ne_of_gt (blk_lt (be_ BK678.out)) : gb715 ≠ gb678))
                           have n23_ := Aside0.mk ((by rw [hg]; exact Nat.ne_of_lt (blk_lt (be_ BK682.out)) : gb682 ≠ gb715))
                           have n24_ := Aside0.mk ((by rw [hg]; exact Nat.ne_of_gt (blk_lt (be_ BK682.out)) : gb715 ≠ gb682))
                           have n25_ := Aside0.mk ((by rw [hg]; exact Nat.ne_of_lt (blk_lt (be_ BK687.out)) : gb687 ≠ gb715))
                           have n26_ := Aside0.mk ((by rw [hg]; exact Nat.ne_of_gt (blk_lt (be_ BK687.out)) : gb715 ≠ gb687))
                           clear HO_675000
                           clear HO_679000
                           clear HO_683000
                           clear HO_688000
                           clear HO707
                           clear BK660
                           clear BK661
                           clear BK674
                           clear BK678
                           clear BK682
                           clear BK687
                           clear HB
                           have HO_675000 := n0_
                           have HO_679000 := n1_
                           have HO_683000 := n2_
                           have HO_688000 := n3_
                           have HO707 := n4_
                           have BK660 := n5_
                           have BK661 := n6_
                           have BK674 := n7_
                           have BK678 := n8_
                           have BK682 := n9_
                           have BK687 := n10_
                           have HB := n11_
                           have BK715 := n12_
                           have GW715 := n13_
                           have GE715 := n14_
                           have NB660_715 := n15_
                           have NB715_660 := n16_
                           have NB661_715 := n17_
                           have NB715_661 := n18_
                           have NB674_715 := n19_
                           have NB715_674 := n20_
                           have NB678_715 := n21_
                           have NB715_678 := n22_
                           have NB682_715 := n23_
                           have NB715_682 := n24_
                           have NB687_715 := n25_
                           have NB715_687 := n26_
                           clear n0_ n1_ n2_ n3_ n4_ n5_ n6_ n7_ n8_ n9_ n10_ n11_ n12_ n13_ n14_ n15_ n16_ n17_ n18_ n19_ n20_ n21_ n22_ n23_ n24_ n25_ n26_
                           clear hb hbox hg
                           refine hK.out _ _ ⟨(blk_cell BK660.out 0).trans rfl, (blk_cell BK661.out 0).trans rfl⟩ (fun hHeld => ?_)
                           clear hK K
                           refine norm_ (a' := ?_) ?_ ?_
                           rotate_left
                           · show Act.put _ (some 19) _ = _
                             simp only [Act.put, z1_, z2_, z3_, i64_w, i32_w]
                             rfl
                           refine one_ (i := 3) (N := some 106) (B_ 1087 13) rfl rfl (one_of HT_.out (by kernel_rfl)) (by decide) (fun K hK => ?_)
                           refine goes_ Try.func28 (by kernel_rfl) rfl #[.agg #[.slice A1_0 l1_0.length c1_0]] (by rfl) rfl rfl (by (try simp only [List.map_toArray, List.map_cons, List.map_nil]); first | done | rfl | (simp only [List.length_drop, List.length_take]; rfl)) ?_
                           with_reducible refine (laws_toSemigroup.calls kj108 _ _ l1_0 t708 _ ?side1 ?side2 A173.out).mono ?_
                           (case side1 => exact ce_ ((Kd.C_below HR1_0.out HB.out)))
                           (case side2 => exact HC1_0.out)
                           rintro e w188 ⟨v709, rfl, ho0, hb⟩
                           refine ⟨_, rfl, ?_⟩
                           have n0_ := Aside0.mk (Kd.R_elder' (re_ HO_675000.out) (Kd.R_base ho0) hb)
                           have n1_ := Aside0.mk (Kd.R_elder' (re_ HO_679000.out) (Kd.R_base ho0) hb)
                           have n2_ := Aside0.mk (Kd.R_elder' (re_ HO_683000.out) (Kd.R_base ho0) hb)
                           have n3_ := Aside0.mk (Kd.R_elder' (re_ HO_688000.out) (Kd.R_base ho0) hb)
                           have n4_ := Aside0.mk (Kd.R_elder' (re_ HO707.out) (Kd.R_base ho0) hb)
                           have n5_ := Aside0.mk (Kd.R_lower (Kd.R_new' (Kd.R_new' (Kd.R_new' (Kd.R_new' (Kd.R_new' ho0 (Kd.R_lt (re_ HO_675000.out))) (Kd.R_lt (re_ HO_679000.out))) (Kd.R_lt (re_ HO_683000.out))) (Kd.R_lt (re_ HO_688000.out))) (Kd.R_lt (re_ HO707.out))) (below_size (by repeat (first | (with_reducible first | exact HB.out | apply below_alloc | apply pw_below_drewN | apply below_drew1 | refine below_set ?_ (Aside0.out (by assumption))) | exact HB.out))))
                           have n6_ := Aside0.mk (blk_below (be_ BK660.out) hb)
                           have n7_ := Aside0.mk (blk_below (be_ BK661.out) hb)
                           have n8_ := Aside0.mk (blk_below (be_ BK674.out) hb)
                           have n9_ := Aside0.mk (blk_below (be_ BK678.out) hb)
                           have n10_ := Aside0.mk (blk_below (be_ BK682.out) hb)
                           have n11_ := Aside0.mk (blk_below (be_ BK687.out) hb)
                           have n12_ := Aside0.mk (blk_below (be_ BK715.out) hb)
                           have n13_ := Aside0.mk (below_step (by repeat (first | (with_reducible first | exact HB.out | apply below_alloc | apply pw_below_drewN | apply below_drew1 | refine below_set ?_ (Aside0.out (by assumption))) | exact HB.out)) hb)
                           clear HO_675000
                           clear HO_679000
                           clear HO_683000
                           clear HO_688000
                           clear HO707
                           clear BK660
                           clear BK661
                           clear BK674
                           clear BK678
                           clear BK682
                           clear BK687
                           clear BK715
                           clear HB
                           have HO_675000 := n0_
                           have HO_679000 := n1_
                           have HO_683000 := n2_
                           have HO_688000 := n3_
                           have HO707 := n4_
                           have HO710 := n5_
                           have BK660 := n6_
                           have BK661 := n7_
                           have BK674 := n8_
                           have BK678 := n9_
                           have BK682 := n10_
                           have BK687 := n11_
                           have BK715 := n12_
                           have HB := n13_
                           clear n0_ n1_ n2_ n3_ n4_ n5_ n6_ n7_ n8_ n9_ n10_ n11_ n12_ n13_
                           (try clear hb)
                           (try clear hb2)
                           (try clear hk)
                           (try clear hi)
                           (try clear ho0)
                           obtain ⟨Ao189, co189, eo189⟩ := Kd.R_slice HO707.out
                           (first | subst eo189 | (injection eo189 with f1_ f2_ f3_; have f4_ := f1_.symm; have f5_ := f3_.symm; clear f1_ f2_ f3_; subst f4_; subst f5_))
                           obtain ⟨Ao190, co190, eo190⟩ := Kd.R_slice HO710.out
                           (first | subst eo190 | (injection eo190 with f1_ f2_ f3_; have f4_ := f1_.symm; have f5_ := f3_.symm; clear f1_ f2_ f3_; subst f4_; subst f5_))
                           refine hK.out _ _ ⟨(blk_cell BK660.out 0).trans rfl, (blk_cell BK661.out 0).trans rfl⟩ (fun hHeld => ?_)
                           clear hK K
                           refine norm_ (a' := ?_) ?_ ?_
                           rotate_left
                           · show Act.put _ (some 106) _ = _
                             simp only [Act.put, z1_, z2_, z3_, i64_w, i32_w]
                             rfl
                           refine one_ (i := 6) (N := some 109) (B_ 1151 13) rfl rfl (one_of HT_.out (by kernel_rfl)) (by decide) (fun K hK => ?_)
                           refine goes_ Try.func33 (by kernel_rfl) rfl #[.agg #[.slice Ao189 t705.length co189], .agg #[.slice Ao190 t708.length co190], .int .i64 a2, .int .i64 a3] (by rfl) rfl rfl (by (try simp only [List.map_toArray, List.map_cons, List.map_nil]); first | done | rfl | (simp only [List.length_drop, List.length_take]; rfl)) ?_
                           with_reducible refine (impl_GlueOf.calls kj108 _ _ t705 _ _ t708 a2 a3 t711 t714 _ ?side1 ?side2 ?side3 ?side4 A174.out).mono ?_
                           (case side1 => exact ce_ ((Kd.R_reads' HO707.out).2.2))
                           (case side2 => exact (Kd.R_reads' HO707.out).2.1)
                           (case side3 => exact ce_ ((Kd.R_reads' HO710.out).2.2))
                           (case side4 => exact (Kd.R_reads' HO710.out).2.1)
                           rintro e w191 ⟨v712, rfl, ho0, hb⟩
                           refine ⟨_, rfl, ?_⟩
                           have n0_ := Aside0.mk (Kd.R_elder' (re_ HO_675000.out) (Kd.R_base ho0) hb)
                           have n1_ := Aside0.mk (Kd.R_elder' (re_ HO_679000.out) (Kd.R_base ho0) hb)
                           have n2_ := Aside0.mk (Kd.R_elder' (re_ HO_683000.out) (Kd.R_base ho0) hb)
                           have n3_ := Aside0.mk (Kd.R_elder' (re_ HO_688000.out) (Kd.R_base ho0) hb)
                           have n4_ := Aside0.mk (Kd.R_elder' (re_ HO707.out) (Kd.R_base ho0) hb)
                           have n5_ := Aside0.mk (Kd.R_elder' (re_ HO710.out) (Kd.R_base ho0) hb)
                           have n6_ := Aside0.mk (Kd.R_lower (Kd.R_new' (Kd.R_new' (Kd.R_new' (Kd.R_new' (Kd.R_new' (Kd.R_new' ho0 (Kd.R_lt (re_ HO_675000.out))) (Kd.R_lt (re_ HO_679000.out))) (Kd.R_lt (re_ HO_683000.out))) (Kd.R_lt (re_ HO_688000.out))) (Kd.R_lt (re_ HO707.out))) (Kd.R_lt (re_ HO710.out))) (below_size (by repeat (first | (with_reducible first | exact HB.out | apply below_alloc | apply pw_below_drewN | apply below_drew1 | refine below_set ?_ (Aside0.out (by assumption))) | exact HB.out))))
                           have n7_ := Aside0.mk (blk_below (be_ BK660.out) hb)
                           have n8_ := Aside0.mk (blk_below (be_ BK661.out) hb)
                           have n9_ := Aside0.mk (blk_below (be_ BK674.out) hb)
                           have n10_ := Aside0.mk (blk_below (be_ BK678.out) hb)
                           have n11_ := Aside0.mk (blk_below (be_ BK682.out) hb)
                           have n12_ := Aside0.mk (blk_below (be_ BK687.out) hb)
                           have n13_ := Aside0.mk (blk_below (be_ BK715.out) hb)
                           have n14_ := Aside0.mk (below_step (by repeat (first | (with_reducible first | exact HB.out | apply below_alloc | apply pw_below_drewN | apply below_drew1 | refine below_set ?_ (Aside0.out (by assumption))) | exact HB.out)) hb)
                           clear HO_675000
                           clear HO_679000
                           clear HO_683000
                           clear HO_688000
                           clear HO707
                           clear HO710
                           clear BK660
                           clear BK661
                           clear BK674
                           clear BK678
                           clear BK682
                           clear BK687
                           clear BK715
                           clear HB
                           have HO_675000 := n0_
                           have HO_679000 := n1_
                           have HO_683000 := n2_
                           have HO_688000 := n3_
                           have HO707 := n4_
                           have HO710 := n5_
                           have HO713 := n6_
                           have BK660 := n7_
                           have BK661 := n8_
                           have BK674 := n9_
                           have BK678 := n10_
                           have BK682 := n11_
                           have BK687 := n12_
                           have BK715 := n13_
                           have HB := n14_
                           clear n0_ n1_ n2_ n3_ n4_ n5_ n6_ n7_ n8_ n9_ n10_ n11_ n12_ n13_ n14_
                           (try clear hb)
                           (try clear hb2)
                           (try clear hk)
                           (try clear hi)
                           (try clear ho0)
                           refine hK.out _ _ ⟨(blk_cell BK660.out 0).trans rfl, (blk_cell BK661.out 0).trans rfl⟩ (fun hHeld => ?_)
                           clear hK K
                           refine norm_ (a' := ?_) ?_ ?_
                           rotate_left
                           · show Act.put _ (some 109) _ = _
                             simp only [Act.put, z1_, z2_, z3_, i64_w, i32_w]
                             rfl
                           refine pu_ HT_ 7 102 (B_ 1279 13) ?_
                           refine pu_ HT_ 8 110 (B_ 1535 13) ?_
                           refine pu_ HT_ 9 111 (B_ 2047 13) ?_
                           exact norm_ (by simp only [putAll, Act.put, z1_, z2_, z3_]) (hCont (.slice Ao189 t705.length co189, .slice Ao190 t708.length co190, v712, gb715) _ ⟨hHeld, (by (with_reducible repeat (first | apply Kd.R_alloc | apply Kd.R_drewN | apply Kd.R_drew)); exact Kd.R_mono HO707.out (fun _ hk => ⟨hk.1.2, ⟨hk.2, ⟨hk.1.1.1.1.1.2, ⟨hk.1.1.1.1.2, ⟨hk.1.1.1.2, hk.1.1.2⟩⟩⟩⟩⟩)), (by (with_reducible repeat (first | apply Kd.R_alloc | apply Kd.R_drewN | apply Kd.R_drew)); exact Kd.R_mono HO710.out (fun _ hk => ⟨hk.1.2, ⟨hk.2, ⟨hk.1.1.1.1.1.2, ⟨hk.1.1.1.1.2, ⟨hk.1.1.1.2, hk.1.1.2⟩⟩⟩⟩⟩)), (by (with_reducible repeat (first | apply Kd.R_alloc | apply Kd.R_drewN | apply Kd.R_drew)); exact Kd.R_mono HO713.out (fun _ hk => ⟨hk.1.2, ⟨hk.2, ⟨hk.1.1.1.1.1.2, ⟨hk.1.1.1.1.2, ⟨hk.1.1.1.2, hk.1.1.2⟩⟩⟩⟩⟩)), (by (with_reducible repeat (first | apply Kd.R_alloc | apply Kd.R_drewN | apply Kd.R_drew)); exact Kd.R_mono HO_675000.out (fun _ hk => ⟨hk.1.1.2, ⟨hk.1.2, ⟨hk.2, ⟨hk.1.1.1.1, ⟨hk.1.1.1.2.1, hk.1.1.1.2.2⟩⟩⟩⟩⟩)), (by (with_reducible repeat (first | apply Kd.R_alloc | apply Kd.R_drewN | apply Kd.R_drew)); exact Kd.R_mono HO_679000.out (fun _ hk => ⟨hk.1.1.2, ⟨hk.1.2, ⟨hk.2, ⟨hk.1.1.1.1, ⟨hk.1.1.1.2.1, hk.1.1.1.2.2⟩⟩⟩⟩⟩)), (by (with_reducible repeat (first | apply Kd.R_alloc | apply Kd.R_drewN | apply Kd.R_drew)); exact Kd.R_mono HO_683000.out (fun _ hk => ⟨hk.1.1.2, ⟨hk.1.2, ⟨hk.2, ⟨hk.1.1.1.1, ⟨hk.1.1.1.2.1, hk.1.1.1.2.2⟩⟩⟩⟩⟩)), (by (with_reducible repeat (first | apply Kd.R_alloc | apply Kd.R_drewN | apply Kd.R_drew)); exact Kd.R_mono HO_688000.out (fun _ hk => ⟨hk.1.1.2, ⟨hk.1.2, ⟨hk.2, ⟨hk.1.1.1.1, ⟨hk.1.1.1.2.1, hk.1.1.1.2.2⟩⟩⟩⟩⟩)), (be_ BK660.out), (be_ BK661.out), (be_ BK674.out), (be_ BK678.out), (be_ BK682.out), (be_ BK687.out), (be_ BK715.out), GW715.out, GE715.out, NB660_715.out, NB715_660.out, NB661_715.out, NB715_661.out, NB674_715.out, NB715_674.out, NB678_715.out, NB715_678.out, NB682_715.out, NB715_682.out, NB687_715.out, NB715_687.out, (by repeat (first | (with_reducible first | exact HB.out | apply below_alloc | apply pw_below_drewN | apply below_drew1 | refine below_set ?_ (Aside0.out (by assumption))) | exact HB.out))⟩)
                       · skip
                         refine box_step ?hg (N := 19) ?hd (cs := #[.slice none 0 0]) (t := 44) ?hr ?_; (case hd => rfl); (case hg => rfl); (case hr => first | (go_simp; done) | (go_simp; rfl))
                         intro gb715 hg w186 hbox hb
                         have n0_ := Aside0.mk (Kd.R_below (re_ HO_675000.out) hb)
                         have n1_ := Aside0.mk (Kd.R_below (re_ HO_679000.out) hb)
                         have n2_ := Aside0.mk (Kd.R_below (re_ HO_683000.out) hb)
                         have n3_ := Aside0.mk (Kd.R_below (re_ HO_688000.out) hb)
                         have n4_ := Aside0.mk (blk_below (be_ BK660.out) hb)
                         have n5_ := Aside0.mk (blk_below (be_ BK661.out) hb)
                         have n6_ := Aside0.mk (blk_below (be_ BK674.out) hb)
                         have n7_ := Aside0.mk (blk_below (be_ BK678.out) hb)
                         have n8_ := Aside0.mk (blk_below (be_ BK682.out) hb)
                         have n9_ := Aside0.mk (blk_below (be_ BK687.out) hb)
                         have n10_ := Aside0.mk (below_step (by repeat (first | (with_reducible first | exact HB.out | apply below_alloc | apply pw_below_drewN | apply below_drew1 | refine below_set ?_ (Aside0.out (by assumption))) | exact HB.out)) hb)
                         have n11_ := Aside0.mk (hbox)
                         have n12_ := Aside0.mk ((by rw [hg]; exact (below_size (by repeat (first | (with_reducible first | exact HB.out | apply below_alloc | apply pw_below_drewN | apply below_drew1 | refine below_set ?_ (Aside0.out (by assumption))) | exact HB.out))) : w.heap.size ≤ gb715))
                         have n13_ := Aside0.mk ((by rw [hg]; exact (below_size (by repeat (first | (with_reducible first | exact HB.out | apply below_alloc | apply pw_below_drewN | apply below_drew1 | refine below_set ?_ (Aside0.out (by assumption))) | exact HB.out))) : w.heap.size ≤ gb715))
                         have n14_ := Aside0.mk ((by rw [hg]; exact Nat.ne_of_lt (blk_lt (be_ BK660.out)) : gb660 ≠ gb715))
                         have n15_ := Aside0.mk ((by rw [hg]; exact Nat.ne_of_gt (blk_lt (be_ BK660.out)) : gb715 ≠ gb660))
                         have n16_ := Aside0.mk ((by rw [hg]; exact Nat.ne_of_lt (blk_lt (be_ BK661.out)) : gb661 ≠ gb715))
                         have n17_ := Aside0.mk ((by rw [hg]; exact Nat.ne_of_gt (blk_lt (be_ BK661.out)) : gb715 ≠ gb661))
                         have n18_ := Aside0.mk ((by rw [hg]; exact Nat.ne_of_lt (blk_lt (be_ BK674.out)) : gb674 ≠ gb715))
                         have n19_ := Aside0.mk ((by rw [hg]; exact Nat.ne_of_gt (blk_lt (be_ BK674.out)) : gb715 ≠ gb674))
                         have n20_ := Aside0.mk ((by rw [hg]; exact Nat.ne_of_lt (blk_lt (be_ BK678.out)) : gb678 ≠ gb715))
                         have n21_ := Aside0.mk ((by rw [hg]; exact Nat.ne_of_gt (blk_lt (be_ BK678.out)) : gb715 ≠ gb678))
                         have n22_ := Aside0.mk ((by rw [hg]; exact Nat.ne_of_lt (blk_lt (be_ BK682.out)) : gb682 ≠ gb715))
                         have n23_ := Aside0.mk ((by rw [hg]; exact Nat.ne_of_gt (blk_lt (be_ BK682.out)) : gb715 ≠ gb682))
                         have n24_ := Aside0.mk ((by rw [hg]; exact Nat.ne_of_lt (blk_lt (be_ BK687.out)) : gb687 ≠ gb715))
                         have n25_ := Aside0.mk ((by rw [hg]; exact Nat.ne_of_gt (blk_lt (be_ BK687.out)) : gb715 ≠ gb687))
                         clear HO_675000
                         clear HO_679000
                         clear HO_683000
                         clear HO_688000
                         clear BK660
                         clear BK661
                         clear BK674
                         clear BK678
                         clear BK682
                         clear BK687
                         clear HB
                         have HO_675000 := n0_
                         have HO_679000 := n1_
                         have HO_683000 := n2_
                         have HO_688000 := n3_
                         have BK660 := n4_
                         have BK661 := n5_
                         have BK674 := n6_
                         have BK678 := n7_
                         have BK682 := n8_
                         have BK687 := n9_
                         have HB := n10_
                         have BK715 := n11_
                         have GW715 := n12_
                         have GE715 := n13_
                         have NB660_715 := n14_
                         have NB715_660 := n15_
                         have NB661_715 := n16_
                         have NB715_661 := n17_
                         have NB674_715 := n18_
                         have NB715_674 := n19_
                         have NB678_715 := n20_
                         have NB715_678 := n21_
                         have NB682_715 := n22_
                         have NB715_682 := n23_
                         have NB687_715 := n24_
                         have NB715_687 := n25_
                         clear n0_ n1_ n2_ n3_ n4_ n5_ n6_ n7_ n8_ n9_ n10_ n11_ n12_ n13_ n14_ n15_ n16_ n17_ n18_ n19_ n20_ n21_ n22_ n23_ n24_ n25_
                         clear hb hbox hg
                         refine hK.out _ _ ⟨(blk_cell BK660.out 0).trans rfl, (blk_cell BK661.out 0).trans rfl⟩ (fun hHeld => ?_)
                         clear hK K
                         refine norm_ (a' := ?_) ?_ ?_
                         rotate_left
                         · show Act.put _ (some 19) _ = _
                           simp only [Act.put, z1_, z2_, z3_, i64_w, i32_w]
                           rfl
                         refine one_ (i := 1) (N := some 104) (B_ 1079 13) rfl rfl (one_of HT_.out (by kernel_rfl)) (by decide) (fun K hK => ?_)
                         refine goes_ Try.func28 (by kernel_rfl) rfl #[.agg #[.slice A0_0 l0_0.length c0_0]] (by rfl) rfl rfl (by (try simp only [List.map_toArray, List.map_cons, List.map_nil]); first | done | rfl | (simp only [List.length_drop, List.length_take]; rfl)) ?_
                         with_reducible refine (laws_toSemigroup.calls kj108 _ _ l0_0 t705 _ ?side1 ?side2 A172.out).mono ?_
                         (case side1 => exact ce_ ((Kd.C_below HR0_0.out HB.out)))
                         (case side2 => exact HC0_0.out)
                         rintro e w187 ⟨v706, rfl, ho0, hb⟩
                         refine ⟨_, rfl, ?_⟩
                         have n0_ := Aside0.mk (Kd.R_elder' (re_ HO_675000.out) (Kd.R_base ho0) hb)
                         have n1_ := Aside0.mk (Kd.R_elder' (re_ HO_679000.out) (Kd.R_base ho0) hb)
                         have n2_ := Aside0.mk (Kd.R_elder' (re_ HO_683000.out) (Kd.R_base ho0) hb)
                         have n3_ := Aside0.mk (Kd.R_elder' (re_ HO_688000.out) (Kd.R_base ho0) hb)
                         have n4_ := Aside0.mk (Kd.R_lower (Kd.R_new' (Kd.R_new' (Kd.R_new' (Kd.R_new' ho0 (Kd.R_lt (re_ HO_675000.out))) (Kd.R_lt (re_ HO_679000.out))) (Kd.R_lt (re_ HO_683000.out))) (Kd.R_lt (re_ HO_688000.out))) (below_size (by repeat (first | (with_reducible first | exact HB.out | apply below_alloc | apply pw_below_drewN | apply below_drew1 | refine below_set ?_ (Aside0.out (by assumption))) | exact HB.out))))
                         have n5_ := Aside0.mk (blk_below (be_ BK660.out) hb)
                         have n6_ := Aside0.mk (blk_below (be_ BK661.out) hb)
                         have n7_ := Aside0.mk (blk_below (be_ BK674.out) hb)
                         have n8_ := Aside0.mk (blk_below (be_ BK678.out) hb)
                         have n9_ := Aside0.mk (blk_below (be_ BK682.out) hb)
                         have n10_ := Aside0.mk (blk_below (be_ BK687.out) hb)
                         have n11_ := Aside0.mk (blk_below (be_ BK715.out) hb)
                         have n12_ := Aside0.mk (below_step (by repeat (first | (with_reducible first | exact HB.out | apply below_alloc | apply pw_below_drewN | apply below_drew1 | refine below_set ?_ (Aside0.out (by assumption))) | exact HB.out)) hb)
                         clear HO_675000
                         clear HO_679000
                         clear HO_683000
                         clear HO_688000
                         clear BK660
                         clear BK661
                         clear BK674
                         clear BK678
                         clear BK682
                         clear BK687
                         clear BK715
                         clear HB
                         have HO_675000 := n0_
                         have HO_679000 := n1_
                         have HO_683000 := n2_
                         have HO_688000 := n3_
                         have HO707 := n4_
                         have BK660 := n5_
                         have BK661 := n6_
                         have BK674 := n7_
                         have BK678 := n8_
                         have BK682 := n9_
                         have BK687 := n10_
                         have BK715 := n11_
                         have HB := n12_
                         clear n0_ n1_ n2_ n3_ n4_ n5_ n6_ n7_ n8_ n9_ n10_ n11_ n12_
                         (try clear hb)
                         (try clear hb2)
                         (try clear hk)
                         (try clear hi)
                         (try clear ho0)
                         refine hK.out _ _ ⟨(blk_cell BK660.out 0).trans rfl, (blk_cell BK661.out 0).trans rfl⟩ (fun hHeld => ?_)
                         clear hK K
                         refine norm_ (a' := ?_) ?_ ?_
                         rotate_left
                         · show Act.put _ (some 104) _ = _
                           simp only [Act.put, z1_, z2_, z3_, i64_w, i32_w]
                           rfl
                         refine one_ (i := 3) (N := some 106) (B_ 1087 13) rfl rfl (one_of HT_.out (by kernel_rfl)) (by decide) (fun K hK => ?_)
                         refine goes_ Try.func28 (by kernel_rfl) rfl #[.agg #[.slice A1_0 l1_0.length c1_0]] (by rfl) rfl rfl (by (try simp only [List.map_toArray, List.map_cons, List.map_nil]); first | done | rfl | (simp only [List.length_drop, List.length_take]; rfl)) ?_
                         with_reducible refine (laws_toSemigroup.calls kj108 _ _ l1_0 t708 _ ?side1 ?side2 A173.out).mono ?_
                         (case side1 => exact ce_ ((Kd.C_below HR1_0.out HB.out)))
                         (case side2 => exact HC1_0.out)
                         rintro e w188 ⟨v709, rfl, ho0, hb⟩
                         refine ⟨_, rfl, ?_⟩
                         have n0_ := Aside0.mk (Kd.R_elder' (re_ HO_675000.out) (Kd.R_base ho0) hb)
                         have n1_ := Aside0.mk (Kd.R_elder' (re_ HO_679000.out) (Kd.R_base ho0) hb)
                         have n2_ := Aside0.mk (Kd.R_elder' (re_ HO_683000.out) (Kd.R_base ho0) hb)
                         have n3_ := Aside0.mk (Kd.R_elder' (re_ HO_688000.out) (Kd.R_base ho0) hb)
                         have n4_ := Aside0.mk (Kd.R_elder' (re_ HO707.out) (Kd.R_base ho0) hb)
                         have n5_ := Aside0.mk (Kd.R_lower (Kd.R_new' (Kd.R_new' (Kd.R_new' (Kd.R_new' (Kd.R_new' ho0 (Kd.R_lt (re_ HO_675000.out))) (Kd.R_lt (re_ HO_679000.out))) (Kd.R_lt (re_ HO_683000.out))) (Kd.R_lt (re_ HO_688000.out))) (Kd.R_lt (re_ HO707.out))) (below_size (by repeat (first | (with_reducible first | exact HB.out | apply below_alloc | apply pw_below_drewN | apply below_drew1 | refine below_set ?_ (Aside0.out (by assumption))) | exact HB.out))))
                         have n6_ := Aside0.mk (blk_below (be_ BK660.out) hb)
                         have n7_ := Aside0.mk (blk_below (be_ BK661.out) hb)
                         have n8_ := Aside0.mk (blk_below (be_ BK674.out) hb)
                         have n9_ := Aside0.mk (blk_below (be_ BK678.out) hb)
                         have n10_ := Aside0.mk (blk_below (be_ BK682.out) hb)
                         have n11_ := Aside0.mk (blk_below (be_ BK687.out) hb)
                         have n12_ := Aside0.mk (blk_below (be_ BK715.out) hb)
                         have n13_ := Aside0.mk (below_step (by repeat (first | (with_reducible first | exact HB.out | apply below_alloc | apply pw_below_drewN | apply below_drew1 | refine below_set ?_ (Aside0.out (by assumption))) | exact HB.out)) hb)
                         clear HO_675000
                         clear HO_679000
                         clear HO_683000
                         clear HO_688000
                         clear HO707
                         clear BK660
                         clear BK661
                         clear BK674
                         clear BK678
                         clear BK682
                         clear BK687
                         clear BK715
                         clear HB
                         have HO_675000 := n0_
                         have HO_679000 := n1_
                         have HO_683000 := n2_
                         have HO_688000 := n3_
                         have HO707 := n4_
                         have HO710 := n5_
                         have BK660 := n6_
                         have BK661 := n7_
                         have BK674 := n8_
                         have BK678 := n9_
                         have BK682 := n10_
                         have BK687 := n11_
                         have BK715 := n12_
                         have HB := n13_
                         clear n0_ n1_ n2_ n3_ n4_ n5_ n6_ n7_ n8_ n9_ n10_ n11_ n12_ n13_
                         (try clear hb)
                         (try clear hb2)
                         (try clear hk)
                         (try clear hi)
                         (try clear ho0)
                         obtain ⟨Ao189, co189, eo189⟩ := Kd.R_slice HO707.out
                         (first | subst eo189 | (injection eo189 with f1_ f2_ f3_; have f4_ := f1_.symm; have f5_ := f3_.symm; clear f1_ f2_ f3_; subst f4_; subst f5_))
                         obtain ⟨Ao190, co190, eo190⟩ := Kd.R_slice HO710.out
                         (first | subst eo190 | (injection eo190 with f1_ f2_ f3_; have f4_ := f1_.symm; have f5_ := f3_.symm; clear f1_ f2_ f3_; subst f4_; subst f5_))
                         refine hK.out _ _ ⟨(blk_cell BK660.out 0).trans rfl, (blk_cell BK661.out 0).trans rfl⟩ (fun hHeld => ?_)
                         clear hK K
                         refine norm_ (a' := ?_) ?_ ?_
                         rotate_left
                         · show Act.put _ (some 106) _ = _
                           simp only [Act.put, z1_, z2_, z3_, i64_w, i32_w]
                           rfl
                         refine one_ (i := 6) (N := some 109) (B_ 1151 13) rfl rfl (one_of HT_.out (by kernel_rfl)) (by decide) (fun K hK => ?_)
                         refine goes_ Try.func33 (by kernel_rfl) rfl #[.agg #[.slice Ao189 t705.length co189], .agg #[.slice Ao190 t708.length co190], .int .i64 a2, .int .i64 a3] (by rfl) rfl rfl (by (try simp only [List.map_toArray, List.map_cons, List.map_nil]); first | done | rfl | (simp only [List.length_drop, List.length_take]; rfl)) ?_
                         with_reducible refine (impl_GlueOf.calls kj108 _ _ t705 _ _ t708 a2 a3 t711 t714 _ ?side1 ?side2 ?side3 ?side4 A174.out).mono ?_
                         (case side1 => exact ce_ ((Kd.R_reads' HO707.out).2.2))
                         (case side2 => exact (Kd.R_reads' HO707.out).2.1)
                         (case side3 => exact ce_ ((Kd.R_reads' HO710.out).2.2))
                         (case side4 => exact (Kd.R_reads' HO710.out).2.1)
                         rintro e w191 ⟨v712, rfl, ho0, hb⟩
                         refine ⟨_, rfl, ?_⟩
                         have n0_ := Aside0.mk (Kd.R_elder' (re_ HO_675000.out) (Kd.R_base ho0) hb)
                         have n1_ := Aside0.mk (Kd.R_elder' (re_ HO_679000.out) (Kd.R_base ho0) hb)
                         have n2_ := Aside0.mk (Kd.R_elder' (re_ HO_683000.out) (Kd.R_base ho0) hb)
                         have n3_ := Aside0.mk (Kd.R_elder' (re_ HO_688000.out) (Kd.R_base ho0) hb)
                         have n4_ := Aside0.mk (Kd.R_elder' (re_ HO707.out) (Kd.R_base ho0) hb)
                         have n5_ := Aside0.mk (Kd.R_elder' (re_ HO710.out) (Kd.R_base ho0) hb)
                         have n6_ := Aside0.mk (Kd.R_lower (Kd.R_new' (Kd.R_new' (Kd.R_new' (Kd.R_new' (Kd.R_new' (Kd.R_new' ho0 (Kd.R_lt (re_ HO_675000.out))) (Kd.R_lt (re_ HO_679000.out))) (Kd.R_lt (re_ HO_683000.out))) (Kd.R_lt (re_ HO_688000.out))) (Kd.R_lt (re_ HO707.out))) (Kd.R_lt (re_ HO710.out))) (below_size (by repeat (first | (with_reducible first | exact HB.out | apply below_alloc | apply pw_below_drewN | apply below_drew1 | refine below_set ?_ (Aside0.out (by assumption))) | exact HB.out))))
                         have n7_ := Aside0.mk (blk_below (be_ BK660.out) hb)
                         have n8_ := Aside0.mk (blk_below (be_ BK661.out) hb)
                         have n9_ := Aside0.mk (blk_below (be_ BK674.out) hb)
                         have n10_ := Aside0.mk (blk_below (be_ BK678.out) hb)
                         have n11_ := Aside0.mk (blk_below (be_ BK682.out) hb)
                         have n12_ := Aside0.mk (blk_below (be_ BK687.out) hb)
                         have n13_ := Aside0.mk (blk_below (be_ BK715.out) hb)
                         have n14_ := Aside0.mk (below_step (by repeat (first | (with_reducible first | exact HB.out | apply below_alloc | apply pw_below_drewN | apply below_drew1 | refine below_set ?_ (Aside0.out (by assumption))) | exact HB.out)) hb)
                         clear HO_675000
                         clear HO_679000
                         clear HO_683000
                         clear HO_688000
                         clear HO707
                         clear HO710
                         clear BK660
                         clear BK661
                         clear BK674
                         clear BK678
                         clear BK682
                         clear BK687
                         clear BK715
                         clear HB
                         have HO_675000 := n0_
                         have HO_679000 := n1_
                         have HO_683000 := n2_
                         have HO_688000 := n3_
                         have HO707 := n4_
                         have HO710 := n5_
                         have HO713 := n6_
                         have BK660 := n7_
                         have BK661 := n8_
                         have BK674 := n9_
                         have BK678 := n10_
                         have BK682 := n11_
                         have BK687 := n12_
                         have BK715 := n13_
                         have HB := n14_
                         clear n0_ n1_ n2_ n3_ n4_ n5_ n6_ n7_ n8_ n9_ n10_ n11_ n12_ n13_ n14_
                         (try clear hb)
                         (try clear hb2)
                         (try clear hk)
                         (try clear hi)
                         (try clear ho0)
                         refine hK.out _ _ ⟨(blk_cell BK660.out 0).trans rfl, (blk_cell BK661.out 0).trans rfl⟩ (fun hHeld => ?_)
                         clear hK K
                         refine norm_ (a' := ?_) ?_ ?_
                         rotate_left
                         · show Act.put _ (some 109) _ = _
                           simp only [Act.put, z1_, z2_, z3_, i64_w, i32_w]
                           rfl
                         refine pu_ HT_ 7 102 (B_ 1279 13) ?_
                         refine pu_ HT_ 8 110 (B_ 1535 13) ?_
                         refine pu_ HT_ 9 111 (B_ 2047 13) ?_
                         exact norm_ (by simp only [putAll, Act.put, z1_, z2_, z3_]) (hCont (.slice Ao189 t705.length co189, .slice Ao190 t708.length co190, v712, gb715) _ ⟨hHeld, (by (with_reducible repeat (first | apply Kd.R_alloc | apply Kd.R_drewN | apply Kd.R_drew)); exact Kd.R_mono HO707.out (fun _ hk => ⟨hk.1.2, ⟨hk.2, ⟨hk.1.1.1.1.1.2, ⟨hk.1.1.1.1.2, ⟨hk.1.1.1.2, hk.1.1.2⟩⟩⟩⟩⟩)), (by (with_reducible repeat (first | apply Kd.R_alloc | apply Kd.R_drewN | apply Kd.R_drew)); exact Kd.R_mono HO710.out (fun _ hk => ⟨hk.1.2, ⟨hk.2, ⟨hk.1.1.1.1.1.2, ⟨hk.1.1.1.1.2, ⟨hk.1.1.1.2, hk.1.1.2⟩⟩⟩⟩⟩)), (by (with_reducible repeat (first | apply Kd.R_alloc | apply Kd.R_drewN | apply Kd.R_drew)); exact Kd.R_mono HO713.out (fun _ hk => ⟨hk.1.2, ⟨hk.2, ⟨hk.1.1.1.1.1.2, ⟨hk.1.1.1.1.2, ⟨hk.1.1.1.2, hk.1.1.2⟩⟩⟩⟩⟩)), (by (with_reducible repeat (first | apply Kd.R_alloc | apply Kd.R_drewN | apply Kd.R_drew)); exact Kd.R_mono HO_675000.out (fun _ hk => ⟨hk.1.1.2, ⟨hk.1.2, ⟨hk.2, ⟨hk.1.1.1.1, ⟨hk.1.1.1.2.1, hk.1.1.1.2.2⟩⟩⟩⟩⟩)), (by (with_reducible repeat (first | apply Kd.R_alloc | apply Kd.R_drewN | apply Kd.R_drew)); exact Kd.R_mono HO_679000.out (fun _ hk => ⟨hk.1.1.2, ⟨hk.1.2, ⟨hk.2, ⟨hk.1.1.1.1, ⟨hk.1.1.1.2.1, hk.1.1.1.2.2⟩⟩⟩⟩⟩)), (by (with_reducible repeat (first | apply Kd.R_alloc | apply Kd.R_drewN | apply Kd.R_drew)); exact Kd.R_mono HO_683000.out (fun _ hk => ⟨hk.1.1.2, ⟨hk.1.2, ⟨hk.2, ⟨hk.1.1.1.1, ⟨hk.1.1.1.2.1, hk.1.1.1.2.2⟩⟩⟩⟩⟩)), (by (with_reducible repeat (first | apply Kd.R_alloc | apply Kd.R_drewN | apply Kd.R_drew)); exact Kd.R_mono HO_688000.out (fun _ hk => ⟨hk.1.1.2, ⟨hk.1.2, ⟨hk.2, ⟨hk.1.1.1.1, ⟨hk.1.1.1.2.1, hk.1.1.1.2.2⟩⟩⟩⟩⟩)), (be_ BK660.out), (be_ BK661.out), (be_ BK674.out), (be_ BK678.out), (be_ BK682.out), (be_ BK687.out), (be_ BK715.out), GW715.out, GE715.out, NB660_715.out, NB715_660.out, NB661_715.out, NB715_661.out, NB674_715.out, NB715_674.out, NB678_715.out, NB715_678.out, NB682_715.out, NB715_682.out, NB687_715.out, NB715_687.out, (by repeat (first | (with_reducible first | exact HB.out | apply below_alloc | apply pw_below_drewN | apply below_drew1 | refine below_set ?_ (Aside0.out (by assumption))) | exact HB.out))⟩)
                     rintro ⟨v706, v709, v712, gb715⟩ w192 ⟨hS_, h0_, h1_, h2_, h3_, h4_, h5_, h6_, h7_, h8_, h9_, h10_, h11_, h12_, h13_, h14_, h15_, h16_, h17_, h18_, h19_, h20_, h21_, h22_, h23_, h24_, h25_, h26_, h27_, h28_⟩
                     have n0_ : Aside0 (Kd.R (Kd.int .i64) 3 w192 w.heap.size (fun k_ => some k_ ≠ (v709 : Value).ownBlock ∧ some k_ ≠ (v712 : Value).ownBlock ∧ some k_ ≠ (.slice Ao43 t670.length co43 : Value).ownBlock ∧ some k_ ≠ (.slice Ao49 t698.length co49 : Value).ownBlock ∧ some k_ ≠ (.slice Ao58 t700.length co58 : Value).ownBlock ∧ some k_ ≠ (.slice Ao67 t683.length co67 : Value).ownBlock) v706 t705) := ⟨h0_⟩
                     have n1_ : Aside0 (Kd.R (Kd.int .i64) 3 w192 w.heap.size (fun k_ => some k_ ≠ (v706 : Value).ownBlock ∧ some k_ ≠ (v712 : Value).ownBlock ∧ some k_ ≠ (.slice Ao43 t670.length co43 : Value).ownBlock ∧ some k_ ≠ (.slice Ao49 t698.length co49 : Value).ownBlock ∧ some k_ ≠ (.slice Ao58 t700.length co58 : Value).ownBlock ∧ some k_ ≠ (.slice Ao67 t683.length co67 : Value).ownBlock) v709 t708) := ⟨h1_⟩
                     have n2_ : Aside0 (Kd.R (Kd.int .i64) 3 w192 w.heap.size (fun k_ => some k_ ≠ (v706 : Value).ownBlock ∧ some k_ ≠ (v709 : Value).ownBlock ∧ some k_ ≠ (.slice Ao43 t670.length co43 : Value).ownBlock ∧ some k_ ≠ (.slice Ao49 t698.length co49 : Value).ownBlock ∧ some k_ ≠ (.slice Ao58 t700.length co58 : Value).ownBlock ∧ some k_ ≠ (.slice Ao67 t683.length co67 : Value).ownBlock) v712 t711) := ⟨h2_⟩
                     have n3_ : Aside0 (Kd.R (Kd.int .i64) 3 w192 w.heap.size (fun k_ => some k_ ≠ (v706 : Value).ownBlock ∧ some k_ ≠ (v709 : Value).ownBlock ∧ some k_ ≠ (v712 : Value).ownBlock ∧ some k_ ≠ (.slice Ao49 t698.length co49 : Value).ownBlock ∧ some k_ ≠ (.slice Ao58 t700.length co58 : Value).ownBlock ∧ some k_ ≠ (.slice Ao67 t683.length co67 : Value).ownBlock) (.slice Ao43 t670.length co43) t670) := ⟨h3_⟩
                     have n4_ : Aside0 (Kd.R (Kd.int .i64) 3 w192 w.heap.size (fun k_ => some k_ ≠ (v706 : Value).ownBlock ∧ some k_ ≠ (v709 : Value).ownBlock ∧ some k_ ≠ (v712 : Value).ownBlock ∧ some k_ ≠ (.slice Ao43 t670.length co43 : Value).ownBlock ∧ some k_ ≠ (.slice Ao58 t700.length co58 : Value).ownBlock ∧ some k_ ≠ (.slice Ao67 t683.length co67 : Value).ownBlock) (.slice Ao49 t698.length co49) t698) := ⟨h4_⟩
                     have n5_ : Aside0 (Kd.R (Kd.int .i64) 3 w192 w.heap.size (fun k_ => some k_ ≠ (v706 : Value).ownBlock ∧ some k_ ≠ (v709 : Value).ownBlock ∧ some k_ ≠ (v712 : Value).ownBlock ∧ some k_ ≠ (.slice Ao43 t670.length co43 : Value).ownBlock ∧ some k_ ≠ (.slice Ao49 t698.length co49 : Value).ownBlock ∧ some k_ ≠ (.slice Ao67 t683.length co67 : Value).ownBlock) (.slice Ao58 t700.length co58) t700) := ⟨h5_⟩
                     have n6_ : Aside0 (Kd.R (Kd.int .i64) 3 w192 w.heap.size (fun k_ => some k_ ≠ (v706 : Value).ownBlock ∧ some k_ ≠ (v709 : Value).ownBlock ∧ some k_ ≠ (v712 : Value).ownBlock ∧ some k_ ≠ (.slice Ao43 t670.length co43 : Value).ownBlock ∧ some k_ ≠ (.slice Ao49 t698.length co49 : Value).ownBlock ∧ some k_ ≠ (.slice Ao58 t700.length co58 : Value).ownBlock) (.slice Ao67 t683.length co67) t703) := ⟨h6_⟩
                     have n7_ : Aside0 (w192.heap[gb660]? = some (.cells #[.slice A0_0 l0_0.length c0_0] 41 (0, 0))) := ⟨h7_⟩
                     have n8_ : Aside0 (w192.heap[gb661]? = some (.cells #[.slice A1_0 l1_0.length c1_0] 41 (0, 0))) := ⟨h8_⟩
                     have n9_ : Aside0 (w192.heap[gb674]? = some (.cells #[.slice Ao43 t670.length co43] 44 (0, 0))) := ⟨h9_⟩
                     have n10_ : Aside0 (w192.heap[gb678]? = some (.cells #[.slice Ao49 t698.length co49] 44 (0, 0))) := ⟨h10_⟩
                     have n11_ : Aside0 (w192.heap[gb682]? = some (.cells #[.slice Ao58 t700.length co58] 44 (0, 0))) := ⟨h11_⟩
                     have n12_ : Aside0 (w192.heap[gb687]? = some (.cells #[.slice Ao67 t683.length co67] 44 (0, 0))) := ⟨h12_⟩
                     have n13_ : Aside0 (w192.heap[gb715]? = some (.cells #[.slice none 0 0] 44 (0, 0))) := ⟨h13_⟩
                     have n14_ : Aside0 (w.heap.size ≤ gb715) := ⟨h14_⟩
                     have n15_ : Aside0 (w.heap.size ≤ gb715) := ⟨h15_⟩
                     have n16_ : Aside0 (gb660 ≠ gb715) := ⟨h16_⟩
                     have n17_ : Aside0 (gb715 ≠ gb660) := ⟨h17_⟩
                     have n18_ : Aside0 (gb661 ≠ gb715) := ⟨h18_⟩
                     have n19_ : Aside0 (gb715 ≠ gb661) := ⟨h19_⟩
                     have n20_ : Aside0 (gb674 ≠ gb715) := ⟨h20_⟩
                     have n21_ : Aside0 (gb715 ≠ gb674) := ⟨h21_⟩
                     have n22_ : Aside0 (gb678 ≠ gb715) := ⟨h22_⟩
                     have n23_ : Aside0 (gb715 ≠ gb678) := ⟨h23_⟩
                     have n24_ : Aside0 (gb682 ≠ gb715) := ⟨h24_⟩
                     have n25_ : Aside0 (gb715 ≠ gb682) := ⟨h25_⟩
                     have n26_ : Aside0 (gb687 ≠ gb715) := ⟨h26_⟩
                     have n27_ : Aside0 (gb715 ≠ gb687) := ⟨h27_⟩
                     have n28_ : Aside0 (Below w.heap.size w w192) := ⟨h28_⟩
                     clear HO_675000
                     clear HO_679000
                     clear HO_683000
                     clear HO_688000
                     clear BK660
                     clear BK661
                     clear BK674
                     clear BK678
                     clear BK682
                     clear BK687
                     clear HB
                     clear h0_ h1_ h2_ h3_ h4_ h5_ h6_ h7_ h8_ h9_ h10_ h11_ h12_ h13_ h14_ h15_ h16_ h17_ h18_ h19_ h20_ h21_ h22_ h23_ h24_ h25_ h26_ h27_ h28_
                     have HO707 := n0_
                     have HO710 := n1_
                     have HO713 := n2_
                     have HO_675000 := n3_
                     have HO_679000 := n4_
                     have HO_683000 := n5_
                     have HO_688000 := n6_
                     have BK660 := n7_
                     have BK661 := n8_
                     have BK674 := n9_
                     have BK678 := n10_
                     have BK682 := n11_
                     have BK687 := n12_
                     have BK715 := n13_
                     have GW715 := n14_
                     have GE715 := n15_
                     have NB660_715 := n16_
                     have NB715_660 := n17_
                     have NB661_715 := n18_
                     have NB715_661 := n19_
                     have NB674_715 := n20_
                     have NB715_674 := n21_
                     have NB678_715 := n22_
                     have NB715_678 := n23_
                     have NB682_715 := n24_
                     have NB715_682 := n25_
                     have NB687_715 := n26_
                     have NB715_687 := n27_
                     have HB := n28_
                     clear n0_ n1_ n2_ n3_ n4_ n5_ n6_ n7_ n8_ n9_ n10_ n11_ n12_ n13_ n14_ n15_ n16_ n17_ n18_ n19_ n20_ n21_ n22_ n23_ n24_ n25_ n26_ n27_ n28_
                     have hHeld : w192.cell? ⟨gb660, 0, none⟩ = some (.slice A0_0 l0_0.length c0_0) ∧ w192.cell? ⟨gb661, 0, none⟩ = some (.slice A1_0 l1_0.length c1_0) := hS_
                     obtain ⟨Ao193, co193, eo193⟩ := Kd.R_slice HO713.out
                     (first | subst eo193 | (injection eo193 with f1_ f2_ f3_; have f4_ := f1_.symm; have f5_ := f3_.symm; clear f1_ f2_ f3_; subst f4_; subst f5_))
                     refine norm_ (a' := ?_) ?_ ?_
                     rotate_left
                     · simp only [putAll, Act.put, z1_, z2_, z3_]
                       rfl
                     refine one_ (i := 11) (N := none) (B_ 4095 13) rfl rfl (one_of HT_.out (by kernel_rfl)) (by decide) (fun K hK => ?_)
                     have hs194 : w192.cell? ⟨gb715, 0, none⟩ = some (.slice none 0 0) := (blk_cell BK715.out 0).trans rfl
                     have hfs194 := blk_frozen BK715.out 0
                     have hns194_0 := NB660_715.out
                     have hns194_1 := NB661_715.out
                     have hns194_2 := NB674_715.out
                     have hns194_3 := NB678_715.out
                     have hns194_4 := NB682_715.out
                     have hns194_5 := NB687_715.out
                     have hms194_0 := NB715_660.out
                     have hms194_1 := NB715_661.out
                     have hms194_2 := NB715_674.out
                     have hms194_3 := NB715_678.out
                     have hms194_4 := NB715_682.out
                     have hms194_5 := NB715_687.out
                     refine skip_ (w1 := ?_) (by rfl) rfl ?_ ?_
                     rotate_left
                     · go_simp
                       rfl
                     refine hK.out _ _ ⟨((cell_far (p := ⟨gb715, _, none⟩) NB660_715.out _).trans (hHeld.1)), ((cell_far (p := ⟨gb715, _, none⟩) NB661_715.out _).trans (hHeld.2))⟩ (fun hHeld => ?_)
                     clear hK K
                     refine pu_ HT_ 12 20 (B_ 8191 13) ?_
                     refine done_ (done_of HT_.out (by kernel_rfl)) ?_
                     go_upto_region 32 with (fail)
                     go_cut [120] (fun v120 wc => ∃ (kq : Nat) (x120_174 : Bool), v120 = .bool x120_174 ∧ Aside0 (laws_FnExactGlueOf.j2 kq t702 x120_174 t703 = some r) ∧ Aside0 (kq ≤ kj108) ∧ Aside0 (Kd.R (Kd.int .i64) 3 wc w.heap.size (fun k_ => some k_ ≠ ((.slice Ao49 t698.length co49) : Value).ownBlock ∧ some k_ ≠ ((.slice Ao58 t700.length co58) : Value).ownBlock ∧ some k_ ≠ ((.slice Ao67 t683.length co67) : Value).ownBlock ∧ some k_ ≠ ((.slice Ao193 t711.length co193) : Value).ownBlock) (.slice Ao43 t670.length co43) t670) ∧ Aside0 (Kd.R (Kd.int .i64) 3 wc w.heap.size (fun k_ => some k_ ≠ ((.slice Ao43 t670.length co43) : Value).ownBlock ∧ some k_ ≠ ((.slice Ao58 t700.length co58) : Value).ownBlock ∧ some k_ ≠ ((.slice Ao67 t683.length co67) : Value).ownBlock ∧ some k_ ≠ ((.slice Ao193 t711.length co193) : Value).ownBlock) (.slice Ao49 t698.length co49) t698) ∧ Aside0 (Kd.R (Kd.int .i64) 3 wc w.heap.size (fun k_ => some k_ ≠ ((.slice Ao43 t670.length co43) : Value).ownBlock ∧ some k_ ≠ ((.slice Ao49 t698.length co49) : Value).ownBlock ∧ some k_ ≠ ((.slice Ao67 t683.length co67) : Value).ownBlock ∧ some k_ ≠ ((.slice Ao193 t711.length co193) : Value).ownBlock) (.slice Ao58 t700.length co58) t700) ∧ Aside0 (Kd.R (Kd.int .i64) 3 wc w.heap.size (fun k_ => some k_ ≠ ((.slice Ao43 t670.length co43) : Value).ownBlock ∧ some k_ ≠ ((.slice Ao49 t698.length co49) : Value).ownBlock ∧ some k_ ≠ ((.slice Ao58 t700.length co58) : Value).ownBlock ∧ some k_ ≠ ((.slice Ao193 t711.length co193) : Value).ownBlock) (.slice Ao67 t683.length co67) t703) ∧ Aside0 (Kd.R (Kd.int .i64) 3 wc w.heap.size (fun k_ => some k_ ≠ ((.slice Ao43 t670.length co43) : Value).ownBlock ∧ some k_ ≠ ((.slice Ao49 t698.length co49) : Value).ownBlock ∧ some k_ ≠ ((.slice Ao58 t700.length co58) : Value).ownBlock ∧ some k_ ≠ ((.slice Ao67 t683.length co67) : Value).ownBlock) (.slice Ao193 t711.length co193) t711) ∧ Aside0 (wc.heap[gb660]? = some (.cells #[(.slice A0_0 l0_0.length c0_0)] 41 (0, 0))) ∧ Aside0 (wc.heap[gb661]? = some (.cells #[(.slice A1_0 l1_0.length c1_0)] 41 (0, 0))) ∧ Aside0 (wc.heap[gb674]? = some (.cells #[(.slice Ao43 t670.length co43)] 44 (0, 0))) ∧ Aside0 (wc.heap[gb678]? = some (.cells #[(.slice Ao49 t698.length co49)] 44 (0, 0))) ∧ Aside0 (wc.heap[gb682]? = some (.cells #[(.slice Ao58 t700.length co58)] 44 (0, 0))) ∧ Aside0 (wc.heap[gb687]? = some (.cells #[(.slice Ao67 t683.length co67)] 44 (0, 0))) ∧ Aside0 (wc.heap[gb715]? = some (.cells #[(.slice Ao193 t711.length co193)] 44 (0, 0))) ∧ Aside0 (Below w.heap.size w wc))
                     case first =>
                      have H := HC175.out
                      clear HC175
                      replace H := Option.bind_eq_some_iff.mp H
                      obtain ⟨t716, A1950, H⟩ := H
                      replace H : (if t716 = true then (laws_FnExactGlueOf.j2 kj108 t702 (t714 != t673) t703) else (laws_FnExactGlueOf.j2 kj108 t702 true t703)) = some r := H
                      have A195 := Aside0.mk A1950
                      clear A1950
                      by_cases c196 : t716 = true
                      · subst c196
                        have H1 : (laws_FnExactGlueOf.j2 kj108 t702 (t714 != t673) t703) = some r := by rw [if_pos rfl] at H; exact H
                        clear H
                        have H := H1
                        clear H1
                        as_aux_lemma =>
                         have H' := Aside0.mk H
                         clear H
                         have hnb197 := NB715_660.out
                         have hnc197 := NB660_715.out
                         have hnb198 := NB715_661.out
                         have hnc198 := NB661_715.out
                         have hnb199 := NB715_674.out
                         have hnc199 := NB674_715.out
                         have hnb200 := NB715_678.out
                         have hnc200 := NB678_715.out
                         have hnb201 := NB715_682.out
                         have hnc201 := NB682_715.out
                         have hnb202 := NB715_687.out
                         have hnc202 := NB687_715.out
                         have hcz203_0 : w192.cell? ⟨gb715, 0, none⟩ = some (.slice none 0 0) := (blk_cell BK715.out 0).trans rfl
                         have hfz203_0 := blk_frozen BK715.out 0
                         have hnb204 := NB674_660.out
                         have hnc204 := NB660_674.out
                         have hnb205 := NB674_661.out
                         have hnc205 := NB661_674.out
                         have hnb206 := NB674_678.out
                         have hnc206 := NB678_674.out
                         have hnb207 := NB674_682.out
                         have hnc207 := NB682_674.out
                         have hnb208 := NB674_687.out
                         have hnc208 := NB687_674.out
                         have hcz209_0 : w192.cell? ⟨gb674, 0, none⟩ = some (.slice Ao43 t670.length co43) := (blk_cell BK674.out 0).trans rfl
                         have hfz209_0 := blk_frozen BK674.out 0
                         go_wp2_with (first | ((with_reducible refine gate_callee (f := 30) rfl ?_); refine goesL_ (some 114) rfl rfl Try.func30 (by kernel_rfl) rfl #[.agg #[.slice Ao193 t711.length co193], .agg #[.slice Ao43 t670.length co43]] rfl (by (try simp only [List.map_toArray, List.map_cons, List.map_nil]); first | done | rfl | (simp only [List.length_drop, List.length_take]; rfl)) ?_; (with_reducible refine (laws_eqSemigroup.calls kj108 _ _ t711 _ _ t670 true _ ?side1 ?side2 ?side3 ?side4 A195.out).mono ?_); (case side1 => refine (Kd.R_reads' (e := 3) (base := w.heap.size) (ok := fun k_ => (some k_ ≠ (v706 : Value).ownBlock ∧ (some k_ ≠ (v709 : Value).ownBlock ∧ (some k_ ≠ (.slice Ao43 t670.length co43 : Value).ownBlock ∧ (some k_ ≠ (.slice Ao49 t698.length co49 : Value).ownBlock ∧ (some k_ ≠ (.slice Ao58 t700.length co58 : Value).ownBlock ∧ some k_ ≠ (.slice Ao67 t683.length co67 : Value).ownBlock)))))) (n := t711.length) (c := co193) ?_).2.2; exact (by (with_reducible repeat (first | apply Kd.R_alloc | apply Kd.R_drewN | apply Kd.R_drew)); exact (Kd.R_mono (Kd.R_far (p := ⟨gb715, 0, none⟩) (Kd.R_types HO713.out BK715.out (by decide)) (fun _ hk => hk.2) (.slice Ao193 t711.length co193)) (fun _ h_ => h_.1)))); (case side2 => exact (Kd.R_reads' HO713.out).2.1); (case side3 => refine (Kd.R_reads' (e := 3) (base := w.heap.size) (ok := fun k_ => (some k_ ≠ (v706 : Value).ownBlock ∧ (some k_ ≠ (v709 : Value).ownBlock ∧ (some k_ ≠ (.slice Ao193 t711.length co193 : Value).ownBlock ∧ (some k_ ≠ (.slice Ao49 t698.length co49 : Value).ownBlock ∧ (some k_ ≠ (.slice Ao58 t700.length co58 : Value).ownBlock ∧ some k_ ≠ (.slice Ao67 t683.length co67 : Value).ownBlock)))))) (n := t670.length) (c := co43) ?_).2.2; exact (by (with_reducible repeat (first | apply Kd.R_alloc | apply Kd.R_drewN | apply Kd.R_drew)); exact (Kd.R_mono (Kd.R_far (p := ⟨gb715, 0, none⟩) (Kd.R_types HO_675000.out BK715.out (by decide)) (fun _ hk => hk.2) (.slice Ao193 t711.length co193)) (fun _ h_ => h_.1)))); (case side4 => exact (Kd.R_reads' HO_675000.out).2.1); rintro e w210 ⟨rfl, hb⟩; refine ⟨_, rfl, ?_⟩; have n0_ := Aside0.mk (Kd.R_below (by (with_reducible repeat (first | apply Kd.R_alloc | apply Kd.R_drewN | apply Kd.R_drew)); exact (Kd.R_mono (Kd.R_far (p := ⟨gb715, 0, none⟩) (Kd.R_types HO_675000.out BK715.out (by decide)) (fun _ hk => hk.2) (.slice Ao193 t711.length co193)) (fun _ h_ => h_.1))) hb); have n1_ := Aside0.mk (Kd.R_below (by (with_reducible repeat (first | apply Kd.R_alloc | apply Kd.R_drewN | apply Kd.R_drew)); exact (Kd.R_mono (Kd.R_far (p := ⟨gb715, 0, none⟩) (Kd.R_types HO_679000.out BK715.out (by decide)) (fun _ hk => hk.2) (.slice Ao193 t711.length co193)) (fun _ h_ => h_.1))) hb); have n2_ := Aside0.mk (Kd.R_below (by (with_reducible repeat (first | apply Kd.R_alloc | apply Kd.R_drewN | apply Kd.R_drew)); exact (Kd.R_mono (Kd.R_far (p := ⟨gb715, 0, none⟩) (Kd.R_types HO_683000.out BK715.out (by decide)) (fun _ hk => hk.2) (.slice Ao193 t711.length co193)) (fun _ h_ => h_.1))) hb); have n3_ := Aside0.mk (Kd.R_below (by (with_reducible repeat (first | apply Kd.R_alloc | apply Kd.R_drewN | apply Kd.R_drew)); exact (Kd.R_mono (Kd.R_far (p := ⟨gb715, 0, none⟩) (Kd.R_types HO_688000.out BK715.out (by decide)) (fun _ hk => hk.2) (.slice Ao193 t711.length co193)) (fun _ h_ => h_.1))) hb); have n4_ := Aside0.mk (Kd.R_below (by (with_reducible repeat (first | apply Kd.R_alloc | apply Kd.R_drewN | apply Kd.R_drew)); exact (Kd.R_mono (Kd.R_far (p := ⟨gb715, 0, none⟩) (Kd.R_types HO707.out BK715.out (by decide)) (fun _ hk => hk.2) (.slice Ao193 t711.length co193)) (fun _ h_ => h_.1))) hb); have n5_ := Aside0.mk (Kd.R_below (by (with_reducible repeat (first | apply Kd.R_alloc | apply Kd.R_drewN | apply Kd.R_drew)); exact (Kd.R_mono (Kd.R_far (p := ⟨gb715, 0, none⟩) (Kd.R_types HO710.out BK715.out (by decide)) (fun _ hk => hk.2) (.slice Ao193 t711.length co193)) (fun _ h_ => h_.1))) hb); have n6_ := Aside0.mk (Kd.R_below (by (with_reducible repeat (first | apply Kd.R_alloc | apply Kd.R_drewN | apply Kd.R_drew)); exact (Kd.R_mono (Kd.R_far (p := ⟨gb715, 0, none⟩) (Kd.R_types HO713.out BK715.out (by decide)) (fun _ hk => hk.2) (.slice Ao193 t711.length co193)) (fun _ h_ => h_.1))) hb); have n7_ := Aside0.mk (blk_below (g := gb660) (o := .cells #[.slice A0_0 l0_0.length c0_0] 41 (0, 0)) (by (with_reducible repeat (first | refine blk_drewN ?_ _ | refine blk_drew ?_ | refine blk_alloc ?_ _)); refine blk_far ?_ NB660_715.out _; (with_reducible repeat (first | refine blk_drewN ?_ _ | refine blk_drew ?_ | refine blk_alloc ?_ _)); exact BK660.out) hb); have n8_ := Aside0.mk (blk_below (g := gb661) (o := .cells #[.slice A1_0 l1_0.length c1_0] 41 (0, 0)) (by (with_reducible repeat (first | refine blk_drewN ?_ _ | refine blk_drew ?_ | refine blk_alloc ?_ _)); refine blk_far ?_ NB661_715.out _; (with_reducible repeat (first | refine blk_drewN ?_ _ | refine blk_drew ?_ | refine blk_alloc ?_ _)); exact BK661.out) hb); have n9_ := Aside0.mk (blk_below (g := gb674) (o := .cells #[.slice Ao43 t670.length co43] 44 (0, 0)) (by (with_reducible repeat (first | refine blk_drewN ?_ _ | refine blk_drew ?_ | refine blk_alloc ?_ _)); refine blk_far ?_ NB674_715.out _; (with_reducible repeat (first | refine blk_drewN ?_ _ | refine blk_drew ?_ | refine blk_alloc ?_ _)); exact BK674.out) hb); have n10_ := Aside0.mk (blk_below (g := gb678) (o := .cells #[.slice Ao49 t698.length co49] 44 (0, 0)) (by (with_reducible repeat (first | refine blk_drewN ?_ _ | refine blk_drew ?_ | refine blk_alloc ?_ _)); refine blk_far ?_ NB678_715.out _; (with_reducible repeat (first | refine blk_drewN ?_ _ | refine blk_drew ?_ | refine blk_alloc ?_ _)); exact BK678.out) hb); have n11_ := Aside0.mk (blk_below (g := gb682) (o := .cells #[.slice Ao58 t700.length co58] 44 (0, 0)) (by (with_reducible repeat (first | refine blk_drewN ?_ _ | refine blk_drew ?_ | refine blk_alloc ?_ _)); refine blk_far ?_ NB682_715.out _; (with_reducible repeat (first | refine blk_drewN ?_ _ | refine blk_drew ?_ | refine blk_alloc ?_ _)); exact BK682.out) hb); have n12_ := Aside0.mk (blk_below (g := gb687) (o := .cells #[.slice Ao67 t683.length co67] 44 (0, 0)) (by (with_reducible repeat (first | refine blk_drewN ?_ _ | refine blk_drew ?_ | refine blk_alloc ?_ _)); refine blk_far ?_ NB687_715.out _; (with_reducible repeat (first | refine blk_drewN ?_ _ | refine blk_drew ?_ | refine blk_alloc ?_ _)); exact BK687.out) hb); have n13_ := Aside0.mk (blk_below (g := gb715) (o := .cells #[.slice Ao193 t711.length co193] 44 (0, 0)) (by (with_reducible repeat (first | refine blk_drewN ?_ _ | refine blk_drew ?_ | refine blk_alloc ?_ _)); refine blk_put (cs := #[.slice none 0 0]) ?_ 0 _ rfl; (with_reducible repeat (first | refine blk_drewN ?_ _ | refine blk_drew ?_ | refine blk_alloc ?_ _)); exact BK715.out) hb); have n14_ := Aside0.mk (below_step (by repeat (first | (with_reducible first | exact HB.out | apply below_alloc | apply pw_below_drewN | apply below_drew1 | refine below_set ?_ (Aside0.out (by assumption))) | exact HB.out)) hb); clear HO_675000; clear HO_679000; clear HO_683000; clear HO_688000; clear HO707; clear HO710; clear HO713; clear BK660; clear BK661; clear BK674; clear BK678; clear BK682; clear BK687; clear BK715; clear HB; have HO_675000 := n0_; have HO_679000 := n1_; have HO_683000 := n2_; have HO_688000 := n3_; have HO707 := n4_; have HO710 := n5_; have HO713 := n6_; have BK660 := n7_; have BK661 := n8_; have BK674 := n9_; have BK678 := n10_; have BK682 := n11_; have BK687 := n12_; have BK715 := n13_; have HB := n14_; clear n0_ n1_ n2_ n3_ n4_ n5_ n6_ n7_ n8_ n9_ n10_ n11_ n12_ n13_ n14_; (try clear hb); (try clear hb2); (try clear hk); (try clear hi)))
                         go_meet
                         case rel => exact ⟨_, ((t714 != t673)), (by first | rfl | (simp; done) | (simp [*]; done)), H', ⟨by have := HJ26.out; have := HJ108.out; first | omega | exact Nat.le_refl _⟩, ⟨by (try simp only [hl679000_108]); (try simp only [hl683000_108]); (with_reducible repeat (first | apply Kd.R_alloc | apply Kd.R_drewN | apply Kd.R_drew)); exact Kd.R_mono HO_675000.out (fun _ hk => ⟨hk.2.2.2.1, ⟨hk.2.2.2.2.1, ⟨hk.2.2.2.2.2, hk.2.2.1⟩⟩⟩)⟩, ⟨by (try simp only [hl679000_108]); (try simp only [hl683000_108]); (with_reducible repeat (first | apply Kd.R_alloc | apply Kd.R_drewN | apply Kd.R_drew)); exact Kd.R_mono HO_679000.out (fun _ hk => ⟨hk.2.2.2.1, ⟨hk.2.2.2.2.1, ⟨hk.2.2.2.2.2, hk.2.2.1⟩⟩⟩)⟩, ⟨by (try simp only [hl679000_108]); (try simp only [hl683000_108]); (with_reducible repeat (first | apply Kd.R_alloc | apply Kd.R_drewN | apply Kd.R_drew)); exact Kd.R_mono HO_683000.out (fun _ hk => ⟨hk.2.2.2.1, ⟨hk.2.2.2.2.1, ⟨hk.2.2.2.2.2, hk.2.2.1⟩⟩⟩)⟩, ⟨by (try simp only [hl679000_108]); (try simp only [hl683000_108]); (with_reducible repeat (first | apply Kd.R_alloc | apply Kd.R_drewN | apply Kd.R_drew)); exact Kd.R_mono HO_688000.out (fun _ hk => ⟨hk.2.2.2.1, ⟨hk.2.2.2.2.1, ⟨hk.2.2.2.2.2, hk.2.2.1⟩⟩⟩)⟩, ⟨by (try simp only [hl679000_108]); (try simp only [hl683000_108]); (with_reducible repeat (first | apply Kd.R_alloc | apply Kd.R_drewN | apply Kd.R_drew)); exact Kd.R_mono HO713.out (fun _ hk => ⟨hk.2.2.1, ⟨hk.2.2.2.1, ⟨hk.2.2.2.2.1, hk.2.2.2.2.2⟩⟩⟩)⟩, ⟨by (try simp only [hl679000_108]); (try simp only [hl683000_108]); (with_reducible repeat (first | refine blk_drewN ?_ _ | refine blk_drew ?_ | refine blk_alloc ?_ _)); exact BK660.out⟩, ⟨by (try simp only [hl679000_108]); (try simp only [hl683000_108]); (with_reducible repeat (first | refine blk_drewN ?_ _ | refine blk_drew ?_ | refine blk_alloc ?_ _)); exact BK661.out⟩, ⟨by (try simp only [hl679000_108]); (try simp only [hl683000_108]); (with_reducible repeat (first | refine blk_drewN ?_ _ | refine blk_drew ?_ | refine blk_alloc ?_ _)); exact BK674.out⟩, ⟨by (try simp only [hl679000_108]); (try simp only [hl683000_108]); (with_reducible repeat (first | refine blk_drewN ?_ _ | refine blk_drew ?_ | refine blk_alloc ?_ _)); exact BK678.out⟩, ⟨by (try simp only [hl679000_108]); (try simp only [hl683000_108]); (with_reducible repeat (first | refine blk_drewN ?_ _ | refine blk_drew ?_ | refine blk_alloc ?_ _)); exact BK682.out⟩, ⟨by (try simp only [hl679000_108]); (try simp only [hl683000_108]); (with_reducible repeat (first | refine blk_drewN ?_ _ | refine blk_drew ?_ | refine blk_alloc ?_ _)); exact BK687.out⟩, ⟨by (try simp only [hl679000_108]); (try simp only [hl683000_108]); (with_reducible repeat (first | refine blk_drewN ?_ _ | refine blk_drew ?_ | refine blk_alloc ?_ _)); exact BK715.out⟩, ⟨by repeat (first | (with_reducible first | exact HB.out | apply below_alloc | apply pw_below_drewN | apply below_drew1 | refine below_set ?_ (Aside0.out (by assumption))) | exact HB.out)⟩⟩
                      · replace c196 := Bool.eq_false_iff.mpr c196
                        subst c196
                        have H1 : (laws_FnExactGlueOf.j2 kj108 t702 true t703) = some r := by rw [if_neg (show ¬ (false = true) by decide)] at H; exact H
                        exact absurd (H1.trans (congrArg some hr_.out)) (by cases kj108 <;> simp [laws_FnExactGlueOf.j2])
                     case rest =>
                      clear HC175
                      try clear c1
                      try clear c2
                      try clear p2
                      try clear c3
                      try clear c19
                      try clear c20
                      try clear c21
                      try clear c22
                      try clear c28
                      try clear c30
                      try clear c33
                      try clear c196
                      try clear c197
                      try clear c198
                      try clear c199
                      try clear c200
                      try clear c201
                      try clear c202
                      try clear c204
                      try clear c205
                      try clear c206
                      try clear c207
                      try clear c208
                      try clear c211
                      try clear c212
                      try clear c213
                      try clear c214
                      try clear c215
                      try clear c216
                      try clear c218
                      try clear c219
                      try clear c220
                      try clear c221
                      try clear c222
                      try clear hcz203_0
                      try clear hcz209_0
                      try clear hcz217_0
                      try clear hcz223_0
                      try clear hfz203_0
                      try clear hfz209_0
                      try clear hfz217_0
                      try clear hfz223_0
                      obtain ⟨kq, x120_174, rfl, HA, HJ174, HO_675000, HO_679000, HO_683000, HO_688000, HO_716000, BK660, BK661, BK674, BK678, BK682, BK687, BK715, HB⟩ := hcut
                      have hl688000_174 := (Kd.R_reads' HO_688000.out).1
                      rw [hl688000_174] at HO_688000
                      (try simp only [hl688000_174])
                      (try simp only [hl688000_174] at BK660)
                      (try simp only [hl688000_174] at BK661)
                      (try simp only [hl688000_174] at BK674)
                      (try simp only [hl688000_174] at BK678)
                      (try simp only [hl688000_174] at BK682)
                      (try simp only [hl688000_174] at BK687)
                      (try simp only [hl688000_174] at BK715)
                      (try simp only [hl688000_174] at HO_675000)
                      (try simp only [hl688000_174] at HO_679000)
                      (try simp only [hl688000_174] at HO_683000)
                      (try simp only [hl688000_174] at HO_716000)
                      cases kq with
                      | zero => exact absurd HA.out (by simp [laws_FnExactGlueOf.j2])
                      | succ kj174 =>
                       have H := HA.out
                       clear HA
                       simp only [laws_FnExactGlueOf.j2] at H
                       by_cases c225 : x120_174 = true
                       · subst c225
                         have H1 : (some false) = some r := by rw [if_pos rfl] at H; exact H
                         exact absurd (H1.trans (congrArg some hr_.out)) (by simp)
                       · replace c225 := Bool.eq_false_iff.mpr c225
                         subst c225
                         have H1 : ((laws_heldSemigroup.f kj174 t703 1).bind fun t717 => (if t717 < 0 then (some false) else (if t717 = t702 then (some true) else (some false)))) = some r := by rw [if_neg (show ¬ (false = true) by decide)] at H; exact H
                         clear H
                         have H := H1
                         clear H1
                         replace H := Option.bind_eq_some_iff.mp H
                         obtain ⟨t717, A2260, H⟩ := H
                         replace H : (if t717 < 0 then (some false) else (if t717 = t702 then (some true) else (some false))) = some r := H
                         have A226 := Aside0.mk A2260
                         clear A2260
                         by_cases c227 : t717 < 0
                         · rw [if_pos c227] at H
                           exact absurd (H.trans (congrArg some hr_.out)) (by simp)
                         · rw [if_neg c227] at H
                           have c227b0 : decide (t717 < 0) = false := decide_eq_false c227
                           clear c227
                           by_cases c236 : t717 = t702
                           · rw [if_pos c236] at H
                             have c236b0 : (t717 == t702) = true := beq_iff_eq.mpr c236
                             have c236b1 : (t717 != t702) = false := bne_eq_false_iff_eq.mpr c236
                             clear c236
                             as_aux_lemma =>
                              obtain rfl := Option.some.inj H
                              have hnb237 := NB687_660.out
                              have hnc237 := NB660_687.out
                              have hnb238 := NB687_661.out
                              have hnc238 := NB661_687.out
                              have hnb239 := NB687_674.out
                              have hnc239 := NB674_687.out
                              have hnb240 := NB687_678.out
                              have hnc240 := NB678_687.out
                              have hnb241 := NB687_682.out
                              have hnc241 := NB682_687.out
                              have hnb242 := NB687_715.out
                              have hnc242 := NB715_687.out
                              have hcz243_0 : wc.cell? ⟨gb687, 0, none⟩ = some (.slice Ao67 t703.length co67) := (blk_cell BK687.out 0).trans rfl
                              have hfz243_0 := blk_frozen BK687.out 0
                              go_wp2_with (first | ((with_reducible refine gate_callee (f := 34) rfl ?_); refine goesL_ (some 123) rfl rfl Try.func34 (by kernel_rfl) rfl #[.agg #[.slice Ao67 t703.length co67], .int .i64 1] rfl (by (try simp only [List.map_toArray, List.map_cons, List.map_nil]); first | done | rfl | (simp only [List.length_drop, List.length_take]; rfl)) ?_; (with_reducible refine (laws_heldSemigroup.calls kj174 _ _ t703 1 t717 _ ?side1 ?side2 A226.out).mono ?_); (case side1 => exact ce_ ((Kd.R_reads' HO_688000.out).2.2)); (case side2 => exact (Kd.R_reads' HO_688000.out).2.1); rintro e w244 ⟨rfl, hb⟩; refine ⟨_, rfl, ?_⟩; have n0_ := Aside0.mk (Kd.R_below (re_ HO_675000.out) hb); have n1_ := Aside0.mk (Kd.R_below (re_ HO_679000.out) hb); have n2_ := Aside0.mk (Kd.R_below (re_ HO_683000.out) hb); have n3_ := Aside0.mk (Kd.R_below (re_ HO_688000.out) hb); have n4_ := Aside0.mk (Kd.R_below (re_ HO_716000.out) hb); have n5_ := Aside0.mk (blk_below (be_ BK660.out) hb); have n6_ := Aside0.mk (blk_below (be_ BK661.out) hb); have n7_ := Aside0.mk (blk_below (be_ BK674.out) hb); have n8_ := Aside0.mk (blk_below (be_ BK678.out) hb); have n9_ := Aside0.mk (blk_below (be_ BK682.out) hb); have n10_ := Aside0.mk (blk_below (be_ BK687.out) hb); have n11_ := Aside0.mk (blk_below (be_ BK715.out) hb); have n12_ := Aside0.mk (below_step (by repeat (first | (with_reducible first | exact HB.out | apply below_alloc | apply pw_below_drewN | apply below_drew1 | refine below_set ?_ (Aside0.out (by assumption))) | exact HB.out)) hb); clear HO_675000; clear HO_679000; clear HO_683000; clear HO_688000; clear HO_716000; clear BK660; clear BK661; clear BK674; clear BK678; clear BK682; clear BK687; clear BK715; clear HB; have HO_675000 := n0_; have HO_679000 := n1_; have HO_683000 := n2_; have HO_688000 := n3_; have HO_716000 := n4_; have BK660 := n5_; have BK661 := n6_; have BK674 := n7_; have BK678 := n8_; have BK682 := n9_; have BK687 := n10_; have BK715 := n11_; have HB := n12_; clear n0_ n1_ n2_ n3_ n4_ n5_ n6_ n7_ n8_ n9_ n10_ n11_ n12_; (try clear hb); (try clear hb2); (try clear hk); (try clear hi)))
                              go_ret
                              exact ⟨by first | rfl | (simp [errW_none, errW_some] <;> rfl) | (simp [*, errW_none, errW_some] <;> rfl), by repeat (first | (with_reducible first | exact HB.out | apply below_alloc | apply pw_below_drewN | apply below_drew1 | refine below_set ?_ (Aside0.out (by assumption))) | exact HB.out)⟩
                           · rw [if_neg c236] at H
                             exact absurd (H.trans (congrArg some hr_.out)) (by simp)
                   · rw [if_neg c171] at H
                     exact absurd (H.trans (congrArg some hr_.out)) (by simp)
           · replace c106 := Bool.eq_false_iff.mpr c106
             subst c106
             have H1 : (some false) = some r := by rw [if_neg (show ¬ (false = true) by decide)] at H; exact H
             exact absurd (H1.trans (congrArg some hr_.out)) (by simp)
         · replace c103 := Bool.eq_false_iff.mpr c103
           subst c103
           have H1 : (some false) = some r := by rw [if_neg (show ¬ (false = true) by decide)] at H; exact H
           exact absurd (H1.trans (congrArg some hr_.out)) (by simp)
end Go.Proofs.Ythkhpejggdnkfaa.PA
end
