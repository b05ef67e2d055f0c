-- Bundled by shake.py from this session's printed and written texts; Lean checks it.
import Derived.Below
import Derived.ChangeOld
import Derived.ChangeSlices
import Derived.Deep.Fields
import Derived.Deep.RegionHeld3
import Derived.Lib.SmallJoins
import Derived.OpenShut
import Derived.ProofKit
import Derived.Shelf.Abstract
import Derived.SizedLaws
import Derived.Test.YtkifakepmomgfaaZFnExactEqualSessionx0
import Derived.Test.YtkifakepmomgfaaZFnExactEqualSessionx1
import Derived.WalkKit
section
namespace Go.Proofs.Ytkifakepmomgfaa.PB
open Go.RowKit Go.Proofs.YtkifakepmomgfaaW.PrintWords Go.Proofs.YtkifakepmomgfaaW.PrintLast Go.Proofs.YtkifakepmomgfaaW.PrintMore
set_option linter.unusedVariables false
set_option linter.unusedSimpArgs false
def laws_eqSession.f (k : Nat) (l0_0 : List Int) (l0_1 : List Int) (l1_0 : List Int) (l1_1 : List Int) : Option (Bool) := (laws_eqSemigroup.f k l0_0 l1_0).bind fun t348 => (if t348 = true then ((laws_eqSemigroup.f k l0_1 l1_1).bind fun t349 => (if t349 = true then (some true) else (some false))) else (some false))
set_option maxHeartbeats 8000000 in
set_option maxRecDepth 100000 in
theorem laws_eqSession.calls (k : Nat) (A0_0 : Option Addr) (c0_0 : Nat) (l0_0 : List Int) (A0_1 : Option Addr) (c0_1 : Nat) (l0_1 : List Int) (A1_0 : Option Addr) (c1_0 : Nat) (l1_0 : List Int) (A1_1 : Option Addr) (c1_1 : Nat) (l1_1 : List Int) (r : Bool) (w : World) (hr0_0 : Kd.C (Kd.int .i64) w A0_0 l0_0.length l0_0) (hc0_0 : l0_0.length ≤ c0_0) (hr0_1 : Kd.C (Kd.int .i64) w A0_1 l0_1.length l0_1) (hc0_1 : l0_1.length ≤ c0_1) (hr1_0 : Kd.C (Kd.int .i64) w A1_0 l1_0.length l1_0) (hc1_0 : l1_0.length ≤ c1_0) (hr1_1 : Kd.C (Kd.int .i64) w A1_1 l1_1.length l1_1) (hc1_1 : l1_1.length ≤ c1_1) (h : laws_eqSession.f k l0_0 l0_1 l1_0 l1_1 = some r) :
    Calls Try.prog 35 #[.agg #[.slice A0_0 l0_0.length c0_0, .slice A0_1 l0_1.length c0_1], .agg #[.slice A1_0 l1_0.length c1_0, .slice A1_1 l1_1.length c1_1]] w fun e w' => e = .returned (.bool r) ∧ Below w.heap.size w w' := by
  have hu44 := Try.underlying44
  have hu42 := Try.underlying42
  have HR0_0 := Aside0.mk hr0_0
  have HC0_0 := Aside0.mk hc0_0
  clear hr0_0 hc0_0
  have HR0_1 := Aside0.mk hr0_1
  have HC0_1 := Aside0.mk hc0_1
  clear hr0_1 hc0_1
  have HR1_0 := Aside0.mk hr1_0
  have HC1_0 := Aside0.mk hc1_0
  clear hr1_0 hc1_0
  have HR1_1 := Aside0.mk hr1_1
  have HC1_1 := Aside0.mk hc1_1
  clear hr1_1 hc1_1
  have HB := Aside0.mk (Below.refl w.heap.size w)
  have H : ((laws_eqSemigroup.f k l0_0 l1_0).bind fun t348 => (if t348 = true then ((laws_eqSemigroup.f k l0_1 l1_1).bind fun t349 => (if t349 = true then (some true) else (some false))) else (some false))) = some r := h
  clear h
  replace H := Option.bind_eq_some_iff.mp H
  obtain ⟨t348, A30, H⟩ := H
  replace H : (if t348 = true then ((laws_eqSemigroup.f k l0_1 l1_1).bind fun t349 => (if t349 = true then (some true) else (some false))) else (some false)) = some r := H
  have A3 := Aside0.mk A30
  clear A30
  by_cases c4 : t348 = true
  · subst c4
    have H1 : ((laws_eqSemigroup.f k l0_1 l1_1).bind fun t349 => (if t349 = true then (some true) else (some false))) = some r := by rw [if_pos rfl] at H; exact H
    clear H
    have H := H1
    clear H1
    replace H := Option.bind_eq_some_iff.mp H
    obtain ⟨t349, A50, H⟩ := H
    replace H : (if t349 = true then (some true) else (some false)) = some r := H
    have A5 := Aside0.mk A50
    clear A50
    by_cases c6 : t349 = true
    · subst c6
      have H1 : (some true) = some r := by rw [if_pos rfl] at H; exact H
      clear H
      have H := H1
      clear H1
      obtain rfl := Option.some.inj H
      go_enter Try.func35, Try.ntmps35
      go_wp2_with (first | ((with_reducible refine gate_dst (N := 2) rfl ?_); refine box_event ?hg (N := 2) ?hd (cs := #[.slice A0_0 l0_0.length c0_0, .slice A0_1 l0_1.length c0_1]) (t := 44) ?hr ?_; (case hd => rfl); (case hg => rfl); (case hr => first | (go_simp; done) | (go_simp; rfl)); intro gb346 hg w7 hbox hb; have n0_ := Aside0.mk (below_step (by repeat (first | (with_reducible first | exact HB.out | apply below_alloc | apply pw_below_drewN | apply below_drew1) | exact HB.out)) hb); have n1_ := Aside0.mk (hbox); have n2_ := Aside0.mk ((by rw [hg]; exact (below_size (by repeat (first | (with_reducible first | exact HB.out | apply below_alloc | apply pw_below_drewN | apply below_drew1) | exact HB.out))) : w.heap.size ≤ gb346)); have n3_ := Aside0.mk ((by rw [hg]; exact (below_size (by repeat (first | (with_reducible first | exact HB.out | apply below_alloc | apply pw_below_drewN | apply below_drew1) | exact HB.out))) : w.heap.size ≤ gb346)); clear HB; have HB := n0_; have BK346 := n1_; have GW346 := n2_; have GE346 := n3_; clear n0_ n1_ n2_ n3_; clear hb hbox hg) | ((with_reducible refine gate_dst (N := 3) rfl ?_); refine box_event ?hg (N := 3) ?hd (cs := #[.slice A1_0 l1_0.length c1_0, .slice A1_1 l1_1.length c1_1]) (t := 44) ?hr ?_; (case hd => rfl); (case hg => rfl); (case hr => first | (go_simp; done) | (go_simp; rfl)); intro gb347 hg w8 hbox hb; have n0_ := Aside0.mk (blk_below (g := gb346) (o := .cells #[.slice A0_0 l0_0.length c0_0, .slice A0_1 l0_1.length c0_1] 44 (0, 0)) (by (with_reducible repeat (first | refine blk_drewN ?_ _ | refine blk_drew ?_ | refine blk_alloc ?_ _)); exact BK346.out) hb); have n1_ := Aside0.mk (below_step (by repeat (first | (with_reducible first | exact HB.out | apply below_alloc | apply pw_below_drewN | apply below_drew1 | refine below_set ?_ GE346.out) | exact HB.out)) hb); have n2_ := Aside0.mk (hbox); have n3_ := Aside0.mk ((by rw [hg]; exact (below_size (by repeat (first | (with_reducible first | exact HB.out | apply below_alloc | apply pw_below_drewN | apply below_drew1 | refine below_set ?_ GE346.out) | exact HB.out))) : w.heap.size ≤ gb347)); have n4_ := Aside0.mk ((by rw [hg]; exact (below_size (by repeat (first | (with_reducible first | exact HB.out | apply below_alloc | apply pw_below_drewN | apply below_drew1 | refine below_set ?_ GE346.out) | exact HB.out))) : w.heap.size ≤ gb347)); have n5_ := Aside0.mk ((by rw [hg]; exact Nat.ne_of_lt (blk_lt (g := gb346) (o := .cells #[.slice A0_0 l0_0.length c0_0, .slice A0_1 l0_1.length c0_1] 44 (0, 0)) (by (with_reducible repeat (first | refine blk_drewN ?_ _ | refine blk_drew ?_ | refine blk_alloc ?_ _)); exact BK346.out)) : gb346 ≠ gb347)); have n6_ := Aside0.mk ((by rw [hg]; exact Nat.ne_of_gt (blk_lt (g := gb346) (o := .cells #[.slice A0_0 l0_0.length c0_0, .slice A0_1 l0_1.length c0_1] 44 (0, 0)) (by (with_reducible repeat (first | refine blk_drewN ?_ _ | refine blk_drew ?_ | refine blk_alloc ?_ _)); exact BK346.out)) : gb347 ≠ gb346)); clear BK346; clear HB; have BK346 := n0_; have HB := n1_; have BK347 := n2_; have GW347 := n3_; have GE347 := n4_; have NB346_347 := n5_; have NB347_346 := n6_; clear n0_ n1_ n2_ n3_ n4_ n5_ n6_; clear hb hbox hg; have hnb9 := NB346_347.out; have hnc9 := NB347_346.out; have hcz10_0 : w8.cell? ⟨gb346, 0, none⟩ = some (.slice A0_0 l0_0.length c0_0) := (blk_cell BK346.out 0).trans rfl; have hcz10_1 : w8.cell? ⟨gb346, 1, none⟩ = some (.slice A0_1 l0_1.length c0_1) := (blk_cell BK346.out 1).trans rfl; have hfz10_0 := blk_frozen BK346.out 0; have hfz10_1 := blk_frozen BK346.out 1; have hcz11_0 : w8.cell? ⟨gb347, 0, none⟩ = some (.slice A1_0 l1_0.length c1_0) := (blk_cell BK347.out 0).trans rfl; have hcz11_1 : w8.cell? ⟨gb347, 1, none⟩ = some (.slice A1_1 l1_1.length c1_1) := (blk_cell BK347.out 1).trans rfl; have hfz11_0 := blk_frozen BK347.out 0; have hfz11_1 := blk_frozen BK347.out 1) | ((with_reducible refine gate_callee (f := 77) rfl ?_); refine goesL_ (some 9) rfl rfl Try.func77 (by kernel_rfl) rfl #[.agg #[.slice A0_0 l0_0.length c0_0], .agg #[.slice A1_0 l1_0.length c1_0]] rfl (by (try simp only [List.map_toArray, List.map_cons, List.map_nil]); first | done | rfl | (simp only [List.length_drop, List.length_take]; rfl)) ?_; (with_reducible refine (laws_eqSemigroup.calls k _ _ l0_0 _ _ l1_0 true _ ?side1 ?side2 ?side3 ?side4 A3.out).mono ?_); (case side1 => repeat (first | exact (Kd.C_below HR0_0.out HB.out) | (with_reducible refine Kd.C_alloc ?_ _) | (with_reducible refine Kd.C_drewN ?_ _) | (with_reducible refine Kd.C_drew ?_))); (case side2 => exact HC0_0.out); (case side3 => repeat (first | exact (Kd.C_below HR1_0.out HB.out) | (with_reducible refine Kd.C_alloc ?_ _) | (with_reducible refine Kd.C_drewN ?_ _) | (with_reducible refine Kd.C_drew ?_))); (case side4 => exact HC1_0.out); rintro e w12 ⟨rfl, hb⟩; refine ⟨_, rfl, ?_⟩; have n0_ := Aside0.mk (blk_below (g := gb346) (o := .cells #[.slice A0_0 l0_0.length c0_0, .slice A0_1 l0_1.length c0_1] 44 (0, 0)) (by (with_reducible repeat (first | refine blk_drewN ?_ _ | refine blk_drew ?_ | refine blk_alloc ?_ _)); exact BK346.out) hb); have n1_ := Aside0.mk (blk_below (g := gb347) (o := .cells #[.slice A1_0 l1_0.length c1_0, .slice A1_1 l1_1.length c1_1] 44 (0, 0)) (by (with_reducible repeat (first | refine blk_drewN ?_ _ | refine blk_drew ?_ | refine blk_alloc ?_ _)); exact BK347.out) hb); have n2_ := Aside0.mk (below_step (by repeat (first | (with_reducible first | exact HB.out | apply below_alloc | apply pw_below_drewN | apply below_drew1 | refine below_set ?_ GE346.out | refine below_set ?_ GE347.out) | exact HB.out)) hb); clear BK346; clear BK347; clear HB; have BK346 := n0_; have BK347 := n1_; have HB := n2_; clear n0_ n1_ n2_; (try clear hb); (try clear hb2); (try clear hk); (try clear hi); have hcz13_0 : w12.cell? ⟨gb346, 0, none⟩ = some (.slice A0_0 l0_0.length c0_0) := (blk_cell BK346.out 0).trans rfl; have hcz13_1 : w12.cell? ⟨gb346, 1, none⟩ = some (.slice A0_1 l0_1.length c0_1) := (blk_cell BK346.out 1).trans rfl; have hfz13_0 := blk_frozen BK346.out 0; have hfz13_1 := blk_frozen BK346.out 1; have hcz14_0 : w12.cell? ⟨gb347, 0, none⟩ = some (.slice A1_0 l1_0.length c1_0) := (blk_cell BK347.out 0).trans rfl; have hcz14_1 : w12.cell? ⟨gb347, 1, none⟩ = some (.slice A1_1 l1_1.length c1_1) := (blk_cell BK347.out 1).trans rfl; have hfz14_0 := blk_frozen BK347.out 0; have hfz14_1 := blk_frozen BK347.out 1) | ((with_reducible refine gate_callee (f := 77) rfl ?_); refine goesL_ (some 15) rfl rfl Try.func77 (by kernel_rfl) rfl #[.agg #[.slice A0_1 l0_1.length c0_1], .agg #[.slice A1_1 l1_1.length c1_1]] rfl (by (try simp only [List.map_toArray, List.map_cons, List.map_nil]); first | done | rfl | (simp only [List.length_drop, List.length_take]; rfl)) ?_; (with_reducible refine (laws_eqSemigroup.calls k _ _ l0_1 _ _ l1_1 true _ ?side1 ?side2 ?side3 ?side4 A5.out).mono ?_); (case side1 => repeat (first | exact (Kd.C_below HR0_1.out HB.out) | (with_reducible refine Kd.C_alloc ?_ _) | (with_reducible refine Kd.C_drewN ?_ _) | (with_reducible refine Kd.C_drew ?_))); (case side2 => exact HC0_1.out); (case side3 => repeat (first | exact (Kd.C_below HR1_1.out HB.out) | (with_reducible refine Kd.C_alloc ?_ _) | (with_reducible refine Kd.C_drewN ?_ _) | (with_reducible refine Kd.C_drew ?_))); (case side4 => exact HC1_1.out); rintro e w15 ⟨rfl, hb⟩; refine ⟨_, rfl, ?_⟩; have n0_ := Aside0.mk (blk_below (g := gb346) (o := .cells #[.slice A0_0 l0_0.length c0_0, .slice A0_1 l0_1.length c0_1] 44 (0, 0)) (by (with_reducible repeat (first | refine blk_drewN ?_ _ | refine blk_drew ?_ | refine blk_alloc ?_ _)); exact BK346.out) hb); have n1_ := Aside0.mk (blk_below (g := gb347) (o := .cells #[.slice A1_0 l1_0.length c1_0, .slice A1_1 l1_1.length c1_1] 44 (0, 0)) (by (with_reducible repeat (first | refine blk_drewN ?_ _ | refine blk_drew ?_ | refine blk_alloc ?_ _)); exact BK347.out) hb); have n2_ := Aside0.mk (below_step (by repeat (first | (with_reducible first | exact HB.out | apply below_alloc | apply pw_below_drewN | apply below_drew1 | refine below_set ?_ GE346.out | refine below_set ?_ GE347.out) | exact HB.out)) hb); clear BK346; clear BK347; clear HB; have BK346 := n0_; have BK347 := n1_; have HB := n2_; clear n0_ n1_ n2_; (try clear hb); (try clear hb2); (try clear hk); (try clear hi)))
      go_ret
      exact ⟨by first | rfl | (simp [errW_none, errW_some] <;> rfl) | (simp [*, errW_none, errW_some] <;> rfl), by repeat (first | (with_reducible first | exact HB.out | apply below_alloc | apply pw_below_drewN | apply below_drew1 | refine below_set ?_ GE346.out | refine below_set ?_ GE347.out) | exact HB.out)⟩
    · replace c6 := Bool.eq_false_iff.mpr c6
      subst c6
      have H1 : (some false) = some r := by rw [if_neg (show ¬ (false = true) by decide)] at H; exact H
      clear H
      have H := H1
      clear H1
      obtain rfl := Option.some.inj H
      go_enter Try.func35, Try.ntmps35
      go_wp2_with (first | ((with_reducible refine gate_dst (N := 2) rfl ?_); refine box_event ?hg (N := 2) ?hd (cs := #[.slice A0_0 l0_0.length c0_0, .slice A0_1 l0_1.length c0_1]) (t := 44) ?hr ?_; (case hd => rfl); (case hg => rfl); (case hr => first | (go_simp; done) | (go_simp; rfl)); intro gb346 hg w16 hbox hb; have n0_ := Aside0.mk (below_step (by repeat (first | (with_reducible first | exact HB.out | apply below_alloc | apply pw_below_drewN | apply below_drew1) | exact HB.out)) hb); have n1_ := Aside0.mk (hbox); have n2_ := Aside0.mk ((by rw [hg]; exact (below_size (by repeat (first | (with_reducible first | exact HB.out | apply below_alloc | apply pw_below_drewN | apply below_drew1) | exact HB.out))) : w.heap.size ≤ gb346)); have n3_ := Aside0.mk ((by rw [hg]; exact (below_size (by repeat (first | (with_reducible first | exact HB.out | apply below_alloc | apply pw_below_drewN | apply below_drew1) | exact HB.out))) : w.heap.size ≤ gb346)); clear HB; have HB := n0_; have BK346 := n1_; have GW346 := n2_; have GE346 := n3_; clear n0_ n1_ n2_ n3_; clear hb hbox hg) | ((with_reducible refine gate_dst (N := 3) rfl ?_); refine box_event ?hg (N := 3) ?hd (cs := #[.slice A1_0 l1_0.length c1_0, .slice A1_1 l1_1.length c1_1]) (t := 44) ?hr ?_; (case hd => rfl); (case hg => rfl); (case hr => first | (go_simp; done) | (go_simp; rfl)); intro gb347 hg w17 hbox hb; have n0_ := Aside0.mk (blk_below (g := gb346) (o := .cells #[.slice A0_0 l0_0.length c0_0, .slice A0_1 l0_1.length c0_1] 44 (0, 0)) (by (with_reducible repeat (first | refine blk_drewN ?_ _ | refine blk_drew ?_ | refine blk_alloc ?_ _)); exact BK346.out) hb); have n1_ := Aside0.mk (below_step (by repeat (first | (with_reducible first | exact HB.out | apply below_alloc | apply pw_below_drewN | apply below_drew1 | refine below_set ?_ GE346.out) | exact HB.out)) hb); have n2_ := Aside0.mk (hbox); have n3_ := Aside0.mk ((by rw [hg]; exact (below_size (by repeat (first | (with_reducible first | exact HB.out | apply below_alloc | apply pw_below_drewN | apply below_drew1 | refine below_set ?_ GE346.out) | exact HB.out))) : w.heap.size ≤ gb347)); have n4_ := Aside0.mk ((by rw [hg]; exact (below_size (by repeat (first | (with_reducible first | exact HB.out | apply below_alloc | apply pw_below_drewN | apply below_drew1 | refine below_set ?_ GE346.out) | exact HB.out))) : w.heap.size ≤ gb347)); have n5_ := Aside0.mk ((by rw [hg]; exact Nat.ne_of_lt (blk_lt (g := gb346) (o := .cells #[.slice A0_0 l0_0.length c0_0, .slice A0_1 l0_1.length c0_1] 44 (0, 0)) (by (with_reducible repeat (first | refine blk_drewN ?_ _ | refine blk_drew ?_ | refine blk_alloc ?_ _)); exact BK346.out)) : gb346 ≠ gb347)); have n6_ := Aside0.mk ((by rw [hg]; exact Nat.ne_of_gt (blk_lt (g := gb346) (o := .cells #[.slice A0_0 l0_0.length c0_0, .slice A0_1 l0_1.length c0_1] 44 (0, 0)) (by (with_reducible repeat (first | refine blk_drewN ?_ _ | refine blk_drew ?_ | refine blk_alloc ?_ _)); exact BK346.out)) : gb347 ≠ gb346)); clear BK346; clear HB; have BK346 := n0_; have HB := n1_; have BK347 := n2_; have GW347 := n3_; have GE347 := n4_; have NB346_347 := n5_; have NB347_346 := n6_; clear n0_ n1_ n2_ n3_ n4_ n5_ n6_; clear hb hbox hg; have hnb18 := NB346_347.out; have hnc18 := NB347_346.out; have hcz19_0 : w17.cell? ⟨gb346, 0, none⟩ = some (.slice A0_0 l0_0.length c0_0) := (blk_cell BK346.out 0).trans rfl; have hcz19_1 : w17.cell? ⟨gb346, 1, none⟩ = some (.slice A0_1 l0_1.length c0_1) := (blk_cell BK346.out 1).trans rfl; have hfz19_0 := blk_frozen BK346.out 0; have hfz19_1 := blk_frozen BK346.out 1; have hcz20_0 : w17.cell? ⟨gb347, 0, none⟩ = some (.slice A1_0 l1_0.length c1_0) := (blk_cell BK347.out 0).trans rfl; have hcz20_1 : w17.cell? ⟨gb347, 1, none⟩ = some (.slice A1_1 l1_1.length c1_1) := (blk_cell BK347.out 1).trans rfl; have hfz20_0 := blk_frozen BK347.out 0; have hfz20_1 := blk_frozen BK347.out 1) | ((with_reducible refine gate_callee (f := 77) rfl ?_); refine goesL_ (some 9) rfl rfl Try.func77 (by kernel_rfl) rfl #[.agg #[.slice A0_0 l0_0.length c0_0], .agg #[.slice A1_0 l1_0.length c1_0]] rfl (by (try simp only [List.map_toArray, List.map_cons, List.map_nil]); first | done | rfl | (simp only [List.length_drop, List.length_take]; rfl)) ?_; (with_reducible refine (laws_eqSemigroup.calls k _ _ l0_0 _ _ l1_0 true _ ?side1 ?side2 ?side3 ?side4 A3.out).mono ?_); (case side1 => repeat (first | exact (Kd.C_below HR0_0.out HB.out) | (with_reducible refine Kd.C_alloc ?_ _) | (with_reducible refine Kd.C_drewN ?_ _) | (with_reducible refine Kd.C_drew ?_))); (case side2 => exact HC0_0.out); (case side3 => repeat (first | exact (Kd.C_below HR1_0.out HB.out) | (with_reducible refine Kd.C_alloc ?_ _) | (with_reducible refine Kd.C_drewN ?_ _) | (with_reducible refine Kd.C_drew ?_))); (case side4 => exact HC1_0.out); rintro e w21 ⟨rfl, hb⟩; refine ⟨_, rfl, ?_⟩; have n0_ := Aside0.mk (blk_below (g := gb346) (o := .cells #[.slice A0_0 l0_0.length c0_0, .slice A0_1 l0_1.length c0_1] 44 (0, 0)) (by (with_reducible repeat (first | refine blk_drewN ?_ _ | refine blk_drew ?_ | refine blk_alloc ?_ _)); exact BK346.out) hb); have n1_ := Aside0.mk (blk_below (g := gb347) (o := .cells #[.slice A1_0 l1_0.length c1_0, .slice A1_1 l1_1.length c1_1] 44 (0, 0)) (by (with_reducible repeat (first | refine blk_drewN ?_ _ | refine blk_drew ?_ | refine blk_alloc ?_ _)); exact BK347.out) hb); have n2_ := Aside0.mk (below_step (by repeat (first | (with_reducible first | exact HB.out | apply below_alloc | apply pw_below_drewN | apply below_drew1 | refine below_set ?_ GE346.out | refine below_set ?_ GE347.out) | exact HB.out)) hb); clear BK346; clear BK347; clear HB; have BK346 := n0_; have BK347 := n1_; have HB := n2_; clear n0_ n1_ n2_; (try clear hb); (try clear hb2); (try clear hk); (try clear hi); have hcz22_0 : w21.cell? ⟨gb346, 0, none⟩ = some (.slice A0_0 l0_0.length c0_0) := (blk_cell BK346.out 0).trans rfl; have hcz22_1 : w21.cell? ⟨gb346, 1, none⟩ = some (.slice A0_1 l0_1.length c0_1) := (blk_cell BK346.out 1).trans rfl; have hfz22_0 := blk_frozen BK346.out 0; have hfz22_1 := blk_frozen BK346.out 1; have hcz23_0 : w21.cell? ⟨gb347, 0, none⟩ = some (.slice A1_0 l1_0.length c1_0) := (blk_cell BK347.out 0).trans rfl; have hcz23_1 : w21.cell? ⟨gb347, 1, none⟩ = some (.slice A1_1 l1_1.length c1_1) := (blk_cell BK347.out 1).trans rfl; have hfz23_0 := blk_frozen BK347.out 0; have hfz23_1 := blk_frozen BK347.out 1) | ((with_reducible refine gate_callee (f := 77) rfl ?_); refine goesL_ (some 15) rfl rfl Try.func77 (by kernel_rfl) rfl #[.agg #[.slice A0_1 l0_1.length c0_1], .agg #[.slice A1_1 l1_1.length c1_1]] rfl (by (try simp only [List.map_toArray, List.map_cons, List.map_nil]); first | done | rfl | (simp only [List.length_drop, List.length_take]; rfl)) ?_; (with_reducible refine (laws_eqSemigroup.calls k _ _ l0_1 _ _ l1_1 false _ ?side1 ?side2 ?side3 ?side4 A5.out).mono ?_); (case side1 => repeat (first | exact (Kd.C_below HR0_1.out HB.out) | (with_reducible refine Kd.C_alloc ?_ _) | (with_reducible refine Kd.C_drewN ?_ _) | (with_reducible refine Kd.C_drew ?_))); (case side2 => exact HC0_1.out); (case side3 => repeat (first | exact (Kd.C_below HR1_1.out HB.out) | (with_reducible refine Kd.C_alloc ?_ _) | (with_reducible refine Kd.C_drewN ?_ _) | (with_reducible refine Kd.C_drew ?_))); (case side4 => exact HC1_1.out); rintro e w24 ⟨rfl, hb⟩; refine ⟨_, rfl, ?_⟩; have n0_ := Aside0.mk (blk_below (g := gb346) (o := .cells #[.slice A0_0 l0_0.length c0_0, .slice A0_1 l0_1.length c0_1] 44 (0, 0)) (by (with_reducible repeat (first | refine blk_drewN ?_ _ | refine blk_drew ?_ | refine blk_alloc ?_ _)); exact BK346.out) hb); have n1_ := Aside0.mk (blk_below (g := gb347) (o := .cells #[.slice A1_0 l1_0.length c1_0, .slice A1_1 l1_1.length c1_1] 44 (0, 0)) (by (with_reducible repeat (first | refine blk_drewN ?_ _ | refine blk_drew ?_ | refine blk_alloc ?_ _)); exact BK347.out) hb); have n2_ := Aside0.mk (below_step (by repeat (first | (with_reducible first | exact HB.out | apply below_alloc | apply pw_below_drewN | apply below_drew1 | refine below_set ?_ GE346.out | refine below_set ?_ GE347.out) | exact HB.out)) hb); clear BK346; clear BK347; clear HB; have BK346 := n0_; have BK347 := n1_; have HB := n2_; clear n0_ n1_ n2_; (try clear hb); (try clear hb2); (try clear hk); (try clear hi)))
      go_ret
      exact ⟨by first | rfl | (simp [errW_none, errW_some] <;> rfl) | (simp [*, errW_none, errW_some] <;> rfl), by repeat (first | (with_reducible first | exact HB.out | apply below_alloc | apply pw_below_drewN | apply below_drew1 | refine below_set ?_ GE346.out | refine below_set ?_ GE347.out) | exact HB.out)⟩
  · replace c4 := Bool.eq_false_iff.mpr c4
    subst c4
    have H1 : (some false) = some r := by rw [if_neg (show ¬ (false = true) by decide)] at H; exact H
    clear H
    have H := H1
    clear H1
    obtain rfl := Option.some.inj H
    go_enter Try.func35, Try.ntmps35
    go_wp2_with (first | ((with_reducible refine gate_dst (N := 2) rfl ?_); refine box_event ?hg (N := 2) ?hd (cs := #[.slice A0_0 l0_0.length c0_0, .slice A0_1 l0_1.length c0_1]) (t := 44) ?hr ?_; (case hd => rfl); (case hg => rfl); (case hr => first | (go_simp; done) | (go_simp; rfl)); intro gb346 hg w25 hbox hb; have n0_ := Aside0.mk (below_step (by repeat (first | (with_reducible first | exact HB.out | apply below_alloc | apply pw_below_drewN | apply below_drew1) | exact HB.out)) hb); have n1_ := Aside0.mk (hbox); have n2_ := Aside0.mk ((by rw [hg]; exact (below_size (by repeat (first | (with_reducible first | exact HB.out | apply below_alloc | apply pw_below_drewN | apply below_drew1) | exact HB.out))) : w.heap.size ≤ gb346)); have n3_ := Aside0.mk ((by rw [hg]; exact (below_size (by repeat (first | (with_reducible first | exact HB.out | apply below_alloc | apply pw_below_drewN | apply below_drew1) | exact HB.out))) : w.heap.size ≤ gb346)); clear HB; have HB := n0_; have BK346 := n1_; have GW346 := n2_; have GE346 := n3_; clear n0_ n1_ n2_ n3_; clear hb hbox hg) | ((with_reducible refine gate_dst (N := 3) rfl ?_); refine box_event ?hg (N := 3) ?hd (cs := #[.slice A1_0 l1_0.length c1_0, .slice A1_1 l1_1.length c1_1]) (t := 44) ?hr ?_; (case hd => rfl); (case hg => rfl); (case hr => first | (go_simp; done) | (go_simp; rfl)); intro gb347 hg w26 hbox hb; have n0_ := Aside0.mk (blk_below (g := gb346) (o := .cells #[.slice A0_0 l0_0.length c0_0, .slice A0_1 l0_1.length c0_1] 44 (0, 0)) (by (with_reducible repeat (first | refine blk_drewN ?_ _ | refine blk_drew ?_ | refine blk_alloc ?_ _)); exact BK346.out) hb); have n1_ := Aside0.mk (below_step (by repeat (first | (with_reducible first | exact HB.out | apply below_alloc | apply pw_below_drewN | apply below_drew1 | refine below_set ?_ GE346.out) | exact HB.out)) hb); have n2_ := Aside0.mk (hbox); have n3_ := Aside0.mk ((by rw [hg]; exact (below_size (by repeat (first | (with_reducible first | exact HB.out | apply below_alloc | apply pw_below_drewN | apply below_drew1 | refine below_set ?_ GE346.out) | exact HB.out))) : w.heap.size ≤ gb347)); have n4_ := Aside0.mk ((by rw [hg]; exact (below_size (by repeat (first | (with_reducible first | exact HB.out | apply below_alloc | apply pw_below_drewN | apply below_drew1 | refine below_set ?_ GE346.out) | exact HB.out))) : w.heap.size ≤ gb347)); have n5_ := Aside0.mk ((by rw [hg]; exact Nat.ne_of_lt (blk_lt (g := gb346) (o := .cells #[.slice A0_0 l0_0.length c0_0, .slice A0_1 l0_1.length c0_1] 44 (0, 0)) (by (with_reducible repeat (first | refine blk_drewN ?_ _ | refine blk_drew ?_ | refine blk_alloc ?_ _)); exact BK346.out)) : gb346 ≠ gb347)); have n6_ := Aside0.mk ((by rw [hg]; exact Nat.ne_of_gt (blk_lt (g := gb346) (o := .cells #[.slice A0_0 l0_0.length c0_0, .slice A0_1 l0_1.length c0_1] 44 (0, 0)) (by (with_reducible repeat (first | refine blk_drewN ?_ _ | refine blk_drew ?_ | refine blk_alloc ?_ _)); exact BK346.out)) : gb347 ≠ gb346)); clear BK346; clear HB; have BK346 := n0_; have HB := n1_; have BK347 := n2_; have GW347 := n3_; have GE347 := n4_; have NB346_347 := n5_; have NB347_346 := n6_; clear n0_ n1_ n2_ n3_ n4_ n5_ n6_; clear hb hbox hg; have hnb27 := NB346_347.out; have hnc27 := NB347_346.out; have hcz28_0 : w26.cell? ⟨gb346, 0, none⟩ = some (.slice A0_0 l0_0.length c0_0) := (blk_cell BK346.out 0).trans rfl; have hcz28_1 : w26.cell? ⟨gb346, 1, none⟩ = some (.slice A0_1 l0_1.length c0_1) := (blk_cell BK346.out 1).trans rfl; have hfz28_0 := blk_frozen BK346.out 0; have hfz28_1 := blk_frozen BK346.out 1; have hcz29_0 : w26.cell? ⟨gb347, 0, none⟩ = some (.slice A1_0 l1_0.length c1_0) := (blk_cell BK347.out 0).trans rfl; have hcz29_1 : w26.cell? ⟨gb347, 1, none⟩ = some (.slice A1_1 l1_1.length c1_1) := (blk_cell BK347.out 1).trans rfl; have hfz29_0 := blk_frozen BK347.out 0; have hfz29_1 := blk_frozen BK347.out 1) | ((with_reducible refine gate_callee (f := 77) rfl ?_); refine goesL_ (some 9) rfl rfl Try.func77 (by kernel_rfl) rfl #[.agg #[.slice A0_0 l0_0.length c0_0], .agg #[.slice A1_0 l1_0.length c1_0]] rfl (by (try simp only [List.map_toArray, List.map_cons, List.map_nil]); first | done | rfl | (simp only [List.length_drop, List.length_take]; rfl)) ?_; (with_reducible refine (laws_eqSemigroup.calls k _ _ l0_0 _ _ l1_0 false _ ?side1 ?side2 ?side3 ?side4 A3.out).mono ?_); (case side1 => repeat (first | exact (Kd.C_below HR0_0.out HB.out) | (with_reducible refine Kd.C_alloc ?_ _) | (with_reducible refine Kd.C_drewN ?_ _) | (with_reducible refine Kd.C_drew ?_))); (case side2 => exact HC0_0.out); (case side3 => repeat (first | exact (Kd.C_below HR1_0.out HB.out) | (with_reducible refine Kd.C_alloc ?_ _) | (with_reducible refine Kd.C_drewN ?_ _) | (with_reducible refine Kd.C_drew ?_))); (case side4 => exact HC1_0.out); rintro e w30 ⟨rfl, hb⟩; refine ⟨_, rfl, ?_⟩; have n0_ := Aside0.mk (blk_below (g := gb346) (o := .cells #[.slice A0_0 l0_0.length c0_0, .slice A0_1 l0_1.length c0_1] 44 (0, 0)) (by (with_reducible repeat (first | refine blk_drewN ?_ _ | refine blk_drew ?_ | refine blk_alloc ?_ _)); exact BK346.out) hb); have n1_ := Aside0.mk (blk_below (g := gb347) (o := .cells #[.slice A1_0 l1_0.length c1_0, .slice A1_1 l1_1.length c1_1] 44 (0, 0)) (by (with_reducible repeat (first | refine blk_drewN ?_ _ | refine blk_drew ?_ | refine blk_alloc ?_ _)); exact BK347.out) hb); have n2_ := Aside0.mk (below_step (by repeat (first | (with_reducible first | exact HB.out | apply below_alloc | apply pw_below_drewN | apply below_drew1 | refine below_set ?_ GE346.out | refine below_set ?_ GE347.out) | exact HB.out)) hb); clear BK346; clear BK347; clear HB; have BK346 := n0_; have BK347 := n1_; have HB := n2_; clear n0_ n1_ n2_; (try clear hb); (try clear hb2); (try clear hk); (try clear hi)))
    go_ret
    exact ⟨by first | rfl | (simp [errW_none, errW_some] <;> rfl) | (simp [*, errW_none, errW_some] <;> rfl), by repeat (first | (with_reducible first | exact HB.out | apply below_alloc | apply pw_below_drewN | apply below_drew1 | refine below_set ?_ GE346.out | refine below_set ?_ GE347.out) | exact HB.out)⟩
end Go.Proofs.Ytkifakepmomgfaa.PB
end
section
namespace Go.Proofs.Ytkifakepmomgfaa.PB
open Go.RowKit Go.Proofs.YtkifakepmomgfaaW.PrintWords Go.Proofs.YtkifakepmomgfaaW.PrintLast Go.Proofs.YtkifakepmomgfaaW.PrintMore
set_option linter.unusedVariables false
set_option linter.unusedSimpArgs false
theorem own_slice_ {α : Type} {d : Kd α} {e : Nat} {w : World} {base : Nat} {ok : Nat → Prop} {v : Value} {xs : List α} (h : d.R e w base ok v xs) : ∃ A c, v = .slice A xs.length c ∧ xs.length ≤ c ∧ d.C w A xs.length xs := by
  obtain ⟨A, c, e⟩ := Kd.R_slice h
  subst e
  exact ⟨A, c, rfl, (Kd.R_reads' h).2.1, (Kd.R_reads' h).2.2⟩
set_option maxHeartbeats 4000000 in
set_option maxRecDepth 100000 in
theorem laws_FnExactEqualSession.calls_big1 (A0 : Option Addr) (c0 : Nat) (l0 : List Int) (A1 : Option Addr) (c1 : Nat) (l1 : List Int) (A2 : Option Addr) (c2 : Nat) (l2 : List Int) (A3 : Option Addr) (c3 : Nat) (l3 : List Int) (s1 : Int) (w : World)
    (h0 : Kd.C (Kd.int .i64) w A0 l0.length l0) (k0 : l0.length ≤ c0) (h1 : Kd.C (Kd.int .i64) w A1 l1.length l1) (k1 : l1.length ≤ c1) (h2 : Kd.C (Kd.int .i64) w A2 l2.length l2) (k2 : l2.length ≤ c2) (h3 : Kd.C (Kd.int .i64) w A3 l3.length l3) (k3 : l3.length ≤ c3)
    (e1 : laws_szSession.f l0 l1 1048576 = some s1) (n1 : s1 < 0) :
    Calls Try.prog 9 #[.agg #[.slice A0 l0.length c0, .slice A1 l1.length c1], .agg #[.slice A2 l2.length c2, .slice A3 l3.length c3]] w fun e w' => e = .returned (.bool true) ∧ Below w.heap.size w w' := by
  have HR0 := Aside0.mk h0
  have HK0 := Aside0.mk k0
  have HR1 := Aside0.mk h1
  have HK1 := Aside0.mk k1
  have HR2 := Aside0.mk h2
  have HK2 := Aside0.mk k2
  have HR3 := Aside0.mk h3
  have HK3 := Aside0.mk k3
  have E1 := Aside0.mk e1
  have d1 : decide (s1 < 0) = true := decide_eq_true n1
  clear h0 h1 h2 h3 k0 k1 k2 k3 e1 n1
  go_enter Try.func9, Try.ntmps9
  have g0 : ((w.alloc (.cells #[.slice A0 l0.length c0, .slice A1 l1.length c1] 39)).alloc (.cells #[.slice A2 l2.length c2, .slice A3 l3.length c3] 39)).cell? ⟨w.heap.size, 0, none⟩ = some (.slice A0 l0.length c0) := by rw [World.cell?_alloc_past _ _ _ (by simp), World.cell?_alloc_at _ _ _ _ rfl]; rfl
  have g1 : ((w.alloc (.cells #[.slice A0 l0.length c0, .slice A1 l1.length c1] 39)).alloc (.cells #[.slice A2 l2.length c2, .slice A3 l3.length c3] 39)).cell? ⟨w.heap.size, 1, none⟩ = some (.slice A1 l1.length c1) := by rw [World.cell?_alloc_past _ _ _ (by simp), World.cell?_alloc_at _ _ _ _ rfl]; rfl
  have g2 : ((w.alloc (.cells #[.slice A0 l0.length c0, .slice A1 l1.length c1] 39)).alloc (.cells #[.slice A2 l2.length c2, .slice A3 l3.length c3] 39)).cell? ⟨w.heap.size + 1, 0, none⟩ = some (.slice A2 l2.length c2) := by rw [World.cell?_alloc_at _ _ _ _ (by simp)]; rfl
  have g3 : ((w.alloc (.cells #[.slice A0 l0.length c0, .slice A1 l1.length c1] 39)).alloc (.cells #[.slice A2 l2.length c2, .slice A3 l3.length c3] 39)).cell? ⟨w.heap.size + 1, 1, none⟩ = some (.slice A3 l3.length c3) := by rw [World.cell?_alloc_at _ _ _ _ (by simp)]; rfl
  have f0 := Aside0.mk (below_alloc (below_alloc (Below.refl w.heap.size w) (.cells #[.slice A0 l0.length c0, .slice A1 l1.length c1] 39)) (.cells #[.slice A2 l2.length c2, .slice A3 l3.length c3] 39))
  have z0 : w.heap.size + 2 ≤ ((w.alloc (.cells #[.slice A0 l0.length c0, .slice A1 l1.length c1] 39)).alloc (.cells #[.slice A2 l2.length c2, .slice A3 l3.length c3] 39)).heap.size := by simp
  obtain ⟨W0, hW0⟩ : ∃ W, (w.alloc (.cells #[.slice A0 l0.length c0, .slice A1 l1.length c1] 39)).alloc (.cells #[.slice A2 l2.length c2, .slice A3 l3.length c3] 39) = W := ⟨_, rfl⟩
  rw [hW0] at g0 g1 g2 g3 f0 z0
  have HW0 := Aside0.mk hW0
  clear hW0
  go_wp2_with fail
  rw [HW0.out]
  refine (laws_szSession.calls _ _ l0 _ _ l1 1048576 s1 _ (Kd.C_below HR0.out f0.out) HK0.out (Kd.C_below HR1.out f0.out) HK1.out E1.out).mono ?_
  rintro e W1 ⟨rfl, hb⟩
  replace g0 := (hb.cell (p := ⟨w.heap.size, 0, none⟩) (by simp; omega)).trans g0
  replace g1 := (hb.cell (p := ⟨w.heap.size, 1, none⟩) (by simp; omega)).trans g1
  replace g2 := (hb.cell (p := ⟨w.heap.size + 1, 0, none⟩) (by simp; omega)).trans g2
  replace g3 := (hb.cell (p := ⟨w.heap.size + 1, 1, none⟩) (by simp; omega)).trans g3
  have f1 := Aside0.mk (below_step f0.out hb)
  have z1 : w.heap.size + 2 ≤ W1.heap.size := by have := hb.size; omega
  clear hb HW0 f0 z0
  go_wp2_with fail
  go_ret
  exact ⟨rfl, (by repeat (first | exact f1.out | apply pw_below_drewN | apply below_drew1 | apply below_alloc))⟩
set_option maxHeartbeats 4000000 in
set_option maxRecDepth 100000 in
theorem laws_FnExactEqualSession.calls_big2 (A0 : Option Addr) (c0 : Nat) (l0 : List Int) (A1 : Option Addr) (c1 : Nat) (l1 : List Int) (A2 : Option Addr) (c2 : Nat) (l2 : List Int) (A3 : Option Addr) (c3 : Nat) (l3 : List Int) (s1 s2 : Int) (w : World)
    (h0 : Kd.C (Kd.int .i64) w A0 l0.length l0) (k0 : l0.length ≤ c0) (h1 : Kd.C (Kd.int .i64) w A1 l1.length l1) (k1 : l1.length ≤ c1) (h2 : Kd.C (Kd.int .i64) w A2 l2.length l2) (k2 : l2.length ≤ c2) (h3 : Kd.C (Kd.int .i64) w A3 l3.length l3) (k3 : l3.length ≤ c3)
    (e1 : laws_szSession.f l0 l1 1048576 = some s1) (n1 : ¬ s1 < 0) (e2 : laws_szSession.f l2 l3 s1 = some s2) (n2 : s2 < 0) :
    Calls Try.prog 9 #[.agg #[.slice A0 l0.length c0, .slice A1 l1.length c1], .agg #[.slice A2 l2.length c2, .slice A3 l3.length c3]] w fun e w' => e = .returned (.bool true) ∧ Below w.heap.size w w' := by
  have HR0 := Aside0.mk h0
  have HK0 := Aside0.mk k0
  have HR1 := Aside0.mk h1
  have HK1 := Aside0.mk k1
  have HR2 := Aside0.mk h2
  have HK2 := Aside0.mk k2
  have HR3 := Aside0.mk h3
  have HK3 := Aside0.mk k3
  have E1 := Aside0.mk e1
  have E2 := Aside0.mk e2
  have d1 : decide (s1 < 0) = false := decide_eq_false n1
  have d2 : decide (s2 < 0) = true := decide_eq_true n2
  clear h0 h1 h2 h3 k0 k1 k2 k3 e1 e2 n1 n2
  go_enter Try.func9, Try.ntmps9
  have g0 : ((w.alloc (.cells #[.slice A0 l0.length c0, .slice A1 l1.length c1] 39)).alloc (.cells #[.slice A2 l2.length c2, .slice A3 l3.length c3] 39)).cell? ⟨w.heap.size, 0, none⟩ = some (.slice A0 l0.length c0) := by rw [World.cell?_alloc_past _ _ _ (by simp), World.cell?_alloc_at _ _ _ _ rfl]; rfl
  have g1 : ((w.alloc (.cells #[.slice A0 l0.length c0, .slice A1 l1.length c1] 39)).alloc (.cells #[.slice A2 l2.length c2, .slice A3 l3.length c3] 39)).cell? ⟨w.heap.size, 1, none⟩ = some (.slice A1 l1.length c1) := by rw [World.cell?_alloc_past _ _ _ (by simp), World.cell?_alloc_at _ _ _ _ rfl]; rfl
  have g2 : ((w.alloc (.cells #[.slice A0 l0.length c0, .slice A1 l1.length c1] 39)).alloc (.cells #[.slice A2 l2.length c2, .slice A3 l3.length c3] 39)).cell? ⟨w.heap.size + 1, 0, none⟩ = some (.slice A2 l2.length c2) := by rw [World.cell?_alloc_at _ _ _ _ (by simp)]; rfl
  have g3 : ((w.alloc (.cells #[.slice A0 l0.length c0, .slice A1 l1.length c1] 39)).alloc (.cells #[.slice A2 l2.length c2, .slice A3 l3.length c3] 39)).cell? ⟨w.heap.size + 1, 1, none⟩ = some (.slice A3 l3.length c3) := by rw [World.cell?_alloc_at _ _ _ _ (by simp)]; rfl
  have f0 := Aside0.mk (below_alloc (below_alloc (Below.refl w.heap.size w) (.cells #[.slice A0 l0.length c0, .slice A1 l1.length c1] 39)) (.cells #[.slice A2 l2.length c2, .slice A3 l3.length c3] 39))
  have z0 : w.heap.size + 2 ≤ ((w.alloc (.cells #[.slice A0 l0.length c0, .slice A1 l1.length c1] 39)).alloc (.cells #[.slice A2 l2.length c2, .slice A3 l3.length c3] 39)).heap.size := by simp
  obtain ⟨W0, hW0⟩ : ∃ W, (w.alloc (.cells #[.slice A0 l0.length c0, .slice A1 l1.length c1] 39)).alloc (.cells #[.slice A2 l2.length c2, .slice A3 l3.length c3] 39) = W := ⟨_, rfl⟩
  rw [hW0] at g0 g1 g2 g3 f0 z0
  have HW0 := Aside0.mk hW0
  clear hW0
  go_wp2_with fail
  rw [HW0.out]
  refine (laws_szSession.calls _ _ l0 _ _ l1 1048576 s1 _ (Kd.C_below HR0.out f0.out) HK0.out (Kd.C_below HR1.out f0.out) HK1.out E1.out).mono ?_
  rintro e W1 ⟨rfl, hb⟩
  replace g0 := (hb.cell (p := ⟨w.heap.size, 0, none⟩) (by simp; omega)).trans g0
  replace g1 := (hb.cell (p := ⟨w.heap.size, 1, none⟩) (by simp; omega)).trans g1
  replace g2 := (hb.cell (p := ⟨w.heap.size + 1, 0, none⟩) (by simp; omega)).trans g2
  replace g3 := (hb.cell (p := ⟨w.heap.size + 1, 1, none⟩) (by simp; omega)).trans g3
  have f1 := Aside0.mk (below_step f0.out hb)
  have z1 : w.heap.size + 2 ≤ W1.heap.size := by have := hb.size; omega
  clear hb HW0 f0 z0
  go_wp2_with fail
  refine (laws_szSession.calls _ _ l2 _ _ l3 s1 s2 _ (Kd.C_below HR2.out f1.out) HK2.out (Kd.C_below HR3.out f1.out) HK3.out E2.out).mono ?_
  rintro e W2 ⟨rfl, hb⟩
  replace g0 := (hb.cell (p := ⟨w.heap.size, 0, none⟩) (by simp; omega)).trans g0
  replace g1 := (hb.cell (p := ⟨w.heap.size, 1, none⟩) (by simp; omega)).trans g1
  replace g2 := (hb.cell (p := ⟨w.heap.size + 1, 0, none⟩) (by simp; omega)).trans g2
  replace g3 := (hb.cell (p := ⟨w.heap.size + 1, 1, none⟩) (by simp; omega)).trans g3
  have f2 := Aside0.mk (below_step f1.out hb)
  have z2 : w.heap.size + 2 ≤ W2.heap.size := by have := hb.size; omega
  clear hb f1 z1
  go_wp2_with fail
  go_ret
  exact ⟨rfl, (by repeat (first | exact f2.out | apply pw_below_drewN | apply below_drew1 | apply below_alloc))⟩
set_option maxHeartbeats 4000000 in
set_option maxRecDepth 100000 in
theorem laws_FnExactEqualSession.calls_true (k : Nat) (A0 : Option Addr) (c0 : Nat) (l0 : List Int) (A1 : Option Addr) (c1 : Nat) (l1 : List Int) (A2 : Option Addr) (c2 : Nat) (l2 : List Int) (A3 : Option Addr) (c3 : Nat) (l3 : List Int) (s1 s2 : Int) (b : Bool) (w : World)
    (h0 : Kd.C (Kd.int .i64) w A0 l0.length l0) (k0 : l0.length ≤ c0) (h1 : Kd.C (Kd.int .i64) w A1 l1.length l1) (k1 : l1.length ≤ c1) (h2 : Kd.C (Kd.int .i64) w A2 l2.length l2) (k2 : l2.length ≤ c2) (h3 : Kd.C (Kd.int .i64) w A3 l3.length l3) (k3 : l3.length ≤ c3)
    (e1 : laws_szSession.f l0 l1 1048576 = some s1) (n1 : ¬ s1 < 0) (e2 : laws_szSession.f l2 l3 s1 = some s2) (n2 : ¬ s2 < 0) (t1 : laws_toSession.f k l0 l1 = some (l0, l1)) (t2 : laws_toSession.f k l2 l3 = some (l2, l3)) (qs : spec_EqualSession.f k l0 l1 l2 l3 = some b) (qi : impl_EqualSession.f k l0 l1 l2 l3 = some b) (z1 : laws_eqSession.f k l0 l1 l0 l1 = some true) (z2 : laws_eqSession.f k l2 l3 l2 l3 = some true) :
    Calls Try.prog 9 #[.agg #[.slice A0 l0.length c0, .slice A1 l1.length c1], .agg #[.slice A2 l2.length c2, .slice A3 l3.length c3]] w fun e w' => e = .returned (.bool true) ∧ Below w.heap.size w w' := by
  have HR0 := Aside0.mk h0
  have HR1 := Aside0.mk h1
  have HR2 := Aside0.mk h2
  have HR3 := Aside0.mk h3
  have HK0 := Aside0.mk k0
  have HK1 := Aside0.mk k1
  have HK2 := Aside0.mk k2
  have HK3 := Aside0.mk k3
  have E1 := Aside0.mk e1
  have E2 := Aside0.mk e2
  have T1 := Aside0.mk t1
  have T2 := Aside0.mk t2
  have QS := Aside0.mk qs
  have QI := Aside0.mk qi
  have Z1 := Aside0.mk z1
  have Z2 := Aside0.mk z2
  have d1 : decide (s1 < 0) = false := decide_eq_false n1
  have d2 : decide (s2 < 0) = false := decide_eq_false n2
  clear h0 h1 h2 h3 k0 k1 k2 k3 e1 e2 t1 t2 qs qi z1 z2 n1 n2
  go_enter Try.func9, Try.ntmps9
  have g0 : ((w.alloc (.cells #[.slice A0 l0.length c0, .slice A1 l1.length c1] 39)).alloc (.cells #[.slice A2 l2.length c2, .slice A3 l3.length c3] 39)).cell? ⟨w.heap.size, 0, none⟩ = some (.slice A0 l0.length c0) := by rw [World.cell?_alloc_past _ _ _ (by simp), World.cell?_alloc_at _ _ _ _ rfl]; rfl
  have g1 : ((w.alloc (.cells #[.slice A0 l0.length c0, .slice A1 l1.length c1] 39)).alloc (.cells #[.slice A2 l2.length c2, .slice A3 l3.length c3] 39)).cell? ⟨w.heap.size, 1, none⟩ = some (.slice A1 l1.length c1) := by rw [World.cell?_alloc_past _ _ _ (by simp), World.cell?_alloc_at _ _ _ _ rfl]; rfl
  have g2 : ((w.alloc (.cells #[.slice A0 l0.length c0, .slice A1 l1.length c1] 39)).alloc (.cells #[.slice A2 l2.length c2, .slice A3 l3.length c3] 39)).cell? ⟨w.heap.size + 1, 0, none⟩ = some (.slice A2 l2.length c2) := by rw [World.cell?_alloc_at _ _ _ _ (by simp)]; rfl
  have g3 : ((w.alloc (.cells #[.slice A0 l0.length c0, .slice A1 l1.length c1] 39)).alloc (.cells #[.slice A2 l2.length c2, .slice A3 l3.length c3] 39)).cell? ⟨w.heap.size + 1, 1, none⟩ = some (.slice A3 l3.length c3) := by rw [World.cell?_alloc_at _ _ _ _ (by simp)]; rfl
  have f0 := Aside0.mk (below_alloc (below_alloc (Below.refl w.heap.size w) (.cells #[.slice A0 l0.length c0, .slice A1 l1.length c1] 39)) (.cells #[.slice A2 l2.length c2, .slice A3 l3.length c3] 39))
  have z0 : w.heap.size + 2 ≤ ((w.alloc (.cells #[.slice A0 l0.length c0, .slice A1 l1.length c1] 39)).alloc (.cells #[.slice A2 l2.length c2, .slice A3 l3.length c3] 39)).heap.size := by simp
  obtain ⟨W0, hW0⟩ : ∃ W, (w.alloc (.cells #[.slice A0 l0.length c0, .slice A1 l1.length c1] 39)).alloc (.cells #[.slice A2 l2.length c2, .slice A3 l3.length c3] 39) = W := ⟨_, rfl⟩
  rw [hW0] at g0 g1 g2 g3 f0 z0
  have HW0 := Aside0.mk hW0
  clear hW0
  go_wp2_with fail
  rw [HW0.out]
  refine (laws_szSession.calls _ _ l0 _ _ l1 1048576 s1 _ (Kd.C_below HR0.out f0.out) HK0.out (Kd.C_below HR1.out f0.out) HK1.out E1.out).mono ?_
  rintro e W1 ⟨rfl, hb⟩
  replace g0 := (hb.cell (p := ⟨w.heap.size, 0, none⟩) (by simp; omega)).trans g0
  replace g1 := (hb.cell (p := ⟨w.heap.size, 1, none⟩) (by simp; omega)).trans g1
  replace g2 := (hb.cell (p := ⟨w.heap.size + 1, 0, none⟩) (by simp; omega)).trans g2
  replace g3 := (hb.cell (p := ⟨w.heap.size + 1, 1, none⟩) (by simp; omega)).trans g3
  have f1 := Aside0.mk (below_step f0.out hb)
  have z1 : w.heap.size + 2 ≤ W1.heap.size := by have := hb.size; omega
  clear hb HW0 f0 z0
  go_wp2_with fail
  refine (laws_szSession.calls _ _ l2 _ _ l3 s1 s2 _ (Kd.C_below HR2.out f1.out) HK2.out (Kd.C_below HR3.out f1.out) HK3.out E2.out).mono ?_
  rintro e W2 ⟨rfl, hb⟩
  replace g0 := (hb.cell (p := ⟨w.heap.size, 0, none⟩) (by simp; omega)).trans g0
  replace g1 := (hb.cell (p := ⟨w.heap.size, 1, none⟩) (by simp; omega)).trans g1
  replace g2 := (hb.cell (p := ⟨w.heap.size + 1, 0, none⟩) (by simp; omega)).trans g2
  replace g3 := (hb.cell (p := ⟨w.heap.size + 1, 1, none⟩) (by simp; omega)).trans g3
  have f2 := Aside0.mk (below_step f1.out hb)
  have z2 : w.heap.size + 2 ≤ W2.heap.size := by have := hb.size; omega
  clear hb f1 z1
  go_wp2
  have z2a : w.heap.size < W2.heap.size := by omega
  have z2b : w.heap.size + 1 < W2.heap.size := by omega
  have F_ := f2
  clear f2 z2
  go_region_held3 (fun w' => w'.cell? ⟨w.heap.size, 0, none⟩ = some (.slice A0 l0.length c0) ∧ w'.cell? ⟨w.heap.size, 1, none⟩ = some (.slice A1 l1.length c1) ∧ w'.cell? ⟨w.heap.size + 1, 0, none⟩ = some (.slice A2 l2.length c2) ∧ w'.cell? ⟨w.heap.size + 1, 1, none⟩ = some (.slice A3 l3.length c3)) (first | go_keep | exact ⟨g0, g1, g2, g3⟩)
    (first
      | (go_at_call_of 33 (Value.agg #[.slice A0 l0.length c0, .slice A1 l1.length c1]); refine (laws_toSession.calls k _ _ l0 _ _ l1 l0 l1 _ (Kd.C_below HR0.out (by repeat (first | exact F_.out | apply pw_below_drewN | apply below_drew1 | apply below_alloc))) HK0.out (Kd.C_below HR1.out (by repeat (first | exact F_.out | apply pw_below_drewN | apply below_drew1 | apply below_alloc))) HK1.out T1.out).mono ?_; rintro e w1 ⟨v0, v1, rfl, q0, q1, hb⟩; replace g0 := (hb.cell (p := ⟨w.heap.size, 0, none⟩) (by (try simp); omega)).trans g0; replace g1 := (hb.cell (p := ⟨w.heap.size, 1, none⟩) (by (try simp); omega)).trans g1; replace g2 := (hb.cell (p := ⟨w.heap.size + 1, 0, none⟩) (by (try simp); omega)).trans g2; replace g3 := (hb.cell (p := ⟨w.heap.size + 1, 1, none⟩) (by (try simp); omega)).trans g3; have zz_ : w.heap.size < w1.heap.size := (by have := hb.size; (try simp at this); omega); have zy_ : w.heap.size + 1 < w1.heap.size := (by have := hb.size; (try simp at this); omega); have F0_ := Aside0.mk (below_step (by repeat (first | exact F_.out | apply pw_below_drewN | apply below_drew1 | apply below_alloc)) hb); clear F_; have F_ := F0_; clear F0_; (try (have m_ := Aside0.mk (Kd.C_below (by repeat (first | exact qx.out | apply Kd.C_drewN | apply Kd.C_drew | apply Kd.C_alloc)) hb); clear qx; have qx := m_; clear m_)); (try (have m_ := Aside0.mk (Kd.C_below (by repeat (first | exact qy.out | apply Kd.C_drewN | apply Kd.C_drew | apply Kd.C_alloc)) hb); clear qy; have qy := m_; clear m_)); obtain ⟨pA, pa, rfl, pj, pX⟩ := own_slice_ q0; obtain ⟨pB, pb, rfl, pk, pY⟩ := own_slice_ q1; have px := Aside0.mk pX; have py := Aside0.mk pY; have pm := Aside0.mk pj; have pn := Aside0.mk pk; clear pX pY pj pk q0 q1 hb)
      | (go_at_call_of 33 (Value.agg #[.slice A2 l2.length c2, .slice A3 l3.length c3]); refine (laws_toSession.calls k _ _ l2 _ _ l3 l2 l3 _ (Kd.C_below HR2.out (by repeat (first | exact F_.out | apply pw_below_drewN | apply below_drew1 | apply below_alloc))) HK2.out (Kd.C_below HR3.out (by repeat (first | exact F_.out | apply pw_below_drewN | apply below_drew1 | apply below_alloc))) HK3.out T2.out).mono ?_; rintro e w1 ⟨v0, v1, rfl, q0, q1, hb⟩; replace g0 := (hb.cell (p := ⟨w.heap.size, 0, none⟩) (by (try simp); omega)).trans g0; replace g1 := (hb.cell (p := ⟨w.heap.size, 1, none⟩) (by (try simp); omega)).trans g1; replace g2 := (hb.cell (p := ⟨w.heap.size + 1, 0, none⟩) (by (try simp); omega)).trans g2; replace g3 := (hb.cell (p := ⟨w.heap.size + 1, 1, none⟩) (by (try simp); omega)).trans g3; have zz_ : w.heap.size < w1.heap.size := (by have := hb.size; (try simp at this); omega); have zy_ : w.heap.size + 1 < w1.heap.size := (by have := hb.size; (try simp at this); omega); have F0_ := Aside0.mk (below_step (by repeat (first | exact F_.out | apply pw_below_drewN | apply below_drew1 | apply below_alloc)) hb); clear F_; have F_ := F0_; clear F0_; (try (have m_ := Aside0.mk (Kd.C_below (by repeat (first | exact px.out | apply Kd.C_drewN | apply Kd.C_drew | apply Kd.C_alloc)) hb); clear px; have px := m_; clear m_)); (try (have m_ := Aside0.mk (Kd.C_below (by repeat (first | exact py.out | apply Kd.C_drewN | apply Kd.C_drew | apply Kd.C_alloc)) hb); clear py; have py := m_; clear m_)); obtain ⟨qA, qa, rfl, qj, qX⟩ := own_slice_ q0; obtain ⟨qB, qb, rfl, qk, qY⟩ := own_slice_ q1; have qx := Aside0.mk qX; have qy := Aside0.mk qY; have qm := Aside0.mk qj; have qn := Aside0.mk qk; clear qX qY qj qk q0 q1 hb)
      | (go_at_call 32; refine (spec_EqualSession.calls k _ _ l0 _ _ l1 _ _ l2 _ _ l3 b _ (by repeat (first | exact px.out | apply Kd.C_drewN | apply Kd.C_drew | apply Kd.C_alloc)) pm.out (by repeat (first | exact py.out | apply Kd.C_drewN | apply Kd.C_drew | apply Kd.C_alloc)) pn.out (by repeat (first | exact qx.out | apply Kd.C_drewN | apply Kd.C_drew | apply Kd.C_alloc)) qm.out (by repeat (first | exact qy.out | apply Kd.C_drewN | apply Kd.C_drew | apply Kd.C_alloc)) qn.out QS.out).mono ?_; rintro e w1 ⟨rfl, hb⟩; replace g0 := (hb.cell (p := ⟨w.heap.size, 0, none⟩) (by (try simp); omega)).trans g0; replace g1 := (hb.cell (p := ⟨w.heap.size, 1, none⟩) (by (try simp); omega)).trans g1; replace g2 := (hb.cell (p := ⟨w.heap.size + 1, 0, none⟩) (by (try simp); omega)).trans g2; replace g3 := (hb.cell (p := ⟨w.heap.size + 1, 1, none⟩) (by (try simp); omega)).trans g3; have zz_ : w.heap.size < w1.heap.size := (by have := hb.size; (try simp at this); omega); have zy_ : w.heap.size + 1 < w1.heap.size := (by have := hb.size; (try simp at this); omega); have F0_ := Aside0.mk (below_step (by repeat (first | exact F_.out | apply pw_below_drewN | apply below_drew1 | apply below_alloc)) hb); clear F_; have F_ := F0_; clear F0_; clear hb))
  all_goals
    clear px py pm pn qx qy qm qn
    have z0 := zy_
    clear zz_ zy_ z2a z2b
    go_wp2_with fail
    refine (laws_toSession.calls k _ _ l0 _ _ l1 l0 l1 _ (Kd.C_below HR0.out (by repeat (first | exact F_.out | apply pw_below_drewN | apply below_drew1 | apply below_alloc))) HK0.out (Kd.C_below HR1.out (by repeat (first | exact F_.out | apply pw_below_drewN | apply below_drew1 | apply below_alloc))) HK1.out T1.out).mono ?_
    rintro e X1 ⟨v0, v1, rfl, q0, q1, hb⟩
    replace g0 := (hb.cell (p := ⟨w.heap.size, 0, none⟩) (by (try simp) <;> omega)).trans g0
    replace g1 := (hb.cell (p := ⟨w.heap.size, 1, none⟩) (by (try simp) <;> omega)).trans g1
    replace g2 := (hb.cell (p := ⟨w.heap.size + 1, 0, none⟩) (by (try simp) <;> omega)).trans g2
    replace g3 := (hb.cell (p := ⟨w.heap.size + 1, 1, none⟩) (by (try simp) <;> omega)).trans g3
    have znz0 := (Nat.lt_of_lt_of_le z0 (by have h_ := hb.size; (try simp at h_); omega : _ ≤ X1.heap.size)); clear z0; have z0 := znz0; clear znz0
    have F0_ := Aside0.mk (below_step (by repeat (first | exact F_.out | apply pw_below_drewN | apply below_drew1 | apply below_alloc)) hb); clear F_; have F_ := F0_; clear F0_
    obtain ⟨pA, pa, rfl, pm, px⟩ := own_slice_ q0
    obtain ⟨pB, pb, rfl, pn, py⟩ := own_slice_ q1
    have m_ := Aside0.mk px; clear px; have px := m_; clear m_
    have m_ := Aside0.mk py; clear py; have py := m_; clear m_
    have m_ := Aside0.mk pm; clear pm; have pm := m_; clear m_
    have m_ := Aside0.mk pn; clear pn; have pn := m_; clear m_
    clear q0 q1 hb
    go_wp2_with fail
    refine (laws_toSession.calls k _ _ l2 _ _ l3 l2 l3 _ (Kd.C_below HR2.out (by repeat (first | exact F_.out | apply pw_below_drewN | apply below_drew1 | apply below_alloc))) HK2.out (Kd.C_below HR3.out (by repeat (first | exact F_.out | apply pw_below_drewN | apply below_drew1 | apply below_alloc))) HK3.out T2.out).mono ?_
    rintro e X2 ⟨v0, v1, rfl, q0, q1, hb⟩
    replace g0 := (hb.cell (p := ⟨w.heap.size, 0, none⟩) (by (try simp) <;> omega)).trans ((World.cell?_alloc_past _ _ _ (by omega)).trans g0)
    replace g1 := (hb.cell (p := ⟨w.heap.size, 1, none⟩) (by (try simp) <;> omega)).trans ((World.cell?_alloc_past _ _ _ (by omega)).trans g1)
    replace g2 := (hb.cell (p := ⟨w.heap.size + 1, 0, none⟩) (by (try simp) <;> omega)).trans ((World.cell?_alloc_past _ _ _ (by omega)).trans g2)
    replace g3 := (hb.cell (p := ⟨w.heap.size + 1, 1, none⟩) (by (try simp) <;> omega)).trans ((World.cell?_alloc_past _ _ _ (by omega)).trans g3)
    have gx0 := (hb.cell (p := ⟨X1.heap.size, 0, none⟩) (by (try simp) <;> omega)).trans (by rw [World.cell?_alloc_at _ _ _ _ rfl]; rfl : _ = some (.slice pA l0.length pa))
    have gx1 := (hb.cell (p := ⟨X1.heap.size, 1, none⟩) (by (try simp) <;> omega)).trans (by rw [World.cell?_alloc_at _ _ _ _ rfl]; rfl : _ = some (.slice pB l1.length pb))
    have znz0 := (Nat.lt_of_lt_of_le z0 (by have h_ := hb.size; (try simp at h_); omega : _ ≤ X2.heap.size)); clear z0; have z0 := znz0; clear znz0
    have F0_ := Aside0.mk (below_step (by repeat (first | exact F_.out | apply pw_below_drewN | apply below_drew1 | apply below_alloc)) hb); clear F_; have F_ := F0_; clear F0_
    have m_ := Aside0.mk (Kd.C_below (by repeat (first | exact px.out | apply Kd.C_drewN | apply Kd.C_drew | apply Kd.C_alloc)) hb); clear px; have px := m_; clear m_
    have m_ := Aside0.mk (Kd.C_below (by repeat (first | exact py.out | apply Kd.C_drewN | apply Kd.C_drew | apply Kd.C_alloc)) hb); clear py; have py := m_; clear m_
    obtain ⟨qA, qa, rfl, qm, qx⟩ := own_slice_ q0
    obtain ⟨qB, qb, rfl, qn, qy⟩ := own_slice_ q1
    have m_ := Aside0.mk qx; clear qx; have qx := m_; clear m_
    have m_ := Aside0.mk qy; clear qy; have qy := m_; clear m_
    have m_ := Aside0.mk qm; clear qm; have qm := m_; clear m_
    have m_ := Aside0.mk qn; clear qn; have qn := m_; clear m_
    clear q0 q1 hb
    have zx : X1.heap.size < X2.heap.size := World.block_lt_of_cell? _ _ gx0
    go_wp2_with fail
    refine (impl_EqualSession.calls k _ _ l0 _ _ l1 _ _ l2 _ _ l3 b _ (by repeat (first | exact px.out | apply Kd.C_drewN | apply Kd.C_drew | apply Kd.C_alloc)) pm.out (by repeat (first | exact py.out | apply Kd.C_drewN | apply Kd.C_drew | apply Kd.C_alloc)) pn.out (by repeat (first | exact qx.out | apply Kd.C_drewN | apply Kd.C_drew | apply Kd.C_alloc)) qm.out (by repeat (first | exact qy.out | apply Kd.C_drewN | apply Kd.C_drew | apply Kd.C_alloc)) qn.out QI.out).mono ?_
    rintro e X3 ⟨rfl, hb⟩
    replace g0 := (hb.cell (p := ⟨w.heap.size, 0, none⟩) (by (try simp) <;> omega)).trans ((World.cell?_alloc_past _ _ _ (by omega)).trans g0)
    replace g1 := (hb.cell (p := ⟨w.heap.size, 1, none⟩) (by (try simp) <;> omega)).trans ((World.cell?_alloc_past _ _ _ (by omega)).trans g1)
    replace g2 := (hb.cell (p := ⟨w.heap.size + 1, 0, none⟩) (by (try simp) <;> omega)).trans ((World.cell?_alloc_past _ _ _ (by omega)).trans g2)
    replace g3 := (hb.cell (p := ⟨w.heap.size + 1, 1, none⟩) (by (try simp) <;> omega)).trans ((World.cell?_alloc_past _ _ _ (by omega)).trans g3)
    replace gx0 := (hb.cell (p := ⟨X1.heap.size, 0, none⟩) (by (try simp) <;> omega)).trans ((World.cell?_alloc_past _ _ _ (by omega)).trans gx0)
    replace gx1 := (hb.cell (p := ⟨X1.heap.size, 1, none⟩) (by (try simp) <;> omega)).trans ((World.cell?_alloc_past _ _ _ (by omega)).trans gx1)
    have gy0 := (hb.cell (p := ⟨X2.heap.size, 0, none⟩) (by (try simp) <;> omega)).trans (by rw [World.cell?_alloc_at _ _ _ _ rfl]; rfl : _ = some (.slice qA l2.length qa))
    have gy1 := (hb.cell (p := ⟨X2.heap.size, 1, none⟩) (by (try simp) <;> omega)).trans (by rw [World.cell?_alloc_at _ _ _ _ rfl]; rfl : _ = some (.slice qB l3.length qb))
    have znz0 := (Nat.lt_of_lt_of_le z0 (by have h_ := hb.size; (try simp at h_); omega : _ ≤ X3.heap.size)); clear z0; have z0 := znz0; clear znz0
    have znzx := (Nat.lt_of_lt_of_le zx (by have h_ := hb.size; (try simp at h_); omega : _ ≤ X3.heap.size)); clear zx; have zx := znzx; clear znzx
    have F0_ := Aside0.mk (below_step (by repeat (first | exact F_.out | apply pw_below_drewN | apply below_drew1 | apply below_alloc)) hb); clear F_; have F_ := F0_; clear F0_
    have m_ := Aside0.mk (Kd.C_below (by repeat (first | exact px.out | apply Kd.C_drewN | apply Kd.C_drew | apply Kd.C_alloc)) hb); clear px; have px := m_; clear m_
    have m_ := Aside0.mk (Kd.C_below (by repeat (first | exact py.out | apply Kd.C_drewN | apply Kd.C_drew | apply Kd.C_alloc)) hb); clear py; have py := m_; clear m_
    have m_ := Aside0.mk (Kd.C_below (by repeat (first | exact qx.out | apply Kd.C_drewN | apply Kd.C_drew | apply Kd.C_alloc)) hb); clear qx; have qx := m_; clear m_
    have m_ := Aside0.mk (Kd.C_below (by repeat (first | exact qy.out | apply Kd.C_drewN | apply Kd.C_drew | apply Kd.C_alloc)) hb); clear qy; have qy := m_; clear m_
    have zy : X2.heap.size < X3.heap.size := World.block_lt_of_cell? _ _ gy0
    clear hb
    go_wp2_with fail
    go_region_held3 (fun w' => w'.cell? ⟨X1.heap.size, 0, none⟩ = some (.slice pA l0.length pa) ∧ w'.cell? ⟨X1.heap.size, 1, none⟩ = some (.slice pB l1.length pb) ∧ w'.cell? ⟨w.heap.size, 0, none⟩ = some (.slice A0 l0.length c0) ∧ w'.cell? ⟨w.heap.size, 1, none⟩ = some (.slice A1 l1.length c1)) (first | go_keep | exact ⟨gx0, gx1, g0, g1⟩)
      (first | (go_at_call 33; refine (laws_toSession.calls k _ _ l0 _ _ l1 l0 l1 _ (Kd.C_below HR0.out (by repeat (first | exact F_.out | apply pw_below_drewN | apply below_drew1 | apply below_alloc))) HK0.out (Kd.C_below HR1.out (by repeat (first | exact F_.out | apply pw_below_drewN | apply below_drew1 | apply below_alloc))) HK1.out T1.out).mono ?_; rintro e w1 ⟨v0, v1, rfl, q0, q1, hb⟩; replace g0 := (hb.cell (p := ⟨w.heap.size, 0, none⟩) (by (try simp) <;> omega)).trans g0; replace g1 := (hb.cell (p := ⟨w.heap.size, 1, none⟩) (by (try simp) <;> omega)).trans g1; replace g2 := (hb.cell (p := ⟨w.heap.size + 1, 0, none⟩) (by (try simp) <;> omega)).trans g2; replace g3 := (hb.cell (p := ⟨w.heap.size + 1, 1, none⟩) (by (try simp) <;> omega)).trans g3; replace gx0 := (hb.cell (p := ⟨X1.heap.size, 0, none⟩) (by (try simp) <;> omega)).trans gx0; replace gx1 := (hb.cell (p := ⟨X1.heap.size, 1, none⟩) (by (try simp) <;> omega)).trans gx1; replace gy0 := (hb.cell (p := ⟨X2.heap.size, 0, none⟩) (by (try simp) <;> omega)).trans gy0; replace gy1 := (hb.cell (p := ⟨X2.heap.size, 1, none⟩) (by (try simp) <;> omega)).trans gy1; have znz0 := (Nat.lt_of_lt_of_le z0 (by have h_ := hb.size; (try simp at h_); omega : _ ≤ w1.heap.size)); clear z0; have z0 := znz0; clear znz0; have znzx := (Nat.lt_of_lt_of_le zx (by have h_ := hb.size; (try simp at h_); omega : _ ≤ w1.heap.size)); clear zx; have zx := znzx; clear znzx; have znzy := (Nat.lt_of_lt_of_le zy (by have h_ := hb.size; (try simp at h_); omega : _ ≤ w1.heap.size)); clear zy; have zy := znzy; clear znzy; have F0_ := Aside0.mk (below_step (by repeat (first | exact F_.out | apply pw_below_drewN | apply below_drew1 | apply below_alloc)) hb); clear F_; have F_ := F0_; clear F0_; have m_ := Aside0.mk (Kd.C_below (by repeat (first | exact px.out | apply Kd.C_drewN | apply Kd.C_drew | apply Kd.C_alloc)) hb); clear px; have px := m_; clear m_; have m_ := Aside0.mk (Kd.C_below (by repeat (first | exact py.out | apply Kd.C_drewN | apply Kd.C_drew | apply Kd.C_alloc)) hb); clear py; have py := m_; clear m_; have m_ := Aside0.mk (Kd.C_below (by repeat (first | exact qx.out | apply Kd.C_drewN | apply Kd.C_drew | apply Kd.C_alloc)) hb); clear qx; have qx := m_; clear m_; have m_ := Aside0.mk (Kd.C_below (by repeat (first | exact qy.out | apply Kd.C_drewN | apply Kd.C_drew | apply Kd.C_alloc)) hb); clear qy; have qy := m_; clear m_; obtain ⟨rA, ra, rfl, rm, rx⟩ := own_slice_ q0; obtain ⟨rB, rb, rfl, rn, ry⟩ := own_slice_ q1; have Rx := Aside0.mk rx; have Ry := Aside0.mk ry; have Rm := Aside0.mk rm; have Rn := Aside0.mk rn; clear rx ry rm rn q0 q1 hb) | (go_at_call 35; refine (laws_eqSession.calls k _ _ l0 _ _ l1 _ _ l0 _ _ l1 true _ (by repeat (first | exact px.out | apply Kd.C_drewN | apply Kd.C_drew | apply Kd.C_alloc)) pm.out (by repeat (first | exact py.out | apply Kd.C_drewN | apply Kd.C_drew | apply Kd.C_alloc)) pn.out (by repeat (first | exact Rx.out | apply Kd.C_drewN | apply Kd.C_drew | apply Kd.C_alloc)) Rm.out (by repeat (first | exact Ry.out | apply Kd.C_drewN | apply Kd.C_drew | apply Kd.C_alloc)) Rn.out Z1.out).mono ?_; rintro e w1 ⟨rfl, hb⟩; replace g0 := (hb.cell (p := ⟨w.heap.size, 0, none⟩) (by (try simp) <;> omega)).trans g0; replace g1 := (hb.cell (p := ⟨w.heap.size, 1, none⟩) (by (try simp) <;> omega)).trans g1; replace g2 := (hb.cell (p := ⟨w.heap.size + 1, 0, none⟩) (by (try simp) <;> omega)).trans g2; replace g3 := (hb.cell (p := ⟨w.heap.size + 1, 1, none⟩) (by (try simp) <;> omega)).trans g3; replace gx0 := (hb.cell (p := ⟨X1.heap.size, 0, none⟩) (by (try simp) <;> omega)).trans gx0; replace gx1 := (hb.cell (p := ⟨X1.heap.size, 1, none⟩) (by (try simp) <;> omega)).trans gx1; replace gy0 := (hb.cell (p := ⟨X2.heap.size, 0, none⟩) (by (try simp) <;> omega)).trans gy0; replace gy1 := (hb.cell (p := ⟨X2.heap.size, 1, none⟩) (by (try simp) <;> omega)).trans gy1; have znz0 := (Nat.lt_of_lt_of_le z0 (by have h_ := hb.size; (try simp at h_); omega : _ ≤ w1.heap.size)); clear z0; have z0 := znz0; clear znz0; have znzx := (Nat.lt_of_lt_of_le zx (by have h_ := hb.size; (try simp at h_); omega : _ ≤ w1.heap.size)); clear zx; have zx := znzx; clear znzx; have znzy := (Nat.lt_of_lt_of_le zy (by have h_ := hb.size; (try simp at h_); omega : _ ≤ w1.heap.size)); clear zy; have zy := znzy; clear znzy; have F0_ := Aside0.mk (below_step (by repeat (first | exact F_.out | apply pw_below_drewN | apply below_drew1 | apply below_alloc)) hb); clear F_; have F_ := F0_; clear F0_; have m_ := Aside0.mk (Kd.C_below (by repeat (first | exact px.out | apply Kd.C_drewN | apply Kd.C_drew | apply Kd.C_alloc)) hb); clear px; have px := m_; clear m_; have m_ := Aside0.mk (Kd.C_below (by repeat (first | exact py.out | apply Kd.C_drewN | apply Kd.C_drew | apply Kd.C_alloc)) hb); clear py; have py := m_; clear m_; have m_ := Aside0.mk (Kd.C_below (by repeat (first | exact qx.out | apply Kd.C_drewN | apply Kd.C_drew | apply Kd.C_alloc)) hb); clear qx; have qx := m_; clear m_; have m_ := Aside0.mk (Kd.C_below (by repeat (first | exact qy.out | apply Kd.C_drewN | apply Kd.C_drew | apply Kd.C_alloc)) hb); clear qy; have qy := m_; clear m_; clear hb Rx Ry Rm Rn))
    all_goals go_wp2_with fail
    go_wp2_with fail
    go_region_held3 (fun w' => w'.cell? ⟨X2.heap.size, 0, none⟩ = some (.slice qA l2.length qa) ∧ w'.cell? ⟨X2.heap.size, 1, none⟩ = some (.slice qB l3.length qb) ∧ w'.cell? ⟨w.heap.size + 1, 0, none⟩ = some (.slice A2 l2.length c2) ∧ w'.cell? ⟨w.heap.size + 1, 1, none⟩ = some (.slice A3 l3.length c3)) (first | go_keep | exact ⟨gy0, gy1, g2, g3⟩)
      (first | (go_at_call 33; refine (laws_toSession.calls k _ _ l2 _ _ l3 l2 l3 _ (Kd.C_below HR2.out (by repeat (first | exact F_.out | apply pw_below_drewN | apply below_drew1 | apply below_alloc))) HK2.out (Kd.C_below HR3.out (by repeat (first | exact F_.out | apply pw_below_drewN | apply below_drew1 | apply below_alloc))) HK3.out T2.out).mono ?_; rintro e w1 ⟨v0, v1, rfl, q0, q1, hb⟩; replace g0 := (hb.cell (p := ⟨w.heap.size, 0, none⟩) (by (try simp) <;> omega)).trans g0; replace g1 := (hb.cell (p := ⟨w.heap.size, 1, none⟩) (by (try simp) <;> omega)).trans g1; replace g2 := (hb.cell (p := ⟨w.heap.size + 1, 0, none⟩) (by (try simp) <;> omega)).trans g2; replace g3 := (hb.cell (p := ⟨w.heap.size + 1, 1, none⟩) (by (try simp) <;> omega)).trans g3; replace gx0 := (hb.cell (p := ⟨X1.heap.size, 0, none⟩) (by (try simp) <;> omega)).trans gx0; replace gx1 := (hb.cell (p := ⟨X1.heap.size, 1, none⟩) (by (try simp) <;> omega)).trans gx1; replace gy0 := (hb.cell (p := ⟨X2.heap.size, 0, none⟩) (by (try simp) <;> omega)).trans gy0; replace gy1 := (hb.cell (p := ⟨X2.heap.size, 1, none⟩) (by (try simp) <;> omega)).trans gy1; have znz0 := (Nat.lt_of_lt_of_le z0 (by have h_ := hb.size; (try simp at h_); omega : _ ≤ w1.heap.size)); clear z0; have z0 := znz0; clear znz0; have znzx := (Nat.lt_of_lt_of_le zx (by have h_ := hb.size; (try simp at h_); omega : _ ≤ w1.heap.size)); clear zx; have zx := znzx; clear znzx; have znzy := (Nat.lt_of_lt_of_le zy (by have h_ := hb.size; (try simp at h_); omega : _ ≤ w1.heap.size)); clear zy; have zy := znzy; clear znzy; have F0_ := Aside0.mk (below_step (by repeat (first | exact F_.out | apply pw_below_drewN | apply below_drew1 | apply below_alloc)) hb); clear F_; have F_ := F0_; clear F0_; have m_ := Aside0.mk (Kd.C_below (by repeat (first | exact px.out | apply Kd.C_drewN | apply Kd.C_drew | apply Kd.C_alloc)) hb); clear px; have px := m_; clear m_; have m_ := Aside0.mk (Kd.C_below (by repeat (first | exact py.out | apply Kd.C_drewN | apply Kd.C_drew | apply Kd.C_alloc)) hb); clear py; have py := m_; clear m_; have m_ := Aside0.mk (Kd.C_below (by repeat (first | exact qx.out | apply Kd.C_drewN | apply Kd.C_drew | apply Kd.C_alloc)) hb); clear qx; have qx := m_; clear m_; have m_ := Aside0.mk (Kd.C_below (by repeat (first | exact qy.out | apply Kd.C_drewN | apply Kd.C_drew | apply Kd.C_alloc)) hb); clear qy; have qy := m_; clear m_; obtain ⟨rA, ra, rfl, rm, rx⟩ := own_slice_ q0; obtain ⟨rB, rb, rfl, rn, ry⟩ := own_slice_ q1; have Rx := Aside0.mk rx; have Ry := Aside0.mk ry; have Rm := Aside0.mk rm; have Rn := Aside0.mk rn; clear rx ry rm rn q0 q1 hb) | (go_at_call 35; refine (laws_eqSession.calls k _ _ l2 _ _ l3 _ _ l2 _ _ l3 true _ (by repeat (first | exact qx.out | apply Kd.C_drewN | apply Kd.C_drew | apply Kd.C_alloc)) qm.out (by repeat (first | exact qy.out | apply Kd.C_drewN | apply Kd.C_drew | apply Kd.C_alloc)) qn.out (by repeat (first | exact Rx.out | apply Kd.C_drewN | apply Kd.C_drew | apply Kd.C_alloc)) Rm.out (by repeat (first | exact Ry.out | apply Kd.C_drewN | apply Kd.C_drew | apply Kd.C_alloc)) Rn.out Z2.out).mono ?_; rintro e w1 ⟨rfl, hb⟩; replace g0 := (hb.cell (p := ⟨w.heap.size, 0, none⟩) (by (try simp) <;> omega)).trans g0; replace g1 := (hb.cell (p := ⟨w.heap.size, 1, none⟩) (by (try simp) <;> omega)).trans g1; replace g2 := (hb.cell (p := ⟨w.heap.size + 1, 0, none⟩) (by (try simp) <;> omega)).trans g2; replace g3 := (hb.cell (p := ⟨w.heap.size + 1, 1, none⟩) (by (try simp) <;> omega)).trans g3; replace gx0 := (hb.cell (p := ⟨X1.heap.size, 0, none⟩) (by (try simp) <;> omega)).trans gx0; replace gx1 := (hb.cell (p := ⟨X1.heap.size, 1, none⟩) (by (try simp) <;> omega)).trans gx1; replace gy0 := (hb.cell (p := ⟨X2.heap.size, 0, none⟩) (by (try simp) <;> omega)).trans gy0; replace gy1 := (hb.cell (p := ⟨X2.heap.size, 1, none⟩) (by (try simp) <;> omega)).trans gy1; have znz0 := (Nat.lt_of_lt_of_le z0 (by have h_ := hb.size; (try simp at h_); omega : _ ≤ w1.heap.size)); clear z0; have z0 := znz0; clear znz0; have znzx := (Nat.lt_of_lt_of_le zx (by have h_ := hb.size; (try simp at h_); omega : _ ≤ w1.heap.size)); clear zx; have zx := znzx; clear znzx; have znzy := (Nat.lt_of_lt_of_le zy (by have h_ := hb.size; (try simp at h_); omega : _ ≤ w1.heap.size)); clear zy; have zy := znzy; clear znzy; have F0_ := Aside0.mk (below_step (by repeat (first | exact F_.out | apply pw_below_drewN | apply below_drew1 | apply below_alloc)) hb); clear F_; have F_ := F0_; clear F0_; have m_ := Aside0.mk (Kd.C_below (by repeat (first | exact px.out | apply Kd.C_drewN | apply Kd.C_drew | apply Kd.C_alloc)) hb); clear px; have px := m_; clear m_; have m_ := Aside0.mk (Kd.C_below (by repeat (first | exact py.out | apply Kd.C_drewN | apply Kd.C_drew | apply Kd.C_alloc)) hb); clear py; have py := m_; clear m_; have m_ := Aside0.mk (Kd.C_below (by repeat (first | exact qx.out | apply Kd.C_drewN | apply Kd.C_drew | apply Kd.C_alloc)) hb); clear qx; have qx := m_; clear m_; have m_ := Aside0.mk (Kd.C_below (by repeat (first | exact qy.out | apply Kd.C_drewN | apply Kd.C_drew | apply Kd.C_alloc)) hb); clear qy; have qy := m_; clear m_; clear hb Rx Ry Rm Rn))
    all_goals go_wp2_with fail
    all_goals go_ret
    all_goals exact ⟨rfl, (by repeat (first | exact F_.out | apply pw_below_drewN | apply below_drew1 | apply below_alloc))⟩
end Go.Proofs.Ytkifakepmomgfaa.PB
end
section
namespace Go.Proofs.Ytkifakepmomgfaa.E
open Go.RowKit Go.Proofs.YtkifakepmomgfaaW.PrintWords Go.Proofs.YtkifakepmomgfaaW.PrintLast Go.Proofs.YtkifakepmomgfaaW.PrintMore
set_option linter.unusedVariables false
set_option linter.unusedSimpArgs false
theorem w64 {x : Int} (h1 : -9223372036854775808 ≤ x) (h2 : x ≤ 9223372036854775807) : wrap64 x = x := by
  unfold wrap64; omega
theorem ev_ifp {α : Type} {c : Prop} [Decidable c] {a b : Nat → Option α} {r : α} (h : c) (k : Ev a r) : Ev (fun n => if c then a n else b n) r :=
  Ev.congr (fun _ => if_pos h) k
theorem ev_ifn {α : Type} {c : Prop} [Decidable c] {a b : Nat → Option α} {r : α} (h : ¬ c) (k : Ev b r) : Ev (fun n => if c then a n else b n) r :=
  Ev.congr (fun _ => if_neg h) k
theorem ev_bind {α β : Type} {g : Nat → Option α} {f : Nat → α → Option β} (a : α) {r : β} (h : Ev g a) (k : Ev (fun n => f n a) r) : Ev (fun n => (g n).bind (f n)) r := Ev.bind h k
theorem ev_to {α : Type} {g : Nat → Option α} {a b : α} (h : Ev g a) (e : a = b) : Ev g b := e ▸ h
theorem rd_lt {l : List Int} {i : Int} (h0 : 0 ≤ i) (h : i < l.length) : rd l i = l[i.toNat]'(by omega) := by
  unfold rd; rw [List.getD_eq_getElem?_getD, List.getElem?_eq_getElem (by omega)]; rfl
theorem drop_rd {l : List Int} {i : Int} (h0 : 0 ≤ i) (h : i < l.length) : l.drop i.toNat = rd l i :: l.drop (i + 1).toNat := by
  rw [rd_lt h0 h, List.drop_eq_getElem_cons (by omega)]
  congr 2; omega
theorem take_rd {l : List Int} {i : Int} (h0 : 0 ≤ i) (h : i < l.length) : l.take (i + 1).toNat = l.take i.toNat ++ [rd l i] := by
  rw [rd_lt h0 h, show (i + 1).toNat = i.toNat + 1 from by omega, List.take_succ_eq_append_getElem (by omega)]
theorem rd_set {l : List Int} {i j : Int} (x : Int) (hi : 0 ≤ i) (hi' : i < l.length) (hj : 0 ≤ j) : rd (l.set i.toNat x) j = if j = i then x else rd l j := by
  unfold rd
  rw [List.getD_eq_getElem?_getD, List.getD_eq_getElem?_getD, List.getElem?_set]
  by_cases h : j = i
  · subst h; rw [if_pos rfl, if_pos rfl, if_pos (by omega)]; rfl
  · rw [if_neg h, if_neg (by omega)]
end Go.Proofs.Ytkifakepmomgfaa.E
end
section
namespace Go.Proofs.Ytkifakepmomgfaa.E
open Go.RowKit Go.Proofs.Ytkifakepmomgfaa.PB Go.Proofs.YtkifakepmomgfaaW.PrintWords Go.Proofs.YtkifakepmomgfaaW.PrintLast Go.Proofs.YtkifakepmomgfaaW.PrintMore
set_option linter.unusedVariables false
set_option linter.unusedSimpArgs false
theorem toIntS_l {l : List Int} (hl : l.length ≤ 1048576) (d : Nat) : ∀ (i : Int) (out : List Int), 0 ≤ i → i + d = l.length → out.length = l.length → out.take i.toNat = l.take i.toNat → Ev (fun k => laws_toIntS.l0 k l out i) l := by
  induction d with
  | zero =>
    intro i out h0 h1 h2 h3
    refine Ev.step (fun k => by rw [laws_toIntS.l0]) ?_
    simp (disch := omega) only [if_neg]
    rw [List.take_of_length_le (by omega), List.take_of_length_le (by omega)] at h3
    subst h3
    exact Ev.now _
  | succ d ih =>
    intro i out h0 h1 h2 h3
    refine Ev.step (fun k => by rw [laws_toIntS.l0]) ?_
    simp (disch := omega) only [if_pos, w64]
    refine ih _ _ (by omega) (by omega) (by simpa using h2) ?_
    rw [take_rd h0 (by simp; omega), take_rd h0 (by omega), rd_set _ h0 (by omega) h0, if_pos rfl, ← h3]
    congr 1
    rw [List.take_set_of_le (Nat.le_refl _)]
theorem toIntS_ev {l : List Int} (hl : l.length ≤ 1048576) : Ev (fun k => laws_toIntS.f k l) l := by
  unfold laws_toIntS.f
  simp (disch := omega) only [if_pos]
  exact toIntS_l hl l.length _ _ (by omega) (by omega) (by simp) (by simp)
theorem eqIntS_l {l m : List Int} (hl : l.length ≤ 1099511627776) (e : l.length = m.length) (d : Nat) : ∀ (i : Int), 0 ≤ i → i + d = l.length → Ev (fun k => laws_eqIntS.l0 k l m i) (decide (l.drop i.toNat = m.drop i.toNat)) := by
  induction d with
  | zero =>
    intro i h0 h1
    refine Ev.step (fun k => by rw [laws_eqIntS.l0]) ?_
    simp (disch := omega) only [if_neg]
    refine ev_to (Ev.now _) ?_
    rw [List.drop_of_length_le (by omega), List.drop_of_length_le (by omega)]; simp
  | succ d ih =>
    intro i h0 h1
    refine Ev.step (fun k => by rw [laws_eqIntS.l0]) ?_
    simp (disch := omega) only [if_pos, w64]
    rw [drop_rd h0 (by omega), drop_rd (l := m) h0 (by omega)]
    by_cases h : rd l i = rd m i
    · refine ev_ifp h (ev_to (ih (i + 1) (by omega) (by omega)) ?_)
      simp [h]
    · refine ev_ifn h (ev_to (Ev.now _) ?_)
      simp [h]
theorem eqIntS_ev {l m : List Int} (hl : l.length ≤ 1099511627776) : Ev (fun k => laws_eqIntS.f k l m) (decide (l = m)) := by
  unfold laws_eqIntS.f
  by_cases e : l.length = m.length
  · refine ev_ifp (by omega) (ev_to (eqIntS_l hl e l.length 0 (by omega) (by omega)) ?_)
    simp
  · refine ev_ifn (by omega) (ev_to (Ev.now _) ?_)
    simp; intro h; exact e (by rw [h])
end Go.Proofs.Ytkifakepmomgfaa.E
end
section
namespace Go.Proofs.Ytkifakepmomgfaa.E
open Go.RowKit Go.Proofs.Ytkifakepmomgfaa.PB Go.Proofs.YtkifakepmomgfaaW.PrintWords Go.Proofs.YtkifakepmomgfaaW.PrintLast Go.Proofs.YtkifakepmomgfaaW.PrintMore
set_option linter.unusedVariables false
set_option linter.unusedSimpArgs false
theorem szSg_small {l : List Int} {a : Int} (h : (l.length : Int) ≤ a) (ha : a ≤ 1048576) : laws_szSemigroup.f l a = some (a - l.length) := by
  unfold laws_szSemigroup.f laws_szIntS.f
  rw [w64 (x := a - l.length) (by omega) (by omega), if_neg (by omega)]
  simp only [Option.bind_some]
  rw [if_neg (by omega)]
theorem szSg_big {l : List Int} {a : Int} (h : ¬ (l.length : Int) ≤ a) (h0 : 0 ≤ a) (ha : a ≤ 1048576) (hl : l.length ≤ 1152921504606846976) : laws_szSemigroup.f l a = some (-1) := by
  unfold laws_szSemigroup.f laws_szIntS.f
  rw [w64 (x := a - l.length) (by omega) (by omega), if_pos (by omega)]
  rfl
theorem toSg_ev {l : List Int} (hl : l.length ≤ 1048576) : Ev (fun k => laws_toSemigroup.f k l) l := by
  unfold laws_toSemigroup.f
  exact ev_bind _ (toIntS_ev hl) (Ev.now _)
theorem eqSg_ev {l m : List Int} (hl : l.length ≤ 1099511627776) : Ev (fun k => laws_eqSemigroup.f k l m) (decide (l = m)) := by
  unfold laws_eqSemigroup.f
  refine ev_bind _ (eqIntS_ev hl) ?_
  by_cases e : l = m
  · exact ev_ifp (by simpa using e) (ev_to (Ev.now _) (by simp [e]))
  · exact ev_ifn (by simpa using e) (ev_to (Ev.now _) (by simp [e]))
theorem eqSg_same {l : List Int} (hl : l.length ≤ 1099511627776) : Ev (fun k => laws_eqSemigroup.f k l l) true := ev_to (eqSg_ev hl) (by simp)
end Go.Proofs.Ytkifakepmomgfaa.E
end
section
namespace Go.Proofs.Ytkifakepmomgfaa.E
open Go.RowKit Go.Proofs.Ytkifakepmomgfaa.PB Go.Proofs.YtkifakepmomgfaaW.PrintWords Go.Proofs.YtkifakepmomgfaaW.PrintLast Go.Proofs.YtkifakepmomgfaaW.PrintMore
set_option linter.unusedVariables false
set_option linter.unusedSimpArgs false
theorem sliceEq_l {l m : List Int} (hl : l.length ≤ 1099511627776) (e : l.length = m.length) (d : Nat) : ∀ (i : Int), 0 ≤ i → i + d = l.length → Ev (fun k => slices_Equal_int_int.l0 k l m l.length i) (decide (l.drop i.toNat = m.drop i.toNat)) := by
  induction d with
  | zero =>
    intro i h0 h1
    refine Ev.step (fun k => by rw [slices_Equal_int_int.l0]) ?_
    refine ev_ifn (by omega) (ev_to (Ev.now _) ?_)
    rw [List.drop_of_length_le (by omega), List.drop_of_length_le (by omega)]; simp
  | succ d ih =>
    intro i h0 h1
    refine Ev.step (fun k => by rw [slices_Equal_int_int.l0]) ?_
    rw [w64 (x := i + 1) (by omega) (by omega), drop_rd h0 (by omega), drop_rd (l := m) h0 (by omega)]
    refine ev_ifp (by omega) (ev_ifp h0 (ev_ifp (by omega) (ev_ifp (by omega) ?_)))
    by_cases h : rd l i = rd m i
    · refine ev_ifp h (ev_to (ih (i + 1) (by omega) (by omega)) ?_)
      simp [h]
    · refine ev_ifn h (ev_to (Ev.now _) ?_)
      simp [h]
theorem sliceEq_ev {l m : List Int} (hl : l.length ≤ 1099511627776) : Ev (fun k => slices_Equal_int_int.f k l m) (decide (l = m)) := by
  unfold slices_Equal_int_int.f
  by_cases e : l.length = m.length
  · refine ev_ifp (by omega) (ev_to (sliceEq_l hl e l.length 0 (by omega) (by omega)) ?_)
    simp
  · refine ev_ifn (by omega) (ev_to (Ev.now _) ?_)
    simp; intro h; exact e (by rw [h])
theorem eqSgI_ev {l m : List Int} (hl : l.length ≤ 1099511627776) : Ev (fun k => impl_EqualSemigroup.f k l m) (decide (l = m)) := by
  unfold impl_EqualSemigroup.f
  exact ev_bind _ (sliceEq_ev hl) (Ev.now _)
theorem same2_l {l m : List Int} (hl : l.length ≤ 1099511627776) (e : l.length = m.length) (d : Nat) : ∀ (i : Int), 0 ≤ i → i + d = l.length → Ev (fun k => spec_l2Same.l0 k l m i) (decide (l.drop i.toNat = m.drop i.toNat)) := by
  induction d with
  | zero =>
    intro i h0 h1
    refine Ev.step (fun k => by rw [spec_l2Same.l0]) ?_
    refine ev_ifn (by omega) (ev_to (Ev.now _) ?_)
    rw [List.drop_of_length_le (by omega), List.drop_of_length_le (by omega)]; simp
  | succ d ih =>
    intro i h0 h1
    refine Ev.step (fun k => by rw [spec_l2Same.l0]) ?_
    rw [w64 (x := i + 1) (by omega) (by omega), drop_rd h0 (by omega), drop_rd (l := m) h0 (by omega)]
    refine ev_ifp (by omega) (ev_ifp h0 (ev_ifp (by omega) ?_))
    by_cases h : rd l i = rd m i
    · refine ev_ifp h (ev_to (ih (i + 1) (by omega) (by omega)) ?_)
      simp [h]
    · refine ev_ifn h (ev_to (Ev.now _) ?_)
      simp [h]
theorem same2_ev {l m : List Int} (hl : l.length ≤ 1099511627776) : Ev (fun k => spec_l2Same.f k l m) (decide (l = m)) := by
  unfold spec_l2Same.f
  by_cases e : l.length = m.length
  · refine ev_ifp (by omega) (ev_to (same2_l hl e l.length 0 (by omega) (by omega)) ?_)
    simp
  · refine ev_ifn (by omega) (ev_to (Ev.now _) ?_)
    simp; intro h; exact e (by rw [h])
theorem eqSgS_ev {l m : List Int} (hl : l.length ≤ 1099511627776) : Ev (fun k => spec_EqualSemigroup.f k l m) (decide (l = m)) := by
  unfold spec_EqualSemigroup.f
  exact ev_bind _ (same2_ev hl) (Ev.now _)
theorem eqSes_ev {a b c d : List Int} (ha : a.length ≤ 1099511627776) (hb : b.length ≤ 1099511627776) : ∃ r, Ev (fun k => spec_EqualSession.f k a b c d) r ∧ Ev (fun k => impl_EqualSession.f k a b c d) r := by
  unfold spec_EqualSession.f impl_EqualSession.f
  by_cases h : a = c
  · exact ⟨_, ev_bind _ (eqSgS_ev ha) (ev_ifp (by simpa using h) (ev_bind _ (eqSgS_ev hb) (Ev.now _))), ev_bind _ (eqSgI_ev ha) (ev_ifp (by simpa using h) (ev_bind _ (eqSgI_ev hb) (Ev.now _)))⟩
  · exact ⟨_, ev_bind _ (eqSgS_ev ha) (ev_ifn (by simpa using h) (Ev.now _)), ev_bind _ (eqSgI_ev ha) (ev_ifn (by simpa using h) (Ev.now _))⟩
theorem szSes {a b : List Int} {n : Int} (h0 : 0 ≤ n) (h1 : n ≤ 1048576) (ha : a.length ≤ 1152921504606846976) (hb : b.length ≤ 1152921504606846976) : (laws_szSession.f a b n = some (-1)) ∨ ((a.length : Int) ≤ n ∧ (b.length : Int) ≤ n - a.length ∧ laws_szSession.f a b n = some (n - a.length - b.length)) := by
  unfold laws_szSession.f
  by_cases c : (a.length : Int) ≤ n
  · rw [szSg_small c h1]
    simp only [Option.bind_some]
    rw [if_neg (by omega)]
    by_cases e : (b.length : Int) ≤ n - a.length
    · rw [szSg_small e (by omega)]
      simp only [Option.bind_some]
      rw [if_neg (by omega)]
      exact .inr ⟨c, e, rfl⟩
    · rw [szSg_big e (by omega) (by omega) hb]
      simp only [Option.bind_some]
      rw [if_pos (by omega)]
      exact .inl rfl
  · rw [szSg_big c h0 h1 ha]
    simp only [Option.bind_some]
    rw [if_pos (by omega)]
    exact .inl rfl
theorem toSes_ev {a b : List Int} (ha : a.length ≤ 1048576) (hb : b.length ≤ 1048576) : Ev (fun k => laws_toSession.f k a b) (a, b) := by
  unfold laws_toSession.f
  exact ev_bind _ (toSg_ev ha) (ev_bind _ (toSg_ev hb) (Ev.now _))
theorem eqSes_same {a b : List Int} (ha : a.length ≤ 1099511627776) (hb : b.length ≤ 1099511627776) : Ev (fun k => laws_eqSession.f k a b a b) true := by
  unfold laws_eqSession.f
  exact ev_bind _ (eqSg_same ha) (ev_ifp rfl (ev_bind _ (eqSg_same hb) (ev_ifp rfl (Ev.now _))))
end Go.Proofs.Ytkifakepmomgfaa.E
end
section
namespace Go.Proofs.Ytkifakepmomgfaa.Pure
open Go.RowKit Go.Proofs.Ytkifakepmomgfaa.PB Go.Proofs.Ytkifakepmomgfaa.E Go.Proofs.YtkifakepmomgfaaW.PrintWords Go.Proofs.YtkifakepmomgfaaW.PrintLast Go.Proofs.YtkifakepmomgfaaW.PrintMore
set_option linter.unusedVariables false
set_option linter.unusedSimpArgs false
theorem FnExactEqualSession (l0 l1 l2 l3 : List Int) (h0 : l0.length ≤ maxLen) (h1 : l1.length ≤ maxLen) (h2 : l2.length ≤ maxLen) (h3 : l3.length ≤ maxLen) (y0 : l0.length * 8 ≤ 140737488351232) (y1 : l1.length * 8 ≤ 140737488351232) (y2 : l2.length * 8 ≤ 140737488351232) (y3 : l3.length * 8 ≤ 140737488351232) :
    (∃ s1, laws_szSession.f l0 l1 1048576 = some s1 ∧ s1 < 0) ∨ (∃ s1 s2, laws_szSession.f l0 l1 1048576 = some s1 ∧ ¬ s1 < 0 ∧ laws_szSession.f l2 l3 s1 = some s2 ∧ s2 < 0) ∨
      ∃ k s1 s2 b, laws_szSession.f l0 l1 1048576 = some s1 ∧ ¬ s1 < 0 ∧ laws_szSession.f l2 l3 s1 = some s2 ∧ ¬ s2 < 0 ∧ laws_toSession.f k l0 l1 = some (l0, l1) ∧ laws_toSession.f k l2 l3 = some (l2, l3) ∧ spec_EqualSession.f k l0 l1 l2 l3 = some b ∧ impl_EqualSession.f k l0 l1 l2 l3 = some b ∧ laws_eqSession.f k l0 l1 l0 l1 = some true ∧ laws_eqSession.f k l2 l3 l2 l3 = some true := by
  rcases szSes (a := l0) (b := l1) (n := 1048576) (by omega) (by omega) (by omega) (by omega) with e | ⟨a0, a1, e⟩
  · exact .inl ⟨_, e, by omega⟩
  · rcases szSes (a := l2) (b := l3) (n := 1048576 - l0.length - l1.length) (by omega) (by omega) (by omega) (by omega) with f | ⟨a2, a3, f⟩
    · exact .inr (.inl ⟨_, _, e, by omega, f, by omega⟩)
    · obtain ⟨b, ⟨K1, q1⟩, ⟨K2, q2⟩⟩ := eqSes_ev (a := l0) (b := l1) (c := l2) (d := l3) (by omega) (by omega)
      obtain ⟨K3, q3⟩ := toSes_ev (a := l0) (b := l1) (by omega) (by omega)
      obtain ⟨K4, q4⟩ := toSes_ev (a := l2) (b := l3) (by omega) (by omega)
      obtain ⟨K5, q5⟩ := eqSes_same (a := l0) (b := l1) (by omega) (by omega)
      obtain ⟨K6, q6⟩ := eqSes_same (a := l2) (b := l3) (by omega) (by omega)
      exact .inr (.inr ⟨K1 + K2 + K3 + K4 + K5 + K6, _, _, b, e, by omega, f, by omega, q3 _ (by omega), q4 _ (by omega), q1 _ (by omega), q2 _ (by omega), q5 _ (by omega), q6 _ (by omega)⟩)
end Go.Proofs.Ytkifakepmomgfaa.Pure
end
section
namespace Go.Proofs.Ytkifakepmomgfaa.E
open Go.ChangeShapes Go.WideShapes Go.ChangeAt Go.RowKit Go.Deep Go.Joins
theorem nest1_ {H : Type} {enc : TypeId × Value → H} {P : Program} {w : World} {base : Nat} {spare : Nat → Bool} {held : Bool} {fuel : Nat} {t : TypeId} {f0 : Field} {c : Value} {y : DataW H × List MemPlace} (hs : P.underlying t = some (.struct #[f0])) (hone : oneCellFields P #[f0] = true) (h : DataW.trod enc P w base spare held fuel t [c] = some y) :
    ∃ (y0 : DataW H × List MemPlace) (n : Nat), y = (.agg [y0.1], y0.2) ∧ DataW.trod enc P w base spare held n f0.type [c] = some y0 := by
  obtain ⟨y0, n, hx, _, h0⟩ := trod_struct1 hs h
  obtain ⟨o0, k0⟩ := hone_of hone 0 f0 rfl
  exact ⟨y0, n, hx, by simpa [o0, k0] using h0⟩
theorem sized_agg_ {H : Type} {P : Program} {ts : List TypeId} {ds : List (DataW H)} (h : (DataW.weightsEach P ts ds).all (· ≤ reachBytes) = true) {j : Nat} {t : TypeId} {fs : Array Field} {parts : List (DataW H)} (ht : ts[j]? = some t) (hd : ds[j]? = some (.agg parts)) (hu : P.underlying t = some (.struct fs)) :
    (DataW.weightsEach P (fs.toList.map (·.type)) parts).all (· ≤ reachBytes) = true := by
  refine List.all_eq_true.2 fun n hn => List.all_eq_true.1 h n (DataW.weights_mem_each ht hd n ?_)
  simpa [DataW.weights, hu] using hn
end Go.Proofs.Ytkifakepmomgfaa.E
end
section
namespace Go.Proofs.YtkifakepmomgfaaW.PrintWords
open Go.ChangeShapes Go.WideShapes
theorem sized_ints {H : Type} {enc : TypeId × Value → H} {P : Program} {W : World} {base : Nat} {spare : Nat → Bool} {held : Bool} {t e : TypeId} {k : IntKind} {a : Option Addr} {len cap : Nat} {d : DataW H} {ps : List MemPlace} {ts : List TypeId} {ds : List (DataW H)} {j : Nat}
    (hsz : (DataW.weightsEach P ts ds).all (· ≤ reachBytes) = true) (ht : ts[j]? = some t) (hd : ds[j]? = some d) (hu : P.underlying t = some (.slice e)) (he : P.underlying e = some (.int k)) (hc : P.cellsOf e = 1) {B : Nat} (hB : P.bytesOf e = B)
    (h : DataW.Trod enc P W base spare held t (.slice a len cap) d ps) : len * B ≤ 140737488351232 := by
  obtain ⟨fuel, hf⟩ := h
  rcases open_ints hu he hc hf with ⟨hcs, _⟩ | ⟨x, l, c, zs, hcs, _, hl, _, hz, hx, _, _⟩
  · simp [Value.cells] at hcs
    obtain ⟨rfl, rfl, rfl⟩ := hcs
    simp
  · simp [Value.cells] at hcs
    obtain ⟨rfl, rfl, rfl⟩ := hcs
    obtain ⟨hx, _⟩ := Prod.mk.inj hx
    subst hx
    have z := sized_slice hsz ht hd hu
    rw [hB] at z
    have hl2 : len ≤ zs.length := by
      rw [hz]
      split
      · exact hl
      · exact Nat.le_refl _
    have h1 : (lits (H := H) k (zs.take len)).length + (lits (H := H) k (zs.drop len)).length = zs.length := by
      simp [lits]
      omega
    rw [h1] at z
    exact Nat.le_trans (Nat.mul_le_mul_right _ hl2) z
end Go.Proofs.YtkifakepmomgfaaW.PrintWords
end
