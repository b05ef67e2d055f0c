-- Bundled by shake.py from this session's printed and written texts; Lean checks it.
import Derived.Test.YthkhpejggdnkfaaZFnExactGlueOfx1
import Derived.Test.YthkhpejggdnkfaaZFnExactGlueOfx3
import Derived.Test.YthkhpejggdnkfaaZFnExactGlueOfx4
import Derived.Test.YthkhpejggdnkfaaZFnExactGlueOfx6
section
namespace Go.Proofs.Ythkhpejggdnkfaa.PA
open Go.RowKit Go.Proofs.YthkhpejggdnkfaaW.PrintWords Go.Proofs.YthkhpejggdnkfaaW.PrintLast Go.Proofs.YthkhpejggdnkfaaW.PrintMore
set_option linter.unusedVariables false
set_option linter.unusedSimpArgs false
def spec_GlueOf.j0 : Nat → Int → Int → Bool → List Int → List Int → Option (List Int × Bool)
 | 0, _, _, _, _, _ => none
 | k + 1, x2, x3, x49, x600000, x601000 => if x49 = true then (some (([] : List Int), false)) else ((spec_l22Times.f k x600000 x2).bind fun t609 => ((spec_l22Times.f k x601000 x3).bind fun t612 => (if t609.length + t612.length < 17592186044416 then ((spec_FromGens.f k (t609 ++ t612)).bind fun bt618 => (some (bt618.1, bt618.2))) else (none))))
def spec_GlueOf.f (k : Nat) (l0_0 : List Int) (l1_0 : List Int) (a2 : Int) (a3 : Int) : Option (List Int × Bool) := (spec_Contains.f k l1_0 a2).bind fun t602 => (if t602 = true then ((spec_Contains.f k l0_0 a3).bind fun t603 => (if t603 = true then ((spec_HasNumber.f k l1_0 a2).bind fun t604 => (if t604 = true then (spec_GlueOf.j0 k a2 a3 true l0_0 l1_0) else ((spec_HasNumber.f k l0_0 a3).bind fun t605 => (if t605 = true then (spec_GlueOf.j0 k a2 a3 true l0_0 l1_0) else ((spec_l1In.f a2 1 60).bind fun t606 => (if t606 = true then ((spec_l1In.f a3 1 60).bind fun t607 => (if t607 = true then ((spec_GcdOf.f k a2 a3).bind fun t608 => (spec_GlueOf.j0 k a2 a3 (t608 != 1) l0_0 l1_0)) else (spec_GlueOf.j0 k a2 a3 true l0_0 l1_0))) else (spec_GlueOf.j0 k a2 a3 true l0_0 l1_0))))))) else (spec_GlueOf.j0 k a2 a3 true l0_0 l1_0))) else (spec_GlueOf.j0 k a2 a3 true l0_0 l1_0))
def spec_GlueOf.T3 : Bool × List (List Nat × List Nat) := (true, [([], []), ([0], [0]), ([], []), ([1, 2], [1, 2]), ([], []), ([4], [4]), ([], []), ([5, 6, 3], [5, 6]), ([3, 7, 7], [3, 7]), ([8, 8], [8]), ([9], [9]), ([10], [10]), ([10], [10]), ([], []), ([13, 11, 9, 0, 1, 2, 3, 4, 5, 6, 7, 8, 9, 10, 11, 13], [11, 13]), ([12, 14, 0, 1, 2, 3, 4, 5, 6, 7, 8, 9, 10, 11, 12, 13, 14], [12])])
def spec_GlueOf.B3 : List Nat := [0, 1, 0, 7, 0, 16, 0, 127, 255, 511, 1023, 2047, 2047, 0, 12287, 32767]
theorem spec_GlueOf.tab3 : rtab .any (opsOf Try.f32 3) = spec_GlueOf.T3 := by kernel_rfl
theorem spec_GlueOf.bits3 : waitsOk spec_GlueOf.T3.2 spec_GlueOf.B3 = true := by kernel_rfl
set_option maxHeartbeats 8000000 in
set_option maxRecDepth 100000 in
theorem spec_GlueOf.calls (k : Nat) (A0_0 : Option Addr) (c0_0 : Nat) (l0_0 : List Int) (A1_0 : Option Addr) (c1_0 : Nat) (l1_0 : List Int) (a2 : Int) (a3 : Int) (r1 : List Int) (r2 : Bool) (w : World) (hr0_0 : Kd.C (Kd.int .i64) w A0_0 l0_0.length l0_0) (hc0_0 : l0_0.length ≤ c0_0) (hr1_0 : Kd.C (Kd.int .i64) w A1_0 l1_0.length l1_0) (hc1_0 : l1_0.length ≤ c1_0) (h : spec_GlueOf.f k l0_0 l1_0 a2 a3 = some (r1, r2)) :
 Calls Try.prog 32 #[.agg #[.slice A0_0 l0_0.length c0_0], .agg #[.slice A1_0 l1_0.length c1_0], .int .i64 a2, .int .i64 a3] w fun e w' => ∃ v0_ : Value, e = .returned (.tuple #[.agg #[v0_], .bool r2]) ∧ Kd.R (Kd.int .i64) 3 w' w.heap.size (fun _ => True) v0_ r1 ∧ Below w.heap.size w w' := by
 have hu44 := Try.underlying44
 have HR0_0 := Aside0.mk hr0_0
 have HC0_0 := Aside0.mk hc0_0
 clear hr0_0 hc0_0
 have HR1_0 := Aside0.mk hr1_0
 have HC1_0 := Aside0.mk hc1_0
 clear hr1_0 hc1_0
 have HB := Aside0.mk (Below.refl w.heap.size w)
 have H : ((spec_Contains.f k l1_0 a2).bind fun t602 => (if t602 = true then ((spec_Contains.f k l0_0 a3).bind fun t603 => (if t603 = true then ((spec_HasNumber.f k l1_0 a2).bind fun t604 => (if t604 = true then (spec_GlueOf.j0 k a2 a3 true l0_0 l1_0) else ((spec_HasNumber.f k l0_0 a3).bind fun t605 => (if t605 = true then (spec_GlueOf.j0 k a2 a3 true l0_0 l1_0) else ((spec_l1In.f a2 1 60).bind fun t606 => (if t606 = true then ((spec_l1In.f a3 1 60).bind fun t607 => (if t607 = true then ((spec_GcdOf.f k a2 a3).bind fun t608 => (spec_GlueOf.j0 k a2 a3 (t608 != 1) l0_0 l1_0)) else (spec_GlueOf.j0 k a2 a3 true l0_0 l1_0))) else (spec_GlueOf.j0 k a2 a3 true l0_0 l1_0))))))) else (spec_GlueOf.j0 k a2 a3 true l0_0 l1_0))) else (spec_GlueOf.j0 k a2 a3 true l0_0 l1_0))) = some (r1, r2) := h
 clear h
 have HC5 := Aside0.mk H
 clear H
 go_enter Try.func32, Try.ntmps32
 go_upto_region 1 with (first | ((with_reducible refine gate_dst (N := 4) rfl ?_); refine box_event ?hg (N := 4) ?hd (cs := #[.slice A0_0 l0_0.length c0_0]) (t := 44) ?hr ?_; (case hd => rfl); (case hg => rfl); (case hr => first | (go_simp; done) | (go_simp; rfl)); intro gb599 hg w6 hbox hb; have n0_ := Aside0.mk (below_step (bl_ HB.out) hb); have n1_ := Aside0.mk (hbox); have n2_ := Aside0.mk ((by rw [hg]; exact (below_size (bl_ HB.out)) : w.heap.size ≤ gb599)); have n3_ := Aside0.mk ((by rw [hg]; exact (below_size (bl_ HB.out)) : w.heap.size ≤ gb599)); clear HB; have HB := n0_; have BK599 := n1_; have GW599 := n2_; have GE599 := n3_; clear n0_ n1_ n2_ n3_; clear hb hbox hg) | ((with_reducible refine gate_dst (N := 5) rfl ?_); refine box_event ?hg (N := 5) ?hd (cs := #[.slice A1_0 l1_0.length c1_0]) (t := 44) ?hr ?_; (case hd => rfl); (case hg => rfl); (case hr => first | (go_simp; done) | (go_simp; rfl)); intro gb600 hg w7 hbox hb; have n0_ := Aside0.mk (blk_below (g := gb599) (o := .cells #[.slice A0_0 l0_0.length c0_0] 44 (0, 0)) (be_ BK599.out) hb); have n1_ := Aside0.mk (below_step (by repeat (first | (with_reducible first | exact HB.out | apply below_alloc | apply pw_below_drewN | apply below_drew1 | refine below_set ?_ GE599.out) | exact HB.out)) hb); have n2_ := Aside0.mk (hbox); have n3_ := Aside0.mk ((by rw [hg]; exact (below_size (by repeat (first | (with_reducible first | exact HB.out | apply below_alloc | apply pw_below_drewN | apply below_drew1 | refine below_set ?_ GE599.out) | exact HB.out))) : w.heap.size ≤ gb600)); have n4_ := Aside0.mk ((by rw [hg]; exact (below_size (by repeat (first | (with_reducible first | exact HB.out | apply below_alloc | apply pw_below_drewN | apply below_drew1 | refine below_set ?_ GE599.out) | exact HB.out))) : w.heap.size ≤ gb600)); have n5_ := Aside0.mk ((by rw [hg]; exact Nat.ne_of_lt (blk_lt (g := gb599) (o := .cells #[.slice A0_0 l0_0.length c0_0] 44 (0, 0)) (be_ BK599.out)) : gb599 ≠ gb600)); have n6_ := Aside0.mk ((by rw [hg]; exact Nat.ne_of_gt (blk_lt (g := gb599) (o := .cells #[.slice A0_0 l0_0.length c0_0] 44 (0, 0)) (be_ BK599.out)) : gb600 ≠ gb599)); clear BK599; clear HB; have BK599 := n0_; have HB := n1_; have BK600 := n2_; have GW600 := n3_; have GE600 := n4_; have NB599_600 := n5_; have NB600_599 := n6_; clear n0_ n1_ n2_ n3_ n4_ n5_ n6_; clear hb hbox hg) | ((with_reducible refine gate_dst (N := 8) rfl ?_); refine box_event ?hg (N := 8) ?hd (cs := #[.slice none 0 0]) (t := 44) ?hr ?_; (case hd => rfl); (case hg => rfl); (case hr => first | (go_simp; done) | (go_simp; rfl)); intro gb601 hg w8 hbox hb; have n0_ := Aside0.mk (blk_below (g := gb599) (o := .cells #[.slice A0_0 l0_0.length c0_0] 44 (0, 0)) (be_ BK599.out) hb); have n1_ := Aside0.mk (blk_below (g := gb600) (o := .cells #[.slice A1_0 l1_0.length c1_0] 44 (0, 0)) (be_ BK600.out) hb); have n2_ := Aside0.mk (below_step (by repeat (first | (with_reducible first | exact HB.out | apply below_alloc | apply pw_below_drewN | apply below_drew1 | refine below_set ?_ GE599.out | refine below_set ?_ GE600.out) | exact HB.out)) hb); have n3_ := Aside0.mk (hbox); have n4_ := Aside0.mk ((by rw [hg]; exact (below_size (by repeat (first | (with_reducible first | exact HB.out | apply below_alloc | apply pw_below_drewN | apply below_drew1 | refine below_set ?_ GE599.out | refine below_set ?_ GE600.out) | exact HB.out))) : w.heap.size ≤ gb601)); have n5_ := Aside0.mk ((by rw [hg]; exact (below_size (by repeat (first | (with_reducible first | exact HB.out | apply below_alloc | apply pw_below_drewN | apply below_drew1 | refine below_set ?_ GE599.out | refine below_set ?_ GE600.out) | exact HB.out))) : w.heap.size ≤ gb601)); have n6_ := Aside0.mk ((by rw [hg]; exact Nat.ne_of_lt (blk_lt (g := gb599) (o := .cells #[.slice A0_0 l0_0.length c0_0] 44 (0, 0)) (be_ BK599.out)) : gb599 ≠ gb601)); have n7_ := Aside0.mk ((by rw [hg]; exact Nat.ne_of_gt (blk_lt (g := gb599) (o := .cells #[.slice A0_0 l0_0.length c0_0] 44 (0, 0)) (be_ BK599.out)) : gb601 ≠ gb599)); have n8_ := Aside0.mk ((by rw [hg]; exact Nat.ne_of_lt (blk_lt (g := gb600) (o := .cells #[.slice A1_0 l1_0.length c1_0] 44 (0, 0)) (be_ BK600.out)) : gb600 ≠ gb601)); have n9_ := Aside0.mk ((by rw [hg]; exact Nat.ne_of_gt (blk_lt (g := gb600) (o := .cells #[.slice A1_0 l1_0.length c1_0] 44 (0, 0)) (be_ BK600.out)) : gb601 ≠ gb600)); clear BK599; clear BK600; clear HB; have BK599 := n0_; have BK600 := n1_; have HB := n2_; have BK601 := n3_; have GW601 := n4_; have GE601 := n5_; have NB599_601 := n6_; have NB601_599 := n7_; have NB600_601 := n8_; have NB601_600 := n9_; clear n0_ n1_ n2_ n3_ n4_ n5_ n6_ n7_ n8_ n9_; clear hb hbox hg))
 (try simp only [Act.put, z1_, z2_, z3_])
 go_cut [49] (fun v49 wc => ∃ (kq : Nat) (x49_4 : Bool), v49 = .bool x49_4 ∧ Aside0 (spec_GlueOf.j0 kq a2 a3 x49_4 l0_0 l1_0 = some (r1, r2)) ∧ Aside0 (kq ≤ k) ∧ Aside0 (wc.heap[gb599]? = some (.cells #[(.slice A0_0 l0_0.length c0_0)] 44 (0, 0))) ∧ Aside0 (wc.heap[gb600]? = some (.cells #[(.slice A1_0 l1_0.length c1_0)] 44 (0, 0))) ∧ Aside0 (wc.heap[gb601]? = some (.cells #[(.slice none 0 0)] 44 (0, 0))) ∧ Aside0 (Below w.heap.size w wc))
 case first =>
  have H := HC5.out
  clear HC5
  replace H := Option.bind_eq_some_iff.mp H
  obtain ⟨t602, A90, H⟩ := H
  replace H : (if t602 = true then ((spec_Contains.f k l0_0 a3).bind fun t603 => (if t603 = true then ((spec_HasNumber.f k l1_0 a2).bind fun t604 => (if t604 = true then (spec_GlueOf.j0 k a2 a3 true l0_0 l1_0) else ((spec_HasNumber.f k l0_0 a3).bind fun t605 => (if t605 = true then (spec_GlueOf.j0 k a2 a3 true l0_0 l1_0) else ((spec_l1In.f a2 1 60).bind fun t606 => (if t606 = true then ((spec_l1In.f a3 1 60).bind fun t607 => (if t607 = true then ((spec_GcdOf.f k a2 a3).bind fun t608 => (spec_GlueOf.j0 k a2 a3 (t608 != 1) l0_0 l1_0)) else (spec_GlueOf.j0 k a2 a3 true l0_0 l1_0))) else (spec_GlueOf.j0 k a2 a3 true l0_0 l1_0))))))) else (spec_GlueOf.j0 k a2 a3 true l0_0 l1_0))) else (spec_GlueOf.j0 k a2 a3 true l0_0 l1_0)) = some (r1, r2) := H
  have A9 := Aside0.mk A90
  clear A90
  by_cases c10 : t602 = true
  · subst c10
    have H1 : ((spec_Contains.f k l0_0 a3).bind fun t603 => (if t603 = true then ((spec_HasNumber.f k l1_0 a2).bind fun t604 => (if t604 = true then (spec_GlueOf.j0 k a2 a3 true l0_0 l1_0) else ((spec_HasNumber.f k l0_0 a3).bind fun t605 => (if t605 = true then (spec_GlueOf.j0 k a2 a3 true l0_0 l1_0) else ((spec_l1In.f a2 1 60).bind fun t606 => (if t606 = true then ((spec_l1In.f a3 1 60).bind fun t607 => (if t607 = true then ((spec_GcdOf.f k a2 a3).bind fun t608 => (spec_GlueOf.j0 k a2 a3 (t608 != 1) l0_0 l1_0)) else (spec_GlueOf.j0 k a2 a3 true l0_0 l1_0))) else (spec_GlueOf.j0 k a2 a3 true l0_0 l1_0))))))) else (spec_GlueOf.j0 k a2 a3 true l0_0 l1_0))) = some (r1, r2) := by rw [if_pos rfl] at H; exact H
    clear H
    have H := H1
    clear H1
    replace H := Option.bind_eq_some_iff.mp H
    obtain ⟨t603, A110, H⟩ := H
    replace H : (if t603 = true then ((spec_HasNumber.f k l1_0 a2).bind fun t604 => (if t604 = true then (spec_GlueOf.j0 k a2 a3 true l0_0 l1_0) else ((spec_HasNumber.f k l0_0 a3).bind fun t605 => (if t605 = true then (spec_GlueOf.j0 k a2 a3 true l0_0 l1_0) else ((spec_l1In.f a2 1 60).bind fun t606 => (if t606 = true then ((spec_l1In.f a3 1 60).bind fun t607 => (if t607 = true then ((spec_GcdOf.f k a2 a3).bind fun t608 => (spec_GlueOf.j0 k a2 a3 (t608 != 1) l0_0 l1_0)) else (spec_GlueOf.j0 k a2 a3 true l0_0 l1_0))) else (spec_GlueOf.j0 k a2 a3 true l0_0 l1_0))))))) else (spec_GlueOf.j0 k a2 a3 true l0_0 l1_0)) = some (r1, r2) := H
    have A11 := Aside0.mk A110
    clear A110
    by_cases c12 : t603 = true
    · subst c12
      have H1 : ((spec_HasNumber.f k l1_0 a2).bind fun t604 => (if t604 = true then (spec_GlueOf.j0 k a2 a3 true l0_0 l1_0) else ((spec_HasNumber.f k l0_0 a3).bind fun t605 => (if t605 = true then (spec_GlueOf.j0 k a2 a3 true l0_0 l1_0) else ((spec_l1In.f a2 1 60).bind fun t606 => (if t606 = true then ((spec_l1In.f a3 1 60).bind fun t607 => (if t607 = true then ((spec_GcdOf.f k a2 a3).bind fun t608 => (spec_GlueOf.j0 k a2 a3 (t608 != 1) l0_0 l1_0)) else (spec_GlueOf.j0 k a2 a3 true l0_0 l1_0))) else (spec_GlueOf.j0 k a2 a3 true l0_0 l1_0))))))) = some (r1, r2) := by rw [if_pos rfl] at H; exact H
      clear H
      have H := H1
      clear H1
      replace H := Option.bind_eq_some_iff.mp H
      obtain ⟨t604, A130, H⟩ := H
      replace H : (if t604 = true then (spec_GlueOf.j0 k a2 a3 true l0_0 l1_0) else ((spec_HasNumber.f k l0_0 a3).bind fun t605 => (if t605 = true then (spec_GlueOf.j0 k a2 a3 true l0_0 l1_0) else ((spec_l1In.f a2 1 60).bind fun t606 => (if t606 = true then ((spec_l1In.f a3 1 60).bind fun t607 => (if t607 = true then ((spec_GcdOf.f k a2 a3).bind fun t608 => (spec_GlueOf.j0 k a2 a3 (t608 != 1) l0_0 l1_0)) else (spec_GlueOf.j0 k a2 a3 true l0_0 l1_0))) else (spec_GlueOf.j0 k a2 a3 true l0_0 l1_0)))))) = some (r1, r2) := H
      have A13 := Aside0.mk A130
      clear A130
      by_cases c14 : t604 = true
      · subst c14
        have H1 : (spec_GlueOf.j0 k a2 a3 true l0_0 l1_0) = some (r1, r2) := by rw [if_pos rfl] at H; exact H
        clear H
        have H := H1
        clear H1
        as_aux_lemma =>
         have H' := Aside0.mk H
         clear H
         have hnb15 := NB600_599.out
         have hnc15 := NB599_600.out
         have hnb16 := NB600_601.out
         have hnc16 := NB601_600.out
         have hcz17_0 : w8.cell? ⟨gb600, 0, none⟩ = some (.slice A1_0 l1_0.length c1_0) := (blk_cell BK600.out 0).trans rfl
         have hfz17_0 := blk_frozen BK600.out 0
         go_wp2_with (first | ((with_reducible refine gate_callee (f := 59) rfl ?_); refine goesL_ (some 14) rfl rfl Try.func59 (by kernel_rfl) rfl #[.agg #[.slice A1_0 l1_0.length c1_0], .int .i64 a2] rfl (by (try simp only [List.map_toArray, List.map_cons, List.map_nil]); first | done | rfl | (simp only [List.length_drop, List.length_take]; rfl)) ?_; (with_reducible refine (spec_Contains.calls k _ _ l1_0 a2 true _ ?side1 ?side2 A9.out).mono ?_); (case side1 => exact ce_ ((Kd.C_below HR1_0.out HB.out))); (case side2 => exact HC1_0.out); rintro e w18 ⟨rfl, hb⟩; refine ⟨_, rfl, ?_⟩; have n0_ := Aside0.mk (blk_below (g := gb599) (o := .cells #[.slice A0_0 l0_0.length c0_0] 44 (0, 0)) (be_ BK599.out) hb); have n1_ := Aside0.mk (blk_below (g := gb600) (o := .cells #[.slice A1_0 l1_0.length c1_0] 44 (0, 0)) (be_ BK600.out) hb); have n2_ := Aside0.mk (blk_below (g := gb601) (o := .cells #[.slice none 0 0] 44 (0, 0)) (be_ BK601.out) hb); have n3_ := Aside0.mk (below_step (by repeat (first | (with_reducible first | exact HB.out | apply below_alloc | apply pw_below_drewN | apply below_drew1 | refine below_set ?_ GE599.out | refine below_set ?_ GE600.out | refine below_set ?_ GE601.out) | exact HB.out)) hb); clear BK599; clear BK600; clear BK601; clear HB; have BK599 := n0_; have BK600 := n1_; have BK601 := n2_; have HB := n3_; clear n0_ n1_ n2_ n3_; (try clear hb); (try clear hb2); (try clear hk); (try clear hi); have hnb19 := NB599_601.out; have hnc19 := NB601_599.out; have hcz20_0 : w18.cell? ⟨gb599, 0, none⟩ = some (.slice A0_0 l0_0.length c0_0) := (blk_cell BK599.out 0).trans rfl; have hfz20_0 := blk_frozen BK599.out 0) | (go_at_call 59; (with_reducible refine (spec_Contains.calls k _ _ l0_0 a3 true _ ?side1 ?side2 A11.out).mono ?_); (case side1 => exact ce_ ((Kd.C_below HR0_0.out HB.out))); (case side2 => exact HC0_0.out); rintro e w21 ⟨rfl, hb⟩; have n0_ := Aside0.mk (blk_below (g := gb599) (o := .cells #[.slice A0_0 l0_0.length c0_0] 44 (0, 0)) (be_ BK599.out) hb); have n1_ := Aside0.mk (blk_below (g := gb600) (o := .cells #[.slice A1_0 l1_0.length c1_0] 44 (0, 0)) (be_ BK600.out) hb); have n2_ := Aside0.mk (blk_below (g := gb601) (o := .cells #[.slice none 0 0] 44 (0, 0)) (be_ BK601.out) hb); have n3_ := Aside0.mk (below_step (by repeat (first | (with_reducible first | exact HB.out | apply below_alloc | apply pw_below_drewN | apply below_drew1 | refine below_set ?_ GE599.out | refine below_set ?_ GE600.out | refine below_set ?_ GE601.out) | exact HB.out)) hb); clear BK599; clear BK600; clear BK601; clear HB; have BK599 := n0_; have BK600 := n1_; have BK601 := n2_; have HB := n3_; clear n0_ n1_ n2_ n3_; (try clear hb); (try clear hb2); (try clear hk); (try clear hi); have hcz22_0 : w21.cell? ⟨gb600, 0, none⟩ = some (.slice A1_0 l1_0.length c1_0) := (blk_cell BK600.out 0).trans rfl; have hfz22_0 := blk_frozen BK600.out 0) | (go_at_call 60; (with_reducible refine (spec_HasNumber.calls k _ _ l1_0 a2 true _ ?side1 ?side2 A13.out).mono ?_); (case side1 => exact ce_ ((Kd.C_below HR1_0.out HB.out))); (case side2 => exact HC1_0.out); rintro e w' ⟨rfl, ⟨nd, rfl⟩⟩))
         go_meet
         case rel => exact ⟨_, (true), (by first | rfl | (simp; done) | (simp [*]; done)), H', ⟨by first | omega | exact Nat.le_refl _⟩, ⟨be_ BK599.out⟩, ⟨be_ BK600.out⟩, ⟨be_ BK601.out⟩, ⟨by repeat (first | (with_reducible first | exact HB.out | apply below_alloc | apply pw_below_drewN | apply below_drew1 | refine below_set ?_ GE599.out | refine below_set ?_ GE600.out | refine below_set ?_ GE601.out) | exact HB.out)⟩⟩
      · replace c14 := Bool.eq_false_iff.mpr c14
        subst c14
        have H1 : ((spec_HasNumber.f k l0_0 a3).bind fun t605 => (if t605 = true then (spec_GlueOf.j0 k a2 a3 true l0_0 l1_0) else ((spec_l1In.f a2 1 60).bind fun t606 => (if t606 = true then ((spec_l1In.f a3 1 60).bind fun t607 => (if t607 = true then ((spec_GcdOf.f k a2 a3).bind fun t608 => (spec_GlueOf.j0 k a2 a3 (t608 != 1) l0_0 l1_0)) else (spec_GlueOf.j0 k a2 a3 true l0_0 l1_0))) else (spec_GlueOf.j0 k a2 a3 true l0_0 l1_0))))) = some (r1, r2) := by rw [if_neg (show ¬ (false = true) by decide)] at H; exact H
        clear H
        have H := H1
        clear H1
        replace H := Option.bind_eq_some_iff.mp H
        obtain ⟨t605, A230, H⟩ := H
        replace H : (if t605 = true then (spec_GlueOf.j0 k a2 a3 true l0_0 l1_0) else ((spec_l1In.f a2 1 60).bind fun t606 => (if t606 = true then ((spec_l1In.f a3 1 60).bind fun t607 => (if t607 = true then ((spec_GcdOf.f k a2 a3).bind fun t608 => (spec_GlueOf.j0 k a2 a3 (t608 != 1) l0_0 l1_0)) else (spec_GlueOf.j0 k a2 a3 true l0_0 l1_0))) else (spec_GlueOf.j0 k a2 a3 true l0_0 l1_0)))) = some (r1, r2) := H
        have A23 := Aside0.mk A230
        clear A230
        by_cases c24 : t605 = true
        · subst c24
          have H1 : (spec_GlueOf.j0 k a2 a3 true l0_0 l1_0) = some (r1, r2) := by rw [if_pos rfl] at H; exact H
          clear H
          have H := H1
          clear H1
          as_aux_lemma =>
           have H' := Aside0.mk H
           clear H
           have hnb25 := NB600_599.out
           have hnc25 := NB599_600.out
           have hnb26 := NB600_601.out
           have hnc26 := NB601_600.out
           have hcz27_0 : w8.cell? ⟨gb600, 0, none⟩ = some (.slice A1_0 l1_0.length c1_0) := (blk_cell BK600.out 0).trans rfl
           have hfz27_0 := blk_frozen BK600.out 0
           go_wp2_with (first | ((with_reducible refine gate_callee (f := 59) rfl ?_); refine goesL_ (some 14) rfl rfl Try.func59 (by kernel_rfl) rfl #[.agg #[.slice A1_0 l1_0.length c1_0], .int .i64 a2] rfl (by (try simp only [List.map_toArray, List.map_cons, List.map_nil]); first | done | rfl | (simp only [List.length_drop, List.length_take]; rfl)) ?_; (with_reducible refine (spec_Contains.calls k _ _ l1_0 a2 true _ ?side1 ?side2 A9.out).mono ?_); (case side1 => exact ce_ ((Kd.C_below HR1_0.out HB.out))); (case side2 => exact HC1_0.out); rintro e w28 ⟨rfl, hb⟩; refine ⟨_, rfl, ?_⟩; have n0_ := Aside0.mk (blk_below (g := gb599) (o := .cells #[.slice A0_0 l0_0.length c0_0] 44 (0, 0)) (be_ BK599.out) hb); have n1_ := Aside0.mk (blk_below (g := gb600) (o := .cells #[.slice A1_0 l1_0.length c1_0] 44 (0, 0)) (be_ BK600.out) hb); have n2_ := Aside0.mk (blk_below (g := gb601) (o := .cells #[.slice none 0 0] 44 (0, 0)) (be_ BK601.out) hb); have n3_ := Aside0.mk (below_step (by repeat (first | (with_reducible first | exact HB.out | apply below_alloc | apply pw_below_drewN | apply below_drew1 | refine below_set ?_ GE599.out | refine below_set ?_ GE600.out | refine below_set ?_ GE601.out) | exact HB.out)) hb); clear BK599; clear BK600; clear BK601; clear HB; have BK599 := n0_; have BK600 := n1_; have BK601 := n2_; have HB := n3_; clear n0_ n1_ n2_ n3_; (try clear hb); (try clear hb2); (try clear hk); (try clear hi); have hnb29 := NB599_601.out; have hnc29 := NB601_599.out; have hcz30_0 : w28.cell? ⟨gb599, 0, none⟩ = some (.slice A0_0 l0_0.length c0_0) := (blk_cell BK599.out 0).trans rfl; have hfz30_0 := blk_frozen BK599.out 0) | (go_at_call 59; (with_reducible refine (spec_Contains.calls k _ _ l0_0 a3 true _ ?side1 ?side2 A11.out).mono ?_); (case side1 => exact ce_ ((Kd.C_below HR0_0.out HB.out))); (case side2 => exact HC0_0.out); rintro e w31 ⟨rfl, hb⟩; have n0_ := Aside0.mk (blk_below (g := gb599) (o := .cells #[.slice A0_0 l0_0.length c0_0] 44 (0, 0)) (be_ BK599.out) hb); have n1_ := Aside0.mk (blk_below (g := gb600) (o := .cells #[.slice A1_0 l1_0.length c1_0] 44 (0, 0)) (be_ BK600.out) hb); have n2_ := Aside0.mk (blk_below (g := gb601) (o := .cells #[.slice none 0 0] 44 (0, 0)) (be_ BK601.out) hb); have n3_ := Aside0.mk (below_step (by repeat (first | (with_reducible first | exact HB.out | apply below_alloc | apply pw_below_drewN | apply below_drew1 | refine below_set ?_ GE599.out | refine below_set ?_ GE600.out | refine below_set ?_ GE601.out) | exact HB.out)) hb); clear BK599; clear BK600; clear BK601; clear HB; have BK599 := n0_; have BK600 := n1_; have BK601 := n2_; have HB := n3_; clear n0_ n1_ n2_ n3_; (try clear hb); (try clear hb2); (try clear hk); (try clear hi); have hcz32_0 : w31.cell? ⟨gb600, 0, none⟩ = some (.slice A1_0 l1_0.length c1_0) := (blk_cell BK600.out 0).trans rfl; have hfz32_0 := blk_frozen BK600.out 0) | (go_at_call 60; (with_reducible refine (spec_HasNumber.calls k _ _ l1_0 a2 false _ ?side1 ?side2 A13.out).mono ?_); (case side1 => exact ce_ ((Kd.C_below HR1_0.out HB.out))); (case side2 => exact HC1_0.out); rintro e w' ⟨rfl, ⟨nd, rfl⟩⟩; have hcz33_0 : w31.cell? ⟨gb599, 0, none⟩ = some (.slice A0_0 l0_0.length c0_0) := (blk_cell BK599.out 0).trans rfl; have hfz33_0 := blk_frozen BK599.out 0) | (go_at_call 60; (with_reducible refine (spec_HasNumber.calls k _ _ l0_0 a3 true _ ?side1 ?side2 A23.out).mono ?_); (case side1 => repeat (first | exact (Kd.C_below HR0_0.out (by repeat (first | (with_reducible first | exact HB.out | apply below_alloc | apply pw_below_drewN | apply below_drew1 | refine below_set ?_ GE599.out | refine below_set ?_ GE600.out | refine below_set ?_ GE601.out) | exact HB.out))) | (with_reducible refine Kd.C_alloc ?_ _) | (with_reducible refine Kd.C_drewN ?_ _) | (with_reducible refine Kd.C_drew ?_))); (case side2 => exact HC0_0.out); rintro e w' ⟨rfl, ⟨nd, rfl⟩⟩))
           go_meet
           case rel => exact ⟨_, (true), (by first | rfl | (simp; done) | (simp [*]; done)), H', ⟨by first | omega | exact Nat.le_refl _⟩, ⟨be_ BK599.out⟩, ⟨be_ BK600.out⟩, ⟨be_ BK601.out⟩, ⟨by repeat (first | (with_reducible first | exact HB.out | apply below_alloc | apply pw_below_drewN | apply below_drew1 | refine below_set ?_ GE599.out | refine below_set ?_ GE600.out | refine below_set ?_ GE601.out) | exact HB.out)⟩⟩
        · replace c24 := Bool.eq_false_iff.mpr c24
          subst c24
          have H1 : ((spec_l1In.f a2 1 60).bind fun t606 => (if t606 = true then ((spec_l1In.f a3 1 60).bind fun t607 => (if t607 = true then ((spec_GcdOf.f k a2 a3).bind fun t608 => (spec_GlueOf.j0 k a2 a3 (t608 != 1) l0_0 l1_0)) else (spec_GlueOf.j0 k a2 a3 true l0_0 l1_0))) else (spec_GlueOf.j0 k a2 a3 true l0_0 l1_0))) = some (r1, r2) := by rw [if_neg (show ¬ (false = true) by decide)] at H; exact H
          clear H
          have H := H1
          clear H1
          replace H := Option.bind_eq_some_iff.mp H
          obtain ⟨t606, A340, H⟩ := H
          replace H : (if t606 = true then ((spec_l1In.f a3 1 60).bind fun t607 => (if t607 = true then ((spec_GcdOf.f k a2 a3).bind fun t608 => (spec_GlueOf.j0 k a2 a3 (t608 != 1) l0_0 l1_0)) else (spec_GlueOf.j0 k a2 a3 true l0_0 l1_0))) else (spec_GlueOf.j0 k a2 a3 true l0_0 l1_0)) = some (r1, r2) := H
          have A34 := Aside0.mk A340
          clear A340
          by_cases c35 : t606 = true
          · subst c35
            have H1 : ((spec_l1In.f a3 1 60).bind fun t607 => (if t607 = true then ((spec_GcdOf.f k a2 a3).bind fun t608 => (spec_GlueOf.j0 k a2 a3 (t608 != 1) l0_0 l1_0)) else (spec_GlueOf.j0 k a2 a3 true l0_0 l1_0))) = some (r1, r2) := by rw [if_pos rfl] at H; exact H
            clear H
            have H := H1
            clear H1
            replace H := Option.bind_eq_some_iff.mp H
            obtain ⟨t607, A360, H⟩ := H
            replace H : (if t607 = true then ((spec_GcdOf.f k a2 a3).bind fun t608 => (spec_GlueOf.j0 k a2 a3 (t608 != 1) l0_0 l1_0)) else (spec_GlueOf.j0 k a2 a3 true l0_0 l1_0)) = some (r1, r2) := H
            have A36 := Aside0.mk A360
            clear A360
            by_cases c37 : t607 = true
            · subst c37
              have H1 : ((spec_GcdOf.f k a2 a3).bind fun t608 => (spec_GlueOf.j0 k a2 a3 (t608 != 1) l0_0 l1_0)) = some (r1, r2) := by rw [if_pos rfl] at H; exact H
              clear H
              have H := H1
              clear H1
              replace H := Option.bind_eq_some_iff.mp H
              obtain ⟨t608, A380, H⟩ := H
              replace H : (spec_GlueOf.j0 k a2 a3 (t608 != 1) l0_0 l1_0) = some (r1, r2) := H
              have A38 := Aside0.mk A380
              clear A380
              as_aux_lemma =>
               have H' := Aside0.mk H
               clear H
               have hnb39 := NB600_599.out
               have hnc39 := NB599_600.out
               have hnb40 := NB600_601.out
               have hnc40 := NB601_600.out
               have hcz41_0 : w8.cell? ⟨gb600, 0, none⟩ = some (.slice A1_0 l1_0.length c1_0) := (blk_cell BK600.out 0).trans rfl
               have hfz41_0 := blk_frozen BK600.out 0
               go_wp2_with (first | ((with_reducible refine gate_callee (f := 59) rfl ?_); refine goesL_ (some 14) rfl rfl Try.func59 (by kernel_rfl) rfl #[.agg #[.slice A1_0 l1_0.length c1_0], .int .i64 a2] rfl (by (try simp only [List.map_toArray, List.map_cons, List.map_nil]); first | done | rfl | (simp only [List.length_drop, List.length_take]; rfl)) ?_; (with_reducible refine (spec_Contains.calls k _ _ l1_0 a2 true _ ?side1 ?side2 A9.out).mono ?_); (case side1 => exact ce_ ((Kd.C_below HR1_0.out HB.out))); (case side2 => exact HC1_0.out); rintro e w42 ⟨rfl, hb⟩; refine ⟨_, rfl, ?_⟩; have n0_ := Aside0.mk (blk_below (g := gb599) (o := .cells #[.slice A0_0 l0_0.length c0_0] 44 (0, 0)) (be_ BK599.out) hb); have n1_ := Aside0.mk (blk_below (g := gb600) (o := .cells #[.slice A1_0 l1_0.length c1_0] 44 (0, 0)) (be_ BK600.out) hb); have n2_ := Aside0.mk (blk_below (g := gb601) (o := .cells #[.slice none 0 0] 44 (0, 0)) (be_ BK601.out) hb); have n3_ := Aside0.mk (below_step (by repeat (first | (with_reducible first | exact HB.out | apply below_alloc | apply pw_below_drewN | apply below_drew1 | refine below_set ?_ GE599.out | refine below_set ?_ GE600.out | refine below_set ?_ GE601.out) | exact HB.out)) hb); clear BK599; clear BK600; clear BK601; clear HB; have BK599 := n0_; have BK600 := n1_; have BK601 := n2_; have HB := n3_; clear n0_ n1_ n2_ n3_; (try clear hb); (try clear hb2); (try clear hk); (try clear hi); have hnb43 := NB599_601.out; have hnc43 := NB601_599.out; have hcz44_0 : w42.cell? ⟨gb599, 0, none⟩ = some (.slice A0_0 l0_0.length c0_0) := (blk_cell BK599.out 0).trans rfl; have hfz44_0 := blk_frozen BK599.out 0) | (go_at_call 59; (with_reducible refine (spec_Contains.calls k _ _ l0_0 a3 true _ ?side1 ?side2 A11.out).mono ?_); (case side1 => exact ce_ ((Kd.C_below HR0_0.out HB.out))); (case side2 => exact HC0_0.out); rintro e w45 ⟨rfl, hb⟩; have n0_ := Aside0.mk (blk_below (g := gb599) (o := .cells #[.slice A0_0 l0_0.length c0_0] 44 (0, 0)) (be_ BK599.out) hb); have n1_ := Aside0.mk (blk_below (g := gb600) (o := .cells #[.slice A1_0 l1_0.length c1_0] 44 (0, 0)) (be_ BK600.out) hb); have n2_ := Aside0.mk (blk_below (g := gb601) (o := .cells #[.slice none 0 0] 44 (0, 0)) (be_ BK601.out) hb); have n3_ := Aside0.mk (below_step (by repeat (first | (with_reducible first | exact HB.out | apply below_alloc | apply pw_below_drewN | apply below_drew1 | refine below_set ?_ GE599.out | refine below_set ?_ GE600.out | refine below_set ?_ GE601.out) | exact HB.out)) hb); clear BK599; clear BK600; clear BK601; clear HB; have BK599 := n0_; have BK600 := n1_; have BK601 := n2_; have HB := n3_; clear n0_ n1_ n2_ n3_; (try clear hb); (try clear hb2); (try clear hk); (try clear hi); have hcz46_0 : w45.cell? ⟨gb600, 0, none⟩ = some (.slice A1_0 l1_0.length c1_0) := (blk_cell BK600.out 0).trans rfl; have hfz46_0 := blk_frozen BK600.out 0) | (go_at_call 60; (with_reducible refine (spec_HasNumber.calls k _ _ l1_0 a2 false _ ?side1 ?side2 A13.out).mono ?_); (case side1 => exact ce_ ((Kd.C_below HR1_0.out HB.out))); (case side2 => exact HC1_0.out); rintro e w' ⟨rfl, ⟨nd, rfl⟩⟩; have hcz47_0 : w45.cell? ⟨gb599, 0, none⟩ = some (.slice A0_0 l0_0.length c0_0) := (blk_cell BK599.out 0).trans rfl; have hfz47_0 := blk_frozen BK599.out 0) | (go_at_call 60; (with_reducible refine (spec_HasNumber.calls k _ _ l0_0 a3 false _ ?side1 ?side2 A23.out).mono ?_); (case side1 => repeat (first | exact (Kd.C_below HR0_0.out (by repeat (first | (with_reducible first | exact HB.out | apply below_alloc | apply pw_below_drewN | apply below_drew1 | refine below_set ?_ GE599.out | refine below_set ?_ GE600.out | refine below_set ?_ GE601.out) | exact HB.out))) | (with_reducible refine Kd.C_alloc ?_ _) | (with_reducible refine Kd.C_drewN ?_ _) | (with_reducible refine Kd.C_drew ?_))); (case side2 => exact HC0_0.out); rintro e w' ⟨rfl, ⟨nd, rfl⟩⟩) | (go_at_call 37; (with_reducible refine (spec_l1In.calls a2 1 60 true _ A34.out).mono ?_); rintro e w' ⟨rfl, ⟨nd, rfl⟩⟩) | (go_at_call 37; (with_reducible refine (spec_l1In.calls a3 1 60 true _ A36.out).mono ?_); rintro e w' ⟨rfl, ⟨nd, rfl⟩⟩) | (go_at_call 61; (with_reducible refine (spec_GcdOf.calls k a2 a3 t608 _ A38.out).mono ?_); rintro e w' ⟨rfl, ⟨nd, rfl⟩⟩))
               go_meet
               case rel => exact ⟨_, ((t608 != 1)), (by first | rfl | (simp; done) | (simp [*]; done)), H', ⟨by first | omega | exact Nat.le_refl _⟩, ⟨be_ BK599.out⟩, ⟨be_ BK600.out⟩, ⟨be_ BK601.out⟩, ⟨by repeat (first | (with_reducible first | exact HB.out | apply below_alloc | apply pw_below_drewN | apply below_drew1 | refine below_set ?_ GE599.out | refine below_set ?_ GE600.out | refine below_set ?_ GE601.out) | exact HB.out)⟩⟩
            · replace c37 := Bool.eq_false_iff.mpr c37
              subst c37
              have H1 : (spec_GlueOf.j0 k a2 a3 true l0_0 l1_0) = some (r1, r2) := by rw [if_neg (show ¬ (false = true) by decide)] at H; exact H
              clear H
              have H := H1
              clear H1
              as_aux_lemma =>
               have H' := Aside0.mk H
               clear H
               have hnb48 := NB600_599.out
               have hnc48 := NB599_600.out
               have hnb49 := NB600_601.out
               have hnc49 := NB601_600.out
               have hcz50_0 : w8.cell? ⟨gb600, 0, none⟩ = some (.slice A1_0 l1_0.length c1_0) := (blk_cell BK600.out 0).trans rfl
               have hfz50_0 := blk_frozen BK600.out 0
               go_wp2_with (first | ((with_reducible refine gate_callee (f := 59) rfl ?_); refine goesL_ (some 14) rfl rfl Try.func59 (by kernel_rfl) rfl #[.agg #[.slice A1_0 l1_0.length c1_0], .int .i64 a2] rfl (by (try simp only [List.map_toArray, List.map_cons, List.map_nil]); first | done | rfl | (simp only [List.length_drop, List.length_take]; rfl)) ?_; (with_reducible refine (spec_Contains.calls k _ _ l1_0 a2 true _ ?side1 ?side2 A9.out).mono ?_); (case side1 => exact ce_ ((Kd.C_below HR1_0.out HB.out))); (case side2 => exact HC1_0.out); rintro e w51 ⟨rfl, hb⟩; refine ⟨_, rfl, ?_⟩; have n0_ := Aside0.mk (blk_below (g := gb599) (o := .cells #[.slice A0_0 l0_0.length c0_0] 44 (0, 0)) (be_ BK599.out) hb); have n1_ := Aside0.mk (blk_below (g := gb600) (o := .cells #[.slice A1_0 l1_0.length c1_0] 44 (0, 0)) (be_ BK600.out) hb); have n2_ := Aside0.mk (blk_below (g := gb601) (o := .cells #[.slice none 0 0] 44 (0, 0)) (be_ BK601.out) hb); have n3_ := Aside0.mk (below_step (by repeat (first | (with_reducible first | exact HB.out | apply below_alloc | apply pw_below_drewN | apply below_drew1 | refine below_set ?_ GE599.out | refine below_set ?_ GE600.out | refine below_set ?_ GE601.out) | exact HB.out)) hb); clear BK599; clear BK600; clear BK601; clear HB; have BK599 := n0_; have BK600 := n1_; have BK601 := n2_; have HB := n3_; clear n0_ n1_ n2_ n3_; (try clear hb); (try clear hb2); (try clear hk); (try clear hi); have hnb52 := NB599_601.out; have hnc52 := NB601_599.out; have hcz53_0 : w51.cell? ⟨gb599, 0, none⟩ = some (.slice A0_0 l0_0.length c0_0) := (blk_cell BK599.out 0).trans rfl; have hfz53_0 := blk_frozen BK599.out 0) | (go_at_call 59; (with_reducible refine (spec_Contains.calls k _ _ l0_0 a3 true _ ?side1 ?side2 A11.out).mono ?_); (case side1 => exact ce_ ((Kd.C_below HR0_0.out HB.out))); (case side2 => exact HC0_0.out); rintro e w54 ⟨rfl, hb⟩; have n0_ := Aside0.mk (blk_below (g := gb599) (o := .cells #[.slice A0_0 l0_0.length c0_0] 44 (0, 0)) (be_ BK599.out) hb); have n1_ := Aside0.mk (blk_below (g := gb600) (o := .cells #[.slice A1_0 l1_0.length c1_0] 44 (0, 0)) (be_ BK600.out) hb); have n2_ := Aside0.mk (blk_below (g := gb601) (o := .cells #[.slice none 0 0] 44 (0, 0)) (be_ BK601.out) hb); have n3_ := Aside0.mk (below_step (by repeat (first | (with_reducible first | exact HB.out | apply below_alloc | apply pw_below_drewN | apply below_drew1 | refine below_set ?_ GE599.out | refine below_set ?_ GE600.out | refine below_set ?_ GE601.out) | exact HB.out)) hb); clear BK599; clear BK600; clear BK601; clear HB; have BK599 := n0_; have BK600 := n1_; have BK601 := n2_; have HB := n3_; clear n0_ n1_ n2_ n3_; (try clear hb); (try clear hb2); (try clear hk); (try clear hi); have hcz55_0 : w54.cell? ⟨gb600, 0, none⟩ = some (.slice A1_0 l1_0.length c1_0) := (blk_cell BK600.out 0).trans rfl; have hfz55_0 := blk_frozen BK600.out 0) | (go_at_call 60; (with_reducible refine (spec_HasNumber.calls k _ _ l1_0 a2 false _ ?side1 ?side2 A13.out).mono ?_); (case side1 => exact ce_ ((Kd.C_below HR1_0.out HB.out))); (case side2 => exact HC1_0.out); rintro e w' ⟨rfl, ⟨nd, rfl⟩⟩; have hcz56_0 : w54.cell? ⟨gb599, 0, none⟩ = some (.slice A0_0 l0_0.length c0_0) := (blk_cell BK599.out 0).trans rfl; have hfz56_0 := blk_frozen BK599.out 0) | (go_at_call 60; (with_reducible refine (spec_HasNumber.calls k _ _ l0_0 a3 false _ ?side1 ?side2 A23.out).mono ?_); (case side1 => repeat (first | exact (Kd.C_below HR0_0.out (by repeat (first | (with_reducible first | exact HB.out | apply below_alloc | apply pw_below_drewN | apply below_drew1 | refine below_set ?_ GE599.out | refine below_set ?_ GE600.out | refine below_set ?_ GE601.out) | exact HB.out))) | (with_reducible refine Kd.C_alloc ?_ _) | (with_reducible refine Kd.C_drewN ?_ _) | (with_reducible refine Kd.C_drew ?_))); (case side2 => exact HC0_0.out); rintro e w' ⟨rfl, ⟨nd, rfl⟩⟩) | (go_at_call 37; (with_reducible refine (spec_l1In.calls a2 1 60 true _ A34.out).mono ?_); rintro e w' ⟨rfl, ⟨nd, rfl⟩⟩) | (go_at_call 37; (with_reducible refine (spec_l1In.calls a3 1 60 false _ A36.out).mono ?_); rintro e w' ⟨rfl, ⟨nd, rfl⟩⟩))
               go_meet
               case rel => exact ⟨_, (true), (by first | rfl | (simp; done) | (simp [*]; done)), H', ⟨by first | omega | exact Nat.le_refl _⟩, ⟨be_ BK599.out⟩, ⟨be_ BK600.out⟩, ⟨be_ BK601.out⟩, ⟨by repeat (first | (with_reducible first | exact HB.out | apply below_alloc | apply pw_below_drewN | apply below_drew1 | refine below_set ?_ GE599.out | refine below_set ?_ GE600.out | refine below_set ?_ GE601.out) | exact HB.out)⟩⟩
          · replace c35 := Bool.eq_false_iff.mpr c35
            subst c35
            have H1 : (spec_GlueOf.j0 k a2 a3 true l0_0 l1_0) = some (r1, r2) := by rw [if_neg (show ¬ (false = true) by decide)] at H; exact H
            clear H
            have H := H1
            clear H1
            as_aux_lemma =>
             have H' := Aside0.mk H
             clear H
             have hnb57 := NB600_599.out
             have hnc57 := NB599_600.out
             have hnb58 := NB600_601.out
             have hnc58 := NB601_600.out
             have hcz59_0 : w8.cell? ⟨gb600, 0, none⟩ = some (.slice A1_0 l1_0.length c1_0) := (blk_cell BK600.out 0).trans rfl
             have hfz59_0 := blk_frozen BK600.out 0
             go_wp2_with (first | ((with_reducible refine gate_callee (f := 59) rfl ?_); refine goesL_ (some 14) rfl rfl Try.func59 (by kernel_rfl) rfl #[.agg #[.slice A1_0 l1_0.length c1_0], .int .i64 a2] rfl (by (try simp only [List.map_toArray, List.map_cons, List.map_nil]); first | done | rfl | (simp only [List.length_drop, List.length_take]; rfl)) ?_; (with_reducible refine (spec_Contains.calls k _ _ l1_0 a2 true _ ?side1 ?side2 A9.out).mono ?_); (case side1 => exact ce_ ((Kd.C_below HR1_0.out HB.out))); (case side2 => exact HC1_0.out); rintro e w60 ⟨rfl, hb⟩; refine ⟨_, rfl, ?_⟩; have n0_ := Aside0.mk (blk_below (g := gb599) (o := .cells #[.slice A0_0 l0_0.length c0_0] 44 (0, 0)) (be_ BK599.out) hb); have n1_ := Aside0.mk (blk_below (g := gb600) (o := .cells #[.slice A1_0 l1_0.length c1_0] 44 (0, 0)) (be_ BK600.out) hb); have n2_ := Aside0.mk (blk_below (g := gb601) (o := .cells #[.slice none 0 0] 44 (0, 0)) (be_ BK601.out) hb); have n3_ := Aside0.mk (below_step (by repeat (first | (with_reducible first | exact HB.out | apply below_alloc | apply pw_below_drewN | apply below_drew1 | refine below_set ?_ GE599.out | refine below_set ?_ GE600.out | refine below_set ?_ GE601.out) | exact HB.out)) hb); clear BK599; clear BK600; clear BK601; clear HB; have BK599 := n0_; have BK600 := n1_; have BK601 := n2_; have HB := n3_; clear n0_ n1_ n2_ n3_; (try clear hb); (try clear hb2); (try clear hk); (try clear hi); have hnb61 := NB599_601.out; have hnc61 := NB601_599.out; have hcz62_0 : w60.cell? ⟨gb599, 0, none⟩ = some (.slice A0_0 l0_0.length c0_0) := (blk_cell BK599.out 0).trans rfl; have hfz62_0 := blk_frozen BK599.out 0) | (go_at_call 59; (with_reducible refine (spec_Contains.calls k _ _ l0_0 a3 true _ ?side1 ?side2 A11.out).mono ?_); (case side1 => exact ce_ ((Kd.C_below HR0_0.out HB.out))); (case side2 => exact HC0_0.out); rintro e w63 ⟨rfl, hb⟩; have n0_ := Aside0.mk (blk_below (g := gb599) (o := .cells #[.slice A0_0 l0_0.length c0_0] 44 (0, 0)) (be_ BK599.out) hb); have n1_ := Aside0.mk (blk_below (g := gb600) (o := .cells #[.slice A1_0 l1_0.length c1_0] 44 (0, 0)) (be_ BK600.out) hb); have n2_ := Aside0.mk (blk_below (g := gb601) (o := .cells #[.slice none 0 0] 44 (0, 0)) (be_ BK601.out) hb); have n3_ := Aside0.mk (below_step (by repeat (first | (with_reducible first | exact HB.out | apply below_alloc | apply pw_below_drewN | apply below_drew1 | refine below_set ?_ GE599.out | refine below_set ?_ GE600.out | refine below_set ?_ GE601.out) | exact HB.out)) hb); clear BK599; clear BK600; clear BK601; clear HB; have BK599 := n0_; have BK600 := n1_; have BK601 := n2_; have HB := n3_; clear n0_ n1_ n2_ n3_; (try clear hb); (try clear hb2); (try clear hk); (try clear hi); have hcz64_0 : w63.cell? ⟨gb600, 0, none⟩ = some (.slice A1_0 l1_0.length c1_0) := (blk_cell BK600.out 0).trans rfl; have hfz64_0 := blk_frozen BK600.out 0) | (go_at_call 60; (with_reducible refine (spec_HasNumber.calls k _ _ l1_0 a2 false _ ?side1 ?side2 A13.out).mono ?_); (case side1 => exact ce_ ((Kd.C_below HR1_0.out HB.out))); (case side2 => exact HC1_0.out); rintro e w' ⟨rfl, ⟨nd, rfl⟩⟩; have hcz65_0 : w63.cell? ⟨gb599, 0, none⟩ = some (.slice A0_0 l0_0.length c0_0) := (blk_cell BK599.out 0).trans rfl; have hfz65_0 := blk_frozen BK599.out 0) | (go_at_call 60; (with_reducible refine (spec_HasNumber.calls k _ _ l0_0 a3 false _ ?side1 ?side2 A23.out).mono ?_); (case side1 => repeat (first | exact (Kd.C_below HR0_0.out (by repeat (first | (with_reducible first | exact HB.out | apply below_alloc | apply pw_below_drewN | apply below_drew1 | refine below_set ?_ GE599.out | refine below_set ?_ GE600.out | refine below_set ?_ GE601.out) | exact HB.out))) | (with_reducible refine Kd.C_alloc ?_ _) | (with_reducible refine Kd.C_drewN ?_ _) | (with_reducible refine Kd.C_drew ?_))); (case side2 => exact HC0_0.out); rintro e w' ⟨rfl, ⟨nd, rfl⟩⟩) | (go_at_call 37; (with_reducible refine (spec_l1In.calls a2 1 60 false _ A34.out).mono ?_); rintro e w' ⟨rfl, ⟨nd, rfl⟩⟩))
             go_meet
             case rel => exact ⟨_, (true), (by first | rfl | (simp; done) | (simp [*]; done)), H', ⟨by first | omega | exact Nat.le_refl _⟩, ⟨be_ BK599.out⟩, ⟨be_ BK600.out⟩, ⟨be_ BK601.out⟩, ⟨by repeat (first | (with_reducible first | exact HB.out | apply below_alloc | apply pw_below_drewN | apply below_drew1 | refine below_set ?_ GE599.out | refine below_set ?_ GE600.out | refine below_set ?_ GE601.out) | exact HB.out)⟩⟩
    · replace c12 := Bool.eq_false_iff.mpr c12
      subst c12
      have H1 : (spec_GlueOf.j0 k a2 a3 true l0_0 l1_0) = some (r1, r2) := by rw [if_neg (show ¬ (false = true) by decide)] at H; exact H
      clear H
      have H := H1
      clear H1
      as_aux_lemma =>
       have H' := Aside0.mk H
       clear H
       have hnb66 := NB600_599.out
       have hnc66 := NB599_600.out
       have hnb67 := NB600_601.out
       have hnc67 := NB601_600.out
       have hcz68_0 : w8.cell? ⟨gb600, 0, none⟩ = some (.slice A1_0 l1_0.length c1_0) := (blk_cell BK600.out 0).trans rfl
       have hfz68_0 := blk_frozen BK600.out 0
       go_wp2_with (first | ((with_reducible refine gate_callee (f := 59) rfl ?_); refine goesL_ (some 14) rfl rfl Try.func59 (by kernel_rfl) rfl #[.agg #[.slice A1_0 l1_0.length c1_0], .int .i64 a2] rfl (by (try simp only [List.map_toArray, List.map_cons, List.map_nil]); first | done | rfl | (simp only [List.length_drop, List.length_take]; rfl)) ?_; (with_reducible refine (spec_Contains.calls k _ _ l1_0 a2 true _ ?side1 ?side2 A9.out).mono ?_); (case side1 => exact ce_ ((Kd.C_below HR1_0.out HB.out))); (case side2 => exact HC1_0.out); rintro e w69 ⟨rfl, hb⟩; refine ⟨_, rfl, ?_⟩; have n0_ := Aside0.mk (blk_below (g := gb599) (o := .cells #[.slice A0_0 l0_0.length c0_0] 44 (0, 0)) (be_ BK599.out) hb); have n1_ := Aside0.mk (blk_below (g := gb600) (o := .cells #[.slice A1_0 l1_0.length c1_0] 44 (0, 0)) (be_ BK600.out) hb); have n2_ := Aside0.mk (blk_below (g := gb601) (o := .cells #[.slice none 0 0] 44 (0, 0)) (be_ BK601.out) hb); have n3_ := Aside0.mk (below_step (by repeat (first | (with_reducible first | exact HB.out | apply below_alloc | apply pw_below_drewN | apply below_drew1 | refine below_set ?_ GE599.out | refine below_set ?_ GE600.out | refine below_set ?_ GE601.out) | exact HB.out)) hb); clear BK599; clear BK600; clear BK601; clear HB; have BK599 := n0_; have BK600 := n1_; have BK601 := n2_; have HB := n3_; clear n0_ n1_ n2_ n3_; (try clear hb); (try clear hb2); (try clear hk); (try clear hi); have hnb70 := NB599_601.out; have hnc70 := NB601_599.out; have hcz71_0 : w69.cell? ⟨gb599, 0, none⟩ = some (.slice A0_0 l0_0.length c0_0) := (blk_cell BK599.out 0).trans rfl; have hfz71_0 := blk_frozen BK599.out 0) | (go_at_call 59; (with_reducible refine (spec_Contains.calls k _ _ l0_0 a3 false _ ?side1 ?side2 A11.out).mono ?_); (case side1 => exact ce_ ((Kd.C_below HR0_0.out HB.out))); (case side2 => exact HC0_0.out); rintro e w72 ⟨rfl, hb⟩; have n0_ := Aside0.mk (blk_below (g := gb599) (o := .cells #[.slice A0_0 l0_0.length c0_0] 44 (0, 0)) (be_ BK599.out) hb); have n1_ := Aside0.mk (blk_below (g := gb600) (o := .cells #[.slice A1_0 l1_0.length c1_0] 44 (0, 0)) (be_ BK600.out) hb); have n2_ := Aside0.mk (blk_below (g := gb601) (o := .cells #[.slice none 0 0] 44 (0, 0)) (be_ BK601.out) hb); have n3_ := Aside0.mk (below_step (by repeat (first | (with_reducible first | exact HB.out | apply below_alloc | apply pw_below_drewN | apply below_drew1 | refine below_set ?_ GE599.out | refine below_set ?_ GE600.out | refine below_set ?_ GE601.out) | exact HB.out)) hb); clear BK599; clear BK600; clear BK601; clear HB; have BK599 := n0_; have BK600 := n1_; have BK601 := n2_; have HB := n3_; clear n0_ n1_ n2_ n3_; (try clear hb); (try clear hb2); (try clear hk); (try clear hi)))
       go_meet
       case rel => exact ⟨_, (true), (by first | rfl | (simp; done) | (simp [*]; done)), H', ⟨by first | omega | exact Nat.le_refl _⟩, ⟨be_ BK599.out⟩, ⟨be_ BK600.out⟩, ⟨be_ BK601.out⟩, ⟨by repeat (first | (with_reducible first | exact HB.out | apply below_alloc | apply pw_below_drewN | apply below_drew1 | refine below_set ?_ GE599.out | refine below_set ?_ GE600.out | refine below_set ?_ GE601.out) | exact HB.out)⟩⟩
  · replace c10 := Bool.eq_false_iff.mpr c10
    subst c10
    have H1 : (spec_GlueOf.j0 k a2 a3 true l0_0 l1_0) = some (r1, r2) := by rw [if_neg (show ¬ (false = true) by decide)] at H; exact H
    clear H
    have H := H1
    clear H1
    as_aux_lemma =>
     have H' := Aside0.mk H
     clear H
     have hnb73 := NB600_599.out
     have hnc73 := NB599_600.out
     have hnb74 := NB600_601.out
     have hnc74 := NB601_600.out
     have hcz75_0 : w8.cell? ⟨gb600, 0, none⟩ = some (.slice A1_0 l1_0.length c1_0) := (blk_cell BK600.out 0).trans rfl
     have hfz75_0 := blk_frozen BK600.out 0
     go_wp2_with (first | ((with_reducible refine gate_callee (f := 59) rfl ?_); refine goesL_ (some 14) rfl rfl Try.func59 (by kernel_rfl) rfl #[.agg #[.slice A1_0 l1_0.length c1_0], .int .i64 a2] rfl (by (try simp only [List.map_toArray, List.map_cons, List.map_nil]); first | done | rfl | (simp only [List.length_drop, List.length_take]; rfl)) ?_; (with_reducible refine (spec_Contains.calls k _ _ l1_0 a2 false _ ?side1 ?side2 A9.out).mono ?_); (case side1 => exact ce_ ((Kd.C_below HR1_0.out HB.out))); (case side2 => exact HC1_0.out); rintro e w76 ⟨rfl, hb⟩; refine ⟨_, rfl, ?_⟩; have n0_ := Aside0.mk (blk_below (g := gb599) (o := .cells #[.slice A0_0 l0_0.length c0_0] 44 (0, 0)) (be_ BK599.out) hb); have n1_ := Aside0.mk (blk_below (g := gb600) (o := .cells #[.slice A1_0 l1_0.length c1_0] 44 (0, 0)) (be_ BK600.out) hb); have n2_ := Aside0.mk (blk_below (g := gb601) (o := .cells #[.slice none 0 0] 44 (0, 0)) (be_ BK601.out) hb); have n3_ := Aside0.mk (below_step (by repeat (first | (with_reducible first | exact HB.out | apply below_alloc | apply pw_below_drewN | apply below_drew1 | refine below_set ?_ GE599.out | refine below_set ?_ GE600.out | refine below_set ?_ GE601.out) | exact HB.out)) hb); clear BK599; clear BK600; clear BK601; clear HB; have BK599 := n0_; have BK600 := n1_; have BK601 := n2_; have HB := n3_; clear n0_ n1_ n2_ n3_; (try clear hb); (try clear hb2); (try clear hk); (try clear hi)))
     go_meet
     case rel => exact ⟨_, (true), (by first | rfl | (simp; done) | (simp [*]; done)), H', ⟨by first | omega | exact Nat.le_refl _⟩, ⟨be_ BK599.out⟩, ⟨be_ BK600.out⟩, ⟨be_ BK601.out⟩, ⟨by repeat (first | (with_reducible first | exact HB.out | apply below_alloc | apply pw_below_drewN | apply below_drew1 | refine below_set ?_ GE599.out | refine below_set ?_ GE600.out | refine below_set ?_ GE601.out) | exact HB.out)⟩⟩
 case rest =>
  clear HC5
  try clear c1
  try clear c2
  try clear p2
  try clear c3
  try clear c4
  try clear c5
  try clear c6
  try clear c7
  try clear c10
  try clear c12
  try clear c14
  try clear c15
  try clear c16
  try clear c19
  try clear c24
  try clear c25
  try clear c26
  try clear c29
  try clear c32
  try clear c35
  try clear c37
  try clear c39
  try clear c40
  try clear c43
  try clear c48
  try clear c49
  try clear c52
  try clear c57
  try clear c58
  try clear c59
  try clear c61
  try clear c66
  try clear c67
  try clear c70
  try clear c73
  try clear c74
  try clear hcz17_0
  try clear hcz20_0
  try clear hcz22_0
  try clear hcz27_0
  try clear hcz30_0
  try clear hcz32_0
  try clear hcz33_0
  try clear hcz41_0
  try clear hcz44_0
  try clear hcz46_0
  try clear hcz47_0
  try clear hcz50_0
  try clear hcz53_0
  try clear hcz55_0
  try clear hcz56_0
  try clear hcz59_0
  try clear hcz62_0
  try clear hcz64_0
  try clear hcz65_0
  try clear hcz68_0
  try clear hcz71_0
  try clear hcz75_0
  try clear hfz17_0
  try clear hfz20_0
  try clear hfz22_0
  try clear hfz27_0
  try clear hfz30_0
  try clear hfz32_0
  try clear hfz33_0
  try clear hfz41_0
  try clear hfz44_0
  try clear hfz46_0
  try clear hfz47_0
  try clear hfz50_0
  try clear hfz53_0
  try clear hfz55_0
  try clear hfz56_0
  try clear hfz59_0
  try clear hfz62_0
  try clear hfz64_0
  try clear hfz65_0
  try clear hfz68_0
  try clear hfz71_0
  try clear hfz75_0
  obtain ⟨kq, x49_4, rfl, HA, HJ4, BK599, BK600, BK601, HB⟩ := hcut
  cases kq with
  | zero => exact absurd HA.out (by simp [spec_GlueOf.j0])
  | succ kj4 =>
   have H := HA.out
   clear HA
   simp only [spec_GlueOf.j0] at H
   by_cases c77 : x49_4 = true
   · subst c77
     have H1 : (some (([] : List Int), false)) = some (r1, r2) := by rw [if_pos rfl] at H; exact H
     clear H
     have H := H1
     clear H1
     as_aux_lemma =>
      simp only [Option.some.injEq, Prod.mk.injEq] at H
      obtain ⟨rfl, rfl⟩ := H
      have hnb78 := NB601_599.out
      have hnc78 := NB599_601.out
      have hnb79 := NB601_600.out
      have hnc79 := NB600_601.out
      have hcz80_0 : wc.cell? ⟨gb601, 0, none⟩ = some (.slice none 0 0) := (blk_cell BK601.out 0).trans rfl
      have hfz80_0 := blk_frozen BK601.out 0
      go_wp2
      refine bodyPost_ret (results_ct rfl _ _ gb601 44 #[.slice none 0 0] (0, 0) _ rfl (by (with_reducible repeat (first | refine blk_drewN ?_ _ | refine blk_drew ?_ | refine blk_alloc ?_ _)); refine blk_put (cs := #[.slice none 0 0]) ?_ 0 _ rfl; (with_reducible repeat (first | refine blk_drewN ?_ _ | refine blk_drew ?_ | refine blk_alloc ?_ _)); exact BK601.out) Try.underlying44 rfl (by kernel_rfl)) rfl ?_
      exact ⟨_, by first | rfl | (simp [errW_none, errW_some] <;> rfl) | (simp [*, errW_none, errW_some] <;> rfl), by first | exact Kd.R_nil _ _ _ _ _ | exact Kd.N_nil _ _ _ _ _ | exact Kd.V_nil _ _ _ _ _ | exact Kd.Q_nil _ _ _ _ _ | exact Kd.S_nil _ _ _ _ _, by repeat (first | (with_reducible first | exact HB.out | apply below_alloc | apply pw_below_drewN | apply below_drew1 | refine below_set ?_ GE599.out | refine below_set ?_ GE600.out | refine below_set ?_ GE601.out) | exact HB.out)⟩
   · replace c77 := Bool.eq_false_iff.mpr c77
     subst c77
     have H1 : ((spec_l22Times.f kj4 l0_0 a2).bind fun t609 => ((spec_l22Times.f kj4 l1_0 a3).bind fun t612 => (if t609.length + t612.length < 17592186044416 then ((spec_FromGens.f kj4 (t609 ++ t612)).bind fun bt618 => (some (bt618.1, bt618.2))) else (none)))) = some (r1, r2) := by rw [if_neg (show ¬ (false = true) by decide)] at H; exact H
     clear H
     have H := H1
     clear H1
     replace H := Option.bind_eq_some_iff.mp H
     obtain ⟨t609, A810, H⟩ := H
     replace H : ((spec_l22Times.f kj4 l1_0 a3).bind fun t612 => (if t609.length + t612.length < 17592186044416 then ((spec_FromGens.f kj4 (t609 ++ t612)).bind fun bt618 => (some (bt618.1, bt618.2))) else (none))) = some (r1, r2) := H
     have A81 := Aside0.mk A810
     clear A810
     replace H := Option.bind_eq_some_iff.mp H
     obtain ⟨t612, A820, H⟩ := H
     replace H : (if t609.length + t612.length < 17592186044416 then ((spec_FromGens.f kj4 (t609 ++ t612)).bind fun bt618 => (some (bt618.1, bt618.2))) else (none)) = some (r1, r2) := H
     have A82 := Aside0.mk A820
     clear A820
     by_cases c83 : t609.length + t612.length < 17592186044416
     · rw [if_pos c83] at H
       have LMc83 := Aside0.mk c83
       clear c83
       obtain ⟨y615, hy615⟩ : ∃ y_ : List Int, y_ = (t609 ++ t612) := ⟨_, rfl⟩
       replace H : ((spec_FromGens.f kj4 y615).bind fun bt618 => (some (bt618.1, bt618.2))) = some (r1, r2) := by first | (rw [hy615]; with_reducible exact H) | (have H2_ := (Option.bind_some _ _).symm.trans H; rw [hy615]; with_reducible exact H2_) | (have H2_ := (Option.bind_some _ _).symm.trans H; with_reducible exact H2_) | with_reducible exact H | (rw [hy615]; exact H) | exact H
       have Ny615 := Aside0.mk hy615
       clear hy615
       replace H := Option.bind_eq_some_iff.mp H
       obtain ⟨⟨t618, t621⟩, A840, H⟩ := H
       replace H : (some (t618, t621)) = some (r1, r2) := H
       have A84 := Aside0.mk A840
       clear A840
       as_aux_lemma =>
        simp only [Option.some.injEq, Prod.mk.injEq] at H
        obtain ⟨rfl, rfl⟩ := H
        try go_wp2
        have n0_ := Aside0.mk (blk_drew BK599.out)
        have n1_ := Aside0.mk (blk_drew BK600.out)
        have n2_ := Aside0.mk (blk_drew BK601.out)
        have n3_ := Aside0.mk (below_drew1 HB.out)
        clear BK599
        clear BK600
        clear BK601
        clear HB
        have BK599 := n0_
        have BK600 := n1_
        have BK601 := n2_
        have HB := n3_
        clear n0_ n1_ n2_ n3_
        refine start_ (n := 16) (S := fun w' => w'.cell? ⟨gb599, 0, none⟩ = some (.slice A0_0 l0_0.length c0_0) ∧ w'.cell? ⟨gb600, 0, none⟩ = some (.slice A1_0 l1_0.length c1_0)) (ds := []) (B_ 0 16) (by kernel_rfl) rfl rfl ⟨(blk_cell BK599.out 0).trans rfl, (blk_cell BK600.out 0).trans rfl⟩ (fun hHeld => ?_); refine with_tabW spec_GlueOf.tab3 spec_GlueOf.bits3 (fun HT_ HW_ => ?_)
        generalize wc.drew = w85 at BK599 BK600 BK601 HB hHeld ⊢
        refine pu_ HT_ 0 52 (B_ 1 16) ?_
        refine pu_ HT_ 2 54 (B_ 5 16) ?_
        refine pu_ HT_ 4 56 (B_ 21 16) ?_
        refine pu_ HT_ 6 58 (B_ 85 16) ?_
        refine tk2_ HT_ HW_ hHeld 1 53 (B_ 87 16) ?_
        refine tk2_ HT_ HW_ hHeld 5 57 (B_ 119 16) ?_
        refine join_ (σ := Value × Value × Value × Value × Nat) 2 (B_ 16383 16) (fun s_ => [(55, s_.1), (59, s_.2.1), (60, s_.2.2.1), (61, .tuple #[.agg #[s_.2.2.2.1], .bool t621]), (10, .pointer (some ⟨s_.2.2.2.2, 0, none⟩)), (51, .tuple #[.agg #[s_.2.2.2.1], .bool t621]), (62, .agg #[s_.2.2.2.1]), (63, .bool t621)]) (fun s_ w' => (w'.cell? ⟨gb599, 0, none⟩ = some (.slice A0_0 l0_0.length c0_0) ∧ w'.cell? ⟨gb600, 0, none⟩ = some (.slice A1_0 l1_0.length c1_0)) ∧ (Kd.R (Kd.int .i64) 3 w' w.heap.size (fun k_ => some k_ ≠ (s_.2.2.1 : Value).ownBlock ∧ some k_ ≠ (s_.2.2.2.1 : Value).ownBlock) s_.2.1 t612) ∧ (Kd.R (Kd.int .i64) 3 w' w.heap.size (fun k_ => some k_ ≠ (s_.2.1 : Value).ownBlock ∧ some k_ ≠ (s_.2.2.2.1 : Value).ownBlock) s_.2.2.1 y615) ∧ (Kd.R (Kd.int .i64) 3 w' w.heap.size (fun k_ => some k_ ≠ (s_.2.1 : Value).ownBlock ∧ some k_ ≠ (s_.2.2.1 : Value).ownBlock) s_.2.2.2.1 t618) ∧ (w'.heap[gb599]? = some (.cells #[.slice A0_0 l0_0.length c0_0] 44 (0, 0))) ∧ (w'.heap[gb600]? = some (.cells #[.slice A1_0 l1_0.length c1_0] 44 (0, 0))) ∧ (w'.heap[gb601]? = some (.cells #[.slice none 0 0] 44 (0, 0))) ∧ (w'.heap[s_.2.2.2.2]? = some (.cells #[.slice none 0 0] 44 (0, 0))) ∧ (w.heap.size ≤ s_.2.2.2.2) ∧ (w.heap.size ≤ s_.2.2.2.2) ∧ (gb599 ≠ s_.2.2.2.2) ∧ (s_.2.2.2.2 ≠ gb599) ∧ (gb600 ≠ s_.2.2.2.2) ∧ (s_.2.2.2.2 ≠ gb600) ∧ (gb601 ≠ s_.2.2.2.2) ∧ (s_.2.2.2.2 ≠ gb601) ∧ (Below w.heap.size w w')) ?_ ?_
        rotate_left
        · intro hJ3_7_8_9_13
          refine join_ (σ := Value × Value × Value × Value) 3 (B_ 8191 16) (fun s_ => [(55, s_.1), (59, s_.2.1), (60, s_.2.2.1), (61, .tuple #[.agg #[s_.2.2.2], .bool t621]), (51, .tuple #[.agg #[s_.2.2.2], .bool t621]), (62, .agg #[s_.2.2.2]), (63, .bool t621)]) (fun s_ w' => (w'.cell? ⟨gb599, 0, none⟩ = some (.slice A0_0 l0_0.length c0_0) ∧ w'.cell? ⟨gb600, 0, none⟩ = some (.slice A1_0 l1_0.length c1_0)) ∧ (Kd.R (Kd.int .i64) 3 w' w.heap.size (fun k_ => some k_ ≠ (s_.2.2.1 : Value).ownBlock ∧ some k_ ≠ (s_.2.2.2 : Value).ownBlock) s_.2.1 t612) ∧ (Kd.R (Kd.int .i64) 3 w' w.heap.size (fun k_ => some k_ ≠ (s_.2.1 : Value).ownBlock ∧ some k_ ≠ (s_.2.2.2 : Value).ownBlock) s_.2.2.1 y615) ∧ (Kd.R (Kd.int .i64) 3 w' w.heap.size (fun k_ => some k_ ≠ (s_.2.1 : Value).ownBlock ∧ some k_ ≠ (s_.2.2.1 : Value).ownBlock) s_.2.2.2 t618) ∧ (w'.heap[gb599]? = some (.cells #[.slice A0_0 l0_0.length c0_0] 44 (0, 0))) ∧ (w'.heap[gb600]? = some (.cells #[.slice A1_0 l1_0.length c1_0] 44 (0, 0))) ∧ (w'.heap[gb601]? = some (.cells #[.slice none 0 0] 44 (0, 0))) ∧ (Below w.heap.size w w')) ?_ ?_
          rotate_left
          · intro hJ3_7_8_9
            refine join_ (σ := Value × Value × Value × Nat) 6 (B_ 8703 16) (fun s_ => [(55, s_.1), (59, s_.2.1), (60, s_.2.2.1), (10, .pointer (some ⟨s_.2.2.2, 0, none⟩))]) (fun s_ w' => (w'.cell? ⟨gb599, 0, none⟩ = some (.slice A0_0 l0_0.length c0_0) ∧ w'.cell? ⟨gb600, 0, none⟩ = some (.slice A1_0 l1_0.length c1_0)) ∧ (Kd.R (Kd.int .i64) 3 w' w.heap.size (fun k_ => some k_ ≠ (s_.2.2.1 : Value).ownBlock) s_.2.1 t612) ∧ (Kd.R (Kd.int .i64) 3 w' w.heap.size (fun k_ => some k_ ≠ (s_.2.1 : Value).ownBlock) s_.2.2.1 y615) ∧ (w'.heap[gb599]? = some (.cells #[.slice A0_0 l0_0.length c0_0] 44 (0, 0))) ∧ (w'.heap[gb600]? = some (.cells #[.slice A1_0 l1_0.length c1_0] 44 (0, 0))) ∧ (w'.heap[gb601]? = some (.cells #[.slice none 0 0] 44 (0, 0))) ∧ (w'.heap[s_.2.2.2]? = some (.cells #[.slice none 0 0] 44 (0, 0))) ∧ (w.heap.size ≤ s_.2.2.2) ∧ (w.heap.size ≤ s_.2.2.2) ∧ (gb599 ≠ s_.2.2.2) ∧ (s_.2.2.2 ≠ gb599) ∧ (gb600 ≠ s_.2.2.2) ∧ (s_.2.2.2 ≠ gb600) ∧ (gb601 ≠ s_.2.2.2) ∧ (s_.2.2.2 ≠ gb601) ∧ (Below w.heap.size w w')) ?_ ?_
            rotate_left
            · intro hJ3_7_8_13
              refine join_ (σ := Value × Value × Value) 7 (B_ 511 16) (fun s_ => [(55, s_.1), (59, s_.2.1), (60, s_.2.2)]) (fun s_ w' => (w'.cell? ⟨gb599, 0, none⟩ = some (.slice A0_0 l0_0.length c0_0) ∧ w'.cell? ⟨gb600, 0, none⟩ = some (.slice A1_0 l1_0.length c1_0)) ∧ (Kd.R (Kd.int .i64) 3 w' w.heap.size (fun k_ => some k_ ≠ (s_.2.2 : Value).ownBlock) s_.2.1 t612) ∧ (Kd.R (Kd.int .i64) 3 w' w.heap.size (fun k_ => some k_ ≠ (s_.2.1 : Value).ownBlock) s_.2.2 y615) ∧ (w'.heap[gb599]? = some (.cells #[.slice A0_0 l0_0.length c0_0] 44 (0, 0))) ∧ (w'.heap[gb600]? = some (.cells #[.slice A1_0 l1_0.length c1_0] 44 (0, 0))) ∧ (w'.heap[gb601]? = some (.cells #[.slice none 0 0] 44 (0, 0))) ∧ (Below w.heap.size w w')) ?_ ?_
              rotate_left
              · intro hJ3_7_8
                refine join_ (σ := Value × Value × Nat) 7 (B_ 8447 16) (fun s_ => [(55, s_.1), (59, s_.2.1), (10, .pointer (some ⟨s_.2.2, 0, none⟩))]) (fun s_ w' => (w'.cell? ⟨gb599, 0, none⟩ = some (.slice A0_0 l0_0.length c0_0) ∧ w'.cell? ⟨gb600, 0, none⟩ = some (.slice A1_0 l1_0.length c1_0)) ∧ (Kd.R (Kd.int .i64) 3 w' w.heap.size (fun k_ => some k_ ≠ (s_.2.1 : Value).ownBlock) s_.1 t609) ∧ (Kd.R (Kd.int .i64) 3 w' w.heap.size (fun k_ => some k_ ≠ (s_.1 : Value).ownBlock) s_.2.1 t612) ∧ (w'.heap[gb599]? = some (.cells #[.slice A0_0 l0_0.length c0_0] 44 (0, 0))) ∧ (w'.heap[gb600]? = some (.cells #[.slice A1_0 l1_0.length c1_0] 44 (0, 0))) ∧ (w'.heap[gb601]? = some (.cells #[.slice none 0 0] 44 (0, 0))) ∧ (w'.heap[s_.2.2]? = some (.cells #[.slice none 0 0] 44 (0, 0))) ∧ (w.heap.size ≤ s_.2.2) ∧ (w.heap.size ≤ s_.2.2) ∧ (gb599 ≠ s_.2.2) ∧ (s_.2.2 ≠ gb599) ∧ (gb600 ≠ s_.2.2) ∧ (s_.2.2 ≠ gb600) ∧ (gb601 ≠ s_.2.2) ∧ (s_.2.2 ≠ gb601) ∧ (Below w.heap.size w w')) ?_ ?_
                rotate_left
                · intro hJ3_7_13
                  refine join_ (σ := Value × Value) 8 (B_ 255 16) (fun s_ => [(55, s_.1), (59, s_.2)]) (fun s_ w' => (w'.cell? ⟨gb599, 0, none⟩ = some (.slice A0_0 l0_0.length c0_0) ∧ w'.cell? ⟨gb600, 0, none⟩ = some (.slice A1_0 l1_0.length c1_0)) ∧ (Kd.R (Kd.int .i64) 3 w' w.heap.size (fun k_ => some k_ ≠ (s_.2 : Value).ownBlock) s_.1 t609) ∧ (Kd.R (Kd.int .i64) 3 w' w.heap.size (fun k_ => some k_ ≠ (s_.1 : Value).ownBlock) s_.2 t612) ∧ (w'.heap[gb599]? = some (.cells #[.slice A0_0 l0_0.length c0_0] 44 (0, 0))) ∧ (w'.heap[gb600]? = some (.cells #[.slice A1_0 l1_0.length c1_0] 44 (0, 0))) ∧ (w'.heap[gb601]? = some (.cells #[.slice none 0 0] 44 (0, 0))) ∧ (Below w.heap.size w w')) ?_ ?_
                  rotate_left
                  · intro hJ3_7
                    refine join_ (σ := Value × Nat) 8 (B_ 8319 16) (fun s_ => [(55, s_.1), (10, .pointer (some ⟨s_.2, 0, none⟩))]) (fun s_ w' => (w'.cell? ⟨gb599, 0, none⟩ = some (.slice A0_0 l0_0.length c0_0) ∧ w'.cell? ⟨gb600, 0, none⟩ = some (.slice A1_0 l1_0.length c1_0)) ∧ (Kd.R (Kd.int .i64) 3 w' w.heap.size (fun _ => True) s_.1 t609) ∧ (w'.heap[gb599]? = some (.cells #[.slice A0_0 l0_0.length c0_0] 44 (0, 0))) ∧ (w'.heap[gb600]? = some (.cells #[.slice A1_0 l1_0.length c1_0] 44 (0, 0))) ∧ (w'.heap[gb601]? = some (.cells #[.slice none 0 0] 44 (0, 0))) ∧ (w'.heap[s_.2]? = some (.cells #[.slice none 0 0] 44 (0, 0))) ∧ (w.heap.size ≤ s_.2) ∧ (w.heap.size ≤ s_.2) ∧ (gb599 ≠ s_.2) ∧ (s_.2 ≠ gb599) ∧ (gb600 ≠ s_.2) ∧ (s_.2 ≠ gb600) ∧ (gb601 ≠ s_.2) ∧ (s_.2 ≠ gb601) ∧ (Below w.heap.size w w')) ?_ ?_
                    rotate_left
                    · intro hJ3_13
                      refine join_ (σ := Value) 9 (B_ 127 16) (fun s_ => [(55, s_)]) (fun s_ w' => (w'.cell? ⟨gb599, 0, none⟩ = some (.slice A0_0 l0_0.length c0_0) ∧ w'.cell? ⟨gb600, 0, none⟩ = some (.slice A1_0 l1_0.length c1_0)) ∧ (Kd.R (Kd.int .i64) 3 w' w.heap.size (fun _ => True) s_ t609) ∧ (w'.heap[gb599]? = some (.cells #[.slice A0_0 l0_0.length c0_0] 44 (0, 0))) ∧ (w'.heap[gb600]? = some (.cells #[.slice A1_0 l1_0.length c1_0] 44 (0, 0))) ∧ (w'.heap[gb601]? = some (.cells #[.slice none 0 0] 44 (0, 0))) ∧ (Below w.heap.size w w')) ?_ ?_
                      rotate_left
                      · intro hJ3
                        refine join_ (σ := Nat) 9 (B_ 8311 16) (fun s_ => [(10, .pointer (some ⟨s_, 0, none⟩))]) (fun s_ w' => (w'.cell? ⟨gb599, 0, none⟩ = some (.slice A0_0 l0_0.length c0_0) ∧ w'.cell? ⟨gb600, 0, none⟩ = some (.slice A1_0 l1_0.length c1_0)) ∧ (w'.heap[gb599]? = some (.cells #[.slice A0_0 l0_0.length c0_0] 44 (0, 0))) ∧ (w'.heap[gb600]? = some (.cells #[.slice A1_0 l1_0.length c1_0] 44 (0, 0))) ∧ (w'.heap[gb601]? = some (.cells #[.slice none 0 0] 44 (0, 0))) ∧ (w'.heap[s_]? = some (.cells #[.slice none 0 0] 44 (0, 0))) ∧ (w.heap.size ≤ s_) ∧ (w.heap.size ≤ s_) ∧ (gb599 ≠ s_) ∧ (s_ ≠ gb599) ∧ (gb600 ≠ s_) ∧ (s_ ≠ gb600) ∧ (gb601 ≠ s_) ∧ (s_ ≠ gb601) ∧ (Below w.heap.size w w')) ?_ ?_
                        rotate_left
                        · intro hJ13
                          refine two_ (i := 3) (j := 13) (Ni := some 55) (Nj := some 10) (B_ 127 16) (B_ 8311 16) rfl rfl rfl rfl (two_of HT_.out (by kernel_rfl)) (by decide) (by decide) (fun K hK => ?_) (fun K hK => ?_)
                          · skip
                            refine goes_ Try.func63 (by kernel_rfl) rfl #[.slice A0_0 l0_0.length c0_0, .int .i64 a2] (by rfl) rfl rfl (by (try simp only [List.map_toArray, List.map_cons, List.map_nil]); first | done | rfl | (simp only [List.length_drop, List.length_take]; rfl)) ?_
                            with_reducible refine (spec_l22Times.calls kj4 _ _ l0_0 a2 t609 _ ?side1 ?side2 A81.out).mono ?_
                            (case side1 => exact ce_ ((Kd.C_below HR0_0.out HB.out)))
                            (case side2 => exact HC0_0.out)
                            rintro e w86 ⟨v610, rfl, ho0, hb⟩
                            refine ⟨_, rfl, ?_⟩
                            have n0_ := Aside0.mk (Kd.R_lower ho0 (below_size (by repeat (first | (with_reducible first | exact HB.out | apply below_alloc | apply pw_below_drewN | apply below_drew1 | refine below_set ?_ GE599.out | refine below_set ?_ GE600.out | refine below_set ?_ GE601.out) | exact HB.out))))
                            have n1_ := Aside0.mk (blk_below (g := gb599) (o := .cells #[.slice A0_0 l0_0.length c0_0] 44 (0, 0)) (be_ BK599.out) hb)
                            have n2_ := Aside0.mk (blk_below (g := gb600) (o := .cells #[.slice A1_0 l1_0.length c1_0] 44 (0, 0)) (be_ BK600.out) hb)
                            have n3_ := Aside0.mk (blk_below (g := gb601) (o := .cells #[.slice none 0 0] 44 (0, 0)) (be_ BK601.out) hb)
                            have n4_ := Aside0.mk (below_step (by repeat (first | (with_reducible first | exact HB.out | apply below_alloc | apply pw_below_drewN | apply below_drew1 | refine below_set ?_ GE599.out | refine below_set ?_ GE600.out | refine below_set ?_ GE601.out) | exact HB.out)) hb)
                            clear BK599
                            clear BK600
                            clear BK601
                            clear HB
                            have HO611 := n0_
                            have BK599 := n1_
                            have BK600 := n2_
                            have BK601 := n3_
                            have HB := n4_
                            clear n0_ n1_ n2_ n3_ n4_
                            (try clear hb)
                            (try clear hb2)
                            (try clear hk)
                            (try clear hi)
                            (try clear ho0)
                            refine hK.out _ _ ⟨(blk_cell BK599.out 0).trans rfl, (blk_cell BK600.out 0).trans rfl⟩ (fun hHeld => ?_)
                            clear hK K
                            refine norm_ (a' := ?_) ?_ ?_
                            rotate_left
                            · show Act.put _ (some 55) _ = _
                              simp only [Act.put, z1_, z2_, z3_, i64_w, i32_w]
                              rfl
                            exact norm_ (by first | (simp only [putAll, Act.put, z1_, z2_, z3_]; done) | (simp only [putAll, Act.put, z1_, z2_, z3_]; rfl)) (hJ3 (v610) _ ⟨hHeld, (re_ HO611.out), (be_ BK599.out), (be_ BK600.out), (be_ BK601.out), (by repeat (first | (with_reducible first | exact HB.out | apply below_alloc | apply pw_below_drewN | apply below_drew1 | refine below_set ?_ GE599.out | refine below_set ?_ GE600.out | refine below_set ?_ GE601.out) | exact HB.out))⟩)
                          · skip
                            refine box_step ?hg (N := 10) ?hd (cs := #[.slice none 0 0]) (t := 44) ?hr ?_; (case hd => rfl); (case hg => rfl); (case hr => first | (go_simp; done) | (go_simp; rfl))
                            intro gb622 hg w86 hbox hb
                            have n0_ := Aside0.mk (blk_below (g := gb599) (o := .cells #[.slice A0_0 l0_0.length c0_0] 44 (0, 0)) (be_ BK599.out) hb)
                            have n1_ := Aside0.mk (blk_below (g := gb600) (o := .cells #[.slice A1_0 l1_0.length c1_0] 44 (0, 0)) (be_ BK600.out) hb)
                            have n2_ := Aside0.mk (blk_below (g := gb601) (o := .cells #[.slice none 0 0] 44 (0, 0)) (be_ BK601.out) hb)
                            have n3_ := Aside0.mk (below_step (by repeat (first | (with_reducible first | exact HB.out | apply below_alloc | apply pw_below_drewN | apply below_drew1 | refine below_set ?_ GE599.out | refine below_set ?_ GE600.out | refine below_set ?_ GE601.out) | exact HB.out)) hb)
                            have n4_ := Aside0.mk (hbox)
                            have n5_ := Aside0.mk ((by rw [hg]; exact (below_size (by repeat (first | (with_reducible first | exact HB.out | apply below_alloc | apply pw_below_drewN | apply below_drew1 | refine below_set ?_ GE599.out | refine below_set ?_ GE600.out | refine below_set ?_ GE601.out) | exact HB.out))) : w.heap.size ≤ gb622))
                            have n6_ := Aside0.mk ((by rw [hg]; exact (below_size (by repeat (first | (with_reducible first | exact HB.out | apply below_alloc | apply pw_below_drewN | apply below_drew1 | refine below_set ?_ GE599.out | refine below_set ?_ GE600.out | refine below_set ?_ GE601.out) | exact HB.out))) : w.heap.size ≤ gb622))
                            have n7_ := Aside0.mk ((by rw [hg]; exact Nat.ne_of_lt (blk_lt (g := gb599) (o := .cells #[.slice A0_0 l0_0.length c0_0] 44 (0, 0)) (be_ BK599.out)) : gb599 ≠ gb622))
                            have n8_ := Aside0.mk ((by rw [hg]; exact Nat.ne_of_gt (blk_lt (g := gb599) (o := .cells #[.slice A0_0 l0_0.length c0_0] 44 (0, 0)) (be_ BK599.out)) : gb622 ≠ gb599))
                            have n9_ := Aside0.mk ((by rw [hg]; exact Nat.ne_of_lt (blk_lt (g := gb600) (o := .cells #[.slice A1_0 l1_0.length c1_0] 44 (0, 0)) (be_ BK600.out)) : gb600 ≠ gb622))
                            have n10_ := Aside0.mk ((by rw [hg]; exact Nat.ne_of_gt (blk_lt (g := gb600) (o := .cells #[.slice A1_0 l1_0.length c1_0] 44 (0, 0)) (be_ BK600.out)) : gb622 ≠ gb600))
                            have n11_ := Aside0.mk ((by rw [hg]; exact Nat.ne_of_lt (blk_lt (g := gb601) (o := .cells #[.slice none 0 0] 44 (0, 0)) (be_ BK601.out)) : gb601 ≠ gb622))
                            have n12_ := Aside0.mk ((by rw [hg]; exact Nat.ne_of_gt (blk_lt (g := gb601) (o := .cells #[.slice none 0 0] 44 (0, 0)) (be_ BK601.out)) : gb622 ≠ gb601))
                            clear BK599
                            clear BK600
                            clear BK601
                            clear HB
                            have BK599 := n0_
                            have BK600 := n1_
                            have BK601 := n2_
                            have HB := n3_
                            have BK622 := n4_
                            have GW622 := n5_
                            have GE622 := n6_
                            have NB599_622 := n7_
                            have NB622_599 := n8_
                            have NB600_622 := n9_
                            have NB622_600 := n10_
                            have NB601_622 := n11_
                            have NB622_601 := n12_
                            clear n0_ n1_ n2_ n3_ n4_ n5_ n6_ n7_ n8_ n9_ n10_ n11_ n12_
                            clear hb hbox hg
                            refine hK.out _ _ ⟨(blk_cell BK599.out 0).trans rfl, (blk_cell BK600.out 0).trans rfl⟩ (fun hHeld => ?_)
                            clear hK K
                            refine norm_ (a' := ?_) ?_ ?_
                            rotate_left
                            · show Act.put _ (some 10) _ = _
                              simp only [Act.put, z1_, z2_, z3_, i64_w, i32_w]
                              rfl
                            exact norm_ (by first | (simp only [putAll, Act.put, z1_, z2_, z3_]; done) | (simp only [putAll, Act.put, z1_, z2_, z3_]; rfl)) (hJ13 (gb622) _ ⟨hHeld, (be_ BK599.out), (be_ BK600.out), (be_ BK601.out), (be_ BK622.out), GW622.out, GE622.out, NB599_622.out, NB622_599.out, NB600_622.out, NB622_600.out, NB601_622.out, NB622_601.out, (by repeat (first | (with_reducible first | exact HB.out | apply below_alloc | apply pw_below_drewN | apply below_drew1 | refine below_set ?_ GE599.out | refine below_set ?_ GE600.out | refine below_set ?_ GE601.out | refine below_set ?_ GE622.out) | exact HB.out))⟩)
                        · skip
                          rintro gb622 w87 ⟨hS_, h0_, h1_, h2_, h3_, h4_, h5_, h6_, h7_, h8_, h9_, h10_, h11_, h12_⟩
                          have n0_ : Aside0 (w87.heap[gb599]? = some (.cells #[.slice A0_0 l0_0.length c0_0] 44 (0, 0))) := ⟨h0_⟩
                          have n1_ : Aside0 (w87.heap[gb600]? = some (.cells #[.slice A1_0 l1_0.length c1_0] 44 (0, 0))) := ⟨h1_⟩
                          have n2_ : Aside0 (w87.heap[gb601]? = some (.cells #[.slice none 0 0] 44 (0, 0))) := ⟨h2_⟩
                          have n3_ : Aside0 (w87.heap[gb622]? = some (.cells #[.slice none 0 0] 44 (0, 0))) := ⟨h3_⟩
                          have n4_ : Aside0 (w.heap.size ≤ gb622) := ⟨h4_⟩
                          have n5_ : Aside0 (w.heap.size ≤ gb622) := ⟨h5_⟩
                          have n6_ : Aside0 (gb599 ≠ gb622) := ⟨h6_⟩
                          have n7_ : Aside0 (gb622 ≠ gb599) := ⟨h7_⟩
                          have n8_ : Aside0 (gb600 ≠ gb622) := ⟨h8_⟩
                          have n9_ : Aside0 (gb622 ≠ gb600) := ⟨h9_⟩
                          have n10_ : Aside0 (gb601 ≠ gb622) := ⟨h10_⟩
                          have n11_ : Aside0 (gb622 ≠ gb601) := ⟨h11_⟩
                          have n12_ : Aside0 (Below w.heap.size w w87) := ⟨h12_⟩
                          clear BK599
                          clear BK600
                          clear BK601
                          clear HB
                          clear h0_ h1_ h2_ h3_ h4_ h5_ h6_ h7_ h8_ h9_ h10_ h11_ h12_
                          have BK599 := n0_
                          have BK600 := n1_
                          have BK601 := n2_
                          have BK622 := n3_
                          have GW622 := n4_
                          have GE622 := n5_
                          have NB599_622 := n6_
                          have NB622_599 := n7_
                          have NB600_622 := n8_
                          have NB622_600 := n9_
                          have NB601_622 := n10_
                          have NB622_601 := n11_
                          have HB := n12_
                          clear n0_ n1_ n2_ n3_ n4_ n5_ n6_ n7_ n8_ n9_ n10_ n11_ n12_
                          have hHeld : w87.cell? ⟨gb599, 0, none⟩ = some (.slice A0_0 l0_0.length c0_0) ∧ w87.cell? ⟨gb600, 0, none⟩ = some (.slice A1_0 l1_0.length c1_0) := hS_
                          refine norm_ (a' := ?_) ?_ ?_
                          rotate_left
                          · simp only [putAll, Act.put, z1_, z2_, z3_]
                            rfl
                          refine one_ (i := 3) (N := some 55) (B_ 8319 16) rfl rfl (one_of HT_.out (by kernel_rfl)) (by decide) (fun K hK => ?_)
                          refine goes_ Try.func63 (by kernel_rfl) rfl #[.slice A0_0 l0_0.length c0_0, .int .i64 a2] (by rfl) rfl rfl (by (try simp only [List.map_toArray, List.map_cons, List.map_nil]); first | done | rfl | (simp only [List.length_drop, List.length_take]; rfl)) ?_
                          with_reducible refine (spec_l22Times.calls kj4 _ _ l0_0 a2 t609 _ ?side1 ?side2 A81.out).mono ?_
                          (case side1 => exact ce_ ((Kd.C_below HR0_0.out HB.out)))
                          (case side2 => exact HC0_0.out)
                          rintro e w88 ⟨v610, rfl, ho0, hb⟩
                          refine ⟨_, rfl, ?_⟩
                          have n0_ := Aside0.mk (Kd.R_lower ho0 (below_size (by repeat (first | (with_reducible first | exact HB.out | apply below_alloc | apply pw_below_drewN | apply below_drew1 | refine below_set ?_ GE599.out | refine below_set ?_ GE600.out | refine below_set ?_ GE601.out | refine below_set ?_ GE622.out) | exact HB.out))))
                          have n1_ := Aside0.mk (blk_below (g := gb599) (o := .cells #[.slice A0_0 l0_0.length c0_0] 44 (0, 0)) (be_ BK599.out) hb)
                          have n2_ := Aside0.mk (blk_below (g := gb600) (o := .cells #[.slice A1_0 l1_0.length c1_0] 44 (0, 0)) (be_ BK600.out) hb)
                          have n3_ := Aside0.mk (blk_below (g := gb601) (o := .cells #[.slice none 0 0] 44 (0, 0)) (be_ BK601.out) hb)
                          have n4_ := Aside0.mk (blk_below (g := gb622) (o := .cells #[.slice none 0 0] 44 (0, 0)) (be_ BK622.out) hb)
                          have n5_ := Aside0.mk (below_step (by repeat (first | (with_reducible first | exact HB.out | apply below_alloc | apply pw_below_drewN | apply below_drew1 | refine below_set ?_ GE599.out | refine below_set ?_ GE600.out | refine below_set ?_ GE601.out | refine below_set ?_ GE622.out) | exact HB.out)) hb)
                          clear BK599
                          clear BK600
                          clear BK601
                          clear BK622
                          clear HB
                          have HO611 := n0_
                          have BK599 := n1_
                          have BK600 := n2_
                          have BK601 := n3_
                          have BK622 := n4_
                          have HB := n5_
                          clear n0_ n1_ n2_ n3_ n4_ n5_
                          (try clear hb)
                          (try clear hb2)
                          (try clear hk)
                          (try clear hi)
                          (try clear ho0)
                          refine hK.out _ _ ⟨(blk_cell BK599.out 0).trans rfl, (blk_cell BK600.out 0).trans rfl⟩ (fun hHeld => ?_)
                          clear hK K
                          refine norm_ (a' := ?_) ?_ ?_
                          rotate_left
                          · show Act.put _ (some 55) _ = _
                            simp only [Act.put, z1_, z2_, z3_, i64_w, i32_w]
                            rfl
                          exact norm_ (by first | (simp only [putAll, Act.put, z1_, z2_, z3_]; done) | (simp only [putAll, Act.put, z1_, z2_, z3_]; rfl)) (hJ3_13 (v610, gb622) _ ⟨hHeld, (re_ HO611.out), (be_ BK599.out), (be_ BK600.out), (be_ BK601.out), (be_ BK622.out), GW622.out, GE622.out, NB599_622.out, NB622_599.out, NB600_622.out, NB622_600.out, NB601_622.out, NB622_601.out, (by repeat (first | (with_reducible first | exact HB.out | apply below_alloc | apply pw_below_drewN | apply below_drew1 | refine below_set ?_ GE599.out | refine below_set ?_ GE600.out | refine below_set ?_ GE601.out | refine below_set ?_ GE622.out) | exact HB.out))⟩)
                      · skip
                        rintro v610 w87 ⟨hS_, h0_, h1_, h2_, h3_, h4_⟩
                        have n0_ : Aside0 (Kd.R (Kd.int .i64) 3 w87 w.heap.size (fun _ => True) v610 t609) := ⟨h0_⟩
                        have n1_ : Aside0 (w87.heap[gb599]? = some (.cells #[.slice A0_0 l0_0.length c0_0] 44 (0, 0))) := ⟨h1_⟩
                        have n2_ : Aside0 (w87.heap[gb600]? = some (.cells #[.slice A1_0 l1_0.length c1_0] 44 (0, 0))) := ⟨h2_⟩
                        have n3_ : Aside0 (w87.heap[gb601]? = some (.cells #[.slice none 0 0] 44 (0, 0))) := ⟨h3_⟩
                        have n4_ : Aside0 (Below w.heap.size w w87) := ⟨h4_⟩
                        clear BK599
                        clear BK600
                        clear BK601
                        clear HB
                        clear h0_ h1_ h2_ h3_ h4_
                        have HO611 := n0_
                        have BK599 := n1_
                        have BK600 := n2_
                        have BK601 := n3_
                        have HB := n4_
                        clear n0_ n1_ n2_ n3_ n4_
                        have hHeld : w87.cell? ⟨gb599, 0, none⟩ = some (.slice A0_0 l0_0.length c0_0) ∧ w87.cell? ⟨gb600, 0, none⟩ = some (.slice A1_0 l1_0.length c1_0) := hS_
                        refine norm_ (a' := ?_) ?_ ?_
                        rotate_left
                        · simp only [putAll, Act.put, z1_, z2_, z3_]
                          rfl
                        refine two_ (i := 7) (j := 13) (Ni := some 59) (Nj := some 10) (B_ 255 16) (B_ 8319 16) rfl rfl rfl rfl (two_of HT_.out (by kernel_rfl)) (by decide) (by decide) (fun K hK => ?_) (fun K hK => ?_)
                        · skip
                          refine goes_ Try.func63 (by kernel_rfl) rfl #[.slice A1_0 l1_0.length c1_0, .int .i64 a3] (by rfl) rfl rfl (by (try simp only [List.map_toArray, List.map_cons, List.map_nil]); first | done | rfl | (simp only [List.length_drop, List.length_take]; rfl)) ?_
                          with_reducible refine (spec_l22Times.calls kj4 _ _ l1_0 a3 t612 _ ?side1 ?side2 A82.out).mono ?_
                          (case side1 => exact ce_ ((Kd.C_below HR1_0.out HB.out)))
                          (case side2 => exact HC1_0.out)
                          rintro e w88 ⟨v613, rfl, ho0, hb⟩
                          refine ⟨_, rfl, ?_⟩
                          have n0_ := Aside0.mk (Kd.R_elder' (re_ HO611.out) (Kd.R_base ho0) hb)
                          have n1_ := Aside0.mk (Kd.R_lower (Kd.R_new' ho0 (Kd.R_lt (re_ HO611.out))) (below_size (by repeat (first | (with_reducible first | exact HB.out | apply below_alloc | apply pw_below_drewN | apply below_drew1 | refine below_set ?_ GE599.out | refine below_set ?_ GE600.out | refine below_set ?_ GE601.out) | exact HB.out))))
                          have n2_ := Aside0.mk (blk_below (g := gb599) (o := .cells #[.slice A0_0 l0_0.length c0_0] 44 (0, 0)) (be_ BK599.out) hb)
                          have n3_ := Aside0.mk (blk_below (g := gb600) (o := .cells #[.slice A1_0 l1_0.length c1_0] 44 (0, 0)) (be_ BK600.out) hb)
                          have n4_ := Aside0.mk (blk_below (g := gb601) (o := .cells #[.slice none 0 0] 44 (0, 0)) (be_ BK601.out) hb)
                          have n5_ := Aside0.mk (below_step (by repeat (first | (with_reducible first | exact HB.out | apply below_alloc | apply pw_below_drewN | apply below_drew1 | refine below_set ?_ GE599.out | refine below_set ?_ GE600.out | refine below_set ?_ GE601.out) | exact HB.out)) hb)
                          clear HO611
                          clear BK599
                          clear BK600
                          clear BK601
                          clear HB
                          have HO611 := n0_
                          have HO614 := n1_
                          have BK599 := n2_
                          have BK600 := n3_
                          have BK601 := n4_
                          have HB := n5_
                          clear n0_ n1_ n2_ n3_ n4_ n5_
                          (try clear hb)
                          (try clear hb2)
                          (try clear hk)
                          (try clear hi)
                          (try clear ho0)
                          refine hK.out _ _ ⟨(blk_cell BK599.out 0).trans rfl, (blk_cell BK600.out 0).trans rfl⟩ (fun hHeld => ?_)
                          clear hK K
                          refine norm_ (a' := ?_) ?_ ?_
                          rotate_left
                          · show Act.put _ (some 59) _ = _
                            simp only [Act.put, z1_, z2_, z3_, i64_w, i32_w]
                            rfl
                          exact norm_ (by first | (simp only [putAll, Act.put, z1_, z2_, z3_]; done) | (simp only [putAll, Act.put, z1_, z2_, z3_]; rfl)) (hJ3_7 (v610, v613) _ ⟨hHeld, (by (with_reducible repeat (first | apply Kd.R_alloc | apply Kd.R_drewN | apply Kd.R_drew)); exact Kd.R_mono HO611.out (fun _ hk => hk.2)), (by (with_reducible repeat (first | apply Kd.R_alloc | apply Kd.R_drewN | apply Kd.R_drew)); exact Kd.R_mono HO614.out (fun _ hk => hk.2)), (be_ BK599.out), (be_ BK600.out), (be_ BK601.out), (by repeat (first | (with_reducible first | exact HB.out | apply below_alloc | apply pw_below_drewN | apply below_drew1 | refine below_set ?_ GE599.out | refine below_set ?_ GE600.out | refine below_set ?_ GE601.out) | exact HB.out))⟩)
                        · skip
                          refine box_step ?hg (N := 10) ?hd (cs := #[.slice none 0 0]) (t := 44) ?hr ?_; (case hd => rfl); (case hg => rfl); (case hr => first | (go_simp; done) | (go_simp; rfl))
                          intro gb622 hg w88 hbox hb
                          have n0_ := Aside0.mk (Kd.R_below (re_ HO611.out) hb)
                          have n1_ := Aside0.mk (blk_below (g := gb599) (o := .cells #[.slice A0_0 l0_0.length c0_0] 44 (0, 0)) (be_ BK599.out) hb)
                          have n2_ := Aside0.mk (blk_below (g := gb600) (o := .cells #[.slice A1_0 l1_0.length c1_0] 44 (0, 0)) (be_ BK600.out) hb)
                          have n3_ := Aside0.mk (blk_below (g := gb601) (o := .cells #[.slice none 0 0] 44 (0, 0)) (be_ BK601.out) hb)
                          have n4_ := Aside0.mk (below_step (by repeat (first | (with_reducible first | exact HB.out | apply below_alloc | apply pw_below_drewN | apply below_drew1 | refine below_set ?_ GE599.out | refine below_set ?_ GE600.out | refine below_set ?_ GE601.out) | exact HB.out)) hb)
                          have n5_ := Aside0.mk (hbox)
                          have n6_ := Aside0.mk ((by rw [hg]; exact (below_size (by repeat (first | (with_reducible first | exact HB.out | apply below_alloc | apply pw_below_drewN | apply below_drew1 | refine below_set ?_ GE599.out | refine below_set ?_ GE600.out | refine below_set ?_ GE601.out) | exact HB.out))) : w.heap.size ≤ gb622))
                          have n7_ := Aside0.mk ((by rw [hg]; exact (below_size (by repeat (first | (with_reducible first | exact HB.out | apply below_alloc | apply pw_below_drewN | apply below_drew1 | refine below_set ?_ GE599.out | refine below_set ?_ GE600.out | refine below_set ?_ GE601.out) | exact HB.out))) : w.heap.size ≤ gb622))
                          have n8_ := Aside0.mk ((by rw [hg]; exact Nat.ne_of_lt (blk_lt (g := gb599) (o := .cells #[.slice A0_0 l0_0.length c0_0] 44 (0, 0)) (be_ BK599.out)) : gb599 ≠ gb622))
                          have n9_ := Aside0.mk ((by rw [hg]; exact Nat.ne_of_gt (blk_lt (g := gb599) (o := .cells #[.slice A0_0 l0_0.length c0_0] 44 (0, 0)) (be_ BK599.out)) : gb622 ≠ gb599))
                          have n10_ := Aside0.mk ((by rw [hg]; exact Nat.ne_of_lt (blk_lt (g := gb600) (o := .cells #[.slice A1_0 l1_0.length c1_0] 44 (0, 0)) (be_ BK600.out)) : gb600 ≠ gb622))
                          have n11_ := Aside0.mk ((by rw [hg]; exact Nat.ne_of_gt (blk_lt (g := gb600) (o := .cells #[.slice A1_0 l1_0.length c1_0] 44 (0, 0)) (be_ BK600.out)) : gb622 ≠ gb600))
                          have n12_ := Aside0.mk ((by rw [hg]; exact Nat.ne_of_lt (blk_lt (g := gb601) (o := .cells #[.slice none 0 0] 44 (0, 0)) (be_ BK601.out)) : gb601 ≠ gb622))
                          have n13_ := Aside0.mk ((by rw [hg]; exact Nat.ne_of_gt (blk_lt (g := gb601) (o := .cells #[.slice none 0 0] 44 (0, 0)) (be_ BK601.out)) : gb622 ≠ gb601))
                          clear HO611
                          clear BK599
                          clear BK600
                          clear BK601
                          clear HB
                          have HO611 := n0_
                          have BK599 := n1_
                          have BK600 := n2_
                          have BK601 := n3_
                          have HB := n4_
                          have BK622 := n5_
                          have GW622 := n6_
                          have GE622 := n7_
                          have NB599_622 := n8_
                          have NB622_599 := n9_
                          have NB600_622 := n10_
                          have NB622_600 := n11_
                          have NB601_622 := n12_
                          have NB622_601 := n13_
                          clear n0_ n1_ n2_ n3_ n4_ n5_ n6_ n7_ n8_ n9_ n10_ n11_ n12_ n13_
                          clear hb hbox hg
                          refine hK.out _ _ ⟨(blk_cell BK599.out 0).trans rfl, (blk_cell BK600.out 0).trans rfl⟩ (fun hHeld => ?_)
                          clear hK K
                          refine norm_ (a' := ?_) ?_ ?_
                          rotate_left
                          · show Act.put _ (some 10) _ = _
                            simp only [Act.put, z1_, z2_, z3_, i64_w, i32_w]
                            rfl
                          exact norm_ (by first | (simp only [putAll, Act.put, z1_, z2_, z3_]; done) | (simp only [putAll, Act.put, z1_, z2_, z3_]; rfl)) (hJ3_13 (v610, gb622) _ ⟨hHeld, (re_ HO611.out), (be_ BK599.out), (be_ BK600.out), (be_ BK601.out), (be_ BK622.out), GW622.out, GE622.out, NB599_622.out, NB622_599.out, NB600_622.out, NB622_600.out, NB601_622.out, NB622_601.out, (by repeat (first | (with_reducible first | exact HB.out | apply below_alloc | apply pw_below_drewN | apply below_drew1 | refine below_set ?_ GE599.out | refine below_set ?_ GE600.out | refine below_set ?_ GE601.out | refine below_set ?_ GE622.out) | exact HB.out))⟩)
                    · skip
                      rintro ⟨v610, gb622⟩ w88 ⟨hS_, h0_, h1_, h2_, h3_, h4_, h5_, h6_, h7_, h8_, h9_, h10_, h11_, h12_, h13_⟩
                      have n0_ : Aside0 (Kd.R (Kd.int .i64) 3 w88 w.heap.size (fun _ => True) v610 t609) := ⟨h0_⟩
                      have n1_ : Aside0 (w88.heap[gb599]? = some (.cells #[.slice A0_0 l0_0.length c0_0] 44 (0, 0))) := ⟨h1_⟩
                      have n2_ : Aside0 (w88.heap[gb600]? = some (.cells #[.slice A1_0 l1_0.length c1_0] 44 (0, 0))) := ⟨h2_⟩
                      have n3_ : Aside0 (w88.heap[gb601]? = some (.cells #[.slice none 0 0] 44 (0, 0))) := ⟨h3_⟩
                      have n4_ : Aside0 (w88.heap[gb622]? = some (.cells #[.slice none 0 0] 44 (0, 0))) := ⟨h4_⟩
                      have n5_ : Aside0 (w.heap.size ≤ gb622) := ⟨h5_⟩
                      have n6_ : Aside0 (w.heap.size ≤ gb622) := ⟨h6_⟩
                      have n7_ : Aside0 (gb599 ≠ gb622) := ⟨h7_⟩
                      have n8_ : Aside0 (gb622 ≠ gb599) := ⟨h8_⟩
                      have n9_ : Aside0 (gb600 ≠ gb622) := ⟨h9_⟩
                      have n10_ : Aside0 (gb622 ≠ gb600) := ⟨h10_⟩
                      have n11_ : Aside0 (gb601 ≠ gb622) := ⟨h11_⟩
                      have n12_ : Aside0 (gb622 ≠ gb601) := ⟨h12_⟩
                      have n13_ : Aside0 (Below w.heap.size w w88) := ⟨h13_⟩
                      clear BK599
                      clear BK600
                      clear BK601
                      clear HB
                      clear h0_ h1_ h2_ h3_ h4_ h5_ h6_ h7_ h8_ h9_ h10_ h11_ h12_ h13_
                      have HO611 := n0_
                      have BK599 := n1_
                      have BK600 := n2_
                      have BK601 := n3_
                      have BK622 := n4_
                      have GW622 := n5_
                      have GE622 := n6_
                      have NB599_622 := n7_
                      have NB622_599 := n8_
                      have NB600_622 := n9_
                      have NB622_600 := n10_
                      have NB601_622 := n11_
                      have NB622_601 := n12_
                      have HB := n13_
                      clear n0_ n1_ n2_ n3_ n4_ n5_ n6_ n7_ n8_ n9_ n10_ n11_ n12_ n13_
                      have hHeld : w88.cell? ⟨gb599, 0, none⟩ = some (.slice A0_0 l0_0.length c0_0) ∧ w88.cell? ⟨gb600, 0, none⟩ = some (.slice A1_0 l1_0.length c1_0) := hS_
                      refine norm_ (a' := ?_) ?_ ?_
                      rotate_left
                      · simp only [putAll, Act.put, z1_, z2_, z3_]
                        rfl
                      refine one_ (i := 7) (N := some 59) (B_ 8447 16) rfl rfl (one_of HT_.out (by kernel_rfl)) (by decide) (fun K hK => ?_)
                      refine goes_ Try.func63 (by kernel_rfl) rfl #[.slice A1_0 l1_0.length c1_0, .int .i64 a3] (by rfl) rfl rfl (by (try simp only [List.map_toArray, List.map_cons, List.map_nil]); first | done | rfl | (simp only [List.length_drop, List.length_take]; rfl)) ?_
                      with_reducible refine (spec_l22Times.calls kj4 _ _ l1_0 a3 t612 _ ?side1 ?side2 A82.out).mono ?_
                      (case side1 => exact ce_ ((Kd.C_below HR1_0.out HB.out)))
                      (case side2 => exact HC1_0.out)
                      rintro e w89 ⟨v613, rfl, ho0, hb⟩
                      refine ⟨_, rfl, ?_⟩
                      have n0_ := Aside0.mk (Kd.R_elder' (re_ HO611.out) (Kd.R_base ho0) hb)
                      have n1_ := Aside0.mk (Kd.R_lower (Kd.R_new' ho0 (Kd.R_lt (re_ HO611.out))) (below_size (by repeat (first | (with_reducible first | exact HB.out | apply below_alloc | apply pw_below_drewN | apply below_drew1 | refine below_set ?_ GE599.out | refine below_set ?_ GE600.out | refine below_set ?_ GE601.out | refine below_set ?_ GE622.out) | exact HB.out))))
                      have n2_ := Aside0.mk (blk_below (g := gb599) (o := .cells #[.slice A0_0 l0_0.length c0_0] 44 (0, 0)) (be_ BK599.out) hb)
                      have n3_ := Aside0.mk (blk_below (g := gb600) (o := .cells #[.slice A1_0 l1_0.length c1_0] 44 (0, 0)) (be_ BK600.out) hb)
                      have n4_ := Aside0.mk (blk_below (g := gb601) (o := .cells #[.slice none 0 0] 44 (0, 0)) (be_ BK601.out) hb)
                      have n5_ := Aside0.mk (blk_below (g := gb622) (o := .cells #[.slice none 0 0] 44 (0, 0)) (be_ BK622.out) hb)
                      have n6_ := Aside0.mk (below_step (by repeat (first | (with_reducible first | exact HB.out | apply below_alloc | apply pw_below_drewN | apply below_drew1 | refine below_set ?_ GE599.out | refine below_set ?_ GE600.out | refine below_set ?_ GE601.out | refine below_set ?_ GE622.out) | exact HB.out)) hb)
                      clear HO611
                      clear BK599
                      clear BK600
                      clear BK601
                      clear BK622
                      clear HB
                      have HO611 := n0_
                      have HO614 := n1_
                      have BK599 := n2_
                      have BK600 := n3_
                      have BK601 := n4_
                      have BK622 := n5_
                      have HB := n6_
                      clear n0_ n1_ n2_ n3_ n4_ n5_ n6_
                      (try clear hb)
                      (try clear hb2)
                      (try clear hk)
                      (try clear hi)
                      (try clear ho0)
                      refine hK.out _ _ ⟨(blk_cell BK599.out 0).trans rfl, (blk_cell BK600.out 0).trans rfl⟩ (fun hHeld => ?_)
                      clear hK K
                      refine norm_ (a' := ?_) ?_ ?_
                      rotate_left
                      · show Act.put _ (some 59) _ = _
                        simp only [Act.put, z1_, z2_, z3_, i64_w, i32_w]
                        rfl
                      exact norm_ (by first | (simp only [putAll, Act.put, z1_, z2_, z3_]; done) | (simp only [putAll, Act.put, z1_, z2_, z3_]; rfl)) (hJ3_7_13 (v610, v613, gb622) _ ⟨hHeld, (by (with_reducible repeat (first | apply Kd.R_alloc | apply Kd.R_drewN | apply Kd.R_drew)); exact Kd.R_mono HO611.out (fun _ hk => hk.2)), (by (with_reducible repeat (first | apply Kd.R_alloc | apply Kd.R_drewN | apply Kd.R_drew)); exact Kd.R_mono HO614.out (fun _ hk => hk.2)), (be_ BK599.out), (be_ BK600.out), (be_ BK601.out), (be_ BK622.out), GW622.out, GE622.out, NB599_622.out, NB622_599.out, NB600_622.out, NB622_600.out, NB601_622.out, NB622_601.out, (by repeat (first | (with_reducible first | exact HB.out | apply below_alloc | apply pw_below_drewN | apply below_drew1 | refine below_set ?_ GE599.out | refine below_set ?_ GE600.out | refine below_set ?_ GE601.out | refine below_set ?_ GE622.out) | exact HB.out))⟩)
                  · skip
                    rintro ⟨v610, v613⟩ w88 ⟨hS_, h0_, h1_, h2_, h3_, h4_, h5_⟩
                    have n0_ : Aside0 (Kd.R (Kd.int .i64) 3 w88 w.heap.size (fun k_ => some k_ ≠ (v613 : Value).ownBlock) v610 t609) := ⟨h0_⟩
                    have n1_ : Aside0 (Kd.R (Kd.int .i64) 3 w88 w.heap.size (fun k_ => some k_ ≠ (v610 : Value).ownBlock) v613 t612) := ⟨h1_⟩
                    have n2_ : Aside0 (w88.heap[gb599]? = some (.cells #[.slice A0_0 l0_0.length c0_0] 44 (0, 0))) := ⟨h2_⟩
                    have n3_ : Aside0 (w88.heap[gb600]? = some (.cells #[.slice A1_0 l1_0.length c1_0] 44 (0, 0))) := ⟨h3_⟩
                    have n4_ : Aside0 (w88.heap[gb601]? = some (.cells #[.slice none 0 0] 44 (0, 0))) := ⟨h4_⟩
                    have n5_ : Aside0 (Below w.heap.size w w88) := ⟨h5_⟩
                    clear BK599
                    clear BK600
                    clear BK601
                    clear HB
                    clear h0_ h1_ h2_ h3_ h4_ h5_
                    have HO611 := n0_
                    have HO614 := n1_
                    have BK599 := n2_
                    have BK600 := n3_
                    have BK601 := n4_
                    have HB := n5_
                    clear n0_ n1_ n2_ n3_ n4_ n5_
                    have hHeld : w88.cell? ⟨gb599, 0, none⟩ = some (.slice A0_0 l0_0.length c0_0) ∧ w88.cell? ⟨gb600, 0, none⟩ = some (.slice A1_0 l1_0.length c1_0) := hS_
                    obtain ⟨Ao90, co90, eo90⟩ := Kd.R_slice HO614.out
                    (first | subst eo90 | (injection eo90 with f1_ f2_ f3_; have f4_ := f1_.symm; have f5_ := f3_.symm; clear f1_ f2_ f3_; subst f4_; subst f5_))
                    refine norm_ (a' := ?_) ?_ ?_
                    rotate_left
                    · simp only [putAll, Act.put, z1_, z2_, z3_]
                      rfl
                    refine two_ (i := 8) (j := 13) (Ni := some 60) (Nj := some 10) (B_ 511 16) (B_ 8447 16) rfl rfl rfl rfl (two_of HT_.out (by kernel_rfl)) (by decide) (by decide) (fun K hK => ?_) (fun K hK => ?_)
                    · skip
                      refine Kd.R_append_rows_step (Kd.int .i64) (w0 := w) w.heap.size (by rfl) (.tmp 55) (.tmp 59) 22 3 (.int .i64 0) 8 rfl Try.underlying22 info3 rfl (by decide) (by omega) v610 t609 t612 _ _ _ (fun k_ => some k_ ≠ (.slice Ao90 t612.length co90 : Value).ownBlock) (fun _ => False) rfl rfl ?aO ?aR (fun _ _ h => h) (fun _ h => h.elim) ?aF ?aB ?aS ?aL ?_
                      (case aR => exact ce_ ((Kd.R_reads' HO614.out).2.2))
                      (case aB => exact (by repeat (first | (with_reducible first | exact HB.out | apply below_alloc | apply pw_below_drewN | apply below_drew1 | refine below_set ?_ GE599.out | refine below_set ?_ GE600.out | refine below_set ?_ GE601.out) | exact HB.out)))
                      (case aF => exact (fun k_ hk => Kd.fresh' (Kd.R_lt (re_ HO614.out)) k_ hk))
                      (case aO => exact (re_ HO611.out))
                      (case aS => exact (below_size (by repeat (first | (with_reducible first | exact HB.out | apply below_alloc | apply pw_below_drewN | apply below_drew1 | refine below_set ?_ GE599.out | refine below_set ?_ GE600.out | refine below_set ?_ GE601.out) | exact HB.out))))
                      (case aL => have := LMc83.out; omega)
                      intro v616 w89 ho hb hg hat
                      rw [← Ny615.out] at ho
                      have n0_ := Aside0.mk (blk_grown (g := gb599) (o := .cells #[.slice A0_0 l0_0.length c0_0] 44 (0, 0)) (be_ BK599.out) hg (Kd.R_ne HO611.out BK599.out (by decide)))
                      have n1_ := Aside0.mk (blk_grown (g := gb600) (o := .cells #[.slice A1_0 l1_0.length c1_0] 44 (0, 0)) (be_ BK600.out) hg (Kd.R_ne HO611.out BK600.out (by decide)))
                      have n2_ := Aside0.mk (blk_grown (g := gb601) (o := .cells #[.slice none 0 0] 44 (0, 0)) (be_ BK601.out) hg (Kd.R_ne HO611.out BK601.out (by decide)))
                      have n3_ := Aside0.mk (Kd.R_after (ok := (fun _ => True)) (by (with_reducible repeat (first | apply Kd.R_alloc | apply Kd.R_drewN | apply Kd.R_drew)); exact Kd.R_mono HO614.out (fun _ hk => ⟨trivial, hk⟩)) hg hat)
                      have n4_ := Aside0.mk (hb)
                      have n5_ := Aside0.mk (ho)
                      clear BK599
                      clear BK600
                      clear BK601
                      clear HO614
                      clear HB
                      clear HO611
                      have BK599 := n0_
                      have BK600 := n1_
                      have BK601 := n2_
                      have HO614 := n3_
                      have HB := n4_
                      have HO617 := n5_
                      clear n0_ n1_ n2_ n3_ n4_ n5_
                      clear ho hb hg hat
                      refine hK.out _ _ ⟨(blk_cell BK599.out 0).trans rfl, (blk_cell BK600.out 0).trans rfl⟩ (fun hHeld => ?_)
                      clear hK K
                      refine norm_ (a' := ?_) ?_ ?_
                      rotate_left
                      · show Act.put _ (some 60) _ = _
                        simp only [Act.put, z1_, z2_, z3_, i64_w, i32_w]
                        rfl
                      exact norm_ (by first | (simp only [putAll, Act.put, z1_, z2_, z3_]; done) | (simp only [putAll, Act.put, z1_, z2_, z3_]; rfl)) (hJ3_7_8 (v610, .slice Ao90 t612.length co90, v616) _ ⟨hHeld, (by (with_reducible repeat (first | apply Kd.R_alloc | apply Kd.R_drewN | apply Kd.R_drew)); exact Kd.R_mono HO614.out (fun _ hk => hk.2)), (re_ HO617.out), (be_ BK599.out), (be_ BK600.out), (be_ BK601.out), (by repeat (first | (with_reducible first | exact HB.out | apply below_alloc | apply pw_below_drewN | apply below_drew1 | refine below_set ?_ GE599.out | refine below_set ?_ GE600.out | refine below_set ?_ GE601.out) | exact HB.out))⟩)
                    · skip
                      refine box_step ?hg (N := 10) ?hd (cs := #[.slice none 0 0]) (t := 44) ?hr ?_; (case hd => rfl); (case hg => rfl); (case hr => first | (go_simp; done) | (go_simp; rfl))
                      intro gb622 hg w89 hbox hb
                      have n0_ := Aside0.mk (Kd.R_below (re_ HO611.out) hb)
                      have n1_ := Aside0.mk (Kd.R_below (re_ HO614.out) hb)
                      have n2_ := Aside0.mk (blk_below (g := gb599) (o := .cells #[.slice A0_0 l0_0.length c0_0] 44 (0, 0)) (be_ BK599.out) hb)
                      have n3_ := Aside0.mk (blk_below (g := gb600) (o := .cells #[.slice A1_0 l1_0.length c1_0] 44 (0, 0)) (be_ BK600.out) hb)
                      have n4_ := Aside0.mk (blk_below (g := gb601) (o := .cells #[.slice none 0 0] 44 (0, 0)) (be_ BK601.out) hb)
                      have n5_ := Aside0.mk (below_step (by repeat (first | (with_reducible first | exact HB.out | apply below_alloc | apply pw_below_drewN | apply below_drew1 | refine below_set ?_ GE599.out | refine below_set ?_ GE600.out | refine below_set ?_ GE601.out) | exact HB.out)) hb)
                      have n6_ := Aside0.mk (hbox)
                      have n7_ := Aside0.mk ((by rw [hg]; exact (below_size (by repeat (first | (with_reducible first | exact HB.out | apply below_alloc | apply pw_below_drewN | apply below_drew1 | refine below_set ?_ GE599.out | refine below_set ?_ GE600.out | refine below_set ?_ GE601.out) | exact HB.out))) : w.heap.size ≤ gb622))
                      have n8_ := Aside0.mk ((by rw [hg]; exact (below_size (by repeat (first | (with_reducible first | exact HB.out | apply below_alloc | apply pw_below_drewN | apply below_drew1 | refine below_set ?_ GE599.out | refine below_set ?_ GE600.out | refine below_set ?_ GE601.out) | exact HB.out))) : w.heap.size ≤ gb622))
                      have n9_ := Aside0.mk ((by rw [hg]; exact Nat.ne_of_lt (blk_lt (g := gb599) (o := .cells #[.slice A0_0 l0_0.length c0_0] 44 (0, 0)) (be_ BK599.out)) : gb599 ≠ gb622))
                      have n10_ := Aside0.mk ((by rw [hg]; exact Nat.ne_of_gt (blk_lt (g := gb599) (o := .cells #[.slice A0_0 l0_0.length c0_0] 44 (0, 0)) (be_ BK599.out)) : gb622 ≠ gb599))
                      have n11_ := Aside0.mk ((by rw [hg]; exact Nat.ne_of_lt (blk_lt (g := gb600) (o := .cells #[.slice A1_0 l1_0.length c1_0] 44 (0, 0)) (be_ BK600.out)) : gb600 ≠ gb622))
                      have n12_ := Aside0.mk ((by rw [hg]; exact Nat.ne_of_gt (blk_lt (g := gb600) (o := .cells #[.slice A1_0 l1_0.length c1_0] 44 (0, 0)) (be_ BK600.out)) : gb622 ≠ gb600))
                      have n13_ := Aside0.mk ((by rw [hg]; exact Nat.ne_of_lt (blk_lt (g := gb601) (o := .cells #[.slice none 0 0] 44 (0, 0)) (be_ BK601.out)) : gb601 ≠ gb622))
                      have n14_ := Aside0.mk ((by rw [hg]; exact Nat.ne_of_gt (blk_lt (g := gb601) (o := .cells #[.slice none 0 0] 44 (0, 0)) (be_ BK601.out)) : gb622 ≠ gb601))
                      clear HO611
                      clear HO614
                      clear BK599
                      clear BK600
                      clear BK601
                      clear HB
                      have HO611 := n0_
                      have HO614 := n1_
                      have BK599 := n2_
                      have BK600 := n3_
                      have BK601 := n4_
                      have HB := n5_
                      have BK622 := n6_
                      have GW622 := n7_
                      have GE622 := n8_
                      have NB599_622 := n9_
                      have NB622_599 := n10_
                      have NB600_622 := n11_
                      have NB622_600 := n12_
                      have NB601_622 := n13_
                      have NB622_601 := n14_
                      clear n0_ n1_ n2_ n3_ n4_ n5_ n6_ n7_ n8_ n9_ n10_ n11_ n12_ n13_ n14_
                      clear hb hbox hg
                      refine hK.out _ _ ⟨(blk_cell BK599.out 0).trans rfl, (blk_cell BK600.out 0).trans rfl⟩ (fun hHeld => ?_)
                      clear hK K
                      refine norm_ (a' := ?_) ?_ ?_
                      rotate_left
                      · show Act.put _ (some 10) _ = _
                        simp only [Act.put, z1_, z2_, z3_, i64_w, i32_w]
                        rfl
                      exact norm_ (by first | (simp only [putAll, Act.put, z1_, z2_, z3_]; done) | (simp only [putAll, Act.put, z1_, z2_, z3_]; rfl)) (hJ3_7_13 (v610, .slice Ao90 t612.length co90, gb622) _ ⟨hHeld, (re_ HO611.out), (re_ HO614.out), (be_ BK599.out), (be_ BK600.out), (be_ BK601.out), (be_ BK622.out), GW622.out, GE622.out, NB599_622.out, NB622_599.out, NB600_622.out, NB622_600.out, NB601_622.out, NB622_601.out, (by repeat (first | (with_reducible first | exact HB.out | apply below_alloc | apply pw_below_drewN | apply below_drew1 | refine below_set ?_ GE599.out | refine below_set ?_ GE600.out | refine below_set ?_ GE601.out | refine below_set ?_ GE622.out) | exact HB.out))⟩)
                · skip
                  rintro ⟨v610, v613, gb622⟩ w89 ⟨hS_, h0_, h1_, h2_, h3_, h4_, h5_, h6_, h7_, h8_, h9_, h10_, h11_, h12_, h13_, h14_⟩
                  have n0_ : Aside0 (Kd.R (Kd.int .i64) 3 w89 w.heap.size (fun k_ => some k_ ≠ (v613 : Value).ownBlock) v610 t609) := ⟨h0_⟩
                  have n1_ : Aside0 (Kd.R (Kd.int .i64) 3 w89 w.heap.size (fun k_ => some k_ ≠ (v610 : Value).ownBlock) v613 t612) := ⟨h1_⟩
                  have n2_ : Aside0 (w89.heap[gb599]? = some (.cells #[.slice A0_0 l0_0.length c0_0] 44 (0, 0))) := ⟨h2_⟩
                  have n3_ : Aside0 (w89.heap[gb600]? = some (.cells #[.slice A1_0 l1_0.length c1_0] 44 (0, 0))) := ⟨h3_⟩
                  have n4_ : Aside0 (w89.heap[gb601]? = some (.cells #[.slice none 0 0] 44 (0, 0))) := ⟨h4_⟩
                  have n5_ : Aside0 (w89.heap[gb622]? = some (.cells #[.slice none 0 0] 44 (0, 0))) := ⟨h5_⟩
                  have n6_ : Aside0 (w.heap.size ≤ gb622) := ⟨h6_⟩
                  have n7_ : Aside0 (w.heap.size ≤ gb622) := ⟨h7_⟩
                  have n8_ : Aside0 (gb599 ≠ gb622) := ⟨h8_⟩
                  have n9_ : Aside0 (gb622 ≠ gb599) := ⟨h9_⟩
                  have n10_ : Aside0 (gb600 ≠ gb622) := ⟨h10_⟩
                  have n11_ : Aside0 (gb622 ≠ gb600) := ⟨h11_⟩
                  have n12_ : Aside0 (gb601 ≠ gb622) := ⟨h12_⟩
                  have n13_ : Aside0 (gb622 ≠ gb601) := ⟨h13_⟩
                  have n14_ : Aside0 (Below w.heap.size w w89) := ⟨h14_⟩
                  clear BK599
                  clear BK600
                  clear BK601
                  clear HB
                  clear h0_ h1_ h2_ h3_ h4_ h5_ h6_ h7_ h8_ h9_ h10_ h11_ h12_ h13_ h14_
                  have HO611 := n0_
                  have HO614 := n1_
                  have BK599 := n2_
                  have BK600 := n3_
                  have BK601 := n4_
                  have BK622 := n5_
                  have GW622 := n6_
                  have GE622 := n7_
                  have NB599_622 := n8_
                  have NB622_599 := n9_
                  have NB600_622 := n10_
                  have NB622_600 := n11_
                  have NB601_622 := n12_
                  have NB622_601 := n13_
                  have HB := n14_
                  clear n0_ n1_ n2_ n3_ n4_ n5_ n6_ n7_ n8_ n9_ n10_ n11_ n12_ n13_ n14_
                  have hHeld : w89.cell? ⟨gb599, 0, none⟩ = some (.slice A0_0 l0_0.length c0_0) ∧ w89.cell? ⟨gb600, 0, none⟩ = some (.slice A1_0 l1_0.length c1_0) := hS_
                  obtain ⟨Ao91, co91, eo91⟩ := Kd.R_slice HO614.out
                  (first | subst eo91 | (injection eo91 with f1_ f2_ f3_; have f4_ := f1_.symm; have f5_ := f3_.symm; clear f1_ f2_ f3_; subst f4_; subst f5_))
                  refine norm_ (a' := ?_) ?_ ?_
                  rotate_left
                  · simp only [putAll, Act.put, z1_, z2_, z3_]
                    rfl
                  refine one_ (i := 8) (N := some 60) (B_ 8703 16) rfl rfl (one_of HT_.out (by kernel_rfl)) (by decide) (fun K hK => ?_)
                  refine Kd.R_append_rows_step (Kd.int .i64) (w0 := w) w.heap.size (by rfl) (.tmp 55) (.tmp 59) 22 3 (.int .i64 0) 8 rfl Try.underlying22 info3 rfl (by decide) (by omega) v610 t609 t612 _ _ _ (fun k_ => some k_ ≠ (.slice Ao91 t612.length co91 : Value).ownBlock) (fun _ => False) rfl rfl ?aO ?aR (fun _ _ h => h) (fun _ h => h.elim) ?aF ?aB ?aS ?aL ?_
                  (case aR => exact ce_ ((Kd.R_reads' HO614.out).2.2))
                  (case aB => exact (by repeat (first | (with_reducible first | exact HB.out | apply below_alloc | apply pw_below_drewN | apply below_drew1 | refine below_set ?_ GE599.out | refine below_set ?_ GE600.out | refine below_set ?_ GE601.out | refine below_set ?_ GE622.out) | exact HB.out)))
                  (case aF => exact (fun k_ hk => Kd.fresh' (Kd.R_lt (re_ HO614.out)) k_ hk))
                  (case aO => exact (re_ HO611.out))
                  (case aS => exact (below_size (by repeat (first | (with_reducible first | exact HB.out | apply below_alloc | apply pw_below_drewN | apply below_drew1 | refine below_set ?_ GE599.out | refine below_set ?_ GE600.out | refine below_set ?_ GE601.out | refine below_set ?_ GE622.out) | exact HB.out))))
                  (case aL => have := LMc83.out; omega)
                  intro v616 w90 ho hb hg hat
                  rw [← Ny615.out] at ho
                  have n0_ := Aside0.mk (blk_grown (g := gb599) (o := .cells #[.slice A0_0 l0_0.length c0_0] 44 (0, 0)) (be_ BK599.out) hg (Kd.R_ne HO611.out BK599.out (by decide)))
                  have n1_ := Aside0.mk (blk_grown (g := gb600) (o := .cells #[.slice A1_0 l1_0.length c1_0] 44 (0, 0)) (be_ BK600.out) hg (Kd.R_ne HO611.out BK600.out (by decide)))
                  have n2_ := Aside0.mk (blk_grown (g := gb601) (o := .cells #[.slice none 0 0] 44 (0, 0)) (be_ BK601.out) hg (Kd.R_ne HO611.out BK601.out (by decide)))
                  have n3_ := Aside0.mk (Kd.R_after (ok := (fun _ => True)) (by (with_reducible repeat (first | apply Kd.R_alloc | apply Kd.R_drewN | apply Kd.R_drew)); exact Kd.R_mono HO614.out (fun _ hk => ⟨trivial, hk⟩)) hg hat)
                  have n4_ := Aside0.mk (blk_grown (g := gb622) (o := .cells #[.slice none 0 0] 44 (0, 0)) (be_ BK622.out) hg (Kd.R_ne HO611.out BK622.out (by decide)))
                  have n5_ := Aside0.mk (hb)
                  have n6_ := Aside0.mk (ho)
                  clear BK599
                  clear BK600
                  clear BK601
                  clear HO614
                  clear BK622
                  clear HB
                  clear HO611
                  have BK599 := n0_
                  have BK600 := n1_
                  have BK601 := n2_
                  have HO614 := n3_
                  have BK622 := n4_
                  have HB := n5_
                  have HO617 := n6_
                  clear n0_ n1_ n2_ n3_ n4_ n5_ n6_
                  clear ho hb hg hat
                  refine hK.out _ _ ⟨(blk_cell BK599.out 0).trans rfl, (blk_cell BK600.out 0).trans rfl⟩ (fun hHeld => ?_)
                  clear hK K
                  refine norm_ (a' := ?_) ?_ ?_
                  rotate_left
                  · show Act.put _ (some 60) _ = _
                    simp only [Act.put, z1_, z2_, z3_, i64_w, i32_w]
                    rfl
                  exact norm_ (by first | (simp only [putAll, Act.put, z1_, z2_, z3_]; done) | (simp only [putAll, Act.put, z1_, z2_, z3_]; rfl)) (hJ3_7_8_13 (v610, .slice Ao91 t612.length co91, v616, gb622) _ ⟨hHeld, (by (with_reducible repeat (first | apply Kd.R_alloc | apply Kd.R_drewN | apply Kd.R_drew)); exact Kd.R_mono HO614.out (fun _ hk => hk.2)), (re_ HO617.out), (be_ BK599.out), (be_ BK600.out), (be_ BK601.out), (be_ BK622.out), GW622.out, GE622.out, NB599_622.out, NB622_599.out, NB600_622.out, NB622_600.out, NB601_622.out, NB622_601.out, (by repeat (first | (with_reducible first | exact HB.out | apply below_alloc | apply pw_below_drewN | apply below_drew1 | refine below_set ?_ GE599.out | refine below_set ?_ GE600.out | refine below_set ?_ GE601.out | refine below_set ?_ GE622.out) | exact HB.out))⟩)
              · skip
                rintro ⟨v610, v613, v616⟩ w90 ⟨hS_, h0_, h1_, h2_, h3_, h4_, h5_⟩
                have n0_ : Aside0 (Kd.R (Kd.int .i64) 3 w90 w.heap.size (fun k_ => some k_ ≠ (v616 : Value).ownBlock) v613 t612) := ⟨h0_⟩
                have n1_ : Aside0 (Kd.R (Kd.int .i64) 3 w90 w.heap.size (fun k_ => some k_ ≠ (v613 : Value).ownBlock) v616 y615) := ⟨h1_⟩
                have n2_ : Aside0 (w90.heap[gb599]? = some (.cells #[.slice A0_0 l0_0.length c0_0] 44 (0, 0))) := ⟨h2_⟩
                have n3_ : Aside0 (w90.heap[gb600]? = some (.cells #[.slice A1_0 l1_0.length c1_0] 44 (0, 0))) := ⟨h3_⟩
                have n4_ : Aside0 (w90.heap[gb601]? = some (.cells #[.slice none 0 0] 44 (0, 0))) := ⟨h4_⟩
                have n5_ : Aside0 (Below w.heap.size w w90) := ⟨h5_⟩
                clear BK599
                clear BK600
                clear BK601
                clear HB
                clear h0_ h1_ h2_ h3_ h4_ h5_
                have HO614 := n0_
                have HO617 := n1_
                have BK599 := n2_
                have BK600 := n3_
                have BK601 := n4_
                have HB := n5_
                clear n0_ n1_ n2_ n3_ n4_ n5_
                have hHeld : w90.cell? ⟨gb599, 0, none⟩ = some (.slice A0_0 l0_0.length c0_0) ∧ w90.cell? ⟨gb600, 0, none⟩ = some (.slice A1_0 l1_0.length c1_0) := hS_
                obtain ⟨Ao91, co91, eo91⟩ := Kd.R_slice HO617.out
                (first | subst eo91 | (injection eo91 with f1_ f2_ f3_; have f4_ := f1_.symm; have f5_ := f3_.symm; clear f1_ f2_ f3_; subst f4_; subst f5_))
                refine norm_ (a' := ?_) ?_ ?_
                rotate_left
                · simp only [putAll, Act.put, z1_, z2_, z3_]
                  rfl
                refine two_ (i := 9) (j := 13) (Ni := some 61) (Nj := some 10) (B_ 1023 16) (B_ 8703 16) rfl rfl rfl rfl (two_of HT_.out (by kernel_rfl)) (by decide) (by decide) (fun K hK => ?_) (fun K hK => ?_)
                · skip
                  refine goes_ Try.func62 (by kernel_rfl) rfl #[.slice Ao91 y615.length co91] (by rfl) rfl rfl (by (try simp only [List.map_toArray, List.map_cons, List.map_nil]); first | done | rfl | (simp only [List.length_drop, List.length_take]; rfl)) ?_
                  with_reducible refine (spec_FromGens.calls kj4 _ _ y615 t618 t621 _ ?side1 ?side2 A84.out).mono ?_
                  (case side1 => exact ce_ ((Kd.R_reads' HO617.out).2.2))
                  (case side2 => exact (Kd.R_reads' HO617.out).2.1)
                  rintro e w92 ⟨v619, rfl, ho0, hb⟩
                  refine ⟨_, rfl, ?_⟩
                  have n0_ := Aside0.mk (Kd.R_elder' (re_ HO614.out) (Kd.R_base ho0) hb)
                  have n1_ := Aside0.mk (Kd.R_elder' (re_ HO617.out) (Kd.R_base ho0) hb)
                  have n2_ := Aside0.mk (Kd.R_lower (Kd.R_new' (Kd.R_new' ho0 (Kd.R_lt (re_ HO614.out))) (Kd.R_lt (re_ HO617.out))) (below_size (by repeat (first | (with_reducible first | exact HB.out | apply below_alloc | apply pw_below_drewN | apply below_drew1 | refine below_set ?_ GE599.out | refine below_set ?_ GE600.out | refine below_set ?_ GE601.out) | exact HB.out))))
                  have n3_ := Aside0.mk (blk_below (g := gb599) (o := .cells #[.slice A0_0 l0_0.length c0_0] 44 (0, 0)) (be_ BK599.out) hb)
                  have n4_ := Aside0.mk (blk_below (g := gb600) (o := .cells #[.slice A1_0 l1_0.length c1_0] 44 (0, 0)) (be_ BK600.out) hb)
                  have n5_ := Aside0.mk (blk_below (g := gb601) (o := .cells #[.slice none 0 0] 44 (0, 0)) (be_ BK601.out) hb)
                  have n6_ := Aside0.mk (below_step (by repeat (first | (with_reducible first | exact HB.out | apply below_alloc | apply pw_below_drewN | apply below_drew1 | refine below_set ?_ GE599.out | refine below_set ?_ GE600.out | refine below_set ?_ GE601.out) | exact HB.out)) hb)
                  clear HO614
                  clear HO617
                  clear BK599
                  clear BK600
                  clear BK601
                  clear HB
                  have HO614 := n0_
                  have HO617 := n1_
                  have HO620 := n2_
                  have BK599 := n3_
                  have BK600 := n4_
                  have BK601 := n5_
                  have HB := n6_
                  clear n0_ n1_ n2_ n3_ n4_ n5_ n6_
                  (try clear hb)
                  (try clear hb2)
                  (try clear hk)
                  (try clear hi)
                  (try clear ho0)
                  refine hK.out _ _ ⟨(blk_cell BK599.out 0).trans rfl, (blk_cell BK600.out 0).trans rfl⟩ (fun hHeld => ?_)
                  clear hK K
                  refine norm_ (a' := ?_) ?_ ?_
                  rotate_left
                  · show Act.put _ (some 61) _ = _
                    simp only [Act.put, z1_, z2_, z3_, i64_w, i32_w]
                    rfl
                  refine pu_ HT_ 10 51 (B_ 2047 16) ?_
                  refine pu_ HT_ 11 62 (B_ 4095 16) ?_
                  refine pu_ HT_ 12 63 (B_ 8191 16) ?_
                  exact norm_ (by first | (simp only [putAll, Act.put, z1_, z2_, z3_]; done) | (simp only [putAll, Act.put, z1_, z2_, z3_]; rfl)) (hJ3_7_8_9 (v610, v613, .slice Ao91 y615.length co91, v619) _ ⟨hHeld, (re_ HO614.out), (re_ HO617.out), (by (with_reducible repeat (first | apply Kd.R_alloc | apply Kd.R_drewN | apply Kd.R_drew)); exact Kd.R_mono HO620.out (fun _ hk => ⟨hk.1.2, hk.2⟩)), (be_ BK599.out), (be_ BK600.out), (be_ BK601.out), (by repeat (first | (with_reducible first | exact HB.out | apply below_alloc | apply pw_below_drewN | apply below_drew1 | refine below_set ?_ GE599.out | refine below_set ?_ GE600.out | refine below_set ?_ GE601.out) | exact HB.out))⟩)
                · skip
                  refine box_step ?hg (N := 10) ?hd (cs := #[.slice none 0 0]) (t := 44) ?hr ?_; (case hd => rfl); (case hg => rfl); (case hr => first | (go_simp; done) | (go_simp; rfl))
                  intro gb622 hg w91 hbox hb
                  have n0_ := Aside0.mk (Kd.R_below (re_ HO614.out) hb)
                  have n1_ := Aside0.mk (Kd.R_below (re_ HO617.out) hb)
                  have n2_ := Aside0.mk (blk_below (g := gb599) (o := .cells #[.slice A0_0 l0_0.length c0_0] 44 (0, 0)) (be_ BK599.out) hb)
                  have n3_ := Aside0.mk (blk_below (g := gb600) (o := .cells #[.slice A1_0 l1_0.length c1_0] 44 (0, 0)) (be_ BK600.out) hb)
                  have n4_ := Aside0.mk (blk_below (g := gb601) (o := .cells #[.slice none 0 0] 44 (0, 0)) (be_ BK601.out) hb)
                  have n5_ := Aside0.mk (below_step (by repeat (first | (with_reducible first | exact HB.out | apply below_alloc | apply pw_below_drewN | apply below_drew1 | refine below_set ?_ GE599.out | refine below_set ?_ GE600.out | refine below_set ?_ GE601.out) | exact HB.out)) hb)
                  have n6_ := Aside0.mk (hbox)
                  have n7_ := Aside0.mk ((by rw [hg]; exact (below_size (by repeat (first | (with_reducible first | exact HB.out | apply below_alloc | apply pw_below_drewN | apply below_drew1 | refine below_set ?_ GE599.out | refine below_set ?_ GE600.out | refine below_set ?_ GE601.out) | exact HB.out))) : w.heap.size ≤ gb622))
                  have n8_ := Aside0.mk ((by rw [hg]; exact (below_size (by repeat (first | (with_reducible first | exact HB.out | apply below_alloc | apply pw_below_drewN | apply below_drew1 | refine below_set ?_ GE599.out | refine below_set ?_ GE600.out | refine below_set ?_ GE601.out) | exact HB.out))) : w.heap.size ≤ gb622))
                  have n9_ := Aside0.mk ((by rw [hg]; exact Nat.ne_of_lt (blk_lt (g := gb599) (o := .cells #[.slice A0_0 l0_0.length c0_0] 44 (0, 0)) (be_ BK599.out)) : gb599 ≠ gb622))
                  have n10_ := Aside0.mk ((by rw [hg]; exact Nat.ne_of_gt (blk_lt (g := gb599) (o := .cells #[.slice A0_0 l0_0.length c0_0] 44 (0, 0)) (be_ BK599.out)) : gb622 ≠ gb599))
                  have n11_ := Aside0.mk ((by rw [hg]; exact Nat.ne_of_lt (blk_lt (g := gb600) (o := .cells #[.slice A1_0 l1_0.length c1_0] 44 (0, 0)) (be_ BK600.out)) : gb600 ≠ gb622))
                  have n12_ := Aside0.mk ((by rw [hg]; exact Nat.ne_of_gt (blk_lt (g := gb600) (o := .cells #[.slice A1_0 l1_0.length c1_0] 44 (0, 0)) (be_ BK600.out)) : gb622 ≠ gb600))
                  have n13_ := Aside0.mk ((by rw [hg]; exact Nat.ne_of_lt (blk_lt (g := gb601) (o := .cells #[.slice none 0 0] 44 (0, 0)) (be_ BK601.out)) : gb601 ≠ gb622))
                  have n14_ := Aside0.mk ((by rw [hg]; exact Nat.ne_of_gt (blk_lt (g := gb601) (o := .cells #[.slice none 0 0] 44 (0, 0)) (be_ BK601.out)) : gb622 ≠ gb601))
                  clear HO614
                  clear HO617
                  clear BK599
                  clear BK600
                  clear BK601
                  clear HB
                  have HO614 := n0_
                  have HO617 := n1_
                  have BK599 := n2_
                  have BK600 := n3_
                  have BK601 := n4_
                  have HB := n5_
                  have BK622 := n6_
                  have GW622 := n7_
                  have GE622 := n8_
                  have NB599_622 := n9_
                  have NB622_599 := n10_
                  have NB600_622 := n11_
                  have NB622_600 := n12_
                  have NB601_622 := n13_
                  have NB622_601 := n14_
                  clear n0_ n1_ n2_ n3_ n4_ n5_ n6_ n7_ n8_ n9_ n10_ n11_ n12_ n13_ n14_
                  clear hb hbox hg
                  refine hK.out _ _ ⟨(blk_cell BK599.out 0).trans rfl, (blk_cell BK600.out 0).trans rfl⟩ (fun hHeld => ?_)
                  clear hK K
                  refine norm_ (a' := ?_) ?_ ?_
                  rotate_left
                  · show Act.put _ (some 10) _ = _
                    simp only [Act.put, z1_, z2_, z3_, i64_w, i32_w]
                    rfl
                  exact norm_ (by first | (simp only [putAll, Act.put, z1_, z2_, z3_]; done) | (simp only [putAll, Act.put, z1_, z2_, z3_]; rfl)) (hJ3_7_8_13 (v610, v613, .slice Ao91 y615.length co91, gb622) _ ⟨hHeld, (re_ HO614.out), (re_ HO617.out), (be_ BK599.out), (be_ BK600.out), (be_ BK601.out), (be_ BK622.out), GW622.out, GE622.out, NB599_622.out, NB622_599.out, NB600_622.out, NB622_600.out, NB601_622.out, NB622_601.out, (by repeat (first | (with_reducible first | exact HB.out | apply below_alloc | apply pw_below_drewN | apply below_drew1 | refine below_set ?_ GE599.out | refine below_set ?_ GE600.out | refine below_set ?_ GE601.out | refine below_set ?_ GE622.out) | exact HB.out))⟩)
            · skip
              rintro ⟨v610, v613, v616, gb622⟩ w91 ⟨hS_, h0_, h1_, h2_, h3_, h4_, h5_, h6_, h7_, h8_, h9_, h10_, h11_, h12_, h13_, h14_⟩
              have n0_ : Aside0 (Kd.R (Kd.int .i64) 3 w91 w.heap.size (fun k_ => some k_ ≠ (v616 : Value).ownBlock) v613 t612) := ⟨h0_⟩
              have n1_ : Aside0 (Kd.R (Kd.int .i64) 3 w91 w.heap.size (fun k_ => some k_ ≠ (v613 : Value).ownBlock) v616 y615) := ⟨h1_⟩
              have n2_ : Aside0 (w91.heap[gb599]? = some (.cells #[.slice A0_0 l0_0.length c0_0] 44 (0, 0))) := ⟨h2_⟩
              have n3_ : Aside0 (w91.heap[gb600]? = some (.cells #[.slice A1_0 l1_0.length c1_0] 44 (0, 0))) := ⟨h3_⟩
              have n4_ : Aside0 (w91.heap[gb601]? = some (.cells #[.slice none 0 0] 44 (0, 0))) := ⟨h4_⟩
              have n5_ : Aside0 (w91.heap[gb622]? = some (.cells #[.slice none 0 0] 44 (0, 0))) := ⟨h5_⟩
              have n6_ : Aside0 (w.heap.size ≤ gb622) := ⟨h6_⟩
              have n7_ : Aside0 (w.heap.size ≤ gb622) := ⟨h7_⟩
              have n8_ : Aside0 (gb599 ≠ gb622) := ⟨h8_⟩
              have n9_ : Aside0 (gb622 ≠ gb599) := ⟨h9_⟩
              have n10_ : Aside0 (gb600 ≠ gb622) := ⟨h10_⟩
              have n11_ : Aside0 (gb622 ≠ gb600) := ⟨h11_⟩
              have n12_ : Aside0 (gb601 ≠ gb622) := ⟨h12_⟩
              have n13_ : Aside0 (gb622 ≠ gb601) := ⟨h13_⟩
              have n14_ : Aside0 (Below w.heap.size w w91) := ⟨h14_⟩
              clear BK599
              clear BK600
              clear BK601
              clear HB
              clear h0_ h1_ h2_ h3_ h4_ h5_ h6_ h7_ h8_ h9_ h10_ h11_ h12_ h13_ h14_
              have HO614 := n0_
              have HO617 := n1_
              have BK599 := n2_
              have BK600 := n3_
              have BK601 := n4_
              have BK622 := n5_
              have GW622 := n6_
              have GE622 := n7_
              have NB599_622 := n8_
              have NB622_599 := n9_
              have NB600_622 := n10_
              have NB622_600 := n11_
              have NB601_622 := n12_
              have NB622_601 := n13_
              have HB := n14_
              clear n0_ n1_ n2_ n3_ n4_ n5_ n6_ n7_ n8_ n9_ n10_ n11_ n12_ n13_ n14_
              have hHeld : w91.cell? ⟨gb599, 0, none⟩ = some (.slice A0_0 l0_0.length c0_0) ∧ w91.cell? ⟨gb600, 0, none⟩ = some (.slice A1_0 l1_0.length c1_0) := hS_
              obtain ⟨Ao92, co92, eo92⟩ := Kd.R_slice HO617.out
              (first | subst eo92 | (injection eo92 with f1_ f2_ f3_; have f4_ := f1_.symm; have f5_ := f3_.symm; clear f1_ f2_ f3_; subst f4_; subst f5_))
              refine norm_ (a' := ?_) ?_ ?_
              rotate_left
              · simp only [putAll, Act.put, z1_, z2_, z3_]
                rfl
              refine one_ (i := 9) (N := some 61) (B_ 9215 16) rfl rfl (one_of HT_.out (by kernel_rfl)) (by decide) (fun K hK => ?_)
              refine goes_ Try.func62 (by kernel_rfl) rfl #[.slice Ao92 y615.length co92] (by rfl) rfl rfl (by (try simp only [List.map_toArray, List.map_cons, List.map_nil]); first | done | rfl | (simp only [List.length_drop, List.length_take]; rfl)) ?_
              with_reducible refine (spec_FromGens.calls kj4 _ _ y615 t618 t621 _ ?side1 ?side2 A84.out).mono ?_
              (case side1 => exact ce_ ((Kd.R_reads' HO617.out).2.2))
              (case side2 => exact (Kd.R_reads' HO617.out).2.1)
              rintro e w93 ⟨v619, rfl, ho0, hb⟩
              refine ⟨_, rfl, ?_⟩
              have n0_ := Aside0.mk (Kd.R_elder' (re_ HO614.out) (Kd.R_base ho0) hb)
              have n1_ := Aside0.mk (Kd.R_elder' (re_ HO617.out) (Kd.R_base ho0) hb)
              have n2_ := Aside0.mk (Kd.R_lower (Kd.R_new' (Kd.R_new' ho0 (Kd.R_lt (re_ HO614.out))) (Kd.R_lt (re_ HO617.out))) (below_size (by repeat (first | (with_reducible first | exact HB.out | apply below_alloc | apply pw_below_drewN | apply below_drew1 | refine below_set ?_ GE599.out | refine below_set ?_ GE600.out | refine below_set ?_ GE601.out | refine below_set ?_ GE622.out) | exact HB.out))))
              have n3_ := Aside0.mk (blk_below (g := gb599) (o := .cells #[.slice A0_0 l0_0.length c0_0] 44 (0, 0)) (be_ BK599.out) hb)
              have n4_ := Aside0.mk (blk_below (g := gb600) (o := .cells #[.slice A1_0 l1_0.length c1_0] 44 (0, 0)) (be_ BK600.out) hb)
              have n5_ := Aside0.mk (blk_below (g := gb601) (o := .cells #[.slice none 0 0] 44 (0, 0)) (be_ BK601.out) hb)
              have n6_ := Aside0.mk (blk_below (g := gb622) (o := .cells #[.slice none 0 0] 44 (0, 0)) (be_ BK622.out) hb)
              have n7_ := Aside0.mk (below_step (by repeat (first | (with_reducible first | exact HB.out | apply below_alloc | apply pw_below_drewN | apply below_drew1 | refine below_set ?_ GE599.out | refine below_set ?_ GE600.out | refine below_set ?_ GE601.out | refine below_set ?_ GE622.out) | exact HB.out)) hb)
              clear HO614
              clear HO617
              clear BK599
              clear BK600
              clear BK601
              clear BK622
              clear HB
              have HO614 := n0_
              have HO617 := n1_
              have HO620 := n2_
              have BK599 := n3_
              have BK600 := n4_
              have BK601 := n5_
              have BK622 := n6_
              have HB := n7_
              clear n0_ n1_ n2_ n3_ n4_ n5_ n6_ n7_
              (try clear hb)
              (try clear hb2)
              (try clear hk)
              (try clear hi)
              (try clear ho0)
              refine hK.out _ _ ⟨(blk_cell BK599.out 0).trans rfl, (blk_cell BK600.out 0).trans rfl⟩ (fun hHeld => ?_)
              clear hK K
              refine norm_ (a' := ?_) ?_ ?_
              rotate_left
              · show Act.put _ (some 61) _ = _
                simp only [Act.put, z1_, z2_, z3_, i64_w, i32_w]
                rfl
              refine pu_ HT_ 10 51 (B_ 10239 16) ?_
              refine pu_ HT_ 11 62 (B_ 12287 16) ?_
              refine pu_ HT_ 12 63 (B_ 16383 16) ?_
              exact norm_ (by first | (simp only [putAll, Act.put, z1_, z2_, z3_]; done) | (simp only [putAll, Act.put, z1_, z2_, z3_]; rfl)) (hJ3_7_8_9_13 (v610, v613, .slice Ao92 y615.length co92, v619, gb622) _ ⟨hHeld, (re_ HO614.out), (re_ HO617.out), (by (with_reducible repeat (first | apply Kd.R_alloc | apply Kd.R_drewN | apply Kd.R_drew)); exact Kd.R_mono HO620.out (fun _ hk => ⟨hk.1.2, hk.2⟩)), (be_ BK599.out), (be_ BK600.out), (be_ BK601.out), (be_ BK622.out), GW622.out, GE622.out, NB599_622.out, NB622_599.out, NB600_622.out, NB622_600.out, NB601_622.out, NB622_601.out, (by repeat (first | (with_reducible first | exact HB.out | apply below_alloc | apply pw_below_drewN | apply below_drew1 | refine below_set ?_ GE599.out | refine below_set ?_ GE600.out | refine below_set ?_ GE601.out | refine below_set ?_ GE622.out) | exact HB.out))⟩)
          · skip
            rintro ⟨v610, v613, v616, v619⟩ w92 ⟨hS_, h0_, h1_, h2_, h3_, h4_, h5_, h6_⟩
            have n0_ : Aside0 (Kd.R (Kd.int .i64) 3 w92 w.heap.size (fun k_ => some k_ ≠ (v616 : Value).ownBlock ∧ some k_ ≠ (v619 : Value).ownBlock) v613 t612) := ⟨h0_⟩
            have n1_ : Aside0 (Kd.R (Kd.int .i64) 3 w92 w.heap.size (fun k_ => some k_ ≠ (v613 : Value).ownBlock ∧ some k_ ≠ (v619 : Value).ownBlock) v616 y615) := ⟨h1_⟩
            have n2_ : Aside0 (Kd.R (Kd.int .i64) 3 w92 w.heap.size (fun k_ => some k_ ≠ (v613 : Value).ownBlock ∧ some k_ ≠ (v616 : Value).ownBlock) v619 t618) := ⟨h2_⟩
            have n3_ : Aside0 (w92.heap[gb599]? = some (.cells #[.slice A0_0 l0_0.length c0_0] 44 (0, 0))) := ⟨h3_⟩
            have n4_ : Aside0 (w92.heap[gb600]? = some (.cells #[.slice A1_0 l1_0.length c1_0] 44 (0, 0))) := ⟨h4_⟩
            have n5_ : Aside0 (w92.heap[gb601]? = some (.cells #[.slice none 0 0] 44 (0, 0))) := ⟨h5_⟩
            have n6_ : Aside0 (Below w.heap.size w w92) := ⟨h6_⟩
            clear BK599
            clear BK600
            clear BK601
            clear HB
            clear h0_ h1_ h2_ h3_ h4_ h5_ h6_
            have HO614 := n0_
            have HO617 := n1_
            have HO620 := n2_
            have BK599 := n3_
            have BK600 := n4_
            have BK601 := n5_
            have HB := n6_
            clear n0_ n1_ n2_ n3_ n4_ n5_ n6_
            have hHeld : w92.cell? ⟨gb599, 0, none⟩ = some (.slice A0_0 l0_0.length c0_0) ∧ w92.cell? ⟨gb600, 0, none⟩ = some (.slice A1_0 l1_0.length c1_0) := hS_
            refine norm_ (a' := ?_) ?_ ?_
            rotate_left
            · simp only [putAll, Act.put, z1_, z2_, z3_]
              rfl
            refine one_ (i := 13) (N := some 10) (B_ 16383 16) rfl rfl (one_of HT_.out (by kernel_rfl)) (by decide) (fun K hK => ?_)
            refine box_step ?hg (N := 10) ?hd (cs := #[.slice none 0 0]) (t := 44) ?hr ?_; (case hd => rfl); (case hg => rfl); (case hr => first | (go_simp; done) | (go_simp; rfl))
            intro gb622 hg w93 hbox hb
            have n0_ := Aside0.mk (Kd.R_below (re_ HO614.out) hb)
            have n1_ := Aside0.mk (Kd.R_below (re_ HO617.out) hb)
            have n2_ := Aside0.mk (Kd.R_below (re_ HO620.out) hb)
            have n3_ := Aside0.mk (blk_below (g := gb599) (o := .cells #[.slice A0_0 l0_0.length c0_0] 44 (0, 0)) (be_ BK599.out) hb)
            have n4_ := Aside0.mk (blk_below (g := gb600) (o := .cells #[.slice A1_0 l1_0.length c1_0] 44 (0, 0)) (be_ BK600.out) hb)
            have n5_ := Aside0.mk (blk_below (g := gb601) (o := .cells #[.slice none 0 0] 44 (0, 0)) (be_ BK601.out) hb)
            have n6_ := Aside0.mk (below_step (by repeat (first | (with_reducible first | exact HB.out | apply below_alloc | apply pw_below_drewN | apply below_drew1 | refine below_set ?_ GE599.out | refine below_set ?_ GE600.out | refine below_set ?_ GE601.out) | exact HB.out)) hb)
            have n7_ := Aside0.mk (hbox)
            have n8_ := Aside0.mk ((by rw [hg]; exact (below_size (by repeat (first | (with_reducible first | exact HB.out | apply below_alloc | apply pw_below_drewN | apply below_drew1 | refine below_set ?_ GE599.out | refine below_set ?_ GE600.out | refine below_set ?_ GE601.out) | exact HB.out))) : w.heap.size ≤ gb622))
            have n9_ := Aside0.mk ((by rw [hg]; exact (below_size (by repeat (first | (with_reducible first | exact HB.out | apply below_alloc | apply pw_below_drewN | apply below_drew1 | refine below_set ?_ GE599.out | refine below_set ?_ GE600.out | refine below_set ?_ GE601.out) | exact HB.out))) : w.heap.size ≤ gb622))
            have n10_ := Aside0.mk ((by rw [hg]; exact Nat.ne_of_lt (blk_lt (g := gb599) (o := .cells #[.slice A0_0 l0_0.length c0_0] 44 (0, 0)) (be_ BK599.out)) : gb599 ≠ gb622))
            have n11_ := Aside0.mk ((by rw [hg]; exact Nat.ne_of_gt (blk_lt (g := gb599) (o := .cells #[.slice A0_0 l0_0.length c0_0] 44 (0, 0)) (be_ BK599.out)) : gb622 ≠ gb599))
            have n12_ := Aside0.mk ((by rw [hg]; exact Nat.ne_of_lt (blk_lt (g := gb600) (o := .cells #[.slice A1_0 l1_0.length c1_0] 44 (0, 0)) (be_ BK600.out)) : gb600 ≠ gb622))
            have n13_ := Aside0.mk ((by rw [hg]; exact Nat.ne_of_gt (blk_lt (g := gb600) (o := .cells #[.slice A1_0 l1_0.length c1_0] 44 (0, 0)) (be_ BK600.out)) : gb622 ≠ gb600))
            have n14_ := Aside0.mk ((by rw [hg]; exact Nat.ne_of_lt (blk_lt (g := gb601) (o := .cells #[.slice none 0 0] 44 (0, 0)) (be_ BK601.out)) : gb601 ≠ gb622))
            have n15_ := Aside0.mk ((by rw [hg]; exact Nat.ne_of_gt (blk_lt (g := gb601) (o := .cells #[.slice none 0 0] 44 (0, 0)) (be_ BK601.out)) : gb622 ≠ gb601))
            clear HO614
            clear HO617
            clear HO620
            clear BK599
            clear BK600
            clear BK601
            clear HB
            have HO614 := n0_
            have HO617 := n1_
            have HO620 := n2_
            have BK599 := n3_
            have BK600 := n4_
            have BK601 := n5_
            have HB := n6_
            have BK622 := n7_
            have GW622 := n8_
            have GE622 := n9_
            have NB599_622 := n10_
            have NB622_599 := n11_
            have NB600_622 := n12_
            have NB622_600 := n13_
            have NB601_622 := n14_
            have NB622_601 := n15_
            clear n0_ n1_ n2_ n3_ n4_ n5_ n6_ n7_ n8_ n9_ n10_ n11_ n12_ n13_ n14_ n15_
            clear hb hbox hg
            refine hK.out _ _ ⟨(blk_cell BK599.out 0).trans rfl, (blk_cell BK600.out 0).trans rfl⟩ (fun hHeld => ?_)
            clear hK K
            refine norm_ (a' := ?_) ?_ ?_
            rotate_left
            · show Act.put _ (some 10) _ = _
              simp only [Act.put, z1_, z2_, z3_, i64_w, i32_w]
              rfl
            exact norm_ (by first | (simp only [putAll, Act.put, z1_, z2_, z3_]; done) | (simp only [putAll, Act.put, z1_, z2_, z3_]; rfl)) (hJ3_7_8_9_13 (v610, v613, v616, v619, gb622) _ ⟨hHeld, (re_ HO614.out), (re_ HO617.out), (re_ HO620.out), (be_ BK599.out), (be_ BK600.out), (be_ BK601.out), (be_ BK622.out), GW622.out, GE622.out, NB599_622.out, NB622_599.out, NB600_622.out, NB622_600.out, NB601_622.out, NB622_601.out, (by repeat (first | (with_reducible first | exact HB.out | apply below_alloc | apply pw_below_drewN | apply below_drew1 | refine below_set ?_ GE599.out | refine below_set ?_ GE600.out | refine below_set ?_ GE601.out | refine below_set ?_ GE622.out) | exact HB.out))⟩)
        rintro ⟨v610, v613, v616, v619, gb622⟩ w93 ⟨hS_, h0_, h1_, h2_, h3_, h4_, h5_, h6_, h7_, h8_, h9_, h10_, h11_, h12_, h13_, h14_, h15_⟩
        have n0_ : Aside0 (Kd.R (Kd.int .i64) 3 w93 w.heap.size (fun k_ => some k_ ≠ (v616 : Value).ownBlock ∧ some k_ ≠ (v619 : Value).ownBlock) v613 t612) := ⟨h0_⟩
        have n1_ : Aside0 (Kd.R (Kd.int .i64) 3 w93 w.heap.size (fun k_ => some k_ ≠ (v613 : Value).ownBlock ∧ some k_ ≠ (v619 : Value).ownBlock) v616 y615) := ⟨h1_⟩
        have n2_ : Aside0 (Kd.R (Kd.int .i64) 3 w93 w.heap.size (fun k_ => some k_ ≠ (v613 : Value).ownBlock ∧ some k_ ≠ (v616 : Value).ownBlock) v619 t618) := ⟨h2_⟩
        have n3_ : Aside0 (w93.heap[gb599]? = some (.cells #[.slice A0_0 l0_0.length c0_0] 44 (0, 0))) := ⟨h3_⟩
        have n4_ : Aside0 (w93.heap[gb600]? = some (.cells #[.slice A1_0 l1_0.length c1_0] 44 (0, 0))) := ⟨h4_⟩
        have n5_ : Aside0 (w93.heap[gb601]? = some (.cells #[.slice none 0 0] 44 (0, 0))) := ⟨h5_⟩
        have n6_ : Aside0 (w93.heap[gb622]? = some (.cells #[.slice none 0 0] 44 (0, 0))) := ⟨h6_⟩
        have n7_ : Aside0 (w.heap.size ≤ gb622) := ⟨h7_⟩
        have n8_ : Aside0 (w.heap.size ≤ gb622) := ⟨h8_⟩
        have n9_ : Aside0 (gb599 ≠ gb622) := ⟨h9_⟩
        have n10_ : Aside0 (gb622 ≠ gb599) := ⟨h10_⟩
        have n11_ : Aside0 (gb600 ≠ gb622) := ⟨h11_⟩
        have n12_ : Aside0 (gb622 ≠ gb600) := ⟨h12_⟩
        have n13_ : Aside0 (gb601 ≠ gb622) := ⟨h13_⟩
        have n14_ : Aside0 (gb622 ≠ gb601) := ⟨h14_⟩
        have n15_ : Aside0 (Below w.heap.size w w93) := ⟨h15_⟩
        clear BK599
        clear BK600
        clear BK601
        clear HB
        clear h0_ h1_ h2_ h3_ h4_ h5_ h6_ h7_ h8_ h9_ h10_ h11_ h12_ h13_ h14_ h15_
        have HO614 := n0_
        have HO617 := n1_
        have HO620 := n2_
        have BK599 := n3_
        have BK600 := n4_
        have BK601 := n5_
        have BK622 := n6_
        have GW622 := n7_
        have GE622 := n8_
        have NB599_622 := n9_
        have NB622_599 := n10_
        have NB600_622 := n11_
        have NB622_600 := n12_
        have NB601_622 := n13_
        have NB622_601 := n14_
        have HB := n15_
        clear n0_ n1_ n2_ n3_ n4_ n5_ n6_ n7_ n8_ n9_ n10_ n11_ n12_ n13_ n14_ n15_
        have hHeld : w93.cell? ⟨gb599, 0, none⟩ = some (.slice A0_0 l0_0.length c0_0) ∧ w93.cell? ⟨gb600, 0, none⟩ = some (.slice A1_0 l1_0.length c1_0) := hS_
        obtain ⟨Ao94, co94, eo94⟩ := Kd.R_slice HO620.out
        (first | subst eo94 | (injection eo94 with f1_ f2_ f3_; have f4_ := f1_.symm; have f5_ := f3_.symm; clear f1_ f2_ f3_; subst f4_; subst f5_))
        refine norm_ (a' := ?_) ?_ ?_
        rotate_left
        · simp only [putAll, Act.put, z1_, z2_, z3_]
          rfl
        refine one_ (i := 14) (N := none) (B_ 32767 16) rfl rfl (one_of HT_.out (by kernel_rfl)) (by decide) (fun K hK => ?_)
        have hs95 : w93.cell? ⟨gb622, 0, none⟩ = some (.slice none 0 0) := (blk_cell BK622.out 0).trans rfl
        have hfs95 := blk_frozen BK622.out 0
        have hns95_0 := NB599_622.out
        have hns95_1 := NB600_622.out
        have hns95_2 := NB601_622.out
        have hms95_0 := NB622_599.out
        have hms95_1 := NB622_600.out
        have hms95_2 := NB622_601.out
        refine skip_ (w1 := ?_) (by rfl) rfl ?_ ?_
        rotate_left
        · go_simp
          rfl
        refine hK.out _ _ ⟨((cell_far (p := ⟨gb622, _, none⟩) NB599_622.out _).trans (hHeld.1)), ((cell_far (p := ⟨gb622, _, none⟩) NB600_622.out _).trans (hHeld.2))⟩ (fun hHeld => ?_)
        clear hK K
        refine pu_ HT_ 15 11 (B_ 65535 16) ?_
        refine done_ (done_of HT_.out (by kernel_rfl)) ?_
        have hnb96 := NB622_599.out
        have hnc96 := NB599_622.out
        have hnb97 := NB622_600.out
        have hnc97 := NB600_622.out
        have hnb98 := NB622_601.out
        have hnc98 := NB601_622.out
        have hcz99_0 : w93.cell? ⟨gb622, 0, none⟩ = some (.slice none 0 0) := (blk_cell BK622.out 0).trans rfl
        have hfz99_0 := blk_frozen BK622.out 0
        have hnb100 := NB601_599.out
        have hnc100 := NB599_601.out
        have hnb101 := NB601_600.out
        have hnc101 := NB600_601.out
        have hcz102_0 : w93.cell? ⟨gb601, 0, none⟩ = some (.slice none 0 0) := (blk_cell BK601.out 0).trans rfl
        have hfz102_0 := blk_frozen BK601.out 0
        try go_wp2
        refine bodyPost_ret (results_ct rfl _ _ gb601 44 #[.slice Ao94 t618.length co94] (0, 0) _ rfl (by (with_reducible repeat (first | refine blk_drewN ?_ _ | refine blk_drew ?_ | refine blk_alloc ?_ _)); refine blk_put (cs := #[.slice none 0 0]) ?_ 0 _ rfl; (with_reducible repeat (first | refine blk_drewN ?_ _ | refine blk_drew ?_ | refine blk_alloc ?_ _)); refine blk_far ?_ NB601_622.out _; (with_reducible repeat (first | refine blk_drewN ?_ _ | refine blk_drew ?_ | refine blk_alloc ?_ _)); exact BK601.out) Try.underlying44 rfl (by kernel_rfl)) rfl ?_
        exact ⟨_, by first | rfl | (simp [errW_none, errW_some] <;> rfl) | (simp [*, errW_none, errW_some] <;> rfl), by (with_reducible repeat (first | apply Kd.R_alloc | apply Kd.R_drewN | apply Kd.R_drew)); exact Kd.R_mono (Kd.R_far (p := ⟨gb601, 0, none⟩) (Kd.R_far (p := ⟨gb622, 0, none⟩) (Kd.R_types (Kd.R_types HO620.out BK622.out (by decide)) BK601.out (by decide)) (fun _ hk => hk.1.2) (.slice Ao94 t618.length co94)) (fun _ hk => hk.2) (.slice Ao94 t618.length co94)) (fun _ hk => trivial), by repeat (first | (with_reducible first | exact HB.out | apply below_alloc | apply pw_below_drewN | apply below_drew1 | refine below_set ?_ GE599.out | refine below_set ?_ GE600.out | refine below_set ?_ GE601.out | refine below_set ?_ GE622.out) | exact HB.out)⟩
     · rw [if_neg c83] at H
       exact absurd H (by simp)
end Go.Proofs.Ythkhpejggdnkfaa.PA
end
