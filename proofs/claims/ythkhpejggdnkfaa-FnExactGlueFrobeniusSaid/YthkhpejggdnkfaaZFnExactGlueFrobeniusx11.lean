-- Bundled by shake.py from this session's printed and written texts; Lean checks it.
import Derived.Test.YthkhpejggdnkfaaZFnExactGlueFrobeniusx1
import Derived.Test.YthkhpejggdnkfaaZFnExactGlueFrobeniusx10
import Derived.Test.YthkhpejggdnkfaaZFnExactGlueFrobeniusx2
import Derived.Test.YthkhpejggdnkfaaZFnExactGlueFrobeniusx3
import Derived.Test.YthkhpejggdnkfaaZFnExactGlueFrobeniusx4
import Derived.Test.YthkhpejggdnkfaaZFnExactGlueFrobeniusx6
import Derived.Test.YthkhpejggdnkfaaZFnExactGlueFrobeniusx8
section
namespace Go.Proofs.Ythkhpejggdnkfaa.PA
open Go.RowKit Go.Proofs.YthkhpejggdnkfaaW.PrintWords Go.Proofs.YthkhpejggdnkfaaW.PrintLast Go.Proofs.YthkhpejggdnkfaaW.PrintMore
set_option linter.unusedVariables false
set_option linter.unusedSimpArgs false
def laws_FnExactGlueFrobenius.f (k : Nat) (l0_0 : List Int) (l1_0 : List Int) (a2 : Int) (a3 : Int) : Option (Bool) := (laws_szSemigroup.f l0_0 1048576).bind fun t790 => (if t790 < 0 then (some true) else ((laws_szSemigroup.f l1_0 t790).bind fun t791 => (if t791 < 0 then (some true) else ((laws_toSemigroup.f k l0_0).bind fun t792 => ((laws_toSemigroup.f k l1_0).bind fun t795 => ((spec_GlueFrobenius.f k t792 t795 a2 a3).bind fun t798 => ((laws_toSemigroup.f k l0_0).bind fun t799 => ((laws_toSemigroup.f k l1_0).bind fun t803 => ((impl_GlueFrobenius.f k t799 t803 a2 a3).bind fun t807 => (if t807 = t798 then ((laws_toSemigroup.f k l0_0).bind fun t808 => ((laws_eqSemigroup.f k t799 t808).bind fun t811 => (if t811 = true then ((laws_toSemigroup.f k l1_0).bind fun t812 => ((laws_eqSemigroup.f k t803 t812).bind fun t815 => (if t815 = true then (some true) else (some false)))) else (some false)))) else (some false)))))))))))
def laws_FnExactGlueFrobenius.T8 : Bool × List (List Nat × List Nat) := (true, [([], []), ([0], [0]), ([], []), ([2, 1], [2]), ([], []), ([], []), ([1, 3, 4, 5, 3], [1, 3, 4, 5]), ([6, 6, 0, 1, 2, 3, 4, 5, 6], [6])])
def laws_FnExactGlueFrobenius.B8 : List Nat := [0, 1, 0, 7, 0, 0, 63, 127]
theorem laws_FnExactGlueFrobenius.tab8 : rtab .any (opsOf Try.f7 8) = laws_FnExactGlueFrobenius.T8 := by kernel_rfl
theorem laws_FnExactGlueFrobenius.bits8 : waitsOk laws_FnExactGlueFrobenius.T8.2 laws_FnExactGlueFrobenius.B8 = true := by kernel_rfl
set_option maxHeartbeats 8000000 in
set_option maxRecDepth 100000 in
theorem laws_FnExactGlueFrobenius.calls (k : Nat) (A0_0 : Option Addr) (c0_0 : Nat) (l0_0 : List Int) (A1_0 : Option Addr) (c1_0 : Nat) (l1_0 : List Int) (a2 : Int) (a3 : Int) (r : Bool) (w : World) (hr0_0 : Kd.C (Kd.int .i64) w A0_0 l0_0.length l0_0) (hc0_0 : l0_0.length ≤ c0_0) (hr1_0 : Kd.C (Kd.int .i64) w A1_0 l1_0.length l1_0) (hc1_0 : l1_0.length ≤ c1_0) (h : laws_FnExactGlueFrobenius.f k l0_0 l1_0 a2 a3 = some r) (hr_ : r = true := by rfl) :
 Calls Try.prog 7 #[.agg #[.slice A0_0 l0_0.length c0_0], .agg #[.slice A1_0 l1_0.length c1_0], .int .i64 a2, .int .i64 a3] w fun e w' => e = .returned (.bool r) ∧ Below w.heap.size w w' := by
 have hr_ := Aside0.mk hr_
 have hu41 := Try.underlying41
 have hu44 := Try.underlying44
 have HR0_0 := Aside0.mk hr0_0
 have HC0_0 := Aside0.mk hc0_0
 clear hr0_0 hc0_0
 have HR1_0 := Aside0.mk hr1_0
 have HC1_0 := Aside0.mk hc1_0
 clear hr1_0 hc1_0
 have HB := Aside0.mk (Below.refl w.heap.size w)
 have H : ((laws_szSemigroup.f l0_0 1048576).bind fun t790 => (if t790 < 0 then (some true) else ((laws_szSemigroup.f l1_0 t790).bind fun t791 => (if t791 < 0 then (some true) else ((laws_toSemigroup.f k l0_0).bind fun t792 => ((laws_toSemigroup.f k l1_0).bind fun t795 => ((spec_GlueFrobenius.f k t792 t795 a2 a3).bind fun t798 => ((laws_toSemigroup.f k l0_0).bind fun t799 => ((laws_toSemigroup.f k l1_0).bind fun t803 => ((impl_GlueFrobenius.f k t799 t803 a2 a3).bind fun t807 => (if t807 = t798 then ((laws_toSemigroup.f k l0_0).bind fun t808 => ((laws_eqSemigroup.f k t799 t808).bind fun t811 => (if t811 = true then ((laws_toSemigroup.f k l1_0).bind fun t812 => ((laws_eqSemigroup.f k t803 t812).bind fun t815 => (if t815 = true then (some true) else (some false)))) else (some false)))) else (some false)))))))))))) = some r := h
 clear h
 replace H := Option.bind_eq_some_iff.mp H
 obtain ⟨t790, A50, H⟩ := H
 replace H : (if t790 < 0 then (some true) else ((laws_szSemigroup.f l1_0 t790).bind fun t791 => (if t791 < 0 then (some true) else ((laws_toSemigroup.f k l0_0).bind fun t792 => ((laws_toSemigroup.f k l1_0).bind fun t795 => ((spec_GlueFrobenius.f k t792 t795 a2 a3).bind fun t798 => ((laws_toSemigroup.f k l0_0).bind fun t799 => ((laws_toSemigroup.f k l1_0).bind fun t803 => ((impl_GlueFrobenius.f k t799 t803 a2 a3).bind fun t807 => (if t807 = t798 then ((laws_toSemigroup.f k l0_0).bind fun t808 => ((laws_eqSemigroup.f k t799 t808).bind fun t811 => (if t811 = true then ((laws_toSemigroup.f k l1_0).bind fun t812 => ((laws_eqSemigroup.f k t803 t812).bind fun t815 => (if t815 = true then (some true) else (some false)))) else (some false)))) else (some false))))))))))) = some r := H
 have A5 := Aside0.mk A50
 clear A50
 by_cases c6 : t790 < 0
 · rw [if_pos c6] at H
   have c6b0 : decide (t790 < 0) = true := decide_eq_true c6
   clear c6
   as_aux_lemma =>
    obtain rfl := Option.some.inj H
    go_enter Try.func7, Try.ntmps7
    go_wp2_with (first | ((with_reducible refine gate_dst (N := 4) rfl ?_); refine box_event ?hg (N := 4) ?hd (cs := #[.slice A0_0 l0_0.length c0_0]) (t := 41) ?hr ?_; (case hd => rfl); (case hg => rfl); (case hr => first | (go_simp; done) | (go_simp; rfl)); intro gb788 hg w7 hbox hb; have n0_ := Aside0.mk (below_step (bl_ HB.out) hb); have n1_ := Aside0.mk (hbox); have n2_ := Aside0.mk ((by rw [hg]; exact (below_size (bl_ HB.out)) : w.heap.size ≤ gb788)); have n3_ := Aside0.mk ((by rw [hg]; exact (below_size (bl_ HB.out)) : w.heap.size ≤ gb788)); clear HB; have HB := n0_; have BK788 := n1_; have GW788 := n2_; have GE788 := n3_; clear n0_ n1_ n2_ n3_; clear hb hbox hg) | ((with_reducible refine gate_dst (N := 5) rfl ?_); refine box_event ?hg (N := 5) ?hd (cs := #[.slice A1_0 l1_0.length c1_0]) (t := 41) ?hr ?_; (case hd => rfl); (case hg => rfl); (case hr => first | (go_simp; done) | (go_simp; rfl)); intro gb789 hg w8 hbox hb; have n0_ := Aside0.mk (blk_below (g := gb788) (o := .cells #[.slice A0_0 l0_0.length c0_0] 41 (0, 0)) (be_ BK788.out) hb); have n1_ := Aside0.mk (below_step (by repeat (first | (with_reducible first | exact HB.out | apply below_alloc | apply pw_below_drewN | apply below_drew1 | refine below_set ?_ GE788.out) | exact HB.out)) hb); have n2_ := Aside0.mk (hbox); have n3_ := Aside0.mk ((by rw [hg]; exact (below_size (by repeat (first | (with_reducible first | exact HB.out | apply below_alloc | apply pw_below_drewN | apply below_drew1 | refine below_set ?_ GE788.out) | exact HB.out))) : w.heap.size ≤ gb789)); have n4_ := Aside0.mk ((by rw [hg]; exact (below_size (by repeat (first | (with_reducible first | exact HB.out | apply below_alloc | apply pw_below_drewN | apply below_drew1 | refine below_set ?_ GE788.out) | exact HB.out))) : w.heap.size ≤ gb789)); have n5_ := Aside0.mk ((by rw [hg]; exact Nat.ne_of_lt (blk_lt (g := gb788) (o := .cells #[.slice A0_0 l0_0.length c0_0] 41 (0, 0)) (be_ BK788.out)) : gb788 ≠ gb789)); have n6_ := Aside0.mk ((by rw [hg]; exact Nat.ne_of_gt (blk_lt (g := gb788) (o := .cells #[.slice A0_0 l0_0.length c0_0] 41 (0, 0)) (be_ BK788.out)) : gb789 ≠ gb788)); clear BK788; clear HB; have BK788 := n0_; have HB := n1_; have BK789 := n2_; have GW789 := n3_; have GE789 := n4_; have NB788_789 := n5_; have NB789_788 := n6_; clear n0_ n1_ n2_ n3_ n4_ n5_ n6_; clear hb hbox hg; have hnb9 := NB788_789.out; have hnc9 := NB789_788.out; have hcz10_0 : w8.cell? ⟨gb788, 0, none⟩ = some (.slice A0_0 l0_0.length c0_0) := (blk_cell BK788.out 0).trans rfl; have hfz10_0 := blk_frozen BK788.out 0) | ((with_reducible refine gate_callee (f := 26) rfl ?_); refine goesL_ (some 16) rfl rfl Try.func26 (by kernel_rfl) rfl #[.agg #[.slice A0_0 l0_0.length c0_0], .int .i64 1048576] rfl (by (try simp only [List.map_toArray, List.map_cons, List.map_nil]); first | done | rfl | (simp only [List.length_drop, List.length_take]; rfl)) ?_; (with_reducible refine (laws_szSemigroup.calls _ _ l0_0 1048576 t790 _ ?side1 ?side2 A5.out).mono ?_); (case side1 => exact ce_ ((Kd.C_below HR0_0.out HB.out))); (case side2 => exact HC0_0.out); rintro e w11 ⟨rfl, hb⟩; refine ⟨_, rfl, ?_⟩; have n0_ := Aside0.mk (blk_below (g := gb788) (o := .cells #[.slice A0_0 l0_0.length c0_0] 41 (0, 0)) (be_ BK788.out) hb); have n1_ := Aside0.mk (blk_below (g := gb789) (o := .cells #[.slice A1_0 l1_0.length c1_0] 41 (0, 0)) (be_ BK789.out) hb); have n2_ := Aside0.mk (below_step (by repeat (first | (with_reducible first | exact HB.out | apply below_alloc | apply pw_below_drewN | apply below_drew1 | refine below_set ?_ GE788.out | refine below_set ?_ GE789.out) | exact HB.out)) hb); clear BK788; clear BK789; clear HB; have BK788 := n0_; have BK789 := n1_; have HB := n2_; clear n0_ n1_ n2_; (try clear hb); (try clear hb2); (try clear hk); (try clear hi)))
    go_ret
    exact ⟨by first | rfl | (simp [errW_none, errW_some] <;> rfl) | (simp [*, errW_none, errW_some] <;> rfl), by repeat (first | (with_reducible first | exact HB.out | apply below_alloc | apply pw_below_drewN | apply below_drew1 | refine below_set ?_ GE788.out | refine below_set ?_ GE789.out) | exact HB.out)⟩
 · rw [if_neg c6] at H
   have c6b0 : decide (t790 < 0) = false := decide_eq_false c6
   clear c6
   replace H := Option.bind_eq_some_iff.mp H
   obtain ⟨t791, A120, H⟩ := H
   replace H : (if t791 < 0 then (some true) else ((laws_toSemigroup.f k l0_0).bind fun t792 => ((laws_toSemigroup.f k l1_0).bind fun t795 => ((spec_GlueFrobenius.f k t792 t795 a2 a3).bind fun t798 => ((laws_toSemigroup.f k l0_0).bind fun t799 => ((laws_toSemigroup.f k l1_0).bind fun t803 => ((impl_GlueFrobenius.f k t799 t803 a2 a3).bind fun t807 => (if t807 = t798 then ((laws_toSemigroup.f k l0_0).bind fun t808 => ((laws_eqSemigroup.f k t799 t808).bind fun t811 => (if t811 = true then ((laws_toSemigroup.f k l1_0).bind fun t812 => ((laws_eqSemigroup.f k t803 t812).bind fun t815 => (if t815 = true then (some true) else (some false)))) else (some false)))) else (some false))))))))) = some r := H
   have A12 := Aside0.mk A120
   clear A120
   by_cases c13 : t791 < 0
   · rw [if_pos c13] at H
     have c13b0 : decide (t791 < 0) = true := decide_eq_true c13
     clear c13
     as_aux_lemma =>
      obtain rfl := Option.some.inj H
      go_enter Try.func7, Try.ntmps7
      go_wp2_with (first | ((with_reducible refine gate_dst (N := 4) rfl ?_); refine box_event ?hg (N := 4) ?hd (cs := #[.slice A0_0 l0_0.length c0_0]) (t := 41) ?hr ?_; (case hd => rfl); (case hg => rfl); (case hr => first | (go_simp; done) | (go_simp; rfl)); intro gb788 hg w14 hbox hb; have n0_ := Aside0.mk (below_step (bl_ HB.out) hb); have n1_ := Aside0.mk (hbox); have n2_ := Aside0.mk ((by rw [hg]; exact (below_size (bl_ HB.out)) : w.heap.size ≤ gb788)); have n3_ := Aside0.mk ((by rw [hg]; exact (below_size (bl_ HB.out)) : w.heap.size ≤ gb788)); clear HB; have HB := n0_; have BK788 := n1_; have GW788 := n2_; have GE788 := n3_; clear n0_ n1_ n2_ n3_; clear hb hbox hg) | ((with_reducible refine gate_dst (N := 5) rfl ?_); refine box_event ?hg (N := 5) ?hd (cs := #[.slice A1_0 l1_0.length c1_0]) (t := 41) ?hr ?_; (case hd => rfl); (case hg => rfl); (case hr => first | (go_simp; done) | (go_simp; rfl)); intro gb789 hg w15 hbox hb; have n0_ := Aside0.mk (blk_below (g := gb788) (o := .cells #[.slice A0_0 l0_0.length c0_0] 41 (0, 0)) (be_ BK788.out) hb); have n1_ := Aside0.mk (below_step (by repeat (first | (with_reducible first | exact HB.out | apply below_alloc | apply pw_below_drewN | apply below_drew1 | refine below_set ?_ GE788.out) | exact HB.out)) hb); have n2_ := Aside0.mk (hbox); have n3_ := Aside0.mk ((by rw [hg]; exact (below_size (by repeat (first | (with_reducible first | exact HB.out | apply below_alloc | apply pw_below_drewN | apply below_drew1 | refine below_set ?_ GE788.out) | exact HB.out))) : w.heap.size ≤ gb789)); have n4_ := Aside0.mk ((by rw [hg]; exact (below_size (by repeat (first | (with_reducible first | exact HB.out | apply below_alloc | apply pw_below_drewN | apply below_drew1 | refine below_set ?_ GE788.out) | exact HB.out))) : w.heap.size ≤ gb789)); have n5_ := Aside0.mk ((by rw [hg]; exact Nat.ne_of_lt (blk_lt (g := gb788) (o := .cells #[.slice A0_0 l0_0.length c0_0] 41 (0, 0)) (be_ BK788.out)) : gb788 ≠ gb789)); have n6_ := Aside0.mk ((by rw [hg]; exact Nat.ne_of_gt (blk_lt (g := gb788) (o := .cells #[.slice A0_0 l0_0.length c0_0] 41 (0, 0)) (be_ BK788.out)) : gb789 ≠ gb788)); clear BK788; clear HB; have BK788 := n0_; have HB := n1_; have BK789 := n2_; have GW789 := n3_; have GE789 := n4_; have NB788_789 := n5_; have NB789_788 := n6_; clear n0_ n1_ n2_ n3_ n4_ n5_ n6_; clear hb hbox hg; have hnb16 := NB788_789.out; have hnc16 := NB789_788.out; have hcz17_0 : w15.cell? ⟨gb788, 0, none⟩ = some (.slice A0_0 l0_0.length c0_0) := (blk_cell BK788.out 0).trans rfl; have hfz17_0 := blk_frozen BK788.out 0) | ((with_reducible refine gate_callee (f := 26) rfl ?_); refine goesL_ (some 16) rfl rfl Try.func26 (by kernel_rfl) rfl #[.agg #[.slice A0_0 l0_0.length c0_0], .int .i64 1048576] rfl (by (try simp only [List.map_toArray, List.map_cons, List.map_nil]); first | done | rfl | (simp only [List.length_drop, List.length_take]; rfl)) ?_; (with_reducible refine (laws_szSemigroup.calls _ _ l0_0 1048576 t790 _ ?side1 ?side2 A5.out).mono ?_); (case side1 => exact ce_ ((Kd.C_below HR0_0.out HB.out))); (case side2 => exact HC0_0.out); rintro e w18 ⟨rfl, hb⟩; refine ⟨_, rfl, ?_⟩; have n0_ := Aside0.mk (blk_below (g := gb788) (o := .cells #[.slice A0_0 l0_0.length c0_0] 41 (0, 0)) (be_ BK788.out) hb); have n1_ := Aside0.mk (blk_below (g := gb789) (o := .cells #[.slice A1_0 l1_0.length c1_0] 41 (0, 0)) (be_ BK789.out) hb); have n2_ := Aside0.mk (below_step (by repeat (first | (with_reducible first | exact HB.out | apply below_alloc | apply pw_below_drewN | apply below_drew1 | refine below_set ?_ GE788.out | refine below_set ?_ GE789.out) | exact HB.out)) hb); clear BK788; clear BK789; clear HB; have BK788 := n0_; have BK789 := n1_; have HB := n2_; clear n0_ n1_ n2_; (try clear hb); (try clear hb2); (try clear hk); (try clear hi); have hcz19_0 : w18.cell? ⟨gb789, 0, none⟩ = some (.slice A1_0 l1_0.length c1_0) := (blk_cell BK789.out 0).trans rfl; have hfz19_0 := blk_frozen BK789.out 0) | ((with_reducible refine gate_callee (f := 26) rfl ?_); refine goesL_ (some 21) rfl rfl Try.func26 (by kernel_rfl) rfl #[.agg #[.slice A1_0 l1_0.length c1_0], .int .i64 t790] rfl (by (try simp only [List.map_toArray, List.map_cons, List.map_nil]); first | done | rfl | (simp only [List.length_drop, List.length_take]; rfl)) ?_; (with_reducible refine (laws_szSemigroup.calls _ _ l1_0 t790 t791 _ ?side1 ?side2 A12.out).mono ?_); (case side1 => exact ce_ ((Kd.C_below HR1_0.out HB.out))); (case side2 => exact HC1_0.out); rintro e w20 ⟨rfl, hb⟩; refine ⟨_, rfl, ?_⟩; have n0_ := Aside0.mk (blk_below (g := gb788) (o := .cells #[.slice A0_0 l0_0.length c0_0] 41 (0, 0)) (be_ BK788.out) hb); have n1_ := Aside0.mk (blk_below (g := gb789) (o := .cells #[.slice A1_0 l1_0.length c1_0] 41 (0, 0)) (be_ BK789.out) hb); have n2_ := Aside0.mk (below_step (by repeat (first | (with_reducible first | exact HB.out | apply below_alloc | apply pw_below_drewN | apply below_drew1 | refine below_set ?_ GE788.out | refine below_set ?_ GE789.out) | exact HB.out)) hb); clear BK788; clear BK789; clear HB; have BK788 := n0_; have BK789 := n1_; have HB := n2_; clear n0_ n1_ n2_; (try clear hb); (try clear hb2); (try clear hk); (try clear hi)))
      go_ret
      exact ⟨by first | rfl | (simp [errW_none, errW_some] <;> rfl) | (simp [*, errW_none, errW_some] <;> rfl), by repeat (first | (with_reducible first | exact HB.out | apply below_alloc | apply pw_below_drewN | apply below_drew1 | refine below_set ?_ GE788.out | refine below_set ?_ GE789.out) | exact HB.out)⟩
   · rw [if_neg c13] at H
     have c13b0 : decide (t791 < 0) = false := decide_eq_false c13
     clear c13
     replace H := Option.bind_eq_some_iff.mp H
     obtain ⟨t792, A210, H⟩ := H
     replace H : ((laws_toSemigroup.f k l1_0).bind fun t795 => ((spec_GlueFrobenius.f k t792 t795 a2 a3).bind fun t798 => ((laws_toSemigroup.f k l0_0).bind fun t799 => ((laws_toSemigroup.f k l1_0).bind fun t803 => ((impl_GlueFrobenius.f k t799 t803 a2 a3).bind fun t807 => (if t807 = t798 then ((laws_toSemigroup.f k l0_0).bind fun t808 => ((laws_eqSemigroup.f k t799 t808).bind fun t811 => (if t811 = true then ((laws_toSemigroup.f k l1_0).bind fun t812 => ((laws_eqSemigroup.f k t803 t812).bind fun t815 => (if t815 = true then (some true) else (some false)))) else (some false)))) else (some false))))))) = some r := H
     have A21 := Aside0.mk A210
     clear A210
     replace H := Option.bind_eq_some_iff.mp H
     obtain ⟨t795, A220, H⟩ := H
     replace H : ((spec_GlueFrobenius.f k t792 t795 a2 a3).bind fun t798 => ((laws_toSemigroup.f k l0_0).bind fun t799 => ((laws_toSemigroup.f k l1_0).bind fun t803 => ((impl_GlueFrobenius.f k t799 t803 a2 a3).bind fun t807 => (if t807 = t798 then ((laws_toSemigroup.f k l0_0).bind fun t808 => ((laws_eqSemigroup.f k t799 t808).bind fun t811 => (if t811 = true then ((laws_toSemigroup.f k l1_0).bind fun t812 => ((laws_eqSemigroup.f k t803 t812).bind fun t815 => (if t815 = true then (some true) else (some false)))) else (some false)))) else (some false)))))) = some r := H
     have A22 := Aside0.mk A220
     clear A220
     replace H := Option.bind_eq_some_iff.mp H
     obtain ⟨t798, A230, H⟩ := H
     replace H : ((laws_toSemigroup.f k l0_0).bind fun t799 => ((laws_toSemigroup.f k l1_0).bind fun t803 => ((impl_GlueFrobenius.f k t799 t803 a2 a3).bind fun t807 => (if t807 = t798 then ((laws_toSemigroup.f k l0_0).bind fun t808 => ((laws_eqSemigroup.f k t799 t808).bind fun t811 => (if t811 = true then ((laws_toSemigroup.f k l1_0).bind fun t812 => ((laws_eqSemigroup.f k t803 t812).bind fun t815 => (if t815 = true then (some true) else (some false)))) else (some false)))) else (some false))))) = some r := H
     have A23 := Aside0.mk A230
     clear A230
     replace H := Option.bind_eq_some_iff.mp H
     obtain ⟨t799, A240, H⟩ := H
     replace H : ((laws_toSemigroup.f k l1_0).bind fun t803 => ((impl_GlueFrobenius.f k t799 t803 a2 a3).bind fun t807 => (if t807 = t798 then ((laws_toSemigroup.f k l0_0).bind fun t808 => ((laws_eqSemigroup.f k t799 t808).bind fun t811 => (if t811 = true then ((laws_toSemigroup.f k l1_0).bind fun t812 => ((laws_eqSemigroup.f k t803 t812).bind fun t815 => (if t815 = true then (some true) else (some false)))) else (some false)))) else (some false)))) = some r := H
     have A24 := Aside0.mk A240
     clear A240
     replace H := Option.bind_eq_some_iff.mp H
     obtain ⟨t803, A250, H⟩ := H
     replace H : ((impl_GlueFrobenius.f k t799 t803 a2 a3).bind fun t807 => (if t807 = t798 then ((laws_toSemigroup.f k l0_0).bind fun t808 => ((laws_eqSemigroup.f k t799 t808).bind fun t811 => (if t811 = true then ((laws_toSemigroup.f k l1_0).bind fun t812 => ((laws_eqSemigroup.f k t803 t812).bind fun t815 => (if t815 = true then (some true) else (some false)))) else (some false)))) else (some false))) = some r := H
     have A25 := Aside0.mk A250
     clear A250
     replace H := Option.bind_eq_some_iff.mp H
     obtain ⟨t807, A260, H⟩ := H
     replace H : (if t807 = t798 then ((laws_toSemigroup.f k l0_0).bind fun t808 => ((laws_eqSemigroup.f k t799 t808).bind fun t811 => (if t811 = true then ((laws_toSemigroup.f k l1_0).bind fun t812 => ((laws_eqSemigroup.f k t803 t812).bind fun t815 => (if t815 = true then (some true) else (some false)))) else (some false)))) else (some false)) = some r := H
     have A26 := Aside0.mk A260
     clear A260
     by_cases c27 : t807 = t798
     · rw [if_pos c27] at H
       have c27b0 : (t807 == t798) = true := beq_iff_eq.mpr c27
       have c27b1 : (t807 != t798) = false := bne_eq_false_iff_eq.mpr c27
       clear c27
       replace H := Option.bind_eq_some_iff.mp H
       obtain ⟨t808, A280, H⟩ := H
       replace H : ((laws_eqSemigroup.f k t799 t808).bind fun t811 => (if t811 = true then ((laws_toSemigroup.f k l1_0).bind fun t812 => ((laws_eqSemigroup.f k t803 t812).bind fun t815 => (if t815 = true then (some true) else (some false)))) else (some false))) = some r := H
       have A28 := Aside0.mk A280
       clear A280
       replace H := Option.bind_eq_some_iff.mp H
       obtain ⟨t811, A290, H⟩ := H
       replace H : (if t811 = true then ((laws_toSemigroup.f k l1_0).bind fun t812 => ((laws_eqSemigroup.f k t803 t812).bind fun t815 => (if t815 = true then (some true) else (some false)))) else (some false)) = some r := H
       have A29 := Aside0.mk A290
       clear A290
       by_cases c30 : t811 = true
       · subst c30
         have H1 : ((laws_toSemigroup.f k l1_0).bind fun t812 => ((laws_eqSemigroup.f k t803 t812).bind fun t815 => (if t815 = true then (some true) else (some false)))) = some r := by rw [if_pos rfl] at H; exact H
         clear H
         have H := H1
         clear H1
         replace H := Option.bind_eq_some_iff.mp H
         obtain ⟨t812, A310, H⟩ := H
         replace H : ((laws_eqSemigroup.f k t803 t812).bind fun t815 => (if t815 = true then (some true) else (some false))) = some r := H
         have A31 := Aside0.mk A310
         clear A310
         replace H := Option.bind_eq_some_iff.mp H
         obtain ⟨t815, A320, H⟩ := H
         replace H : (if t815 = true then (some true) else (some false)) = some r := H
         have A32 := Aside0.mk A320
         clear A320
         by_cases c33 : t815 = true
         · subst c33
           have H1 : (some true) = some r := by rw [if_pos rfl] at H; exact H
           clear H
           have H := H1
           clear H1
           as_aux_lemma =>
            obtain rfl := Option.some.inj H
            go_enter Try.func7, Try.ntmps7
            try go_wp2_with (first | ((with_reducible refine gate_dst (N := 4) rfl ?_); refine box_event ?hg (N := 4) ?hd (cs := #[.slice A0_0 l0_0.length c0_0]) (t := 41) ?hr ?_; (case hd => rfl); (case hg => rfl); (case hr => first | (go_simp; done) | (go_simp; rfl)); intro gb788 hg w34 hbox hb; have n0_ := Aside0.mk (below_step (bl_ HB.out) hb); have n1_ := Aside0.mk (hbox); have n2_ := Aside0.mk ((by rw [hg]; exact (below_size (bl_ HB.out)) : w.heap.size ≤ gb788)); have n3_ := Aside0.mk ((by rw [hg]; exact (below_size (bl_ HB.out)) : w.heap.size ≤ gb788)); clear HB; have HB := n0_; have BK788 := n1_; have GW788 := n2_; have GE788 := n3_; clear n0_ n1_ n2_ n3_; clear hb hbox hg) | ((with_reducible refine gate_dst (N := 5) rfl ?_); refine box_event ?hg (N := 5) ?hd (cs := #[.slice A1_0 l1_0.length c1_0]) (t := 41) ?hr ?_; (case hd => rfl); (case hg => rfl); (case hr => first | (go_simp; done) | (go_simp; rfl)); intro gb789 hg w35 hbox hb; have n0_ := Aside0.mk (blk_below (g := gb788) (o := .cells #[.slice A0_0 l0_0.length c0_0] 41 (0, 0)) (be_ BK788.out) hb); have n1_ := Aside0.mk (below_step (by repeat (first | (with_reducible first | exact HB.out | apply below_alloc | apply pw_below_drewN | apply below_drew1 | refine below_set ?_ GE788.out) | exact HB.out)) hb); have n2_ := Aside0.mk (hbox); have n3_ := Aside0.mk ((by rw [hg]; exact (below_size (by repeat (first | (with_reducible first | exact HB.out | apply below_alloc | apply pw_below_drewN | apply below_drew1 | refine below_set ?_ GE788.out) | exact HB.out))) : w.heap.size ≤ gb789)); have n4_ := Aside0.mk ((by rw [hg]; exact (below_size (by repeat (first | (with_reducible first | exact HB.out | apply below_alloc | apply pw_below_drewN | apply below_drew1 | refine below_set ?_ GE788.out) | exact HB.out))) : w.heap.size ≤ gb789)); have n5_ := Aside0.mk ((by rw [hg]; exact Nat.ne_of_lt (blk_lt (g := gb788) (o := .cells #[.slice A0_0 l0_0.length c0_0] 41 (0, 0)) (be_ BK788.out)) : gb788 ≠ gb789)); have n6_ := Aside0.mk ((by rw [hg]; exact Nat.ne_of_gt (blk_lt (g := gb788) (o := .cells #[.slice A0_0 l0_0.length c0_0] 41 (0, 0)) (be_ BK788.out)) : gb789 ≠ gb788)); clear BK788; clear HB; have BK788 := n0_; have HB := n1_; have BK789 := n2_; have GW789 := n3_; have GE789 := n4_; have NB788_789 := n5_; have NB789_788 := n6_; clear n0_ n1_ n2_ n3_ n4_ n5_ n6_; clear hb hbox hg; have hnb36 := NB788_789.out; have hnc36 := NB789_788.out; have hcz37_0 : w35.cell? ⟨gb788, 0, none⟩ = some (.slice A0_0 l0_0.length c0_0) := (blk_cell BK788.out 0).trans rfl; have hfz37_0 := blk_frozen BK788.out 0) | ((with_reducible refine gate_callee (f := 26) rfl ?_); refine goesL_ (some 16) rfl rfl Try.func26 (by kernel_rfl) rfl #[.agg #[.slice A0_0 l0_0.length c0_0], .int .i64 1048576] rfl (by (try simp only [List.map_toArray, List.map_cons, List.map_nil]); first | done | rfl | (simp only [List.length_drop, List.length_take]; rfl)) ?_; (with_reducible refine (laws_szSemigroup.calls _ _ l0_0 1048576 t790 _ ?side1 ?side2 A5.out).mono ?_); (case side1 => exact ce_ ((Kd.C_below HR0_0.out HB.out))); (case side2 => exact HC0_0.out); rintro e w38 ⟨rfl, hb⟩; refine ⟨_, rfl, ?_⟩; have n0_ := Aside0.mk (blk_below (g := gb788) (o := .cells #[.slice A0_0 l0_0.length c0_0] 41 (0, 0)) (be_ BK788.out) hb); have n1_ := Aside0.mk (blk_below (g := gb789) (o := .cells #[.slice A1_0 l1_0.length c1_0] 41 (0, 0)) (be_ BK789.out) hb); have n2_ := Aside0.mk (below_step (by repeat (first | (with_reducible first | exact HB.out | apply below_alloc | apply pw_below_drewN | apply below_drew1 | refine below_set ?_ GE788.out | refine below_set ?_ GE789.out) | exact HB.out)) hb); clear BK788; clear BK789; clear HB; have BK788 := n0_; have BK789 := n1_; have HB := n2_; clear n0_ n1_ n2_; (try clear hb); (try clear hb2); (try clear hk); (try clear hi); have hcz39_0 : w38.cell? ⟨gb789, 0, none⟩ = some (.slice A1_0 l1_0.length c1_0) := (blk_cell BK789.out 0).trans rfl; have hfz39_0 := blk_frozen BK789.out 0) | ((with_reducible refine gate_callee (f := 26) rfl ?_); refine goesL_ (some 21) rfl rfl Try.func26 (by kernel_rfl) rfl #[.agg #[.slice A1_0 l1_0.length c1_0], .int .i64 t790] rfl (by (try simp only [List.map_toArray, List.map_cons, List.map_nil]); first | done | rfl | (simp only [List.length_drop, List.length_take]; rfl)) ?_; (with_reducible refine (laws_szSemigroup.calls _ _ l1_0 t790 t791 _ ?side1 ?side2 A12.out).mono ?_); (case side1 => exact ce_ ((Kd.C_below HR1_0.out HB.out))); (case side2 => exact HC1_0.out); rintro e w40 ⟨rfl, hb⟩; refine ⟨_, rfl, ?_⟩; have n0_ := Aside0.mk (blk_below (g := gb788) (o := .cells #[.slice A0_0 l0_0.length c0_0] 41 (0, 0)) (be_ BK788.out) hb); have n1_ := Aside0.mk (blk_below (g := gb789) (o := .cells #[.slice A1_0 l1_0.length c1_0] 41 (0, 0)) (be_ BK789.out) hb); have n2_ := Aside0.mk (below_step (by repeat (first | (with_reducible first | exact HB.out | apply below_alloc | apply pw_below_drewN | apply below_drew1 | refine below_set ?_ GE788.out | refine below_set ?_ GE789.out) | exact HB.out)) hb); clear BK788; clear BK789; clear HB; have BK788 := n0_; have BK789 := n1_; have HB := n2_; clear n0_ n1_ n2_; (try clear hb); (try clear hb2); (try clear hk); (try clear hi)))
            have n0_ := Aside0.mk (blk_drew BK788.out)
            have n1_ := Aside0.mk (blk_drew BK789.out)
            have n2_ := Aside0.mk (below_drew1 HB.out)
            clear BK788
            clear BK789
            clear HB
            have BK788 := n0_
            have BK789 := n1_
            have HB := n2_
            clear n0_ n1_ n2_
            refine start_ (n := 8) (S := fun w' => w'.cell? ⟨gb788, 0, none⟩ = some (.slice A0_0 l0_0.length c0_0) ∧ w'.cell? ⟨gb789, 0, none⟩ = some (.slice A1_0 l1_0.length c1_0)) (ds := []) (B_ 0 8) (by kernel_rfl) rfl rfl ⟨(blk_cell BK788.out 0).trans rfl, (blk_cell BK789.out 0).trans rfl⟩ (fun hHeld => ?_); refine with_tabW laws_FnExactGlueFrobenius.tab8 laws_FnExactGlueFrobenius.bits8 (fun HT_ HW_ => ?_)
            generalize w40.drew = w41 at BK788 BK789 HB hHeld ⊢
            refine pu_ HT_ 4 28 (B_ 16 8) ?_
            refine pu_ HT_ 5 29 (B_ 48 8) ?_
            refine tk2_ HT_ HW_ hHeld 0 24 (B_ 49 8) ?_
            refine tk2_ HT_ HW_ hHeld 2 26 (B_ 53 8) ?_
            refine one_ (i := 1) (N := some 25) (B_ 55 8) rfl rfl (one_of HT_.out (by kernel_rfl)) (by decide) (fun K hK => ?_)
            refine goes_ Try.func28 (by kernel_rfl) rfl #[.agg #[.slice A0_0 l0_0.length c0_0]] (by rfl) rfl rfl (by (try simp only [List.map_toArray, List.map_cons, List.map_nil]); first | done | rfl | (simp only [List.length_drop, List.length_take]; rfl)) ?_
            with_reducible refine (laws_toSemigroup.calls k _ _ l0_0 t792 _ ?side1 ?side2 A21.out).mono ?_
            (case side1 => exact ce_ ((Kd.C_below HR0_0.out HB.out)))
            (case side2 => exact HC0_0.out)
            rintro e w42 ⟨v793, rfl, ho0, hb⟩
            refine ⟨_, rfl, ?_⟩
            have n0_ := Aside0.mk (Kd.R_lower ho0 (below_size (by repeat (first | (with_reducible first | exact HB.out | apply below_alloc | apply pw_below_drewN | apply below_drew1 | refine below_set ?_ GE788.out | refine below_set ?_ GE789.out) | exact HB.out))))
            have n1_ := Aside0.mk (blk_below (g := gb788) (o := .cells #[.slice A0_0 l0_0.length c0_0] 41 (0, 0)) (be_ BK788.out) hb)
            have n2_ := Aside0.mk (blk_below (g := gb789) (o := .cells #[.slice A1_0 l1_0.length c1_0] 41 (0, 0)) (be_ BK789.out) hb)
            have n3_ := Aside0.mk (below_step (by repeat (first | (with_reducible first | exact HB.out | apply below_alloc | apply pw_below_drewN | apply below_drew1 | refine below_set ?_ GE788.out | refine below_set ?_ GE789.out) | exact HB.out)) hb)
            clear BK788
            clear BK789
            clear HB
            have HO794 := n0_
            have BK788 := n1_
            have BK789 := n2_
            have HB := n3_
            clear n0_ n1_ n2_ n3_
            (try clear hb)
            (try clear hb2)
            (try clear hk)
            (try clear hi)
            (try clear ho0)
            refine hK.out _ _ ⟨(blk_cell BK788.out 0).trans rfl, (blk_cell BK789.out 0).trans rfl⟩ (fun hHeld => ?_)
            clear hK K
            refine norm_ (a' := ?_) ?_ ?_
            rotate_left
            · show Act.put _ (some 25) _ = _
              simp only [Act.put, z1_, z2_, z3_, i64_w, i32_w]
              rfl
            refine one_ (i := 3) (N := some 27) (B_ 63 8) rfl rfl (one_of HT_.out (by kernel_rfl)) (by decide) (fun K hK => ?_)
            refine goes_ Try.func28 (by kernel_rfl) rfl #[.agg #[.slice A1_0 l1_0.length c1_0]] (by rfl) rfl rfl (by (try simp only [List.map_toArray, List.map_cons, List.map_nil]); first | done | rfl | (simp only [List.length_drop, List.length_take]; rfl)) ?_
            with_reducible refine (laws_toSemigroup.calls k _ _ l1_0 t795 _ ?side1 ?side2 A22.out).mono ?_
            (case side1 => exact ce_ ((Kd.C_below HR1_0.out HB.out)))
            (case side2 => exact HC1_0.out)
            rintro e w43 ⟨v796, rfl, ho0, hb⟩
            refine ⟨_, rfl, ?_⟩
            have n0_ := Aside0.mk (Kd.R_elder' (re_ HO794.out) (Kd.R_base ho0) hb)
            have n1_ := Aside0.mk (Kd.R_lower (Kd.R_new' ho0 (Kd.R_lt (re_ HO794.out))) (below_size (by repeat (first | (with_reducible first | exact HB.out | apply below_alloc | apply pw_below_drewN | apply below_drew1 | refine below_set ?_ GE788.out | refine below_set ?_ GE789.out) | exact HB.out))))
            have n2_ := Aside0.mk (blk_below (g := gb788) (o := .cells #[.slice A0_0 l0_0.length c0_0] 41 (0, 0)) (be_ BK788.out) hb)
            have n3_ := Aside0.mk (blk_below (g := gb789) (o := .cells #[.slice A1_0 l1_0.length c1_0] 41 (0, 0)) (be_ BK789.out) hb)
            have n4_ := Aside0.mk (below_step (by repeat (first | (with_reducible first | exact HB.out | apply below_alloc | apply pw_below_drewN | apply below_drew1 | refine below_set ?_ GE788.out | refine below_set ?_ GE789.out) | exact HB.out)) hb)
            clear HO794
            clear BK788
            clear BK789
            clear HB
            have HO794 := n0_
            have HO797 := n1_
            have BK788 := n2_
            have BK789 := n3_
            have HB := n4_
            clear n0_ n1_ n2_ n3_ n4_
            (try clear hb)
            (try clear hb2)
            (try clear hk)
            (try clear hi)
            (try clear ho0)
            obtain ⟨Ao44, co44, eo44⟩ := Kd.R_slice HO794.out
            (first | subst eo44 | (injection eo44 with f1_ f2_ f3_; have f4_ := f1_.symm; have f5_ := f3_.symm; clear f1_ f2_ f3_; subst f4_; subst f5_))
            obtain ⟨Ao45, co45, eo45⟩ := Kd.R_slice HO797.out
            (first | subst eo45 | (injection eo45 with f1_ f2_ f3_; have f4_ := f1_.symm; have f5_ := f3_.symm; clear f1_ f2_ f3_; subst f4_; subst f5_))
            refine hK.out _ _ ⟨(blk_cell BK788.out 0).trans rfl, (blk_cell BK789.out 0).trans rfl⟩ (fun hHeld => ?_)
            clear hK K
            refine norm_ (a' := ?_) ?_ ?_
            rotate_left
            · show Act.put _ (some 27) _ = _
              simp only [Act.put, z1_, z2_, z3_, i64_w, i32_w]
              rfl
            refine one_ (i := 6) (N := some 30) (B_ 127 8) rfl rfl (one_of HT_.out (by kernel_rfl)) (by decide) (fun K hK => ?_)
            refine goes_ Try.func35 (by kernel_rfl) rfl #[.agg #[.slice Ao44 t792.length co44], .agg #[.slice Ao45 t795.length co45], .int .i64 a2, .int .i64 a3] (by rfl) rfl rfl (by (try simp only [List.map_toArray, List.map_cons, List.map_nil]); first | done | rfl | (simp only [List.length_drop, List.length_take]; rfl)) ?_
            with_reducible refine (spec_GlueFrobenius.calls k _ _ t792 _ _ t795 a2 a3 t798 _ ?side1 ?side2 ?side3 ?side4 A23.out).mono ?_
            (case side1 => exact ce_ ((Kd.R_reads' HO794.out).2.2))
            (case side2 => exact (Kd.R_reads' HO794.out).2.1)
            (case side3 => exact ce_ ((Kd.R_reads' HO797.out).2.2))
            (case side4 => exact (Kd.R_reads' HO797.out).2.1)
            rintro e w46 ⟨rfl, hb⟩
            refine ⟨_, rfl, ?_⟩
            have n0_ := Aside0.mk (Kd.R_below (re_ HO794.out) hb)
            have n1_ := Aside0.mk (Kd.R_below (re_ HO797.out) hb)
            have n2_ := Aside0.mk (blk_below (g := gb788) (o := .cells #[.slice A0_0 l0_0.length c0_0] 41 (0, 0)) (be_ BK788.out) hb)
            have n3_ := Aside0.mk (blk_below (g := gb789) (o := .cells #[.slice A1_0 l1_0.length c1_0] 41 (0, 0)) (be_ BK789.out) hb)
            have n4_ := Aside0.mk (below_step (by repeat (first | (with_reducible first | exact HB.out | apply below_alloc | apply pw_below_drewN | apply below_drew1 | refine below_set ?_ GE788.out | refine below_set ?_ GE789.out) | exact HB.out)) hb)
            clear HO794
            clear HO797
            clear BK788
            clear BK789
            clear HB
            have HO794 := n0_
            have HO797 := n1_
            have BK788 := n2_
            have BK789 := n3_
            have HB := n4_
            clear n0_ n1_ n2_ n3_ n4_
            (try clear hb)
            (try clear hb2)
            (try clear hk)
            (try clear hi)
            refine hK.out _ _ ⟨(blk_cell BK788.out 0).trans rfl, (blk_cell BK789.out 0).trans rfl⟩ (fun hHeld => ?_)
            clear hK K
            refine norm_ (a' := ?_) ?_ ?_
            rotate_left
            · show Act.put _ (some 30) _ = _
              simp only [Act.put, z1_, z2_, z3_, i64_w, i32_w]
              rfl
            refine pu_ HT_ 7 10 (B_ 255 8) ?_
            refine done_ (done_of HT_.out (by kernel_rfl)) ?_
            have hcz47_0 : w46.cell? ⟨gb788, 0, none⟩ = some (.slice A0_0 l0_0.length c0_0) := (blk_cell BK788.out 0).trans rfl
            have hfz47_0 := blk_frozen BK788.out 0
            try go_wp2_with (first | ((with_reducible refine gate_callee (f := 28) rfl ?_); refine goesL_ (some 32) rfl rfl Try.func28 (by kernel_rfl) rfl #[.agg #[.slice A0_0 l0_0.length c0_0]] rfl (by (try simp only [List.map_toArray, List.map_cons, List.map_nil]); first | done | rfl | (simp only [List.length_drop, List.length_take]; rfl)) ?_; (with_reducible refine (laws_toSemigroup.calls k _ _ l0_0 t799 _ ?side1 ?side2 A24.out).mono ?_); (case side1 => exact ce_ ((Kd.C_below HR0_0.out HB.out))); (case side2 => exact HC0_0.out); rintro e w48 ⟨v800, rfl, ho0, hb⟩; refine ⟨_, rfl, ?_⟩; have n0_ := Aside0.mk (Kd.R_elder' (re_ HO794.out) (Kd.R_base ho0) hb); have n1_ := Aside0.mk (Kd.R_elder' (re_ HO797.out) (Kd.R_base ho0) hb); have n2_ := Aside0.mk (Kd.R_lower (Kd.R_new' (Kd.R_new' ho0 (Kd.R_lt (re_ HO794.out))) (Kd.R_lt (re_ HO797.out))) (below_size (by repeat (first | (with_reducible first | exact HB.out | apply below_alloc | apply pw_below_drewN | apply below_drew1 | refine below_set ?_ GE788.out | refine below_set ?_ GE789.out) | exact HB.out)))); have n3_ := Aside0.mk (blk_below (g := gb788) (o := .cells #[.slice A0_0 l0_0.length c0_0] 41 (0, 0)) (be_ BK788.out) hb); have n4_ := Aside0.mk (blk_below (g := gb789) (o := .cells #[.slice A1_0 l1_0.length c1_0] 41 (0, 0)) (be_ BK789.out) hb); have n5_ := Aside0.mk (below_step (by repeat (first | (with_reducible first | exact HB.out | apply below_alloc | apply pw_below_drewN | apply below_drew1 | refine below_set ?_ GE788.out | refine below_set ?_ GE789.out) | exact HB.out)) hb); clear HO794; clear HO797; clear BK788; clear BK789; clear HB; have HO794 := n0_; have HO797 := n1_; have HO801 := n2_; have BK788 := n3_; have BK789 := n4_; have HB := n5_; clear n0_ n1_ n2_ n3_ n4_ n5_; (try clear hb); (try clear hb2); (try clear hk); (try clear hi); (try clear ho0)) | ((with_reducible refine gate_dst (N := 11) rfl ?_); refine box_event ?hg (N := 11) ?hd (cs := #[.slice none 0 0]) (t := 44) ?hr ?_; (case hd => rfl); (case hg => rfl); (case hr => first | (go_simp; done) | (go_simp; rfl)); intro gb802 hg w49 hbox hb; have n0_ := Aside0.mk (Kd.R_below (re_ HO794.out) hb); have n1_ := Aside0.mk (Kd.R_below (re_ HO797.out) hb); have n2_ := Aside0.mk (Kd.R_below (re_ HO801.out) hb); have n3_ := Aside0.mk (blk_below (g := gb788) (o := .cells #[.slice A0_0 l0_0.length c0_0] 41 (0, 0)) (be_ BK788.out) hb); have n4_ := Aside0.mk (blk_below (g := gb789) (o := .cells #[.slice A1_0 l1_0.length c1_0] 41 (0, 0)) (be_ BK789.out) hb); have n5_ := Aside0.mk (below_step (by repeat (first | (with_reducible first | exact HB.out | apply below_alloc | apply pw_below_drewN | apply below_drew1 | refine below_set ?_ GE788.out | refine below_set ?_ GE789.out) | exact HB.out)) hb); have n6_ := Aside0.mk (hbox); have n7_ := Aside0.mk ((by rw [hg]; exact (below_size (by repeat (first | (with_reducible first | exact HB.out | apply below_alloc | apply pw_below_drewN | apply below_drew1 | refine below_set ?_ GE788.out | refine below_set ?_ GE789.out) | exact HB.out))) : w.heap.size ≤ gb802)); have n8_ := Aside0.mk ((by rw [hg]; exact (below_size (by repeat (first | (with_reducible first | exact HB.out | apply below_alloc | apply pw_below_drewN | apply below_drew1 | refine below_set ?_ GE788.out | refine below_set ?_ GE789.out) | exact HB.out))) : w.heap.size ≤ gb802)); have n9_ := Aside0.mk ((by rw [hg]; exact Nat.ne_of_lt (blk_lt (g := gb788) (o := .cells #[.slice A0_0 l0_0.length c0_0] 41 (0, 0)) (be_ BK788.out)) : gb788 ≠ gb802)); have n10_ := Aside0.mk ((by rw [hg]; exact Nat.ne_of_gt (blk_lt (g := gb788) (o := .cells #[.slice A0_0 l0_0.length c0_0] 41 (0, 0)) (be_ BK788.out)) : gb802 ≠ gb788)); have n11_ := Aside0.mk ((by rw [hg]; exact Nat.ne_of_lt (blk_lt (g := gb789) (o := .cells #[.slice A1_0 l1_0.length c1_0] 41 (0, 0)) (be_ BK789.out)) : gb789 ≠ gb802)); have n12_ := Aside0.mk ((by rw [hg]; exact Nat.ne_of_gt (blk_lt (g := gb789) (o := .cells #[.slice A1_0 l1_0.length c1_0] 41 (0, 0)) (be_ BK789.out)) : gb802 ≠ gb789)); clear HO794; clear HO797; clear HO801; clear BK788; clear BK789; clear HB; have HO794 := n0_; have HO797 := n1_; have HO801 := n2_; have BK788 := n3_; have BK789 := n4_; have HB := n5_; have BK802 := n6_; have GW802 := n7_; have GE802 := n8_; have NB788_802 := n9_; have NB802_788 := n10_; have NB789_802 := n11_; have NB802_789 := n12_; clear n0_ n1_ n2_ n3_ n4_ n5_ n6_ n7_ n8_ n9_ n10_ n11_ n12_; clear hb hbox hg; obtain ⟨Ao50, co50, eo50⟩ := Kd.R_slice HO801.out; subst eo50; have hnb51 := NB802_788.out; have hnc51 := NB788_802.out; have hnb52 := NB802_789.out; have hnc52 := NB789_802.out; have hcz53_0 : w49.cell? ⟨gb802, 0, none⟩ = some (.slice none 0 0) := (blk_cell BK802.out 0).trans rfl; have hfz53_0 := blk_frozen BK802.out 0; have hcz54_0 : w49.cell? ⟨gb789, 0, none⟩ = some (.slice A1_0 l1_0.length c1_0) := (blk_cell BK789.out 0).trans rfl; have hfz54_0 := blk_frozen BK789.out 0) | ((with_reducible refine gate_callee (f := 28) rfl ?_); refine goesL_ (some 34) rfl rfl Try.func28 (by kernel_rfl) rfl #[.agg #[.slice A1_0 l1_0.length c1_0]] rfl (by (try simp only [List.map_toArray, List.map_cons, List.map_nil]); first | done | rfl | (simp only [List.length_drop, List.length_take]; rfl)) ?_; (with_reducible refine (laws_toSemigroup.calls k _ _ l1_0 t803 _ ?side1 ?side2 A25.out).mono ?_); (case side1 => exact Kd.C_below HR1_0.out (by repeat (first | (with_reducible first | exact HB.out | apply below_alloc | apply pw_below_drewN | apply below_drew1 | refine below_set ?_ GE788.out | refine below_set ?_ GE789.out | refine below_set ?_ GE802.out) | exact HB.out))); (case side2 => exact HC1_0.out); rintro e w55 ⟨v804, rfl, ho0, hb⟩; refine ⟨_, rfl, ?_⟩; have n0_ := Aside0.mk (Kd.R_elder' (by (with_reducible repeat (first | apply Kd.R_alloc | apply Kd.R_drewN | apply Kd.R_drew)); exact (Kd.R_mono (Kd.R_far (p := ⟨gb802, 0, none⟩) (Kd.R_types HO794.out BK802.out (by decide)) (fun _ hk => hk.2) (.slice Ao50 t799.length co50)) (fun _ h_ => h_.1))) (Kd.R_base ho0) hb); have n1_ := Aside0.mk (Kd.R_elder' (by (with_reducible repeat (first | apply Kd.R_alloc | apply Kd.R_drewN | apply Kd.R_drew)); exact (Kd.R_mono (Kd.R_far (p := ⟨gb802, 0, none⟩) (Kd.R_types HO797.out BK802.out (by decide)) (fun _ hk => hk.2) (.slice Ao50 t799.length co50)) (fun _ h_ => h_.1))) (Kd.R_base ho0) hb); have n2_ := Aside0.mk (Kd.R_elder' (by (with_reducible repeat (first | apply Kd.R_alloc | apply Kd.R_drewN | apply Kd.R_drew)); exact (Kd.R_mono (Kd.R_far (p := ⟨gb802, 0, none⟩) (Kd.R_types HO801.out BK802.out (by decide)) (fun _ hk => hk.2) (.slice Ao50 t799.length co50)) (fun _ h_ => h_.1))) (Kd.R_base ho0) hb); have n3_ := Aside0.mk (Kd.R_lower (Kd.R_new' (Kd.R_new' (Kd.R_new' ho0 (Kd.R_lt (by (with_reducible repeat (first | apply Kd.R_alloc | apply Kd.R_drewN | apply Kd.R_drew)); exact (Kd.R_mono (Kd.R_far (p := ⟨gb802, 0, none⟩) (Kd.R_types HO794.out BK802.out (by decide)) (fun _ hk => hk.2) (.slice Ao50 t799.length co50)) (fun _ h_ => h_.1))))) (Kd.R_lt (by (with_reducible repeat (first | apply Kd.R_alloc | apply Kd.R_drewN | apply Kd.R_drew)); exact (Kd.R_mono (Kd.R_far (p := ⟨gb802, 0, none⟩) (Kd.R_types HO797.out BK802.out (by decide)) (fun _ hk => hk.2) (.slice Ao50 t799.length co50)) (fun _ h_ => h_.1))))) (Kd.R_lt (by (with_reducible repeat (first | apply Kd.R_alloc | apply Kd.R_drewN | apply Kd.R_drew)); exact (Kd.R_mono (Kd.R_far (p := ⟨gb802, 0, none⟩) (Kd.R_types HO801.out BK802.out (by decide)) (fun _ hk => hk.2) (.slice Ao50 t799.length co50)) (fun _ h_ => h_.1))))) (below_size (by repeat (first | (with_reducible first | exact HB.out | apply below_alloc | apply pw_below_drewN | apply below_drew1 | refine below_set ?_ GE788.out | refine below_set ?_ GE789.out | refine below_set ?_ GE802.out) | exact HB.out)))); have n4_ := Aside0.mk (blk_below (g := gb788) (o := .cells #[.slice A0_0 l0_0.length c0_0] 41 (0, 0)) (by (with_reducible repeat (first | refine blk_drewN ?_ _ | refine blk_drew ?_ | refine blk_alloc ?_ _)); refine blk_far ?_ NB788_802.out _; (with_reducible repeat (first | refine blk_drewN ?_ _ | refine blk_drew ?_ | refine blk_alloc ?_ _)); exact BK788.out) hb); have n5_ := Aside0.mk (blk_below (g := gb789) (o := .cells #[.slice A1_0 l1_0.length c1_0] 41 (0, 0)) (by (with_reducible repeat (first | refine blk_drewN ?_ _ | refine blk_drew ?_ | refine blk_alloc ?_ _)); refine blk_far ?_ NB789_802.out _; (with_reducible repeat (first | refine blk_drewN ?_ _ | refine blk_drew ?_ | refine blk_alloc ?_ _)); exact BK789.out) hb); have n6_ := Aside0.mk (blk_below (g := gb802) (o := .cells #[.slice Ao50 t799.length co50] 44 (0, 0)) (by (with_reducible repeat (first | refine blk_drewN ?_ _ | refine blk_drew ?_ | refine blk_alloc ?_ _)); refine blk_put (cs := #[.slice none 0 0]) ?_ 0 _ rfl; (with_reducible repeat (first | refine blk_drewN ?_ _ | refine blk_drew ?_ | refine blk_alloc ?_ _)); exact BK802.out) hb); have n7_ := Aside0.mk (below_step (by repeat (first | (with_reducible first | exact HB.out | apply below_alloc | apply pw_below_drewN | apply below_drew1 | refine below_set ?_ GE788.out | refine below_set ?_ GE789.out | refine below_set ?_ GE802.out) | exact HB.out)) hb); clear HO794; clear HO797; clear HO801; clear BK788; clear BK789; clear BK802; clear HB; have HO794 := n0_; have HO797 := n1_; have HO801 := n2_; have HO805 := n3_; have BK788 := n4_; have BK789 := n5_; have BK802 := n6_; have HB := n7_; clear n0_ n1_ n2_ n3_ n4_ n5_ n6_ n7_; (try clear hb); (try clear hb2); (try clear hk); (try clear hi); (try clear ho0)) | ((with_reducible refine gate_dst (N := 12) rfl ?_); refine box_event ?hg (N := 12) ?hd (cs := #[.slice none 0 0]) (t := 44) ?hr ?_; (case hd => rfl); (case hg => rfl); (case hr => first | (go_simp; done) | (go_simp; rfl)); intro gb806 hg w56 hbox hb; have n0_ := Aside0.mk (Kd.R_below (re_ HO794.out) hb); have n1_ := Aside0.mk (Kd.R_below (re_ HO797.out) hb); have n2_ := Aside0.mk (Kd.R_below (re_ HO801.out) hb); have n3_ := Aside0.mk (Kd.R_below (re_ HO805.out) hb); have n4_ := Aside0.mk (blk_below (g := gb788) (o := .cells #[.slice A0_0 l0_0.length c0_0] 41 (0, 0)) (be_ BK788.out) hb); have n5_ := Aside0.mk (blk_below (g := gb789) (o := .cells #[.slice A1_0 l1_0.length c1_0] 41 (0, 0)) (be_ BK789.out) hb); have n6_ := Aside0.mk (blk_below (g := gb802) (o := .cells #[.slice Ao50 t799.length co50] 44 (0, 0)) (be_ BK802.out) hb); have n7_ := Aside0.mk (below_step (by repeat (first | (with_reducible first | exact HB.out | apply below_alloc | apply pw_below_drewN | apply below_drew1 | refine below_set ?_ GE788.out | refine below_set ?_ GE789.out | refine below_set ?_ GE802.out) | exact HB.out)) hb); have n8_ := Aside0.mk (hbox); have n9_ := Aside0.mk ((by rw [hg]; exact (below_size (by repeat (first | (with_reducible first | exact HB.out | apply below_alloc | apply pw_below_drewN | apply below_drew1 | refine below_set ?_ GE788.out | refine below_set ?_ GE789.out | refine below_set ?_ GE802.out) | exact HB.out))) : w.heap.size ≤ gb806)); have n10_ := Aside0.mk ((by rw [hg]; exact (below_size (by repeat (first | (with_reducible first | exact HB.out | apply below_alloc | apply pw_below_drewN | apply below_drew1 | refine below_set ?_ GE788.out | refine below_set ?_ GE789.out | refine below_set ?_ GE802.out) | exact HB.out))) : w.heap.size ≤ gb806)); have n11_ := Aside0.mk ((by rw [hg]; exact Nat.ne_of_lt (blk_lt (g := gb788) (o := .cells #[.slice A0_0 l0_0.length c0_0] 41 (0, 0)) (be_ BK788.out)) : gb788 ≠ gb806)); have n12_ := Aside0.mk ((by rw [hg]; exact Nat.ne_of_gt (blk_lt (g := gb788) (o := .cells #[.slice A0_0 l0_0.length c0_0] 41 (0, 0)) (be_ BK788.out)) : gb806 ≠ gb788)); have n13_ := Aside0.mk ((by rw [hg]; exact Nat.ne_of_lt (blk_lt (g := gb789) (o := .cells #[.slice A1_0 l1_0.length c1_0] 41 (0, 0)) (be_ BK789.out)) : gb789 ≠ gb806)); have n14_ := Aside0.mk ((by rw [hg]; exact Nat.ne_of_gt (blk_lt (g := gb789) (o := .cells #[.slice A1_0 l1_0.length c1_0] 41 (0, 0)) (be_ BK789.out)) : gb806 ≠ gb789)); have n15_ := Aside0.mk ((by rw [hg]; exact Nat.ne_of_lt (blk_lt (g := gb802) (o := .cells #[.slice Ao50 t799.length co50] 44 (0, 0)) (be_ BK802.out)) : gb802 ≠ gb806)); have n16_ := Aside0.mk ((by rw [hg]; exact Nat.ne_of_gt (blk_lt (g := gb802) (o := .cells #[.slice Ao50 t799.length co50] 44 (0, 0)) (be_ BK802.out)) : gb806 ≠ gb802)); clear HO794; clear HO797; clear HO801; clear HO805; clear BK788; clear BK789; clear BK802; clear HB; have HO794 := n0_; have HO797 := n1_; have HO801 := n2_; have HO805 := n3_; have BK788 := n4_; have BK789 := n5_; have BK802 := n6_; have HB := n7_; have BK806 := n8_; have GW806 := n9_; have GE806 := n10_; have NB788_806 := n11_; have NB806_788 := n12_; have NB789_806 := n13_; have NB806_789 := n14_; have NB802_806 := n15_; have NB806_802 := n16_; clear n0_ n1_ n2_ n3_ n4_ n5_ n6_ n7_ n8_ n9_ n10_ n11_ n12_ n13_ n14_ n15_ n16_; clear hb hbox hg; obtain ⟨Ao57, co57, eo57⟩ := Kd.R_slice HO805.out; subst eo57; have hnb58 := NB806_788.out; have hnc58 := NB788_806.out; have hnb59 := NB806_789.out; have hnc59 := NB789_806.out; have hnb60 := NB806_802.out; have hnc60 := NB802_806.out; have hcz61_0 : w56.cell? ⟨gb806, 0, none⟩ = some (.slice none 0 0) := (blk_cell BK806.out 0).trans rfl; have hfz61_0 := blk_frozen BK806.out 0; have hcz62_0 : w56.cell? ⟨gb802, 0, none⟩ = some (.slice Ao50 t799.length co50) := (blk_cell BK802.out 0).trans rfl; have hfz62_0 := blk_frozen BK802.out 0) | ((with_reducible refine gate_callee (f := 36) rfl ?_); refine goesL_ (some 39) rfl rfl Try.func36 (by kernel_rfl) rfl #[.agg #[.slice Ao50 t799.length co50], .agg #[.slice Ao57 t803.length co57], .int .i64 a2, .int .i64 a3] rfl (by (try simp only [List.map_toArray, List.map_cons, List.map_nil]); first | done | rfl | (simp only [List.length_drop, List.length_take]; rfl)) ?_; (with_reducible refine (impl_GlueFrobenius.calls k _ _ t799 _ _ t803 a2 a3 t807 _ ?side1 ?side2 ?side3 ?side4 A26.out).mono ?_); (case side1 => refine (Kd.R_reads' (e := 3) (base := w.heap.size) (ok := fun k_ => (((True ∧ some k_ ≠ (.slice Ao44 t792.length co44 : Value).ownBlock) ∧ some k_ ≠ (.slice Ao45 t795.length co45 : Value).ownBlock) ∧ some k_ ≠ (.slice Ao57 t803.length co57 : Value).ownBlock)) (n := t799.length) (c := co50) ?_).2.2; exact (by (with_reducible repeat (first | apply Kd.R_alloc | apply Kd.R_drewN | apply Kd.R_drew)); exact (Kd.R_mono (Kd.R_far (p := ⟨gb806, 0, none⟩) (Kd.R_types HO801.out BK806.out (by decide)) (fun _ hk => hk.2) (.slice Ao57 t803.length co57)) (fun _ h_ => h_.1)))); (case side2 => exact (Kd.R_reads' HO801.out).2.1); (case side3 => refine (Kd.R_reads' (e := 3) (base := w.heap.size) (ok := fun k_ => (((True ∧ some k_ ≠ (.slice Ao44 t792.length co44 : Value).ownBlock) ∧ some k_ ≠ (.slice Ao45 t795.length co45 : Value).ownBlock) ∧ some k_ ≠ (.slice Ao50 t799.length co50 : Value).ownBlock)) (n := t803.length) (c := co57) ?_).2.2; exact (by (with_reducible repeat (first | apply Kd.R_alloc | apply Kd.R_drewN | apply Kd.R_drew)); exact (Kd.R_mono (Kd.R_far (p := ⟨gb806, 0, none⟩) (Kd.R_types HO805.out BK806.out (by decide)) (fun _ hk => hk.2) (.slice Ao57 t803.length co57)) (fun _ h_ => h_.1)))); (case side4 => exact (Kd.R_reads' HO805.out).2.1); rintro e w63 ⟨rfl, hb⟩; refine ⟨_, rfl, ?_⟩; have n0_ := Aside0.mk (Kd.R_below (by (with_reducible repeat (first | apply Kd.R_alloc | apply Kd.R_drewN | apply Kd.R_drew)); exact (Kd.R_mono (Kd.R_far (p := ⟨gb806, 0, none⟩) (Kd.R_types HO794.out BK806.out (by decide)) (fun _ hk => hk.2) (.slice Ao57 t803.length co57)) (fun _ h_ => h_.1))) hb); have n1_ := Aside0.mk (Kd.R_below (by (with_reducible repeat (first | apply Kd.R_alloc | apply Kd.R_drewN | apply Kd.R_drew)); exact (Kd.R_mono (Kd.R_far (p := ⟨gb806, 0, none⟩) (Kd.R_types HO797.out BK806.out (by decide)) (fun _ hk => hk.2) (.slice Ao57 t803.length co57)) (fun _ h_ => h_.1))) hb); have n2_ := Aside0.mk (Kd.R_below (by (with_reducible repeat (first | apply Kd.R_alloc | apply Kd.R_drewN | apply Kd.R_drew)); exact (Kd.R_mono (Kd.R_far (p := ⟨gb806, 0, none⟩) (Kd.R_types HO801.out BK806.out (by decide)) (fun _ hk => hk.2) (.slice Ao57 t803.length co57)) (fun _ h_ => h_.1))) hb); have n3_ := Aside0.mk (Kd.R_below (by (with_reducible repeat (first | apply Kd.R_alloc | apply Kd.R_drewN | apply Kd.R_drew)); exact (Kd.R_mono (Kd.R_far (p := ⟨gb806, 0, none⟩) (Kd.R_types HO805.out BK806.out (by decide)) (fun _ hk => hk.2) (.slice Ao57 t803.length co57)) (fun _ h_ => h_.1))) hb); have n4_ := Aside0.mk (blk_below (g := gb788) (o := .cells #[.slice A0_0 l0_0.length c0_0] 41 (0, 0)) (by (with_reducible repeat (first | refine blk_drewN ?_ _ | refine blk_drew ?_ | refine blk_alloc ?_ _)); refine blk_far ?_ NB788_806.out _; (with_reducible repeat (first | refine blk_drewN ?_ _ | refine blk_drew ?_ | refine blk_alloc ?_ _)); exact BK788.out) hb); have n5_ := Aside0.mk (blk_below (g := gb789) (o := .cells #[.slice A1_0 l1_0.length c1_0] 41 (0, 0)) (by (with_reducible repeat (first | refine blk_drewN ?_ _ | refine blk_drew ?_ | refine blk_alloc ?_ _)); refine blk_far ?_ NB789_806.out _; (with_reducible repeat (first | refine blk_drewN ?_ _ | refine blk_drew ?_ | refine blk_alloc ?_ _)); exact BK789.out) hb); have n6_ := Aside0.mk (blk_below (g := gb802) (o := .cells #[.slice Ao50 t799.length co50] 44 (0, 0)) (by (with_reducible repeat (first | refine blk_drewN ?_ _ | refine blk_drew ?_ | refine blk_alloc ?_ _)); refine blk_far ?_ NB802_806.out _; (with_reducible repeat (first | refine blk_drewN ?_ _ | refine blk_drew ?_ | refine blk_alloc ?_ _)); exact BK802.out) hb); have n7_ := Aside0.mk (blk_below (g := gb806) (o := .cells #[.slice Ao57 t803.length co57] 44 (0, 0)) (by (with_reducible repeat (first | refine blk_drewN ?_ _ | refine blk_drew ?_ | refine blk_alloc ?_ _)); refine blk_put (cs := #[.slice none 0 0]) ?_ 0 _ rfl; (with_reducible repeat (first | refine blk_drewN ?_ _ | refine blk_drew ?_ | refine blk_alloc ?_ _)); exact BK806.out) hb); have n8_ := Aside0.mk (below_step (by repeat (first | (with_reducible first | exact HB.out | apply below_alloc | apply pw_below_drewN | apply below_drew1 | refine below_set ?_ GE788.out | refine below_set ?_ GE789.out | refine below_set ?_ GE802.out | refine below_set ?_ GE806.out) | exact HB.out)) hb); clear HO794; clear HO797; clear HO801; clear HO805; clear BK788; clear BK789; clear BK802; clear BK806; clear HB; have HO794 := n0_; have HO797 := n1_; have HO801 := n2_; have HO805 := n3_; have BK788 := n4_; have BK789 := n5_; have BK802 := n6_; have BK806 := n7_; have HB := n8_; clear n0_ n1_ n2_ n3_ n4_ n5_ n6_ n7_ n8_; (try clear hb); (try clear hb2); (try clear hk); (try clear hi)))
            have n0_ := Aside0.mk (Kd.R_drew HO794.out)
            have n1_ := Aside0.mk (Kd.R_drew HO797.out)
            have n2_ := Aside0.mk (Kd.R_drew HO801.out)
            have n3_ := Aside0.mk (Kd.R_drew HO805.out)
            have n4_ := Aside0.mk (blk_drew BK788.out)
            have n5_ := Aside0.mk (blk_drew BK789.out)
            have n6_ := Aside0.mk (blk_drew BK802.out)
            have n7_ := Aside0.mk (blk_drew BK806.out)
            have n8_ := Aside0.mk (below_drew1 HB.out)
            clear HO794
            clear HO797
            clear HO801
            clear HO805
            clear BK788
            clear BK789
            clear BK802
            clear BK806
            clear HB
            have HO794 := n0_
            have HO797 := n1_
            have HO801 := n2_
            have HO805 := n3_
            have BK788 := n4_
            have BK789 := n5_
            have BK802 := n6_
            have BK806 := n7_
            have HB := n8_
            clear n0_ n1_ n2_ n3_ n4_ n5_ n6_ n7_ n8_
            refine start_ (n := 5) (S := fun w' => w'.cell? ⟨gb802, 0, none⟩ = some (.slice Ao50 t799.length co50) ∧ w'.cell? ⟨gb788, 0, none⟩ = some (.slice A0_0 l0_0.length c0_0)) (ds := []) (B_ 0 5) (by kernel_rfl) rfl rfl ⟨(blk_cell BK802.out 0).trans rfl, (blk_cell BK788.out 0).trans rfl⟩ (fun hHeld => ?_)
            generalize w63.drew = w64 at HO794 HO797 HO801 HO805 BK788 BK789 BK802 BK806 HB hHeld ⊢
            refine take_ (i := 0) (N := some 43) (v := ?_) (a' := ?_) (B_ 1 5) rfl rfl (by kernel_rfl) (fun _ _ _ h => h) (Or.inl ⟨by rfl, ?_⟩) hHeld ?_ ?_
            rotate_left
            · rintro w' ⟨s0, s1⟩
              go_simp
              with_reducible rfl
            rotate_left
            · simp only [Act.put, z1_, z2_, z3_, i64_w, i32_w]
              rfl
            refine take_ (i := 1) (N := some 44) (v := ?_) (a' := ?_) (B_ 3 5) rfl rfl (by kernel_rfl) (fun _ _ _ h => h) (Or.inl ⟨by rfl, ?_⟩) hHeld ?_ ?_
            rotate_left
            · rintro w' ⟨s0, s1⟩
              go_simp
              with_reducible rfl
            rotate_left
            · simp only [Act.put, z1_, z2_, z3_, i64_w, i32_w]
              rfl
            refine one_ (i := 2) (N := some 45) (B_ 7 5) rfl rfl (by kernel_rfl) (by decide) (fun K hK => ?_)
            refine goes_ Try.func28 (by kernel_rfl) rfl #[.agg #[.slice A0_0 l0_0.length c0_0]] (by rfl) rfl rfl (by (try simp only [List.map_toArray, List.map_cons, List.map_nil]); first | done | rfl | (simp only [List.length_drop, List.length_take]; rfl)) ?_
            with_reducible refine (laws_toSemigroup.calls k _ _ l0_0 t808 _ ?side1 ?side2 A28.out).mono ?_
            (case side1 => exact ce_ ((Kd.C_below HR0_0.out HB.out)))
            (case side2 => exact HC0_0.out)
            rintro e w65 ⟨v809, rfl, ho0, hb⟩
            refine ⟨_, rfl, ?_⟩
            have n0_ := Aside0.mk (Kd.R_elder' (re_ HO794.out) (Kd.R_base ho0) hb)
            have n1_ := Aside0.mk (Kd.R_elder' (re_ HO797.out) (Kd.R_base ho0) hb)
            have n2_ := Aside0.mk (Kd.R_elder' (re_ HO801.out) (Kd.R_base ho0) hb)
            have n3_ := Aside0.mk (Kd.R_elder' (re_ HO805.out) (Kd.R_base ho0) hb)
            have n4_ := Aside0.mk (Kd.R_lower (Kd.R_new' (Kd.R_new' (Kd.R_new' (Kd.R_new' ho0 (Kd.R_lt (re_ HO794.out))) (Kd.R_lt (re_ HO797.out))) (Kd.R_lt (re_ HO801.out))) (Kd.R_lt (re_ HO805.out))) (below_size (by repeat (first | (with_reducible first | exact HB.out | apply below_alloc | apply pw_below_drewN | apply below_drew1 | refine below_set ?_ GE788.out | refine below_set ?_ GE789.out | refine below_set ?_ GE802.out | refine below_set ?_ GE806.out) | exact HB.out))))
            have n5_ := Aside0.mk (blk_below (g := gb788) (o := .cells #[.slice A0_0 l0_0.length c0_0] 41 (0, 0)) (be_ BK788.out) hb)
            have n6_ := Aside0.mk (blk_below (g := gb789) (o := .cells #[.slice A1_0 l1_0.length c1_0] 41 (0, 0)) (be_ BK789.out) hb)
            have n7_ := Aside0.mk (blk_below (g := gb802) (o := .cells #[.slice Ao50 t799.length co50] 44 (0, 0)) (be_ BK802.out) hb)
            have n8_ := Aside0.mk (blk_below (g := gb806) (o := .cells #[.slice Ao57 t803.length co57] 44 (0, 0)) (be_ BK806.out) hb)
            have n9_ := Aside0.mk (below_step (by repeat (first | (with_reducible first | exact HB.out | apply below_alloc | apply pw_below_drewN | apply below_drew1 | refine below_set ?_ GE788.out | refine below_set ?_ GE789.out | refine below_set ?_ GE802.out | refine below_set ?_ GE806.out) | exact HB.out)) hb)
            clear HO794
            clear HO797
            clear HO801
            clear HO805
            clear BK788
            clear BK789
            clear BK802
            clear BK806
            clear HB
            have HO794 := n0_
            have HO797 := n1_
            have HO801 := n2_
            have HO805 := n3_
            have HO810 := n4_
            have BK788 := n5_
            have BK789 := n6_
            have BK802 := n7_
            have BK806 := n8_
            have HB := n9_
            clear n0_ n1_ n2_ n3_ n4_ n5_ n6_ n7_ n8_ n9_
            (try clear hb)
            (try clear hb2)
            (try clear hk)
            (try clear hi)
            (try clear ho0)
            obtain ⟨Ao66, co66, eo66⟩ := Kd.R_slice HO810.out
            (first | subst eo66 | (injection eo66 with f1_ f2_ f3_; have f4_ := f1_.symm; have f5_ := f3_.symm; clear f1_ f2_ f3_; subst f4_; subst f5_))
            refine hK.out _ _ ⟨(blk_cell BK802.out 0).trans rfl, (blk_cell BK788.out 0).trans rfl⟩ (fun hHeld => ?_)
            clear hK K
            refine norm_ (a' := ?_) ?_ ?_
            rotate_left
            · show Act.put _ (some 45) _ = _
              simp only [Act.put, z1_, z2_, z3_, i64_w, i32_w]
              rfl
            refine one_ (i := 3) (N := some 46) (B_ 15 5) rfl rfl (by kernel_rfl) (by decide) (fun K hK => ?_)
            refine goes_ Try.func30 (by kernel_rfl) rfl #[.agg #[.slice Ao50 t799.length co50], .agg #[.slice Ao66 t808.length co66]] (by rfl) rfl rfl (by (try simp only [List.map_toArray, List.map_cons, List.map_nil]); first | done | rfl | (simp only [List.length_drop, List.length_take]; rfl)) ?_
            with_reducible refine (laws_eqSemigroup.calls k _ _ t799 _ _ t808 true _ ?side1 ?side2 ?side3 ?side4 A29.out).mono ?_
            (case side1 => exact ce_ ((Kd.R_reads' HO801.out).2.2))
            (case side2 => exact (Kd.R_reads' HO801.out).2.1)
            (case side3 => exact ce_ ((Kd.R_reads' HO810.out).2.2))
            (case side4 => exact (Kd.R_reads' HO810.out).2.1)
            rintro e w67 ⟨rfl, hb⟩
            refine ⟨_, rfl, ?_⟩
            have n0_ := Aside0.mk (Kd.R_below (re_ HO794.out) hb)
            have n1_ := Aside0.mk (Kd.R_below (re_ HO797.out) hb)
            have n2_ := Aside0.mk (Kd.R_below (re_ HO801.out) hb)
            have n3_ := Aside0.mk (Kd.R_below (re_ HO805.out) hb)
            have n4_ := Aside0.mk (Kd.R_below (re_ HO810.out) hb)
            have n5_ := Aside0.mk (blk_below (g := gb788) (o := .cells #[.slice A0_0 l0_0.length c0_0] 41 (0, 0)) (be_ BK788.out) hb)
            have n6_ := Aside0.mk (blk_below (g := gb789) (o := .cells #[.slice A1_0 l1_0.length c1_0] 41 (0, 0)) (be_ BK789.out) hb)
            have n7_ := Aside0.mk (blk_below (g := gb802) (o := .cells #[.slice Ao50 t799.length co50] 44 (0, 0)) (be_ BK802.out) hb)
            have n8_ := Aside0.mk (blk_below (g := gb806) (o := .cells #[.slice Ao57 t803.length co57] 44 (0, 0)) (be_ BK806.out) hb)
            have n9_ := Aside0.mk (below_step (by repeat (first | (with_reducible first | exact HB.out | apply below_alloc | apply pw_below_drewN | apply below_drew1 | refine below_set ?_ GE788.out | refine below_set ?_ GE789.out | refine below_set ?_ GE802.out | refine below_set ?_ GE806.out) | exact HB.out)) hb)
            clear HO794
            clear HO797
            clear HO801
            clear HO805
            clear HO810
            clear BK788
            clear BK789
            clear BK802
            clear BK806
            clear HB
            have HO794 := n0_
            have HO797 := n1_
            have HO801 := n2_
            have HO805 := n3_
            have HO810 := n4_
            have BK788 := n5_
            have BK789 := n6_
            have BK802 := n7_
            have BK806 := n8_
            have HB := n9_
            clear n0_ n1_ n2_ n3_ n4_ n5_ n6_ n7_ n8_ n9_
            (try clear hb)
            (try clear hb2)
            (try clear hk)
            (try clear hi)
            refine hK.out _ _ ⟨(blk_cell BK802.out 0).trans rfl, (blk_cell BK788.out 0).trans rfl⟩ (fun hHeld => ?_)
            clear hK K
            refine norm_ (a' := ?_) ?_ ?_
            rotate_left
            · show Act.put _ (some 46) _ = _
              simp only [Act.put, z1_, z2_, z3_, i64_w, i32_w]
              rfl
            refine pure_ (i := 4) (N := some 47) (v := ?_) (a' := ?_) (B_ 31 5) rfl rfl (by kernel_rfl) (fun _ _ _ h => h) (Or.inl ⟨by rfl, ?_⟩) ?_ ?_
            rotate_left
            · intro w'
              go_simp
              with_reducible rfl
            rotate_left
            · simp only [Act.put, z1_, z2_, z3_, i64_w, i32_w]
              rfl
            refine done_ (by kernel_rfl) ?_
            try go_wp2
            have n0_ := Aside0.mk (Kd.R_drew HO794.out)
            have n1_ := Aside0.mk (Kd.R_drew HO797.out)
            have n2_ := Aside0.mk (Kd.R_drew HO801.out)
            have n3_ := Aside0.mk (Kd.R_drew HO805.out)
            have n4_ := Aside0.mk (Kd.R_drew HO810.out)
            have n5_ := Aside0.mk (blk_drew BK788.out)
            have n6_ := Aside0.mk (blk_drew BK789.out)
            have n7_ := Aside0.mk (blk_drew BK802.out)
            have n8_ := Aside0.mk (blk_drew BK806.out)
            have n9_ := Aside0.mk (below_drew1 HB.out)
            clear HO794
            clear HO797
            clear HO801
            clear HO805
            clear HO810
            clear BK788
            clear BK789
            clear BK802
            clear BK806
            clear HB
            have HO794 := n0_
            have HO797 := n1_
            have HO801 := n2_
            have HO805 := n3_
            have HO810 := n4_
            have BK788 := n5_
            have BK789 := n6_
            have BK802 := n7_
            have BK806 := n8_
            have HB := n9_
            clear n0_ n1_ n2_ n3_ n4_ n5_ n6_ n7_ n8_ n9_
            refine start_ (n := 5) (S := fun w' => w'.cell? ⟨gb806, 0, none⟩ = some (.slice Ao57 t803.length co57) ∧ w'.cell? ⟨gb789, 0, none⟩ = some (.slice A1_0 l1_0.length c1_0)) (ds := []) (B_ 0 5) (by kernel_rfl) rfl rfl ⟨(blk_cell BK806.out 0).trans rfl, (blk_cell BK789.out 0).trans rfl⟩ (fun hHeld => ?_)
            generalize w67.drew = w68 at HO794 HO797 HO801 HO805 HO810 BK788 BK789 BK802 BK806 HB hHeld ⊢
            refine take_ (i := 0) (N := some 48) (v := ?_) (a' := ?_) (B_ 1 5) rfl rfl (by kernel_rfl) (fun _ _ _ h => h) (Or.inl ⟨by rfl, ?_⟩) hHeld ?_ ?_
            rotate_left
            · rintro w' ⟨s0, s1⟩
              go_simp
              with_reducible rfl
            rotate_left
            · simp only [Act.put, z1_, z2_, z3_, i64_w, i32_w]
              rfl
            refine take_ (i := 1) (N := some 49) (v := ?_) (a' := ?_) (B_ 3 5) rfl rfl (by kernel_rfl) (fun _ _ _ h => h) (Or.inl ⟨by rfl, ?_⟩) hHeld ?_ ?_
            rotate_left
            · rintro w' ⟨s0, s1⟩
              go_simp
              with_reducible rfl
            rotate_left
            · simp only [Act.put, z1_, z2_, z3_, i64_w, i32_w]
              rfl
            refine one_ (i := 2) (N := some 50) (B_ 7 5) rfl rfl (by kernel_rfl) (by decide) (fun K hK => ?_)
            refine goes_ Try.func28 (by kernel_rfl) rfl #[.agg #[.slice A1_0 l1_0.length c1_0]] (by rfl) rfl rfl (by (try simp only [List.map_toArray, List.map_cons, List.map_nil]); first | done | rfl | (simp only [List.length_drop, List.length_take]; rfl)) ?_
            with_reducible refine (laws_toSemigroup.calls k _ _ l1_0 t812 _ ?side1 ?side2 A31.out).mono ?_
            (case side1 => exact ce_ ((Kd.C_below HR1_0.out HB.out)))
            (case side2 => exact HC1_0.out)
            rintro e w69 ⟨v813, rfl, ho0, hb⟩
            refine ⟨_, rfl, ?_⟩
            have n0_ := Aside0.mk (Kd.R_elder' (re_ HO794.out) (Kd.R_base ho0) hb)
            have n1_ := Aside0.mk (Kd.R_elder' (re_ HO797.out) (Kd.R_base ho0) hb)
            have n2_ := Aside0.mk (Kd.R_elder' (re_ HO801.out) (Kd.R_base ho0) hb)
            have n3_ := Aside0.mk (Kd.R_elder' (re_ HO805.out) (Kd.R_base ho0) hb)
            have n4_ := Aside0.mk (Kd.R_elder' (re_ HO810.out) (Kd.R_base ho0) hb)
            have n5_ := Aside0.mk (Kd.R_lower (Kd.R_new' (Kd.R_new' (Kd.R_new' (Kd.R_new' (Kd.R_new' ho0 (Kd.R_lt (re_ HO794.out))) (Kd.R_lt (re_ HO797.out))) (Kd.R_lt (re_ HO801.out))) (Kd.R_lt (re_ HO805.out))) (Kd.R_lt (re_ HO810.out))) (below_size (by repeat (first | (with_reducible first | exact HB.out | apply below_alloc | apply pw_below_drewN | apply below_drew1 | refine below_set ?_ GE788.out | refine below_set ?_ GE789.out | refine below_set ?_ GE802.out | refine below_set ?_ GE806.out) | exact HB.out))))
            have n6_ := Aside0.mk (blk_below (g := gb788) (o := .cells #[.slice A0_0 l0_0.length c0_0] 41 (0, 0)) (be_ BK788.out) hb)
            have n7_ := Aside0.mk (blk_below (g := gb789) (o := .cells #[.slice A1_0 l1_0.length c1_0] 41 (0, 0)) (be_ BK789.out) hb)
            have n8_ := Aside0.mk (blk_below (g := gb802) (o := .cells #[.slice Ao50 t799.length co50] 44 (0, 0)) (be_ BK802.out) hb)
            have n9_ := Aside0.mk (blk_below (g := gb806) (o := .cells #[.slice Ao57 t803.length co57] 44 (0, 0)) (be_ BK806.out) hb)
            have n10_ := Aside0.mk (below_step (by repeat (first | (with_reducible first | exact HB.out | apply below_alloc | apply pw_below_drewN | apply below_drew1 | refine below_set ?_ GE788.out | refine below_set ?_ GE789.out | refine below_set ?_ GE802.out | refine below_set ?_ GE806.out) | exact HB.out)) hb)
            clear HO794
            clear HO797
            clear HO801
            clear HO805
            clear HO810
            clear BK788
            clear BK789
            clear BK802
            clear BK806
            clear HB
            have HO794 := n0_
            have HO797 := n1_
            have HO801 := n2_
            have HO805 := n3_
            have HO810 := n4_
            have HO814 := n5_
            have BK788 := n6_
            have BK789 := n7_
            have BK802 := n8_
            have BK806 := n9_
            have HB := n10_
            clear n0_ n1_ n2_ n3_ n4_ n5_ n6_ n7_ n8_ n9_ n10_
            (try clear hb)
            (try clear hb2)
            (try clear hk)
            (try clear hi)
            (try clear ho0)
            obtain ⟨Ao70, co70, eo70⟩ := Kd.R_slice HO814.out
            (first | subst eo70 | (injection eo70 with f1_ f2_ f3_; have f4_ := f1_.symm; have f5_ := f3_.symm; clear f1_ f2_ f3_; subst f4_; subst f5_))
            refine hK.out _ _ ⟨(blk_cell BK806.out 0).trans rfl, (blk_cell BK789.out 0).trans rfl⟩ (fun hHeld => ?_)
            clear hK K
            refine norm_ (a' := ?_) ?_ ?_
            rotate_left
            · show Act.put _ (some 50) _ = _
              simp only [Act.put, z1_, z2_, z3_, i64_w, i32_w]
              rfl
            refine one_ (i := 3) (N := some 51) (B_ 15 5) rfl rfl (by kernel_rfl) (by decide) (fun K hK => ?_)
            refine goes_ Try.func30 (by kernel_rfl) rfl #[.agg #[.slice Ao57 t803.length co57], .agg #[.slice Ao70 t812.length co70]] (by rfl) rfl rfl (by (try simp only [List.map_toArray, List.map_cons, List.map_nil]); first | done | rfl | (simp only [List.length_drop, List.length_take]; rfl)) ?_
            with_reducible refine (laws_eqSemigroup.calls k _ _ t803 _ _ t812 true _ ?side1 ?side2 ?side3 ?side4 A32.out).mono ?_
            (case side1 => exact ce_ ((Kd.R_reads' HO805.out).2.2))
            (case side2 => exact (Kd.R_reads' HO805.out).2.1)
            (case side3 => exact ce_ ((Kd.R_reads' HO814.out).2.2))
            (case side4 => exact (Kd.R_reads' HO814.out).2.1)
            rintro e w71 ⟨rfl, hb⟩
            refine ⟨_, rfl, ?_⟩
            have n0_ := Aside0.mk (Kd.R_below (re_ HO794.out) hb)
            have n1_ := Aside0.mk (Kd.R_below (re_ HO797.out) hb)
            have n2_ := Aside0.mk (Kd.R_below (re_ HO801.out) hb)
            have n3_ := Aside0.mk (Kd.R_below (re_ HO805.out) hb)
            have n4_ := Aside0.mk (Kd.R_below (re_ HO810.out) hb)
            have n5_ := Aside0.mk (Kd.R_below (re_ HO814.out) hb)
            have n6_ := Aside0.mk (blk_below (g := gb788) (o := .cells #[.slice A0_0 l0_0.length c0_0] 41 (0, 0)) (be_ BK788.out) hb)
            have n7_ := Aside0.mk (blk_below (g := gb789) (o := .cells #[.slice A1_0 l1_0.length c1_0] 41 (0, 0)) (be_ BK789.out) hb)
            have n8_ := Aside0.mk (blk_below (g := gb802) (o := .cells #[.slice Ao50 t799.length co50] 44 (0, 0)) (be_ BK802.out) hb)
            have n9_ := Aside0.mk (blk_below (g := gb806) (o := .cells #[.slice Ao57 t803.length co57] 44 (0, 0)) (be_ BK806.out) hb)
            have n10_ := Aside0.mk (below_step (by repeat (first | (with_reducible first | exact HB.out | apply below_alloc | apply pw_below_drewN | apply below_drew1 | refine below_set ?_ GE788.out | refine below_set ?_ GE789.out | refine below_set ?_ GE802.out | refine below_set ?_ GE806.out) | exact HB.out)) hb)
            clear HO794
            clear HO797
            clear HO801
            clear HO805
            clear HO810
            clear HO814
            clear BK788
            clear BK789
            clear BK802
            clear BK806
            clear HB
            have HO794 := n0_
            have HO797 := n1_
            have HO801 := n2_
            have HO805 := n3_
            have HO810 := n4_
            have HO814 := n5_
            have BK788 := n6_
            have BK789 := n7_
            have BK802 := n8_
            have BK806 := n9_
            have HB := n10_
            clear n0_ n1_ n2_ n3_ n4_ n5_ n6_ n7_ n8_ n9_ n10_
            (try clear hb)
            (try clear hb2)
            (try clear hk)
            (try clear hi)
            refine hK.out _ _ ⟨(blk_cell BK806.out 0).trans rfl, (blk_cell BK789.out 0).trans rfl⟩ (fun hHeld => ?_)
            clear hK K
            refine norm_ (a' := ?_) ?_ ?_
            rotate_left
            · show Act.put _ (some 51) _ = _
              simp only [Act.put, z1_, z2_, z3_, i64_w, i32_w]
              rfl
            refine pure_ (i := 4) (N := some 52) (v := ?_) (a' := ?_) (B_ 31 5) rfl rfl (by kernel_rfl) (fun _ _ _ h => h) (Or.inl ⟨by rfl, ?_⟩) ?_ ?_
            rotate_left
            · intro w'
              go_simp
              with_reducible rfl
            rotate_left
            · simp only [Act.put, z1_, z2_, z3_, i64_w, i32_w]
              rfl
            refine done_ (by kernel_rfl) ?_
            try go_wp2
            go_ret
            exact ⟨by first | rfl | (simp [errW_none, errW_some] <;> rfl) | (simp [*, errW_none, errW_some] <;> rfl), by repeat (first | (with_reducible first | exact HB.out | apply below_alloc | apply pw_below_drewN | apply below_drew1 | refine below_set ?_ GE788.out | refine below_set ?_ GE789.out | refine below_set ?_ GE802.out | refine below_set ?_ GE806.out) | exact HB.out)⟩
         · replace c33 := Bool.eq_false_iff.mpr c33
           subst c33
           have H1 : (some false) = some r := by rw [if_neg (show ¬ (false = true) by decide)] at H; exact H
           exact absurd (H1.trans (congrArg some hr_.out)) (by simp)
       · replace c30 := Bool.eq_false_iff.mpr c30
         subst c30
         have H1 : (some false) = some r := by rw [if_neg (show ¬ (false = true) by decide)] at H; exact H
         exact absurd (H1.trans (congrArg some hr_.out)) (by simp)
     · rw [if_neg c27] at H
       exact absurd (H.trans (congrArg some hr_.out)) (by simp)
end Go.Proofs.Ythkhpejggdnkfaa.PA
end
section
namespace Go.Proofs.Ythkhpejggdnkfaa.E
open Go.RowKit Go.Proofs.YthkhpejggdnkfaaW.PrintWords Go.Proofs.YthkhpejggdnkfaaW.PrintLast Go.Proofs.YthkhpejggdnkfaaW.PrintMore
set_option linter.unusedVariables false
set_option linter.unusedSimpArgs false
theorem w64 {x : Int} (h1 : -9223372036854775808 ≤ x) (h2 : x ≤ 9223372036854775807) : wrap64 x = x := by
 unfold wrap64; omega
theorem nd_t {p : Prop} [Decidable p] (h : ¬ p) : (!decide p) = true := by simp [h]
theorem emod_le_self {n x : Int} (h : 0 ≤ n) (hx : 0 < x) : n % x ≤ n := by
 have h1 := Int.mul_ediv_add_emod n x
 have h2 : 0 ≤ x * (n / x) := Int.mul_nonneg (by omega) (Int.ediv_nonneg h (by omega))
 omega
theorem ev_ifp {α : Type} {c : Prop} [Decidable c] {a b : Nat → Option α} {r : α} (h : c) (k : Ev a r) : Ev (fun n => if c then a n else b n) r :=
 Ev.congr (fun _ => if_pos h) k
theorem ev_ifn {α : Type} {c : Prop} [Decidable c] {a b : Nat → Option α} {r : α} (h : ¬ c) (k : Ev b r) : Ev (fun n => if c then a n else b n) r :=
 Ev.congr (fun _ => if_neg h) k
theorem ev_bind {α β : Type} {g : Nat → Option α} {f : Nat → α → Option β} (a : α) {r : β} (h : Ev g a) (k : Ev (fun n => f n a) r) : Ev (fun n => (g n).bind (f n)) r := Ev.bind h k
theorem ev_to {α : Type} {g : Nat → Option α} {a b : α} (h : Ev g a) (e : a = b) : Ev g b := e ▸ h
theorem rd_lt {l : List Int} {i : Int} (h0 : 0 ≤ i) (h : i < l.length) : rd l i = l[i.toNat]'(by omega) := by
 unfold rd; rw [List.getD_eq_getElem?_getD, List.getElem?_eq_getElem (by omega)]; rfl
theorem rd_mem {l : List Int} {i : Int} (h0 : 0 ≤ i) (h : i < l.length) : rd l i ∈ l := by
 rw [rd_lt h0 h]; exact List.getElem_mem _
theorem drop_rd {l : List Int} {i : Int} (h0 : 0 ≤ i) (h : i < l.length) : l.drop i.toNat = rd l i :: l.drop (i + 1).toNat := by
 rw [rd_lt h0 h, List.drop_eq_getElem_cons (by omega)]
 congr 2; omega
theorem take_rd {l : List Int} {i : Int} (h0 : 0 ≤ i) (h : i < l.length) : l.take (i + 1).toNat = l.take i.toNat ++ [rd l i] := by
 rw [rd_lt h0 h, show (i + 1).toNat = i.toNat + 1 from by omega, List.take_succ_eq_append_getElem (by omega)]
theorem rd_ext {l m : List Int} (hl : l.length = m.length) (h : ∀ i : Int, 0 ≤ i → i < l.length → rd l i = rd m i) : l = m := by
 refine List.ext_getElem hl fun n h1 h2 => ?_
 have := h n (by omega) (by omega)
 rw [rd_lt (by omega) (by omega), rd_lt (by omega) (by omega)] at this
 simpa using this
theorem rd_set {l : List Int} {i j : Int} (x : Int) (hi : 0 ≤ i) (hi' : i < l.length) (hj : 0 ≤ j) : rd (l.set i.toNat x) j = if j = i then x else rd l j := by
 unfold rd
 rw [List.getD_eq_getElem?_getD, List.getD_eq_getElem?_getD, List.getElem?_set]
 by_cases h : j = i
 · subst h; rw [if_pos rfl, if_pos rfl, if_pos (by omega)]; rfl
 · rw [if_neg h, if_neg (by omega)]
theorem rd_rep {n : Nat} {x : Int} {i : Int} (hi : 0 ≤ i) (h : i < n) : rd (List.replicate n x) i = x := by
 rw [rd_lt hi (by simpa using h)]; simp
theorem mem_rd {l : List Int} {x : Int} (h : x ∈ l) : ∃ i : Int, 0 ≤ i ∧ i < l.length ∧ rd l i = x := by
 obtain ⟨n, hn, rfl⟩ := List.mem_iff_getElem.1 h
 exact ⟨n, by omega, by omega, by rw [rd_lt (by omega) (by omega)]; simp⟩
end Go.Proofs.Ythkhpejggdnkfaa.E
end
section
namespace Go.Proofs.Ythkhpejggdnkfaa.E
open Go.RowKit Go.Proofs.Ythkhpejggdnkfaa.PA Go.Proofs.YthkhpejggdnkfaaW.PrintWords Go.Proofs.YthkhpejggdnkfaaW.PrintLast Go.Proofs.YthkhpejggdnkfaaW.PrintMore
set_option linter.unusedVariables false
set_option linter.unusedSimpArgs false
theorem l1In_eq (n lo hi : Int) : spec_l1In.f n lo hi = some (decide (lo ≤ n ∧ n ≤ hi)) := by
 unfold spec_l1In.f; by_cases h : n ≥ lo
 · rw [if_pos h]; simp [h]
 · rw [if_neg h]; simp [show ¬ lo ≤ n from h]
theorem within_eq (n lo hi : Int) : impl_within.f n lo hi = some (decide (lo ≤ n ∧ n ≤ hi)) := l1In_eq n lo hi
theorem allWithin_l {l : List Int} {lo hi : Int} (hl : l.length ≤ 1099511627776) (d : Nat) : ∀ (i : Int), 0 ≤ i → i + d = l.length → Ev (fun k => impl_allWithin.l0 k lo hi l l.length i) (decide (∀ x ∈ l.drop i.toNat, lo ≤ x ∧ x ≤ hi)) := by
 induction d with
 | zero =>
  intro i h0 h1
  refine Ev.step (fun k => by rw [impl_allWithin.l0]) ?_
  simp (disch := omega) only [if_neg]
  refine ev_to (Ev.now _) ?_
  rw [List.drop_of_length_le (by omega)]; simp
 | succ d ih =>
  intro i h0 h1
  refine Ev.step (fun k => by rw [impl_allWithin.l0]) ?_
  simp (disch := omega) only [if_pos, w64, within_eq, Option.bind_some]
  rw [drop_rd h0 (by omega)]
  by_cases h : lo ≤ rd l i ∧ rd l i ≤ hi
  · refine ev_ifp (by simpa using h) (ev_to (ih (i + 1) (by omega) (by omega)) ?_)
    simp [h]
  · refine ev_ifn (by simpa using h) (ev_to (Ev.now _) ?_)
    simp only [List.mem_cons, forall_eq_or_imp, h, false_and, decide_false]
theorem allWithin_ev {l : List Int} (lo hi : Int) (hl : l.length ≤ 1099511627776) : Ev (fun k => impl_allWithin.f k l lo hi) (decide (∀ x ∈ l, lo ≤ x ∧ x ≤ hi)) :=
 ev_to (allWithin_l hl l.length 0 (by omega) (by omega)) (by simp)
def Asc (l : List Int) : Prop := ∀ i : Int, 0 < i → i < l.length → rd l (i - 1) < rd l i
noncomputable instance (l : List Int) : Decidable (Asc l) := Classical.propDecidable _
theorem asc_l {l : List Int} (hl : l.length ≤ 1099511627776) (d : Nat) : ∀ (i : Int), 0 < i → i + d = max 1 l.length → (∀ j, 0 < j → j < i → rd l (j - 1) < rd l j) → Ev (fun k => impl_IsAscending.l0 k l i) (decide (Asc l)) ∧ Ev (fun k => spec_IsAscending.l0 k l i) (decide (Asc l)) := by
 induction d with
 | zero =>
  intro i h0 h1 h2
  have ha : Asc l := fun j hj hj' => h2 j hj (by omega)
  constructor
  · refine Ev.step (fun k => by rw [impl_IsAscending.l0]) ?_
    simp (disch := omega) only [if_neg]
    exact ev_to (Ev.now _) (by simp [ha])
  · refine Ev.step (fun k => by rw [spec_IsAscending.l0]) ?_
    simp (disch := omega) only [if_neg]
    exact ev_to (Ev.now _) (by simp [ha])
 | succ d ih =>
  intro i h0 h1 h2
  by_cases h : rd l (i - 1) < rd l i
  · obtain ⟨a, b⟩ := ih (i + 1) (by omega) (by omega) (fun j hj hj' => by
     by_cases e : j = i
     · subst e; exact h
     · exact h2 j hj (by omega))
    constructor
    · refine Ev.step (fun k => by rw [impl_IsAscending.l0]) ?_
      simp (disch := omega) only [if_pos, if_neg, w64]
      exact a
    · refine Ev.step (fun k => by rw [spec_IsAscending.l0]) ?_
      simp (disch := omega) only [if_pos, if_neg, w64]
      exact b
  · have hn : ¬ Asc l := fun ha => h (ha i h0 (by omega))
    constructor
    · refine Ev.step (fun k => by rw [impl_IsAscending.l0]) ?_
      simp (disch := omega) only [if_pos, w64]
      exact ev_to (Ev.now _) (by simp [hn])
    · refine Ev.step (fun k => by rw [spec_IsAscending.l0]) ?_
      simp (disch := omega) only [if_pos, w64]
      exact ev_to (Ev.now _) (by simp [hn])
theorem ascI_ev {l : List Int} (hl : l.length ≤ 1099511627776) : Ev (fun k => impl_IsAscending.f k l) (decide (Asc l)) :=
 (asc_l hl (l.length - 1) 1 (by omega) (by omega) (fun j h h' => by omega)).1
theorem ascS_ev {l : List Int} (hl : l.length ≤ 1099511627776) : Ev (fun k => spec_IsAscending.f k l) (decide (Asc l)) :=
 (asc_l hl (l.length - 1) 1 (by omega) (by omega) (fun j h h' => by omega)).2
end Go.Proofs.Ythkhpejggdnkfaa.E
end
section
namespace Go.Proofs.Ythkhpejggdnkfaa.E
open Go.RowKit Go.Proofs.YthkhpejggdnkfaaW.PrintWords Go.Proofs.YthkhpejggdnkfaaW.PrintLast Go.Proofs.YthkhpejggdnkfaaW.PrintMore
set_option linter.unusedVariables false
set_option linter.unusedSimpArgs false
inductive Way (v : List Int) : Int → Int → Prop
 | zero : Way v 0 0
 | add {x k c : Int} : x ∈ v → Way v k c → Way v (k + x) (c + 1)
theorem Way.mono {v u : List Int} (h : ∀ x ∈ v, x ∈ u) {k c : Int} (w : Way v k c) : Way u k c := by
 induction w with
 | zero => exact .zero
 | add hx _ ih => exact .add (h _ hx) ih
theorem Way.pos {v : List Int} (h : ∀ x ∈ v, 1 ≤ x) {k c : Int} (w : Way v k c) : 0 ≤ c ∧ c ≤ k := by
 induction w with
 | zero => omega
 | add hx _ ih => have := h _ hx; omega
theorem Way.plus {v : List Int} {k c : Int} (w : Way v k c) {k' c' : Int} (w' : Way v k' c') : Way v (k + k') (c + c') := by
 induction w' with
 | zero => simpa using w
 | @add x k1 c1 hx _ ih =>
  rw [← Int.add_assoc, ← Int.add_assoc]
  exact .add hx ih
theorem Way.times {v : List Int} {x : Int} (hx : x ∈ v) (j : Nat) : Way v (j * x) j := by
 induction j with
 | zero => simpa using Way.zero
 | succ j ih =>
  have := Way.add hx ih
  rw [show ((j + 1 : Nat) : Int) * x = j * x + x from by rw [Int.natCast_add, Int.add_mul]; simp]
  exact this
theorem Way.last {v : List Int} {k c : Int} (w : Way v k c) : (k = 0 ∧ c = 0) ∨ ∃ x ∈ v, Way v (k - x) (c - 1) := by
 cases w with
 | zero => exact .inl ⟨rfl, rfl⟩
 | @add x k c hx hw => exact .inr ⟨x, hx, by rwa [show k + x - x = k from by omega, show c + 1 - 1 = c from by omega]⟩
theorem Way.split {u : List Int} {x : Int} {k c : Int} (w : Way (u ++ [x]) k c) : ∃ j : Nat, Way u (k - j * x) (c - j) := by
 induction w with
 | zero => exact ⟨0, by simpa using Way.zero⟩
 | @add y k c hy _ ih =>
  obtain ⟨j, h⟩ := ih
  rcases List.mem_append.1 hy with hu | hx
  · refine ⟨j, ?_⟩
    have := Way.add hu h
    rwa [show k - j * x + y = k + y - j * x from by omega, show c - (j : Int) + 1 = c + 1 - j from by omega] at this
  · obtain rfl : y = x := by simpa using hx
    refine ⟨j + 1, ?_⟩
    rw [show ((j + 1 : Nat) : Int) * y = j * y + y from by rw [Int.natCast_add, Int.add_mul]; simp, show k + y - (j * y + y) = k - j * y from by omega, show c + 1 - ((j + 1 : Nat) : Int) = c - j from by omega]
    exact h
def Fw (v : List Int) (k m : Int) : Prop := (m = -1 ∧ ∀ c, ¬ Way v k c) ∨ (Way v k m ∧ ∀ c, Way v k c → m ≤ c)
theorem Fw.one {v : List Int} (hv : ∀ x ∈ v, 1 ≤ x) {k m m' : Int} (h : Fw v k m) (h' : Fw v k m') : m = m' := by
 rcases h with ⟨h1, h2⟩ | ⟨h1, h2⟩ <;> rcases h' with ⟨h3, h4⟩ | ⟨h3, h4⟩
 · omega
 · exact absurd h3 (h2 _)
 · exact absurd h1 (h4 _)
 · have := h2 _ h3; have := h4 _ h1; omega
theorem Fw.ge {v : List Int} (hv : ∀ x ∈ v, 1 ≤ x) {k m : Int} (h : Fw v k m) : -1 ≤ m := by
 rcases h with ⟨h1, h2⟩ | ⟨h1, h2⟩
 · omega
 · have := h1.pos hv; omega
theorem Fw.le {v : List Int} (hv : ∀ x ∈ v, 1 ≤ x) {k m : Int} (h : Fw v k m) (hk : 0 ≤ k) : m ≤ k := by
 rcases h with ⟨h1, h2⟩ | ⟨h1, h2⟩
 · omega
 · have := h1.pos hv; omega
theorem Fw.way {v : List Int} {k m : Int} (h : Fw v k m) (hm : 0 ≤ m) : Way v k m ∧ ∀ c, Way v k c → m ≤ c := by
 rcases h with ⟨h1, h2⟩ | h
 · omega
 · exact h
theorem Fw.nil {k : Int} (hk : 0 ≤ k) : Fw [] k (if k = 0 then 0 else -1) := by
 by_cases h : k = 0
 · subst h
   exact .inr ⟨.zero, fun c w => (w.pos (by simp)).1⟩
 · rw [if_neg h]
   refine .inl ⟨rfl, fun c w => ?_⟩
   rcases w.last with ⟨h1, _⟩ | ⟨x, hx, _⟩
   · exact h h1
   · simp at hx
theorem Fw.below {u : List Int} {x k m : Int} (hu : ∀ y ∈ u, 1 ≤ y) (hk : k < x) (h : Fw u k m) (h0 : 0 ≤ k) : Fw (u ++ [x]) k m := by
 have hv : ∀ y ∈ u ++ [x], 1 ≤ y := by
  intro y hy
  rcases List.mem_append.1 hy with hy | hy
  · exact hu y hy
  · have : y = x := by simpa using hy
    omega
 have key : ∀ c, Way (u ++ [x]) k c → Way u k c := by
  intro c w
  obtain ⟨j, hj⟩ := w.split
  by_cases h : j = 0
  · subst h; simpa using hj
  · exfalso
    have := hj.pos hu
    have hj1 : x ≤ (j : Int) * x := by
     have := Int.mul_le_mul_of_nonneg_right (show (1 : Int) ≤ j from by omega) (show 0 ≤ x from by omega)
     omega
    omega
 rcases h with ⟨h1, h2⟩ | ⟨h1, h2⟩
 · exact .inl ⟨h1, fun c w => h2 c (key c w)⟩
 · exact .inr ⟨h1.mono (fun y hy => List.mem_append.2 (.inl hy)), fun c w => h2 c (key c w)⟩
end Go.Proofs.Ythkhpejggdnkfaa.E
end
section
namespace Go.Proofs.Ythkhpejggdnkfaa.E
open Go.RowKit Go.Proofs.YthkhpejggdnkfaaW.PrintWords Go.Proofs.YthkhpejggdnkfaaW.PrintLast Go.Proofs.YthkhpejggdnkfaaW.PrintMore
set_option linter.unusedVariables false
set_option linter.unusedSimpArgs false
structure Lst (v : List Int) (a G : Int) (t : List Int) : Prop where
 len : (t.length : Int) = a
 ge : ∀ r, 0 ≤ r → r < a → -1 ≤ rd t r
 way : ∀ r, 0 ≤ r → r < a → 0 ≤ rd t r → (∃ c, Way v (rd t r) c) ∧ rd t r % a = r
 least : ∀ n c, Way v n c → 0 ≤ rd t (n % a) ∧ rd t (n % a) ≤ n
 bound : ∀ r, 0 ≤ r → r < a → rd t r ≤ (a - 1) * G
def sets (t : List Int) : Nat := t.countP (fun x => decide (0 ≤ x))
theorem sets_le (t : List Int) : sets t ≤ t.length := List.countP_le_length
def weight (B : Int) (t : List Int) : Int := (t.map fun x => if x < 0 then B else x).sum
theorem weight_nonneg {B : Int} (hB : 0 ≤ B) (t : List Int) : 0 ≤ weight B t := by
 induction t with
 | nil => simp [weight]
 | cons x t ih =>
  unfold weight at *
  rw [List.map_cons, List.sum_cons]
  by_cases h : x < 0
  · rw [if_pos h]; omega
  · rw [if_neg h]; omega
theorem weight_set (B : Int) (t : List Int) (i : Nat) (h : i < t.length) (x : Int) : weight B (t.set i x) + (if t[i] < 0 then B else t[i]) = weight B t + (if x < 0 then B else x) := by
 induction t generalizing i with
 | nil => simp at h
 | cons y t ih =>
  unfold weight at *
  cases i with
  | zero => simp only [z2_, List.map_cons, List.sum_cons, List.getElem_cons_zero]; omega
  | succ i =>
   have := ih i (by simpa using h)
   simp only [z3_, List.map_cons, List.sum_cons, List.getElem_cons_succ]
   omega
theorem sets_set (t : List Int) (i : Nat) (h : i < t.length) (x : Int) (hx : 0 ≤ x) : sets (t.set i x) + (if 0 ≤ t[i] then 1 else 0) = sets t + 1 := by
 induction t generalizing i with
 | nil => simp at h
 | cons y t ih =>
  unfold sets at *
  cases i with
  | zero =>
   simp only [z2_, List.countP_cons, List.getElem_cons_zero]
   by_cases e : 0 ≤ y <;> simp [e, hx]
  | succ i =>
   have := ih i (by simpa using h)
   simp only [z3_, List.countP_cons, List.getElem_cons_succ]
   omega
structure LInv (v : List Int) (a G : Int) (t : List Int) : Prop where
 len : (t.length : Int) = a
 zero : rd t 0 = 0
 ge : ∀ r, 0 ≤ r → r < a → -1 ≤ rd t r
 way : ∀ r, 0 ≤ r → r < a → 0 ≤ rd t r → (∃ c, Way v (rd t r) c) ∧ rd t r % a = r
 bound : ∀ r, 0 ≤ r → r < a → rd t r ≤ ((sets t : Int) - 1) * G
theorem mul_le_of {x y G : Int} (hG : 0 ≤ G) (h : x ≤ y) : x * G ≤ y * G := Int.mul_le_mul_of_nonneg_right h hG
theorem LInv.top {v : List Int} {a G : Int} {t : List Int} (hG : 0 ≤ G) (h : LInv v a G t) {r : Int} (h0 : 0 ≤ r) (h1 : r < a) : rd t r ≤ (a - 1) * G := by
 have := h.bound r h0 h1
 have := sets_le t
 have := h.len
 have := mul_le_of (x := (sets t : Int) - 1) (y := a - 1) hG (by omega)
 omega
theorem LInv.step {v : List Int} {a G : Int} {t : List Int} (hv : ∀ x ∈ v, 1 ≤ x ∧ x ≤ G) (ha : 1 ≤ a) (h : LInv v a G t) {r g : Int} (hr0 : 0 ≤ r) (hr1 : r < a) (hg : g ∈ v) (hs : 0 ≤ rd t r)
 (hc : rd t ((rd t r + g) % a) < 0 ∨ rd t r + g < rd t ((rd t r + g) % a)) :
 LInv v a G (t.set ((rd t r + g) % a).toNat (rd t r + g)) ∧ weight (a * G + 1) (t.set ((rd t r + g) % a).toNat (rd t r + g)) < weight (a * G + 1) t ∧ rd t r + g ≤ a * G ∧ (rd t r + g) % a ≠ r := by
 have hgv := hv g hg
 have hG : 0 ≤ G := by omega
 have q0 := Int.emod_nonneg (rd t r + g) (b := a) (by omega)
 have q1 := Int.emod_lt_of_pos (rd t r + g) (b := a) (by omega)
 generalize hto : (rd t r + g) % a = y0 at *
 have hl := h.len
 have hb := h.bound r hr0 hr1
 have hbt := h.bound y0 q0 q1
 have hsl := sets_le t
 have hne : y0 ≠ r := by rintro rfl; omega
 have h00 : y0 ≠ 0 := by rintro rfl; rw [h.zero] at hc; omega
 have hrd : rd t y0 = t[y0.toNat]'(by omega) := rd_lt q0 (by omega)
 have hss := sets_set t y0.toNat (by omega) (rd t r + g) (by omega)
 have hws := weight_set (a * G + 1) t y0.toNat (by omega) (rd t r + g)
 rw [← hrd] at hss hws
 have hset0 : (sets (t.set y0.toNat (rd t r + g)) : Int) + (if 0 ≤ rd t y0 then 1 else 0) = sets t + 1 := by
  split at hss <;> omega
 have hm : a * G = (a - 1) * G + G := by rw [Int.sub_mul]; omega
 have hm2 : ((sets t : Int)) * G = ((sets t : Int) - 1) * G + G := by rw [Int.sub_mul]; omega
 have hm3 := mul_le_of (x := (sets t : Int) - 1) (y := a - 1) hG (by omega)
 obtain ⟨⟨c, hw⟩, hmod⟩ := h.way r hr0 hr1 hs
 have hset : (sets (t.set y0.toNat (rd t r + g)) : Int) = if rd t y0 < 0 then (sets t : Int) + 1 else sets t := by
  by_cases e : rd t y0 < 0
  · rw [if_pos e]; rw [if_neg (by omega)] at hset0; omega
  · rw [if_neg e]; rw [if_pos (by omega)] at hset0; omega
 have hsets : (sets t : Int) ≤ sets (t.set y0.toNat (rd t r + g)) := by rw [hset]; split <;> omega
 have hup : ((sets t : Int) - 1) * G ≤ ((sets (t.set y0.toNat (rd t r + g)) : Int) - 1) * G := mul_le_of hG (by omega)
 have hy : rd t r + g ≤ ((sets (t.set y0.toNat (rd t r + g)) : Int) - 1) * G := by
  by_cases e : rd t y0 < 0
  · rw [hset, if_pos e, show (sets t : Int) + 1 - 1 = sets t from by omega]; omega
  · omega
 refine ⟨⟨by simpa using hl, ?_, ?_, ?_, ?_⟩, ?_, by omega, hne⟩
 · have := rd_set (l := t) (rd t r + g) q0 (by omega) (show (0 : Int) ≤ 0 by omega)
   rw [this, if_neg (fun e => h00 e.symm)]; exact h.zero
 · intro s hs0 hs1
   rw [rd_set _ q0 (by omega) hs0]
   by_cases e : s = y0
   · rw [if_pos e]; omega
   · rw [if_neg e]; exact h.ge s hs0 hs1
 · intro s hs0 hs1 hpos
   rw [rd_set _ q0 (by omega) hs0] at hpos ⊢
   by_cases e : s = y0
   · rw [if_pos e] at hpos ⊢
     exact ⟨⟨c + 1, .add hg hw⟩, by rw [hto, e]⟩
   · rw [if_neg e] at hpos ⊢; exact h.way s hs0 hs1 hpos
 · intro s hs0 hs1
   rw [rd_set _ q0 (by omega) hs0]
   by_cases e : s = y0
   · rw [if_pos e]; exact hy
   · rw [if_neg e]; have := h.bound s hs0 hs1; omega
 · rw [if_neg (show ¬ rd t r + g < 0 by omega)] at hws
   by_cases e : rd t y0 < 0
   · rw [if_pos e] at hws; omega
   · rw [if_neg e] at hws; omega
def Closed (v : List Int) (a : Int) (t : List Int) : Prop := ∀ r, 0 ≤ r → r < a → 0 ≤ rd t r → ∀ g ∈ v, 0 ≤ rd t ((rd t r + g) % a) ∧ rd t ((rd t r + g) % a) ≤ rd t r + g
theorem LInv.done {v : List Int} {a G : Int} {t : List Int} (hv : ∀ x ∈ v, 1 ≤ x ∧ x ≤ G) (hG : 0 ≤ G) (ha : 1 ≤ a) (h : LInv v a G t) (hc : Closed v a t) : Lst v a G t := by
 refine ⟨h.len, h.ge, h.way, fun n c w => ?_, fun r h0 h1 => h.top hG h0 h1⟩
 induction w with
 | zero => simp [h.zero]
 | @add g k c hg hw ih =>
  have q0 := Int.emod_nonneg k (b := a) (by omega)
  have q1 := Int.emod_lt_of_pos k (b := a) (by omega)
  obtain ⟨c1, c2⟩ := hc (k % a) q0 q1 ih.1 g hg
  have hmod := (h.way (k % a) q0 q1 ih.1).2
  have e : (rd t (k % a) + g) % a = (k + g) % a := by
   rw [Int.add_emod, hmod, ← Int.add_emod]
  rw [e] at c1 c2
  exact ⟨c1, by omega⟩
theorem Lst.one {v : List Int} {a G G' : Int} {t u : List Int} (h : Lst v a G t) (k : Lst v a G' u) : t = u := by
 refine rd_ext (by have := h.len; have := k.len; omega) fun r h0 h1 => ?_
 have ha : r < a := by have := h.len; omega
 have g1 := h.ge r h0 ha
 have g2 := k.ge r h0 ha
 have l1 : 0 ≤ rd t r → 0 ≤ rd u r ∧ rd u r ≤ rd t r := fun hs => by
  obtain ⟨⟨c, w⟩, e⟩ := h.way r h0 ha hs
  have := k.least _ _ w
  rwa [e] at this
 have l2 : 0 ≤ rd u r → 0 ≤ rd t r ∧ rd t r ≤ rd u r := fun hs => by
  obtain ⟨⟨c, w⟩, e⟩ := k.way r h0 ha hs
  have := h.least _ _ w
  rwa [e] at this
 by_cases e1 : 0 ≤ rd t r
 · have := l1 e1; have := l2 (by omega); omega
 · by_cases e2 : 0 ≤ rd u r
   · have := l2 e2; omega
   · omega
theorem LInv.first {v : List Int} {a G : Int} (ha : 1 ≤ a) (hG : 0 ≤ G) : LInv v a G ((List.replicate a.toNat (-1)).set 0 0) := by
 have hl : ((List.replicate a.toNat (-1 : Int)).length : Int) = a := by simp; omega
 have hr : ∀ r, 0 ≤ r → r < a → rd ((List.replicate a.toNat (-1)).set 0 0) r = if r = 0 then 0 else -1 := fun r h0 h1 => by
  have := rd_set (l := List.replicate a.toNat (-1)) (i := 0) (j := r) 0 (by omega) (by omega) h0
  rw [show (0 : Int).toNat = 0 from rfl] at this
  rw [this]
  by_cases e : r = 0
  · rw [if_pos e, if_pos e]
  · rw [if_neg e, if_neg e, rd_rep h0 (by omega)]
 have hs : 1 ≤ sets ((List.replicate a.toNat (-1)).set 0 0) := by
  have := sets_set (List.replicate a.toNat (-1)) 0 (by simp; omega) 0 (by omega)
  simp at this
  omega
 have hp : 0 ≤ ((sets ((List.replicate a.toNat (-1)).set 0 0) : Int) - 1) * G := Int.mul_nonneg (by omega) hG
 refine ⟨by simp; omega, by rw [hr 0 (by omega) (by omega)]; rfl, fun r h0 h1 => ?_, fun r h0 h1 h2 => ?_, fun r h0 h1 => ?_⟩
 · rw [hr r h0 h1]; split <;> omega
 · rw [hr r h0 h1] at h2 ⊢
   by_cases e : r = 0
   · rw [if_pos e]; exact ⟨⟨0, .zero⟩, by rw [e]; rfl⟩
   · rw [if_neg e] at h2; omega
 · rw [hr r h0 h1]; split <;> omega
end Go.Proofs.Ythkhpejggdnkfaa.E
end
section
namespace Go.Proofs.Ythkhpejggdnkfaa.E
open Go.RowKit Go.Proofs.YthkhpejggdnkfaaW.PrintWords Go.Proofs.YthkhpejggdnkfaaW.PrintLast Go.Proofs.YthkhpejggdnkfaaW.PrintMore
set_option linter.unusedVariables false
set_option linter.unusedSimpArgs false
def Su (v : List Int) (n : Int) : Prop := ∃ c, Way v n c
noncomputable instance (v : List Int) (n : Int) : Decidable (Su v n) := Classical.propDecidable _
theorem Su.zero (v : List Int) : Su v 0 := ⟨0, .zero⟩
theorem Su.add {v : List Int} {n m : Int} (h : Su v n) (k : Su v m) : Su v (n + m) := by
 obtain ⟨c, h⟩ := h; obtain ⟨d, k⟩ := k; exact ⟨c + d, h.plus k⟩
theorem Su.mem {v : List Int} {x : Int} (h : x ∈ v) : Su v x := ⟨0 + 1, by have := Way.add h Way.zero; rwa [Int.zero_add] at this⟩
theorem Su.pos {v : List Int} (hv : ∀ x ∈ v, 1 ≤ x) {n : Int} (h : Su v n) : 0 ≤ n := by
 obtain ⟨c, h⟩ := h; have := h.pos hv; omega
theorem Su.mono {v u : List Int} (h : ∀ x ∈ v, x ∈ u) {n : Int} (k : Su v n) : Su u n := by
 obtain ⟨c, k⟩ := k; exact ⟨c, k.mono h⟩
theorem Su.last {v : List Int} {n : Int} (hn : n ≠ 0) : Su v n ↔ ∃ x ∈ v, Su v (n - x) := by
 constructor
 · rintro ⟨c, w⟩
   rcases w.last with h | ⟨x, hx, h⟩
   · exact absurd h.1 hn
   · exact ⟨x, hx, _, h⟩
 · rintro ⟨x, hx, h⟩
   have := h.add (Su.mem hx)
   rwa [show n - x + x = n from by omega] at this
theorem Su.times {v : List Int} {x : Int} (h : Su v x) (j : Nat) : Su v (j * x) := by
 induction j with
 | zero => simpa using Su.zero v
 | succ j ih =>
  have := ih.add h
  rwa [show (j : Int) * x + x = ((j + 1 : Nat) : Int) * x from by rw [Int.natCast_add, Int.add_mul]; simp] at this
theorem Su.up {v : List Int} {a : Int} (ha : 1 ≤ a) (h : Su v a) {n m : Int} (hn : Su v n) (hle : n ≤ m) (hm : n % a = m % a) : Su v m := by
 have e1 := Int.mul_ediv_add_emod n a
 have e2 := Int.mul_ediv_add_emod m a
 have hq : n / a ≤ m / a := Int.ediv_le_ediv (by omega) hle
 have := hn.add (h.times (m / a - n / a).toNat)
 rw [show (((m / a - n / a).toNat : Nat) : Int) = m / a - n / a from by omega] at this
 rwa [show n + (m / a - n / a) * a = m from by rw [Int.sub_mul, Int.mul_comm (m / a), Int.mul_comm (n / a)]; omega] at this
theorem Lst.su {v : List Int} {a G : Int} {t : List Int} (h : Lst v a G t) (ha : 1 ≤ a) (hav : Su v a) {n : Int} : Su v n ↔ 0 ≤ rd t (n % a) ∧ rd t (n % a) ≤ n := by
 have q0 := Int.emod_nonneg n (b := a) (by omega)
 have q1 := Int.emod_lt_of_pos n (b := a) (by omega)
 constructor
 · rintro ⟨c, w⟩; exact h.least _ _ w
 · rintro ⟨h1, h2⟩
   obtain ⟨w, e⟩ := h.way _ q0 q1 h1
   exact Su.up ha hav w h2 (by omega)
def UL (v : List Int) : Prop := (1 ≤ (v.length : Int) ∧ (v.length : Int) ≤ 20) ∧ ∀ x ∈ v, 1 ≤ x ∧ x ≤ 60
noncomputable instance (v : List Int) : Decidable (UL v) := Classical.propDecidable _
theorem UL.pos {v : List Int} (h : UL v) : ∀ x ∈ v, 1 ≤ x := fun x hx => (h.2 x hx).1
theorem UL.first {v : List Int} (h : UL v) : rd v 0 ∈ v ∧ 1 ≤ rd v 0 ∧ rd v 0 ≤ 60 := by
 have := rd_mem (l := v) (i := 0) (by omega) (by have := h.1; omega)
 exact ⟨this, h.2 _ this⟩
end Go.Proofs.Ythkhpejggdnkfaa.E
end
section
namespace Go.Proofs.Ythkhpejggdnkfaa.E
open Go.RowKit Go.Proofs.Ythkhpejggdnkfaa.PA Go.Proofs.YthkhpejggdnkfaaW.PrintWords Go.Proofs.YthkhpejggdnkfaaW.PrintLast Go.Proofs.YthkhpejggdnkfaaW.PrintMore
set_option linter.unusedVariables false
set_option linter.unusedSimpArgs false
theorem rdb_set {l : List Bool} {i j : Int} (x : Bool) (hi : 0 ≤ i) (hi' : i < l.length) (hj : 0 ≤ j) : rdOf false (l.set i.toNat x) j = if j = i then x else rdOf false l j := by
 unfold rdOf
 rw [List.getD_eq_getElem?_getD, List.getD_eq_getElem?_getD, List.getElem?_set]
 by_cases h : j = i
 · subst h; rw [if_pos rfl, if_pos rfl, if_pos (by omega)]; rfl
 · rw [if_neg h, if_neg (by omega)]
theorem rdb_rep {n : Nat} {i : Int} : rdOf false (List.replicate n false) i = false := by
 unfold rdOf
 rw [List.getD_eq_getElem?_getD, List.getElem?_replicate]
 split <;> rfl
def TabAt (v : List Int) (n : Int) (t : List Bool) : Prop := (∀ j, 0 ≤ j → j < n → (rdOf false t j = true ↔ Su v j)) ∧ ∀ j, n ≤ j → rdOf false t j = false
theorem tab_l1 {v : List Int} (hl : v.length ≤ 1048576) (hv : ∀ x ∈ v, 1 ≤ x ∧ x ≤ 1048576) {most n : Int} (hm : most ≤ 1048576) (hn : 1 ≤ n) (hn' : n ≤ most) {r : List Bool}
 (H : ∀ t : List Bool, (t.length : Int) = most + 1 → TabAt v (n + 1) t → Ev (fun k => spec_l3Table.l0 k v most t (n + 1)) r → True) (d : Nat) :
 ∀ (i : Int) (t : List Bool), 0 ≤ i → i + d = v.length → (t.length : Int) = most + 1 → (∀ j, 0 ≤ j → j < n → (rdOf false t j = true ↔ Su v j)) → (∀ j, n < j → rdOf false t j = false) → (rdOf false t n = true ↔ ∃ j, 0 ≤ j ∧ j < i ∧ rd v j ≤ n ∧ Su v (n - rd v j)) →
  ∃ t' : List Bool, (t'.length : Int) = most + 1 ∧ TabAt v (n + 1) t' ∧ ∀ r, Ev (fun k => spec_l3Table.l0 k v most t' (n + 1)) r → Ev (fun k => spec_l3Table.l1 k v most t n i) r := by
 have hv1 : ∀ x ∈ v, 1 ≤ x := fun x hx => (hv x hx).1
 induction d with
 | zero =>
  intro i t h0 h1 h2 h3 h4 h5
  refine ⟨t, h2, ⟨fun j hj hj' => ?_, fun j hj => h4 j (by omega)⟩, fun r hr => Ev.step (fun k => by rw [spec_l3Table.l1]) (ev_ifn (by omega) ?_)⟩
  · by_cases e : j = n
    · subst e
      rw [h5, Su.last (by omega)]
      constructor
      · rintro ⟨q, a, b, _, c⟩; exact ⟨_, rd_mem a (by omega), c⟩
      · rintro ⟨x, hx, c⟩
        obtain ⟨q, a, b, rfl⟩ := mem_rd hx
        have := c.pos hv1
        exact ⟨q, a, by omega, by omega, c⟩
    · exact h3 j hj (by omega)
  · rw [w64 (by omega) (by omega)]; exact hr
 | succ d ih =>
  intro i t h0 h1 h2 h3 h4 h5
  have hx := hv _ (rd_mem (l := v) h0 (by omega))
  by_cases c : n ≥ rd v i
  · have e := h3 (n - rd v i) (by omega) (by omega)
    by_cases b : rdOf false t (n - rd v i) = true
    · obtain ⟨t', a1, a2, a3⟩ := ih (i + 1) (t.set n.toNat true) (by omega) (by omega) (by simpa using h2) (fun j hj hj' => by rw [rdb_set _ (by omega) (by omega) hj, if_neg (by omega)]; exact h3 j hj hj') (fun j hj => by rw [rdb_set _ (by omega) (by omega) (by omega), if_neg (by omega)]; exact h4 j hj)
       (by rw [rdb_set _ (by omega) (by omega) (by omega), if_pos rfl]; exact ⟨fun _ => ⟨i, h0, by omega, c, e.1 b⟩, fun _ => rfl⟩)
      refine ⟨t', a1, a2, fun r hr => Ev.step (fun k => by rw [spec_l3Table.l1]) ?_⟩
      rw [w64 (x := n - rd v i) (by omega) (by omega), w64 (x := i + 1) (by omega) (by omega)]
      exact ev_ifp (by omega) (ev_ifp h0 (ev_ifp c (ev_ifp (by omega) (ev_ifp (by omega) (ev_ifp b (ev_ifp (by omega) (ev_ifp (by omega) (a3 r hr))))))))
    · obtain ⟨t', a1, a2, a3⟩ := ih (i + 1) t (by omega) (by omega) h2 h3 h4 (by
       rw [h5]
       constructor
       · rintro ⟨q, u1, u2, u3⟩; exact ⟨q, u1, by omega, u3⟩
       · rintro ⟨q, u1, u2, u3, u4⟩
         by_cases eq : q = i
         · subst eq; exact absurd (e.2 u4) b
         · exact ⟨q, u1, by omega, u3, u4⟩)
      refine ⟨t', a1, a2, fun r hr => Ev.step (fun k => by rw [spec_l3Table.l1]) ?_⟩
      rw [w64 (x := n - rd v i) (by omega) (by omega), w64 (x := i + 1) (by omega) (by omega)]
      exact ev_ifp (by omega) (ev_ifp h0 (ev_ifp c (ev_ifp (by omega) (ev_ifp (by omega) (ev_ifn b (a3 r hr))))))
  · obtain ⟨t', a1, a2, a3⟩ := ih (i + 1) t (by omega) (by omega) h2 h3 h4 (by
     rw [h5]
     constructor
     · rintro ⟨q, u1, u2, u3⟩; exact ⟨q, u1, by omega, u3⟩
     · rintro ⟨q, u1, u2, u3, u4⟩
       by_cases eq : q = i
       · subst eq; omega
       · exact ⟨q, u1, by omega, u3, u4⟩)
    refine ⟨t', a1, a2, fun r hr => Ev.step (fun k => by rw [spec_l3Table.l1]) ?_⟩
    rw [w64 (x := i + 1) (by omega) (by omega)]
    exact ev_ifp (by omega) (ev_ifp h0 (ev_ifn c (a3 r hr)))
theorem tab_l0 {v : List Int} (hl : v.length ≤ 1048576) (hv : ∀ x ∈ v, 1 ≤ x ∧ x ≤ 1048576) {most : Int} (hm : most ≤ 1048576) (d : Nat) : ∀ (n : Int) (t : List Bool), 1 ≤ n → n + d = most + 1 → (t.length : Int) = most + 1 → TabAt v n t →
 ∃ t' : List Bool, (t'.length : Int) = most + 1 ∧ (∀ j, 0 ≤ j → j ≤ most → (rdOf false t' j = true ↔ Su v j)) ∧ Ev (fun k => spec_l3Table.l0 k v most t n) t' := by
 induction d with
 | zero =>
  intro n t h0 h1 h2 h3
  exact ⟨t, h2, fun j hj hj' => h3.1 j hj (by omega), Ev.step (fun k => by rw [spec_l3Table.l0]) (ev_ifn (by omega) (Ev.now _))⟩
 | succ d ih =>
  intro n t h0 h1 h2 h3
  obtain ⟨t', a1, a2, a3⟩ := tab_l1 (r := t) hl hv hm h0 (by omega) (fun _ _ _ _ => trivial) v.length 0 t (by omega) (by omega) h2 h3.1 (fun j hj => h3.2 j (by omega)) (by
   rw [h3.2 n (Int.le_refl _)]
   exact ⟨fun h => (by cases h), fun ⟨j, u1, u2, _⟩ => by omega⟩)
  obtain ⟨t'', b1, b2, b3⟩ := ih (n + 1) t' (by omega) (by omega) a1 a2
  refine ⟨t'', b1, b2, Ev.step (fun k => by rw [spec_l3Table.l0]) ?_⟩
  exact ev_ifp (by omega) (a3 _ b3)
theorem tabG_ev {v : List Int} (hl : v.length ≤ 1048576) (hv : ∀ x ∈ v, 1 ≤ x ∧ x ≤ 1048576) {most : Int} (hm0 : 0 ≤ most) (hm : most ≤ 1048576) :
 ∃ t : List Bool, (t.length : Int) = most + 1 ∧ (∀ j, 0 ≤ j → j ≤ most → (rdOf false t j = true ↔ Su v j)) ∧ Ev (fun k => spec_l3Table.f k v most) t := by
 have e0 : ((List.replicate (most + 1).toNat false).length : Int) = most + 1 := by simp; omega
 obtain ⟨t, a, b, c⟩ := tab_l0 hl hv hm most.toNat 1 ((List.replicate (most + 1).toNat false).set (0 : Int).toNat true) (by omega) (by omega) (by rw [List.length_set]; exact e0) ⟨fun j hj hj' => by
  rw [rdb_set _ (by omega) (by omega) hj, if_pos (by omega), show j = 0 from by omega]
  exact ⟨fun _ => Su.zero v, fun _ => rfl⟩, fun j hj => by
  rw [rdb_set _ (by omega) (by omega) (by omega), if_neg (by omega)]; exact rdb_rep⟩
 refine ⟨t, a, b, ?_⟩
 unfold spec_l3Table.f
 rw [w64 (by omega) (by omega)]
 simp only [Option.bind_some]
 exact ev_ifp (by omega) (ev_ifp (by omega) (ev_ifp (by omega) c))
theorem tabS_ev {v : List Int} (hl : v.length ≤ 20) (hv : ∀ x ∈ v, 1 ≤ x ∧ x ≤ 60) {most : Int} (hm0 : 0 ≤ most) (hm : most ≤ 1048576) :
 ∃ t : List Bool, (t.length : Int) = most + 1 ∧ (∀ j, 0 ≤ j → j ≤ most → (rdOf false t j = true ↔ Su v j)) ∧ Ev (fun k => spec_l3Table.f k v most) t :=
 tabG_ev (by omega) (fun x hx => ⟨(hv x hx).1, by have := (hv x hx).2; omega⟩) hm0 hm
end Go.Proofs.Ythkhpejggdnkfaa.E
end
section
namespace Go.Proofs.Ythkhpejggdnkfaa.E
open Go.RowKit Go.Proofs.Ythkhpejggdnkfaa.PA Go.Proofs.YthkhpejggdnkfaaW.PrintWords Go.Proofs.YthkhpejggdnkfaaW.PrintLast Go.Proofs.YthkhpejggdnkfaaW.PrintMore
set_option linter.unusedVariables false
set_option linter.unusedSimpArgs false
theorem l2Small_eq (n : Int) : spec_l2Small.f n = some (decide (-1000000 ≤ n ∧ n ≤ 1000000)) := by
 unfold spec_l2Small.f; rw [l1In_eq]; rfl
theorem l1Max_eq (a b : Int) : spec_l1Max.f a b = some (max a b) := by
 unfold spec_l1Max.f
 by_cases h : a > b
 · rw [if_pos h, Int.max_eq_left (by omega)]
 · rw [if_neg h, Int.max_eq_right (by omega)]
theorem mx_eq (a b : Int) : mx a b = max a b := by unfold mx; omega
theorem gcdI_l (m : Nat) : ∀ n : Nat, Ev (fun k => impl_GcdOf.l0 k (m : Int) (n : Int)) (Nat.gcd m n : Int) := by
 induction m using Nat.strongRecOn with
 | _ m ih =>
  intro n
  refine Ev.step (fun k => by rw [impl_GcdOf.l0]) ?_
  by_cases h : m = 0
  · subst h
    refine ev_ifp (by rfl) (ev_to (Ev.now _) (by simp))
  · refine ev_ifn (by omega) ?_
    rw [show Int.tmod (n : Int) (m : Int) = ((n % m : Nat) : Int) from rfl, Nat.gcd_rec]
    exact ih _ (Nat.mod_lt _ (by omega)) m
theorem gcdS_l (n : Nat) : ∀ m : Nat, Ev (fun k => spec_GcdOf.l0 k (m : Int) (n : Int)) (Nat.gcd m n : Int) := by
 induction n using Nat.strongRecOn with
 | _ n ih =>
  intro m
  refine Ev.step (fun k => by rw [spec_GcdOf.l0]) ?_
  by_cases h : n = 0
  · subst h
    refine ev_ifn (by simp) (ev_to (Ev.now _) (by simp))
  · refine ev_ifp (by omega) (ev_ifn (by omega) ?_)
    rw [show Int.tmod (m : Int) (n : Int) = ((m % n : Nat) : Int) from rfl, Nat.gcd_comm, Nat.gcd_rec, Nat.gcd_comm]
    exact ih _ (Nat.mod_lt _ (by omega)) n
def gcdOf (a b : Int) : Int := if (-1000000 ≤ a ∧ a ≤ 1000000) ∧ -1000000 ≤ b ∧ b ≤ 1000000 then (Int.gcd a b : Int) else 0
theorem abs_cast (a : Int) : max a (-a) = ((a.natAbs : Nat) : Int) := by omega
theorem gcdI_ev (a b : Int) : Ev (fun k => impl_GcdOf.f k a b) (gcdOf a b) := by
 unfold impl_GcdOf.f gcdOf
 refine ev_bind _ (allWithin_ev _ _ (by simp)) ?_
 by_cases h : (-1000000 ≤ a ∧ a ≤ 1000000) ∧ -1000000 ≤ b ∧ b ≤ 1000000
 · rw [if_pos h]
   refine ev_ifp (by simpa using h) ?_
   obtain ⟨h1, h2⟩ := h
   rw [w64 (by omega) (by omega), w64 (by omega) (by omega), mx_eq, mx_eq, abs_cast, abs_cast]
   exact gcdI_l _ _
 · rw [if_neg h]
   refine ev_ifn (by simpa using h) (Ev.now _)
theorem gcdS_ev (a b : Int) : Ev (fun k => spec_GcdOf.f k a b) (gcdOf a b) := by
 unfold spec_GcdOf.f gcdOf
 simp only [l2Small_eq, Option.bind_some]
 by_cases h1 : -1000000 ≤ a ∧ a ≤ 1000000
 · refine ev_ifp (by simpa using h1) (Ev.step (fun k => by rw [spec_GcdOf.j0]) ?_)
   by_cases h2 : -1000000 ≤ b ∧ b ≤ 1000000
   · rw [if_pos ⟨h1, h2⟩]
     refine ev_ifn (by simpa using h2) ?_
     simp only [l1Max_eq, Option.bind_some]
     rw [w64 (by omega) (by omega), w64 (by omega) (by omega), abs_cast, abs_cast]
     exact gcdS_l _ _
   · rw [if_neg (fun h => h2 h.2)]
     exact ev_ifp (nd_t h2) (Ev.now _)
 · rw [if_neg (fun h => h1 h.1)]
   refine ev_ifn (by simpa using h1) (Ev.step (fun k => by rw [spec_GcdOf.j0]) ?_)
   exact ev_ifp rfl (Ev.now _)
end Go.Proofs.Ythkhpejggdnkfaa.E
end
section
namespace Go.Proofs.Ythkhpejggdnkfaa.E
open Go.RowKit Go.Proofs.Ythkhpejggdnkfaa.PA Go.Proofs.YthkhpejggdnkfaaW.PrintWords Go.Proofs.YthkhpejggdnkfaaW.PrintLast Go.Proofs.YthkhpejggdnkfaaW.PrintMore
set_option linter.unusedVariables false
set_option linter.unusedSimpArgs false
def gl (l : List Int) : Int := l.foldl gcdOf 0
theorem gcdListI_l {l : List Int} (hl : l.length ≤ 1099511627776) (d : Nat) : ∀ (i acc : Int), 0 ≤ i → i + d = l.length → Ev (fun k => impl_GcdOfList.l0 k acc l l.length i) ((l.drop i.toNat).foldl gcdOf acc) := by
 induction d with
 | zero =>
  intro i acc h0 h1
  refine Ev.step (fun k => by rw [impl_GcdOfList.l0]) ?_
  rw [List.drop_of_length_le (by omega)]
  exact ev_ifn (by omega) (Ev.now _)
 | succ d ih =>
  intro i acc h0 h1
  refine Ev.step (fun k => by rw [impl_GcdOfList.l0]) ?_
  rw [drop_rd h0 (by omega), List.foldl_cons, w64 (by omega) (by omega)]
  exact ev_ifp (by omega) (ev_ifp h0 (ev_ifp (by omega) (ev_bind _ (gcdI_ev _ _) (ih (i + 1) _ (by omega) (by omega)))))
theorem gcdListI_ev {l : List Int} (hl : l.length ≤ 1099511627776) : Ev (fun k => impl_GcdOfList.f k l) (gl l) := by
 unfold impl_GcdOfList.f
 have := gcdListI_l hl l.length 0 0 (by omega) (by omega)
 simpa [gl] using this
theorem gcdListS_l {l : List Int} (hl : l.length ≤ 1099511627776) (d : Nat) : ∀ (i acc : Int), 0 ≤ i → i + d = l.length → Ev (fun k => spec_GcdOfList.l0 k l acc i) ((l.drop i.toNat).foldl gcdOf acc) := by
 induction d with
 | zero =>
  intro i acc h0 h1
  refine Ev.step (fun k => by rw [spec_GcdOfList.l0]) ?_
  rw [List.drop_of_length_le (by omega)]
  exact ev_ifn (by omega) (Ev.now _)
 | succ d ih =>
  intro i acc h0 h1
  refine Ev.step (fun k => by rw [spec_GcdOfList.l0]) ?_
  rw [drop_rd h0 (by omega), List.foldl_cons, w64 (by omega) (by omega)]
  exact ev_ifp (by omega) (ev_ifp h0 (ev_bind _ (gcdS_ev _ _) (ih (i + 1) _ (by omega) (by omega))))
theorem gcdListS_ev {l : List Int} (hl : l.length ≤ 1099511627776) : Ev (fun k => spec_GcdOfList.f k l) (gl l) := by
 unfold spec_GcdOfList.f
 have := gcdListS_l hl l.length 0 0 (by omega) (by omega)
 simpa [gl] using this
theorem gcdOf_small {a x : Int} (h0 : 0 ≤ a) (h1 : a ≤ 60) (hx : 1 ≤ x ∧ x ≤ 60) : 1 ≤ gcdOf a x ∧ gcdOf a x ≤ 60 ∧ gcdOf a x ∣ a ∧ gcdOf a x ∣ x := by
 have e : gcdOf a x = (Int.gcd a x : Int) := by unfold gcdOf; rw [if_pos ⟨⟨by omega, by omega⟩, by omega, by omega⟩]
 have d1 := Int.gcd_dvd_left a x
 have d2 := Int.gcd_dvd_right a x
 have p : 0 < Int.gcd a x := Int.gcd_pos_of_ne_zero_right _ (by omega)
 have le := Int.le_of_dvd (by omega) d2
 rw [e]
 exact ⟨by omega, by omega, d1, d2⟩
end Go.Proofs.Ythkhpejggdnkfaa.E
end
section
namespace Go.Proofs.Ythkhpejggdnkfaa.E
open Go.RowKit Go.Proofs.YthkhpejggdnkfaaW.PrintWords Go.Proofs.YthkhpejggdnkfaaW.PrintLast Go.Proofs.YthkhpejggdnkfaaW.PrintMore
set_option linter.unusedVariables false
set_option linter.unusedSimpArgs false
def Dn (v : List Int) (a z : Int) : Prop := ∃ n, Su v n ∧ n % a = z % a
theorem Dn.add {v : List Int} {a z y : Int} (h : Dn v a z) (k : Dn v a y) : Dn v a (z + y) := by
 obtain ⟨n, h1, h2⟩ := h; obtain ⟨m, k1, k2⟩ := k
 exact ⟨n + m, h1.add k1, by rw [Int.add_emod, h2, k2, ← Int.add_emod]⟩
theorem Dn.mul {v : List Int} {a z : Int} (ha : 1 ≤ a) (h : Dn v a z) (k : Int) : Dn v a (z * k) := by
 obtain ⟨n, h1, h2⟩ := h
 have q := Int.emod_nonneg k (b := a) (by omega)
 have := h1.times (k % a).toNat
 rw [show (((k % a).toNat : Nat) : Int) = k % a from by omega] at this
 refine ⟨_, this, ?_⟩
 rw [Int.mul_comm, Int.mul_emod, h2, Int.emod_emod_of_dvd _ (Int.dvd_refl a), ← Int.mul_emod]
theorem Dn.gcd {v : List Int} {a : Int} (ha : 1 ≤ a) (m : Nat) : ∀ n : Nat, Dn v a m → Dn v a n → Dn v a (Nat.gcd m n : Int) := by
 induction m using Nat.strongRecOn with
 | _ m ih =>
  intro n hm hn
  by_cases h : m = 0
  · subst h; simpa using hn
  · rw [Nat.gcd_rec]
    refine ih _ (Nat.mod_lt _ (by omega)) m ?_ hm
    have := hn.add (hm.mul ha (-((n / m : Nat) : Int)))
    have e : (n : Int) + (m : Int) * -((n / m : Nat) : Int) = ((n % m : Nat) : Int) := by
     have := Nat.div_add_mod n m
     have e2 : ((m * (n / m) + n % m : Nat) : Int) = (n : Int) := by rw [this]
     rw [Int.natCast_add, Int.natCast_mul] at e2
     rw [Int.mul_neg]; omega
    rwa [e] at this
theorem Dn.fold {v : List Int} {a : Int} (ha : 1 ≤ a) {l : List Int} (hl : ∀ x ∈ l, (1 ≤ x ∧ x ≤ 60) ∧ Dn v a x) : ∀ acc : Int, 0 ≤ acc → acc ≤ 60 → Dn v a acc → Dn v a (l.foldl gcdOf acc) := by
 induction l with
 | nil => intro acc _ _ h; exact h
 | cons x l ih =>
  intro acc h0 h1 h
  have hx := hl x (by simp)
  have g := gcdOf_small h0 h1 hx.1
  rw [List.foldl_cons]
  refine ih (fun y hy => hl y (by simp [hy])) _ (by omega) g.2.1 ?_
  have e : gcdOf acc x = (Int.gcd acc x : Int) := by unfold gcdOf; rw [if_pos ⟨⟨by omega, by omega⟩, by omega, by omega⟩]
  rw [e, show Int.gcd acc x = Nat.gcd acc.toNat x.toNat from by unfold Int.gcd; congr 1 <;> omega]
  refine Dn.gcd ha _ _ ?_ ?_
  · rwa [show ((acc.toNat : Nat) : Int) = acc from by omega]
  · rw [show ((x.toNat : Nat) : Int) = x from by omega]; exact hx.2
theorem all_classes {v : List Int} {a : Int} (ha : 1 ≤ a) (hv : ∀ x ∈ v, 1 ≤ x ∧ x ≤ 60) (hg : gl v = 1) (z : Int) : Dn v a z := by
 have h1 : Dn v a 1 := by
  rw [← hg]
  exact Dn.fold ha (fun x hx => ⟨hv x hx, x, Su.mem hx, rfl⟩) 0 (by omega) (by omega) ⟨0, Su.zero v, rfl⟩
 have := h1.mul ha z
 rwa [Int.one_mul] at this
end Go.Proofs.Ythkhpejggdnkfaa.E
end
