-- Bundled by shake.py from this session's printed and written texts; Lean checks it.
import Derived.Shelf.Abstract
import Derived.Test.YtapdhljbhekcdaaZFnBoundsx1
import Derived.Test.YtapdhljbhekcdaaZFnBoundsx4
import Derived.Test.YtapdhljbhekcdaaZFnBoundsx5
import Derived.Test.YtapdhljbhekcdaaZFnBoundsx6
import Derived.Test.YtapdhljbhekcdaaZFnBoundsx7
import Derived.Test.YtapdhljbhekcdaaZFnBoundsx9
section
namespace Go.Proofs.Ytapdhljbhekcdaa.PB
open Go.RowKit Go.Proofs.YtapdhljbhekcdaaW.PrintWords Go.Proofs.YtapdhljbhekcdaaW.PrintLast Go.Proofs.YtapdhljbhekcdaaW.PrintMore
set_option linter.unusedVariables false
set_option linter.unusedSimpArgs false
def spec_DrawPairsOf.f (k : Nat) (l0 : List Int) : Option (List Int × Int) := (spec_l1New.f k l0).bind fun bt640 => ((spec_l3Bent.f k bt640.1 bt640.2.1 bt640.2.2).bind fun bt644 => ((spec_l1Below.f bt640.1 bt644.2.1 bt644.2.2 60).bind fun bt650 => ((spec_l1Below.f bt640.1 bt650.2.1 bt650.2.2 60).bind fun bt653 => ((spec_l1PickInt.f bt640.1 bt653.2.1 bt653.2.2 (([bt650.1, bt653.1, (-1), 1001, 300] : List Int))).bind fun bt659 => (some (bt644.1, bt659.1))))))
def spec_DrawPairsOf.T3 : Bool × List (List Nat × List Nat) := (true, [([], []), ([], []), ([], []), ([2], [2]), ([], []), ([4, 3], [4]), ([3, 5], [3, 5]), ([1, 6, 5], [1, 6]), ([0, 7, 0], [0]), ([7, 8, 0, 1, 2, 3, 4, 5, 6, 7, 8], [7])])
def spec_DrawPairsOf.B3 : List Nat := [0, 0, 0, 4, 0, 28, 60, 126, 255, 511]
theorem spec_DrawPairsOf.tab3 : rtab .any (opsOf Try.f36 3) = spec_DrawPairsOf.T3 := by kernel_rfl
theorem spec_DrawPairsOf.bits3 : waitsOk spec_DrawPairsOf.T3.2 spec_DrawPairsOf.B3 = true := by kernel_rfl
set_option maxHeartbeats 8000000 in
set_option maxRecDepth 100000 in
theorem spec_DrawPairsOf.calls (k : Nat) (A0 : Option Addr) (c0 : Nat) (l0 : List Int) (r1 : List Int) (r2 : Int) (w : World) (hr0 : Kd.C (Kd.int .u8) w A0 l0.length l0) (hc0 : l0.length ≤ c0) (h : spec_DrawPairsOf.f k l0 = some (r1, r2)) :
 Calls Try.prog 36 #[.slice A0 l0.length c0] w fun e w' => ∃ v0_ : Value, e = .returned (.tuple #[.agg #[v0_], .int .i64 r2]) ∧ Kd.Q (Kd.int .i64) 3 w' w.heap.size (fun _ => True) v0_ r1 ∧ Below w.heap.size w w' := by
 have hu27 := Try.underlying27
 have HR0 := Aside0.mk hr0
 have HC0 := Aside0.mk hc0
 clear hr0 hc0
 have HB := Aside0.mk (Below.refl w.heap.size w)
 have H : ((spec_l1New.f k l0).bind fun bt640 => ((spec_l3Bent.f k bt640.1 bt640.2.1 bt640.2.2).bind fun bt644 => ((spec_l1Below.f bt640.1 bt644.2.1 bt644.2.2 60).bind fun bt650 => ((spec_l1Below.f bt640.1 bt650.2.1 bt650.2.2 60).bind fun bt653 => ((spec_l1PickInt.f bt640.1 bt653.2.1 bt653.2.2 (([bt650.1, bt653.1, (-1), 1001, 300] : List Int))).bind fun bt659 => (some (bt644.1, bt659.1))))))) = some (r1, r2) := h
 clear h
 replace H := Option.bind_eq_some_iff.mp H
 obtain ⟨⟨t640, t641, t642⟩, A20, H⟩ := H
 replace H : ((spec_l3Bent.f k t640 t641 t642).bind fun bt644 => ((spec_l1Below.f t640 bt644.2.1 bt644.2.2 60).bind fun bt650 => ((spec_l1Below.f t640 bt650.2.1 bt650.2.2 60).bind fun bt653 => ((spec_l1PickInt.f t640 bt653.2.1 bt653.2.2 (([bt650.1, bt653.1, (-1), 1001, 300] : List Int))).bind fun bt659 => (some (bt644.1, bt659.1)))))) = some (r1, r2) := H
 have A2 := Aside0.mk A20
 clear A20
 replace H := Option.bind_eq_some_iff.mp H
 obtain ⟨⟨t644, t647, t648⟩, A30, H⟩ := H
 replace H : ((spec_l1Below.f t640 t647 t648 60).bind fun bt650 => ((spec_l1Below.f t640 bt650.2.1 bt650.2.2 60).bind fun bt653 => ((spec_l1PickInt.f t640 bt653.2.1 bt653.2.2 (([bt650.1, bt653.1, (-1), 1001, 300] : List Int))).bind fun bt659 => (some (t644, bt659.1))))) = some (r1, r2) := H
 have A3 := Aside0.mk A30
 clear A30
 replace H := Option.bind_eq_some_iff.mp H
 obtain ⟨⟨t650, t651, t652⟩, A40, H⟩ := H
 replace H : ((spec_l1Below.f t640 t651 t652 60).bind fun bt653 => ((spec_l1PickInt.f t640 bt653.2.1 bt653.2.2 (([t650, bt653.1, (-1), 1001, 300] : List Int))).bind fun bt659 => (some (t644, bt659.1)))) = some (r1, r2) := H
 have A4 := Aside0.mk A40
 clear A40
 replace H := Option.bind_eq_some_iff.mp H
 obtain ⟨⟨t653, t654, t655⟩, A50, H⟩ := H
 replace H : ((spec_l1PickInt.f t640 t654 t655 (([t650, t653, (-1), 1001, 300] : List Int))).bind fun bt659 => (some (t644, bt659.1))) = some (r1, r2) := H
 have A5 := Aside0.mk A50
 clear A50
 obtain ⟨y656, hy656⟩ : ∃ y_ : List Int, y_ = (([t650, t653, (-1), 1001, 300] : List Int)) := ⟨_, rfl⟩
 replace H : ((spec_l1PickInt.f t640 t654 t655 y656).bind fun bt659 => (some (t644, bt659.1))) = some (r1, r2) := by first | (rw [hy656]; with_reducible exact H) | (have H2_ := (Option.bind_some _ _).symm.trans H; rw [hy656]; with_reducible exact H2_) | (have H2_ := (Option.bind_some _ _).symm.trans H; with_reducible exact H2_) | with_reducible exact H | (rw [hy656]; exact H) | exact H
 have Ny656 := Aside0.mk hy656
 clear hy656
 replace H := Option.bind_eq_some_iff.mp H
 obtain ⟨⟨t659, t660, t661⟩, A60, H⟩ := H
 replace H : (some (t644, t659)) = some (r1, r2) := H
 have A6 := Aside0.mk A60
 clear A60
 simp only [Option.some.injEq, Prod.mk.injEq] at H
 obtain ⟨rfl, rfl⟩ := H
 go_enter Try.func36, Try.ntmps36
 try go_wp2_with (first | ((with_reducible refine gate_dst (N := 2) rfl ?_); refine box_event ?hg (N := 2) ?hd (cs := #[.slice none 0 0]) (t := 27) ?hr ?_; (case hd => rfl); (case hg => rfl); (case hr => first | (go_simp; done) | (go_simp; rfl)); intro gb639 hg w7 hbox hb; have n0_ := Aside0.mk (below_step (bl_ HB.out) hb); have n1_ := Aside0.mk (hbox); have n2_ := Aside0.mk ((by rw [hg]; exact (below_size (bl_ HB.out)) : w.heap.size ≤ gb639)); have n3_ := Aside0.mk ((by rw [hg]; exact (below_size (bl_ HB.out)) : w.heap.size ≤ gb639)); clear HB; have HB := n0_; have BK639 := n1_; have GW639 := n2_; have GE639 := n3_; clear n0_ n1_ n2_ n3_; clear hb hbox hg) | ((with_reducible refine gate_callee (f := 74) rfl ?_); refine goesL_ (some 7) rfl rfl Try.func74 (by kernel_rfl) rfl #[.slice A0 l0.length c0] rfl (by (try simp only [List.map_toArray, List.map_cons, List.map_nil]); first | done | rfl | (simp only [List.length_drop, List.length_take]; rfl)) ?_; (with_reducible refine (spec_l1New.calls k _ _ l0 t640 t641 t642 w _ ?side1 ?side2 ?side3 A2.out).mono ?_); (case side1 => repeat (first | (with_reducible first | exact HB.out | apply below_alloc | apply pw_below_drewN | apply below_drew1 | refine below_set ?_ GE639.out) | exact HB.out)); (case side2 => exact HR0.out); (case side3 => exact HC0.out); rintro e w8 ⟨g643, rfl, hi, hb, hb2⟩; refine ⟨_, rfl, ?_⟩; have n0_ := Aside0.mk (blk_below (g := gb639) (o := .cells #[.slice none 0 0] 27 (0, 0)) (be_ BK639.out) hb2); have n1_ := Aside0.mk (hb); have n2_ := Aside0.mk (hi); have n3_ := Aside0.mk (IsS74.ne_blk hi (blk_below (g := gb639) (o := .cells #[.slice none 0 0] 27 (0, 0)) (be_ BK639.out) hb2) (by decide)); have n4_ := Aside0.mk (Ne.symm (IsS74.ne_blk hi (blk_below (g := gb639) (o := .cells #[.slice none 0 0] 27 (0, 0)) (be_ BK639.out) hb2) (by decide))); clear BK639; clear HB; have BK639 := n0_; have HB := n1_; have HI643 := n2_; have NB643_639 := n3_; have NB639_643 := n4_; clear n0_ n1_ n2_ n3_ n4_; (try clear hb); (try clear hb2); (try clear hk); (try clear hi)) | ((with_reducible refine gate_callee (f := 75) rfl ?_); refine goesL_ (some 9) rfl rfl Try.func75 (by kernel_rfl) rfl #[.pointer (some ⟨g643, 0, none⟩)] rfl (by (try simp only [List.map_toArray, List.map_cons, List.map_nil]); first | done | rfl | (simp only [List.length_drop, List.length_take]; rfl)) ?_; (with_reducible refine (spec_l3Bent.calls k g643 t640 t641 t642 t644 t647 t648 w _ ?side1 ?side2 A3.out).mono ?_); (case side1 => repeat (first | (with_reducible first | exact HI643.out | apply IsS74.alloc | apply IsS74.drewN | apply IsS74.drew | apply IsS74.set_1 | apply IsS74.set_2 | refine IsS74.far ?_ NB643_639.out _) | exact HI643.out)); (case side2 => repeat (first | (with_reducible first | exact HB.out | apply below_alloc | apply pw_below_drewN | apply below_drew1 | refine below_set ?_ (IsS74.ge HI643.out) | refine below_set ?_ GE639.out) | exact HB.out)); rintro e w9 ⟨v645, rfl, ho0, hi, hb, hk⟩; refine ⟨_, rfl, ?_⟩; have n0_ := Aside0.mk (KeepBut.blk hk (g' := gb639) (o := .cells #[.slice none 0 0] 27 (0, 0)) (be_ BK639.out) NB639_643.out (by simp)); have n1_ := Aside0.mk (Kd.Q_lower ho0 (below_size (by repeat (first | (with_reducible first | exact HB.out | apply below_alloc | apply pw_below_drewN | apply below_drew1 | refine below_set ?_ (IsS74.ge HI643.out) | refine below_set ?_ GE639.out) | exact HB.out)))); have n2_ := Aside0.mk (hb); have n3_ := Aside0.mk (hi); clear BK639; clear HB; clear HI643; have BK639 := n0_; have HO646 := n1_; have HB := n2_; have HI643 := n3_; clear n0_ n1_ n2_ n3_; (try clear hb); (try clear hb2); (try clear hk); (try clear hi); (try clear ho0)) | ((with_reducible refine gate_dst (N := 5) rfl ?_); refine box_event ?hg (N := 5) ?hd (cs := #[.slice none 0 0]) (t := 27) ?hr ?_; (case hd => rfl); (case hg => rfl); (case hr => first | (go_simp; done) | (go_simp; rfl)); intro gb649 hg w10 hbox hb; have n0_ := Aside0.mk (Kd.Q_below (by (with_reducible repeat (first | apply Kd.Q_alloc | apply Kd.Q_drewN | apply Kd.Q_drew)); exact HO646.out) hb); have n1_ := Aside0.mk (blk_below (g := gb639) (o := .cells #[.slice none 0 0] 27 (0, 0)) (be_ BK639.out) hb); have n2_ := Aside0.mk (IsS74.below (by repeat (first | (with_reducible first | exact HI643.out | apply IsS74.alloc | apply IsS74.drewN | apply IsS74.drew | apply IsS74.set_1 | apply IsS74.set_2 | refine IsS74.far ?_ NB643_639.out _) | exact HI643.out)) hb); have n3_ := Aside0.mk (below_step (by repeat (first | (with_reducible first | exact HB.out | apply below_alloc | apply pw_below_drewN | apply below_drew1 | refine below_set ?_ (IsS74.ge HI643.out) | refine below_set ?_ GE639.out) | exact HB.out)) hb); have n4_ := Aside0.mk (hbox); have n5_ := Aside0.mk ((by rw [hg]; exact (below_size (by repeat (first | (with_reducible first | exact HB.out | apply below_alloc | apply pw_below_drewN | apply below_drew1 | refine below_set ?_ (IsS74.ge HI643.out) | refine below_set ?_ GE639.out) | exact HB.out))) : w.heap.size ≤ gb649)); have n6_ := Aside0.mk ((by rw [hg]; exact (below_size (by repeat (first | (with_reducible first | exact HB.out | apply below_alloc | apply pw_below_drewN | apply below_drew1 | refine below_set ?_ (IsS74.ge HI643.out) | refine below_set ?_ GE639.out) | exact HB.out))) : w.heap.size ≤ gb649)); have n7_ := Aside0.mk ((by rw [hg]; exact Nat.ne_of_lt (blk_lt (g := gb639) (o := .cells #[.slice none 0 0] 27 (0, 0)) (be_ BK639.out)) : gb639 ≠ gb649)); have n8_ := Aside0.mk ((by rw [hg]; exact Nat.ne_of_gt (blk_lt (g := gb639) (o := .cells #[.slice none 0 0] 27 (0, 0)) (be_ BK639.out)) : gb649 ≠ gb639)); have n9_ := Aside0.mk ((by rw [hg]; exact Nat.ne_of_lt (IsS74.lt (show IsS74 w _ g643 t640 t647 t648 from by repeat (first | (with_reducible first | exact HI643.out | apply IsS74.alloc | apply IsS74.drewN | apply IsS74.drew | apply IsS74.set_1 | apply IsS74.set_2 | refine IsS74.far ?_ NB643_639.out _) | exact HI643.out))) : g643 ≠ gb649)); have n10_ := Aside0.mk ((by rw [hg]; exact Nat.ne_of_gt (IsS74.lt (show IsS74 w _ g643 t640 t647 t648 from by repeat (first | (with_reducible first | exact HI643.out | apply IsS74.alloc | apply IsS74.drewN | apply IsS74.drew | apply IsS74.set_1 | apply IsS74.set_2 | refine IsS74.far ?_ NB643_639.out _) | exact HI643.out))) : gb649 ≠ g643)); clear HO646; clear BK639; clear HI643; clear HB; have HO646 := n0_; have BK639 := n1_; have HI643 := n2_; have HB := n3_; have BK649 := n4_; have GW649 := n5_; have GE649 := n6_; have NB639_649 := n7_; have NB649_639 := n8_; have NB643_649 := n9_; have NB649_643 := n10_; clear n0_ n1_ n2_ n3_ n4_ n5_ n6_ n7_ n8_ n9_ n10_; clear hb hbox hg; obtain ⟨Ao11, co11, eo11, _⟩ := Kd.Q_slice HO646.out; subst eo11; have hnb12 := NB649_639.out; have hnc12 := NB639_649.out; have hnb13 := NB649_643.out; have hnc13 := NB643_649.out; have hcz14_0 : w10.cell? ⟨gb649, 0, none⟩ = some (.slice none 0 0) := (blk_cell BK649.out 0).trans rfl; have hfz14_0 := blk_frozen BK649.out 0))
 have n0_ : Aside0 (Kd.Q (Kd.int .i64) 3 (w10.setCell ⟨gb649, 0, none⟩ (.slice Ao11 t644.length co11)) w.heap.size (fun _ => True) (.slice Ao11 t644.length co11) t644) := ⟨by (with_reducible repeat (first | apply Kd.Q_alloc | apply Kd.Q_drewN | apply Kd.Q_drew)); exact Kd.Q_mono (Kd.Q_far (p := ⟨gb649, 0, none⟩) (Kd.Q_types HO646.out BK649.out (by decide)) (fun _ hk => hk.2) (.slice Ao11 t644.length co11)) (fun _ hk => trivial)⟩
 have n1_ : Aside0 ((w10.setCell ⟨gb649, 0, none⟩ (.slice Ao11 t644.length co11)).heap[gb639]? = some (.cells #[.slice none 0 0] 27 (0, 0))) := ⟨by (with_reducible repeat (first | refine blk_drewN ?_ _ | refine blk_drew ?_ | refine blk_alloc ?_ _)); refine blk_far ?_ NB639_649.out _; (with_reducible repeat (first | refine blk_drewN ?_ _ | refine blk_drew ?_ | refine blk_alloc ?_ _)); exact BK639.out⟩
 have n2_ : Aside0 ((w10.setCell ⟨gb649, 0, none⟩ (.slice Ao11 t644.length co11)).heap[gb649]? = some (.cells #[.slice Ao11 t644.length co11] 27 (0, 0))) := ⟨by (with_reducible repeat (first | refine blk_drewN ?_ _ | refine blk_drew ?_ | refine blk_alloc ?_ _)); refine blk_put (cs := #[.slice none 0 0]) ?_ 0 _ rfl; (with_reducible repeat (first | refine blk_drewN ?_ _ | refine blk_drew ?_ | refine blk_alloc ?_ _)); exact BK649.out⟩
 have n3_ : Aside0 (IsS74 w (w10.setCell ⟨gb649, 0, none⟩ (.slice Ao11 t644.length co11)) g643 t640 t647 t648) := ⟨by repeat (first | (with_reducible first | exact HI643.out | apply IsS74.alloc | apply IsS74.drewN | apply IsS74.drew | apply IsS74.set_1 | apply IsS74.set_2 | refine IsS74.far ?_ NB643_639.out _ | refine IsS74.far ?_ NB643_649.out _) | exact HI643.out)⟩
 have n4_ : Aside0 (Below w.heap.size w (w10.setCell ⟨gb649, 0, none⟩ (.slice Ao11 t644.length co11))) := ⟨by repeat (first | (with_reducible first | exact HB.out | apply below_alloc | apply pw_below_drewN | apply below_drew1 | refine below_set ?_ (IsS74.ge HI643.out) | refine below_set ?_ GE639.out | refine below_set ?_ GE649.out) | exact HB.out)⟩
 (try clear HO646)
 (try clear BK639)
 (try clear BK649)
 (try clear HI643)
 (try clear HB)
 generalize (w10.setCell ⟨gb649, 0, none⟩ (.slice Ao11 t644.length co11)) = w15 at n0_ n1_ n2_ n3_ n4_ ⊢
 have HO646 := n0_
 have BK639 := n1_
 have BK649 := n2_
 have HI643 := n3_
 have HB := n4_
 clear n0_ n1_ n2_ n3_ n4_
 have n0_ := Aside0.mk (Kd.Q_drew HO646.out)
 have n1_ := Aside0.mk (blk_drew BK639.out)
 have n2_ := Aside0.mk (blk_drew BK649.out)
 have n3_ := Aside0.mk (IsS74.drew HI643.out)
 have n4_ := Aside0.mk (below_drew1 HB.out)
 clear HO646
 clear BK639
 clear BK649
 clear HI643
 clear HB
 have HO646 := n0_
 have BK639 := n1_
 have BK649 := n2_
 have HI643 := n3_
 have HB := n4_
 clear n0_ n1_ n2_ n3_ n4_
 refine start_ (n := 10) (S := fun w' => w'.cell? ⟨gb649, 0, none⟩ = some (.slice Ao11 t644.length co11)) (ds := []) (B_ 0 10) (by kernel_rfl) rfl rfl ((blk_cell BK649.out 0).trans rfl) (fun hHeld => ?_); refine with_tabW spec_DrawPairsOf.tab3 spec_DrawPairsOf.bits3 (fun HT_ HW_ => ?_)
 generalize w15.drew = w16 at HO646 BK639 BK649 HI643 HB hHeld ⊢
 refine pu_ HT_ 1 11 (B_ 2 10) ?_
 refine pu_ HT_ 2 12 (B_ 6 10) ?_
 refine pu_ HT_ 4 14 (B_ 22 10) ?_
 refine tk1_ HT_ HW_ hHeld 0 10 (B_ 23 10) ?_
 refine one_ (i := 3) (N := some 13) (B_ 31 10) rfl rfl (one_of HT_.out (by kernel_rfl)) (by decide) (fun K hK => ?_)
 refine goes_ Try.func77 (by kernel_rfl) rfl #[.pointer (some ⟨g643, 0, none⟩), .int .i64 60] (by rfl) rfl rfl (by (try simp only [List.map_toArray, List.map_cons, List.map_nil]); first | done | rfl | (simp only [List.length_drop, List.length_take]; rfl)) ?_
 with_reducible refine (spec_l1Below.calls g643 t640 t647 t648 60 t650 t651 t652 w _ ?side1 ?side2 A4.out).mono ?_
 (case side1 => repeat (first | (with_reducible first | exact HI643.out | apply IsS74.alloc | apply IsS74.drewN | apply IsS74.drew | apply IsS74.set_1 | apply IsS74.set_2 | refine IsS74.far ?_ NB643_639.out _ | refine IsS74.far ?_ NB643_649.out _) | exact HI643.out))
 (case side2 => repeat (first | (with_reducible first | exact HB.out | apply below_alloc | apply pw_below_drewN | apply below_drew1 | refine below_set ?_ (IsS74.ge HI643.out) | refine below_set ?_ GE639.out | refine below_set ?_ GE649.out) | exact HB.out))
 rintro e w17 ⟨rfl, hi, hb, hk⟩
 refine ⟨_, rfl, ?_⟩
 have n0_ := Aside0.mk (KeepBut.blk hk (g' := gb639) (o := .cells #[.slice none 0 0] 27 (0, 0)) (be_ BK639.out) NB639_643.out (by simp))
 have n1_ := Aside0.mk (Kd.Q_mono (Kd.Q_keep (IsS74.apartQ (show IsS74 w _ g643 t640 t647 t648 from by repeat (first | (with_reducible first | exact HI643.out | apply IsS74.alloc | apply IsS74.drewN | apply IsS74.drew | apply IsS74.set_1 | apply IsS74.set_2 | refine IsS74.far ?_ NB643_639.out _ | refine IsS74.far ?_ NB643_649.out _) | exact HI643.out)) (by (with_reducible repeat (first | apply Kd.Q_alloc | apply Kd.Q_drewN | apply Kd.Q_drew)); exact HO646.out) (by decide)) hk (fun _ h => h.2)) (fun _ h => h.1))
 have n2_ := Aside0.mk (KeepBut.blk hk (g' := gb649) (o := .cells #[.slice Ao11 t644.length co11] 27 (0, 0)) (be_ BK649.out) NB649_643.out (by simp))
 have n3_ := Aside0.mk (hb)
 have n4_ := Aside0.mk (hi)
 clear BK639
 clear HO646
 clear BK649
 clear HB
 clear HI643
 have BK639 := n0_
 have HO646 := n1_
 have BK649 := n2_
 have HB := n3_
 have HI643 := n4_
 clear n0_ n1_ n2_ n3_ n4_
 (try clear hb)
 (try clear hb2)
 (try clear hk)
 (try clear hi)
 refine hK.out _ _ ((blk_cell BK649.out 0).trans rfl) (fun hHeld => ?_)
 clear hK K
 refine norm_ (a' := ?_) ?_ ?_
 rotate_left
 · show Act.put _ (some 13) _ = _
   simp only [Act.put, z1_, z2_, z3_, i64_w, i32_w]
   rfl
 refine one_ (i := 5) (N := some 15) (B_ 63 10) rfl rfl (one_of HT_.out (by kernel_rfl)) (by decide) (fun K hK => ?_)
 refine goes_ Try.func77 (by kernel_rfl) rfl #[.pointer (some ⟨g643, 0, none⟩), .int .i64 60] (by rfl) rfl rfl (by (try simp only [List.map_toArray, List.map_cons, List.map_nil]); first | done | rfl | (simp only [List.length_drop, List.length_take]; rfl)) ?_
 with_reducible refine (spec_l1Below.calls g643 t640 t651 t652 60 t653 t654 t655 w _ ?side1 ?side2 A5.out).mono ?_
 (case side1 => repeat (first | (with_reducible first | exact HI643.out | apply IsS74.alloc | apply IsS74.drewN | apply IsS74.drew | apply IsS74.set_1 | apply IsS74.set_2 | refine IsS74.far ?_ NB643_639.out _ | refine IsS74.far ?_ NB643_649.out _) | exact HI643.out))
 (case side2 => repeat (first | (with_reducible first | exact HB.out | apply below_alloc | apply pw_below_drewN | apply below_drew1 | refine below_set ?_ (IsS74.ge HI643.out) | refine below_set ?_ GE639.out | refine below_set ?_ GE649.out) | exact HB.out))
 rintro e w18 ⟨rfl, hi, hb, hk⟩
 refine ⟨_, rfl, ?_⟩
 have n0_ := Aside0.mk (KeepBut.blk hk (g' := gb639) (o := .cells #[.slice none 0 0] 27 (0, 0)) (be_ BK639.out) NB639_643.out (by simp))
 have n1_ := Aside0.mk (Kd.Q_mono (Kd.Q_keep (IsS74.apartQ (show IsS74 w _ g643 t640 t651 t652 from by repeat (first | (with_reducible first | exact HI643.out | apply IsS74.alloc | apply IsS74.drewN | apply IsS74.drew | apply IsS74.set_1 | apply IsS74.set_2 | refine IsS74.far ?_ NB643_639.out _ | refine IsS74.far ?_ NB643_649.out _) | exact HI643.out)) (by (with_reducible repeat (first | apply Kd.Q_alloc | apply Kd.Q_drewN | apply Kd.Q_drew)); exact HO646.out) (by decide)) hk (fun _ h => h.2)) (fun _ h => h.1))
 have n2_ := Aside0.mk (KeepBut.blk hk (g' := gb649) (o := .cells #[.slice Ao11 t644.length co11] 27 (0, 0)) (be_ BK649.out) NB649_643.out (by simp))
 have n3_ := Aside0.mk (hb)
 have n4_ := Aside0.mk (hi)
 clear BK639
 clear HO646
 clear BK649
 clear HB
 clear HI643
 have BK639 := n0_
 have HO646 := n1_
 have BK649 := n2_
 have HB := n3_
 have HI643 := n4_
 clear n0_ n1_ n2_ n3_ n4_
 (try clear hb)
 (try clear hb2)
 (try clear hk)
 (try clear hi)
 refine hK.out _ _ ((blk_cell BK649.out 0).trans rfl) (fun hHeld => ?_)
 clear hK K
 refine norm_ (a' := ?_) ?_ ?_
 rotate_left
 · show Act.put _ (some 15) _ = _
   simp only [Act.put, z1_, z2_, z3_, i64_w, i32_w]
   rfl
 refine one_ (i := 6) (N := some 16) (B_ 127 10) rfl rfl (one_of HT_.out (by kernel_rfl)) (by decide) (fun K hK => ?_)
 refine Kd.R_lit_step (Kd.int .i64) _ 3 ?hg (N := 16) ?hd (xs := ([t650, t653, (-1), 1001, 300] : List Int)) (inner := [.int .i64 t650, .int .i64 t653, .int .i64 (-1), .int .i64 1001, .int .i64 300]) (ok := fun _ => True) (okp := fun _ => True) ?hr ?hp (fun _ hk => hk) trivial (Below.refl _ _) (Nat.le_refl _) (by simp) ?_; (case hd => rfl); (case hg => rfl); (case hr => first | (go_simp; done) | (go_simp; rfl)); (case hp => exact (Reps.one (show Kd.M (Kd.int .i64) _ _ _ t650 [.int .i64 t650] from rfl) (Reps.one (show Kd.M (Kd.int .i64) _ _ _ t653 [.int .i64 t653] from rfl) (Reps.one (show Kd.M (Kd.int .i64) _ _ _ (-1) [.int .i64 (-1)] from rfl) (Reps.one (show Kd.M (Kd.int .i64) _ _ _ 1001 [.int .i64 1001] from rfl) (Reps.one (show Kd.M (Kd.int .i64) _ _ _ 300 [.int .i64 300] from rfl) (Reps.none _ _)))))))
 intro v657 w19 ho20 hb hg_ hnew_
 clear hg_ hnew_
 (first | rw [← Ny656.out] at ho20 | (simp only [Int.reduceToNat] at ho20; rw [← Ny656.out] at ho20))
 have n0_ := Aside0.mk (Kd.Q_elder' (by (with_reducible repeat (first | apply Kd.Q_alloc | apply Kd.Q_drewN | apply Kd.Q_drew)); exact HO646.out) (Kd.R_base ho20) hb)
 have n1_ := Aside0.mk (Kd.R_lower (Kd.R_new' ho20 (Kd.Q_lt (by (with_reducible repeat (first | apply Kd.Q_alloc | apply Kd.Q_drewN | apply Kd.Q_drew)); exact HO646.out))) (below_size (by repeat (first | (with_reducible first | exact HB.out | apply below_alloc | apply pw_below_drewN | apply below_drew1 | refine below_set ?_ (IsS74.ge HI643.out) | refine below_set ?_ GE639.out | refine below_set ?_ GE649.out) | exact HB.out))))
 have n2_ := Aside0.mk (blk_below (g := gb639) (o := .cells #[.slice none 0 0] 27 (0, 0)) (be_ BK639.out) hb)
 have n3_ := Aside0.mk (IsS74.below (by repeat (first | (with_reducible first | exact HI643.out | apply IsS74.alloc | apply IsS74.drewN | apply IsS74.drew | apply IsS74.set_1 | apply IsS74.set_2 | refine IsS74.far ?_ NB643_639.out _ | refine IsS74.far ?_ NB643_649.out _) | exact HI643.out)) hb)
 have n4_ := Aside0.mk (blk_below (g := gb649) (o := .cells #[.slice Ao11 t644.length co11] 27 (0, 0)) (be_ BK649.out) hb)
 have n5_ := Aside0.mk (below_step (by repeat (first | (with_reducible first | exact HB.out | apply below_alloc | apply pw_below_drewN | apply below_drew1 | refine below_set ?_ (IsS74.ge HI643.out) | refine below_set ?_ GE639.out | refine below_set ?_ GE649.out) | exact HB.out)) hb)
 clear HO646
 clear BK639
 clear HI643
 clear BK649
 clear HB
 have HO646 := n0_
 have HO658 := n1_
 have BK639 := n2_
 have HI643 := n3_
 have BK649 := n4_
 have HB := n5_
 clear n0_ n1_ n2_ n3_ n4_ n5_
 clear hb ho20
 obtain ⟨Ao21, co21, eo21⟩ := Kd.R_slice HO658.out
 (first | subst eo21 | (injection eo21 with f1_ f2_ f3_; have f4_ := f1_.symm; have f5_ := f3_.symm; clear f1_ f2_ f3_; subst f4_; subst f5_))
 refine hK.out _ _ ((blk_cell BK649.out 0).trans rfl) (fun hHeld => ?_)
 clear hK K
 refine norm_ (a' := ?_) ?_ ?_
 rotate_left
 · show Act.put _ (some 16) _ = _
   simp only [Act.put, z1_, z2_, z3_, i64_w, i32_w]
   rfl
 refine one_ (i := 7) (N := some 17) (B_ 255 10) rfl rfl (one_of HT_.out (by kernel_rfl)) (by decide) (fun K hK => ?_)
 refine goes_ Try.func76 (by kernel_rfl) rfl #[.pointer (some ⟨g643, 0, none⟩), .slice Ao21 y656.length co21] (by rfl) rfl rfl (by (try simp only [List.map_toArray, List.map_cons, List.map_nil]); first | done | rfl | (simp only [List.length_drop, List.length_take]; rfl)) ?_
 with_reducible refine (spec_l1PickInt.calls g643 t640 t654 t655 _ _ y656 t659 t660 t661 w _ ?side1 ?side2 ?side3 ?side4 ?side5 A6.out).mono ?_
 (case side1 => repeat (first | (with_reducible first | exact HI643.out | apply IsS74.alloc | apply IsS74.drewN | apply IsS74.drew | apply IsS74.set_1 | apply IsS74.set_2 | refine IsS74.far ?_ NB643_639.out _ | refine IsS74.far ?_ NB643_649.out _) | exact HI643.out))
 (case side2 => repeat (first | (with_reducible first | exact HB.out | apply below_alloc | apply pw_below_drewN | apply below_drew1 | refine below_set ?_ (IsS74.ge HI643.out) | refine below_set ?_ GE639.out | refine below_set ?_ GE649.out) | exact HB.out))
 (case side3 => exact ce_ ((Kd.R_reads' HO658.out).2.2))
 (case side4 => exact (Kd.R_reads' HO658.out).2.1)
 (case side5 => exact far_slice (IsS74.own_ne HI643.out HO658.out (by decide)))
 rintro e w22 ⟨rfl, hi, hb, hk⟩
 refine ⟨_, rfl, ?_⟩
 have n0_ := Aside0.mk (KeepBut.blk hk (g' := gb639) (o := .cells #[.slice none 0 0] 27 (0, 0)) (be_ BK639.out) NB639_643.out (by simp))
 have n1_ := Aside0.mk (Kd.Q_mono (Kd.Q_keep (IsS74.apartQ (show IsS74 w _ g643 t640 t654 t655 from by repeat (first | (with_reducible first | exact HI643.out | apply IsS74.alloc | apply IsS74.drewN | apply IsS74.drew | apply IsS74.set_1 | apply IsS74.set_2 | refine IsS74.far ?_ NB643_639.out _ | refine IsS74.far ?_ NB643_649.out _) | exact HI643.out)) (by (with_reducible repeat (first | apply Kd.Q_alloc | apply Kd.Q_drewN | apply Kd.Q_drew)); exact HO646.out) (by decide)) hk (fun _ h => h.2)) (fun _ h => h.1))
 have n2_ := Aside0.mk (KeepBut.blk hk (g' := gb649) (o := .cells #[.slice Ao11 t644.length co11] 27 (0, 0)) (be_ BK649.out) NB649_643.out (by simp))
 have n3_ := Aside0.mk (Kd.R_mono (Kd.R_keep (IsS74.apart (show IsS74 w _ g643 t640 t654 t655 from by repeat (first | (with_reducible first | exact HI643.out | apply IsS74.alloc | apply IsS74.drewN | apply IsS74.drew | apply IsS74.set_1 | apply IsS74.set_2 | refine IsS74.far ?_ NB643_639.out _ | refine IsS74.far ?_ NB643_649.out _) | exact HI643.out)) (re_ HO658.out) (by decide)) hk (fun _ h => h.2)) (fun _ h => h.1))
 have n4_ := Aside0.mk (hb)
 have n5_ := Aside0.mk (hi)
 clear BK639
 clear HO646
 clear BK649
 clear HO658
 clear HB
 clear HI643
 have BK639 := n0_
 have HO646 := n1_
 have BK649 := n2_
 have HO658 := n3_
 have HB := n4_
 have HI643 := n5_
 clear n0_ n1_ n2_ n3_ n4_ n5_
 (try clear hb)
 (try clear hb2)
 (try clear hk)
 (try clear hi)
 refine hK.out _ _ ((blk_cell BK649.out 0).trans rfl) (fun hHeld => ?_)
 clear hK K
 refine norm_ (a' := ?_) ?_ ?_
 rotate_left
 · show Act.put _ (some 17) _ = _
   simp only [Act.put, z1_, z2_, z3_, i64_w, i32_w]
   rfl
 refine one_ (i := 8) (N := none) (B_ 511 10) rfl rfl (one_of HT_.out (by kernel_rfl)) (by decide) (fun K hK => ?_)
 have hs23 : w22.cell? ⟨gb639, 0, none⟩ = some (.slice none 0 0) := (blk_cell BK639.out 0).trans rfl
 have hfs23 := blk_frozen BK639.out 0
 have hns23_1 := NB649_639.out
 have hms23_1 := NB639_649.out
 refine skip_ (w1 := ?_) (by rfl) rfl ?_ ?_
 rotate_left
 · go_simp
   rfl
 refine hK.out _ _ (((cell_far (p := ⟨gb639, _, none⟩) NB649_639.out _).trans (hHeld))) (fun hHeld => ?_)
 clear hK K
 refine pu_ HT_ 9 3 (B_ 1023 10) ?_
 refine done_ (done_of HT_.out (by kernel_rfl)) ?_
 try go_wp2
 refine bodyPost_ret (results_ct rfl _ _ gb639 27 #[.slice Ao11 t644.length co11] (0, 0) _ rfl (by (with_reducible repeat (first | refine blk_drewN ?_ _ | refine blk_drew ?_ | refine blk_alloc ?_ _)); refine blk_put (cs := #[.slice none 0 0]) ?_ 0 _ rfl; (with_reducible repeat (first | refine blk_drewN ?_ _ | refine blk_drew ?_ | refine blk_alloc ?_ _)); exact BK639.out) Try.underlying27 rfl (by kernel_rfl)) rfl ?_
 exact ⟨_, by first | rfl | (simp [errW_none, errW_some] <;> rfl) | (simp [*, errW_none, errW_some] <;> rfl), by (with_reducible repeat (first | apply Kd.Q_alloc | apply Kd.Q_drewN | apply Kd.Q_drew)); exact Kd.Q_mono (Kd.Q_far (p := ⟨gb639, 0, none⟩) (Kd.Q_types HO646.out BK639.out (by decide)) (fun _ hk => hk.2) (.slice Ao11 t644.length co11)) (fun _ hk => trivial), by repeat (first | (with_reducible first | exact HB.out | apply below_alloc | apply pw_below_drewN | apply below_drew1 | refine below_set ?_ (IsS74.ge HI643.out) | refine below_set ?_ GE639.out | refine below_set ?_ GE649.out) | exact HB.out)⟩
def impl_PairsOf.f (k : Nat) (l : List Int) (n : Int) : Option Int := (impl_IsSemigroup.f k l).bind fun t => if t = true then ((impl_within.f n 0 1000).bind fun u => if u = true then ((impl_reach.f k l).bind fun o => if 0 ≤ n ∧ n ≤ 1099511627776 then some (cnt (inOf o) n 0 (n + 1).toNat) else none) else some 0) else some 0
theorem impl_PairsOf.calls (k : Nat) (A0_0 : Option Addr) (c0_0 : Nat) (l0_0 : List Int) (a1 : Int) (r : Int) (w : World) (hr0_0 : Kd.C (Kd.int .i64) w A0_0 l0_0.length l0_0) (hc0_0 : l0_0.length ≤ c0_0) (h : impl_PairsOf.f k l0_0 a1 = some r) :
 Calls Try.prog 37 #[.agg #[.slice A0_0 l0_0.length c0_0], .int .i64 a1] w fun e w' => e = .returned (.int .i64 r) ∧ Below w.heap.size w w' := by
 have hu27 := Try.underlying27
 have HR0_0 := Aside0.mk hr0_0
 have HC0_0 := Aside0.mk hc0_0
 clear hr0_0 hc0_0
 unfold impl_PairsOf.f at h
 obtain ⟨t, A3, H⟩ := Option.bind_eq_some_iff.mp h
 clear h
 by_cases c4 : t = true
 · subst c4
   rw [if_pos rfl] at H
   obtain ⟨u, A5, H'⟩ := Option.bind_eq_some_iff.mp H
   clear H
   have hq3 := Aside0.mk A3
   have hq5 := Aside0.mk A5
   clear A3 A5
   by_cases c6 : u = true
   · subst c6
     rw [if_pos rfl] at H'
     obtain ⟨o, A7, H⟩ := Option.bind_eq_some_iff.mp H'
     clear H'
     have hq7 := Aside0.mk A7
     clear A7
     by_cases c8 : 0 ≤ a1 ∧ a1 ≤ 1099511627776
     · rw [if_pos c8] at H
       obtain rfl := Option.some.inj H
       clear H
       have hq8 := Aside0.mk c8
       clear c8
       go_enter Try.func37, Try.ntmps37
       go_wp2_with (first | (go_at_call 56; (with_reducible refine (impl_IsSemigroup.calls k _ _ l0_0 true _ ?side1 ?side2 hq3.out).mono ?_); (case side1 => exact Kd.C_alloc HR0_0.out _); (case side2 => exact HC0_0.out); rintro e w1 ⟨rfl, hb⟩; have hc1 : w1.cell? ⟨w.heap.size, 0, none⟩ = some (.slice A0_0 l0_0.length c0_0) := (hb.cell (p := ⟨w.heap.size, 0, none⟩) (by simp)).trans (by rw [World.cell?_alloc_at _ _ _ _ rfl]; rfl); have hB1 := Aside0.mk hb; clear hb) | (go_at_call 67; (with_reducible refine (impl_within.calls a1 0 1000 true _ hq5.out).mono ?_); rintro e w' ⟨rfl, ⟨nd, rfl⟩⟩) | (go_at_call 68; (with_reducible refine (impl_reach.calls k _ _ l0_0 o _ ?side3 ?side4 hq7.out).mono ?_); (case side3 => exact (Kd.C_drewN (Kd.C_below (Kd.C_alloc HR0_0.out _) hB1.out) _)); (case side4 => exact HC0_0.out); rintro e w2 ⟨v2, rfl, ⟨g, lb, hv, eg, hp⟩, hb2⟩; subst hv; have hB2 := Aside0.mk hb2; have hP := Aside0.mk hp; clear hb2 hp) | (go_at_call 69; (with_reducible refine (pairs_any g lb _ a1 hq8.out.1 hq8.out.2 _ eg hP.out).mono ?_); rintro e w3 ⟨rfl, ⟨q, rfl⟩⟩))
       go_ret
       exact ⟨rfl, pw_below_drewN (below_step (pw_below_drewN (below_step (below_alloc (Below.refl _ _) _) hB1.out) _) hB2.out) _⟩
     · rw [if_neg c8] at H; cases H
   · have c6 := Bool.eq_false_iff.mpr c6
     subst c6
     rw [if_neg (by decide)] at H'
     obtain rfl := Option.some.inj H'
     clear H'
     go_enter Try.func37, Try.ntmps37
     go_wp2_with (first | (go_at_call 56; (with_reducible refine (impl_IsSemigroup.calls k _ _ l0_0 true _ ?side1 ?side2 hq3.out).mono ?_); (case side1 => exact Kd.C_alloc HR0_0.out _); (case side2 => exact HC0_0.out); rintro e w1 ⟨rfl, hb⟩; have hB1 := Aside0.mk hb; clear hb) | (go_at_call 67; (with_reducible refine (impl_within.calls a1 0 1000 false _ hq5.out).mono ?_); rintro e w' ⟨rfl, ⟨nd, rfl⟩⟩))
     go_ret
     exact ⟨rfl, (pw_below_drewN (below_step (below_alloc (Below.refl _ _) _) hB1.out) _)⟩
 · have c4 := Bool.eq_false_iff.mpr c4
   subst c4
   rw [if_neg (by decide)] at H
   obtain rfl := Option.some.inj H
   clear H
   have A3 := Aside0.mk A3
   go_enter Try.func37, Try.ntmps37
   go_wp2_with (first | (go_at_call 56; (with_reducible refine (impl_IsSemigroup.calls k _ _ l0_0 false _ ?side1 ?side2 A3.out).mono ?_); (case side1 => exact Kd.C_alloc HR0_0.out _); (case side2 => exact HC0_0.out); rintro e w1 ⟨rfl, hb⟩))
   go_ret
   exact ⟨rfl, ((Below.refl _ _).alloc (Nat.le_refl _) _).trans (hb.mono (by simp))⟩
def spec_DrawLinearBound.f (k : Nat) (l0 : List Int) : Option (List Int × Int) := (spec_DrawOrderBound.f k l0).bind fun bt670 => (some (bt670.1, bt670.2))
set_option maxHeartbeats 8000000 in
set_option maxRecDepth 100000 in
theorem spec_DrawLinearBound.calls (k : Nat) (A0 : Option Addr) (c0 : Nat) (l0 : List Int) (r1 : List Int) (r2 : Int) (w : World) (hr0 : Kd.C (Kd.int .u8) w A0 l0.length l0) (hc0 : l0.length ≤ c0) (h : spec_DrawLinearBound.f k l0 = some (r1, r2)) :
 Calls Try.prog 38 #[.slice A0 l0.length c0] w fun e w' => ∃ v0_ : Value, e = .returned (.tuple #[.agg #[v0_], .int .i64 r2]) ∧ Kd.Q (Kd.int .i64) 3 w' w.heap.size (fun _ => True) v0_ r1 ∧ Below w.heap.size w w' := by
 have hu27 := Try.underlying27
 have HR0 := Aside0.mk hr0
 have HC0 := Aside0.mk hc0
 clear hr0 hc0
 have HB := Aside0.mk (Below.refl w.heap.size w)
 have H : ((spec_DrawOrderBound.f k l0).bind fun bt670 => (some (bt670.1, bt670.2))) = some (r1, r2) := h
 clear h
 replace H := Option.bind_eq_some_iff.mp H
 obtain ⟨⟨t670, t673⟩, A20, H⟩ := H
 replace H : (some (t670, t673)) = some (r1, r2) := H
 have A2 := Aside0.mk A20
 clear A20
 simp only [Option.some.injEq, Prod.mk.injEq] at H
 obtain ⟨rfl, rfl⟩ := H
 go_enter Try.func38, Try.ntmps38
 go_wp2_with (first | ((with_reducible refine gate_dst (N := 2) rfl ?_); refine box_event ?hg (N := 2) ?hd (cs := #[.slice none 0 0]) (t := 27) ?hr ?_; (case hd => rfl); (case hg => rfl); (case hr => first | (go_simp; done) | (go_simp; rfl)); intro gb669 hg w3 hbox hb; have n0_ := Aside0.mk (below_step (bl_ HB.out) hb); have n1_ := Aside0.mk (hbox); have n2_ := Aside0.mk ((by rw [hg]; exact (below_size (bl_ HB.out)) : w.heap.size ≤ gb669)); have n3_ := Aside0.mk ((by rw [hg]; exact (below_size (bl_ HB.out)) : w.heap.size ≤ gb669)); clear HB; have HB := n0_; have BK669 := n1_; have GW669 := n2_; have GE669 := n3_; clear n0_ n1_ n2_ n3_; clear hb hbox hg) | ((with_reducible refine gate_callee (f := 35) rfl ?_); refine goesL_ (some 8) rfl rfl Try.func35 (by kernel_rfl) rfl #[.slice A0 l0.length c0] rfl (by (try simp only [List.map_toArray, List.map_cons, List.map_nil]); first | done | rfl | (simp only [List.length_drop, List.length_take]; rfl)) ?_; (with_reducible refine (spec_DrawOrderBound.calls k _ _ l0 t670 t673 _ ?side1 ?side2 A2.out).mono ?_); (case side1 => exact ce_ ((Kd.C_below HR0.out HB.out))); (case side2 => exact HC0.out); rintro e w4 ⟨v671, rfl, ho0, hb⟩; refine ⟨_, rfl, ?_⟩; have n0_ := Aside0.mk (Kd.Q_lower ho0 (below_size (by repeat (first | (with_reducible first | exact HB.out | apply below_alloc | apply pw_below_drewN | apply below_drew1 | refine below_set ?_ GE669.out) | exact HB.out)))); have n1_ := Aside0.mk (blk_below (g := gb669) (o := .cells #[.slice none 0 0] 27 (0, 0)) (be_ BK669.out) hb); have n2_ := Aside0.mk (below_step (by repeat (first | (with_reducible first | exact HB.out | apply below_alloc | apply pw_below_drewN | apply below_drew1 | refine below_set ?_ GE669.out) | exact HB.out)) hb); clear BK669; clear HB; have HO672 := n0_; have BK669 := n1_; have HB := n2_; clear n0_ n1_ n2_; (try clear hb); (try clear hb2); (try clear hk); (try clear hi); (try clear ho0)) | ((with_reducible refine gate_dst (N := 4) rfl ?_); refine box_event ?hg (N := 4) ?hd (cs := #[.slice none 0 0]) (t := 27) ?hr ?_; (case hd => rfl); (case hg => rfl); (case hr => first | (go_simp; done) | (go_simp; rfl)); intro gb674 hg w5 hbox hb; have n0_ := Aside0.mk (Kd.Q_below (by (with_reducible repeat (first | apply Kd.Q_alloc | apply Kd.Q_drewN | apply Kd.Q_drew)); exact HO672.out) hb); have n1_ := Aside0.mk (blk_below (g := gb669) (o := .cells #[.slice none 0 0] 27 (0, 0)) (be_ BK669.out) hb); have n2_ := Aside0.mk (below_step (by repeat (first | (with_reducible first | exact HB.out | apply below_alloc | apply pw_below_drewN | apply below_drew1 | refine below_set ?_ GE669.out) | exact HB.out)) hb); have n3_ := Aside0.mk (hbox); have n4_ := Aside0.mk ((by rw [hg]; exact (below_size (by repeat (first | (with_reducible first | exact HB.out | apply below_alloc | apply pw_below_drewN | apply below_drew1 | refine below_set ?_ GE669.out) | exact HB.out))) : w.heap.size ≤ gb674)); have n5_ := Aside0.mk ((by rw [hg]; exact (below_size (by repeat (first | (with_reducible first | exact HB.out | apply below_alloc | apply pw_below_drewN | apply below_drew1 | refine below_set ?_ GE669.out) | exact HB.out))) : w.heap.size ≤ gb674)); have n6_ := Aside0.mk ((by rw [hg]; exact Nat.ne_of_lt (blk_lt (g := gb669) (o := .cells #[.slice none 0 0] 27 (0, 0)) (be_ BK669.out)) : gb669 ≠ gb674)); have n7_ := Aside0.mk ((by rw [hg]; exact Nat.ne_of_gt (blk_lt (g := gb669) (o := .cells #[.slice none 0 0] 27 (0, 0)) (be_ BK669.out)) : gb674 ≠ gb669)); clear HO672; clear BK669; clear HB; have HO672 := n0_; have BK669 := n1_; have HB := n2_; have BK674 := n3_; have GW674 := n4_; have GE674 := n5_; have NB669_674 := n6_; have NB674_669 := n7_; clear n0_ n1_ n2_ n3_ n4_ n5_ n6_ n7_; clear hb hbox hg; obtain ⟨Ao6, co6, eo6, _⟩ := Kd.Q_slice HO672.out; subst eo6; have hnb7 := NB674_669.out; have hnc7 := NB669_674.out; have hcz8_0 : w5.cell? ⟨gb674, 0, none⟩ = some (.slice none 0 0) := (blk_cell BK674.out 0).trans rfl; have hfz8_0 := blk_frozen BK674.out 0; have hcz9_0 : w5.cell? ⟨gb669, 0, none⟩ = some (.slice none 0 0) := (blk_cell BK669.out 0).trans rfl; have hfz9_0 := blk_frozen BK669.out 0))
 refine bodyPost_ret (results_ct rfl _ _ gb669 27 #[.slice Ao6 t670.length co6] (0, 0) _ rfl (by (with_reducible repeat (first | refine blk_drewN ?_ _ | refine blk_drew ?_ | refine blk_alloc ?_ _)); refine blk_put (cs := #[.slice none 0 0]) ?_ 0 _ rfl; (with_reducible repeat (first | refine blk_drewN ?_ _ | refine blk_drew ?_ | refine blk_alloc ?_ _)); refine blk_far ?_ NB669_674.out _; (with_reducible repeat (first | refine blk_drewN ?_ _ | refine blk_drew ?_ | refine blk_alloc ?_ _)); exact BK669.out) Try.underlying27 rfl (by kernel_rfl)) rfl ?_
 exact ⟨_, by first | rfl | (simp [errW_none, errW_some] <;> rfl) | (simp [*, errW_none, errW_some] <;> rfl), by (with_reducible repeat (first | apply Kd.Q_alloc | apply Kd.Q_drewN | apply Kd.Q_drew)); exact Kd.Q_mono (Kd.Q_far (p := ⟨gb669, 0, none⟩) (Kd.Q_far (p := ⟨gb674, 0, none⟩) (Kd.Q_types (Kd.Q_types HO672.out BK674.out (by decide)) BK669.out (by decide)) (fun _ hk => hk.1.2) (.slice Ao6 t670.length co6)) (fun _ hk => hk.2) (.slice Ao6 t670.length co6)) (fun _ hk => trivial), by repeat (first | (with_reducible first | exact HB.out | apply below_alloc | apply pw_below_drewN | apply below_drew1 | refine below_set ?_ GE669.out | refine below_set ?_ GE674.out) | exact HB.out)⟩
mutual
def spec_PairsOf.j0 : Nat → Int → Bool → List Int → Option (Int)
 | 0, _, _, _ => none
 | k + 1, x1, x14, x676000 => if x14 = true then (some 0) else (spec_PairsOf.l0 k x1 0 0 x676000)
def spec_PairsOf.l0 : Nat → Int → Int → Int → List Int → Option (Int)
 | 0, _, _, _, _ => none
 | k + 1, x1, x5, x6, x676000 => if x6 ≤ x1 then ((spec_l15Has.f k x676000 x6).bind fun t678 => (if t678 = true then ((spec_l15Has.f k x676000 (wrap64 (x1 - x6))).bind fun t679 => ((spec_l1Bit.f t679).bind fun t680 => (spec_PairsOf.l0 k x1 (wrap64 (x5 + t680)) (wrap64 (x6 + 1)) x676000))) else ((spec_l1Bit.f false).bind fun t681 => (spec_PairsOf.l0 k x1 (wrap64 (x5 + t681)) (wrap64 (x6 + 1)) x676000)))) else (some x5)
end
def spec_PairsOf.f (k : Nat) (l0_0 : List Int) (a1 : Int) : Option (Int) := (spec_IsSemigroup.f k l0_0).bind fun t676 => (if t676 = true then ((spec_l1In.f a1 0 1000).bind fun t677 => (spec_PairsOf.j0 k a1 (!t677) l0_0)) else (spec_PairsOf.j0 k a1 true l0_0))
set_option maxHeartbeats 8000000 in
set_option maxRecDepth 100000 in
theorem spec_PairsOf.calls (k : Nat) (A0_0 : Option Addr) (c0_0 : Nat) (l0_0 : List Int) (a1 : Int) (r : Int) (w : World) (hr0_0 : Kd.C (Kd.int .i64) w A0_0 l0_0.length l0_0) (hc0_0 : l0_0.length ≤ c0_0) (h : spec_PairsOf.f k l0_0 a1 = some r) :
 Calls Try.prog 39 #[.agg #[.slice A0_0 l0_0.length c0_0], .int .i64 a1] w fun e w' => e = .returned (.int .i64 r) ∧ Below w.heap.size w w' := by
 have hu27 := Try.underlying27
 have HR0_0 := Aside0.mk hr0_0
 have HC0_0 := Aside0.mk hc0_0
 clear hr0_0 hc0_0
 have HB := Aside0.mk (Below.refl w.heap.size w)
 have H : ((spec_IsSemigroup.f k l0_0).bind fun t676 => (if t676 = true then ((spec_l1In.f a1 0 1000).bind fun t677 => (spec_PairsOf.j0 k a1 (!t677) l0_0)) else (spec_PairsOf.j0 k a1 true l0_0))) = some r := h
 clear h
 have HC3 := Aside0.mk H
 clear H
 go_enter Try.func39, Try.ntmps39
 go_upto_region 1 with (first | ((with_reducible refine gate_dst (N := 2) rfl ?_); refine box_event ?hg (N := 2) ?hd (cs := #[.slice A0_0 l0_0.length c0_0]) (t := 27) ?hr ?_; (case hd => rfl); (case hg => rfl); (case hr => first | (go_simp; done) | (go_simp; rfl)); intro gb675 hg w4 hbox hb; have n0_ := Aside0.mk (below_step (bl_ HB.out) hb); have n1_ := Aside0.mk (hbox); have n2_ := Aside0.mk ((by rw [hg]; exact (below_size (bl_ HB.out)) : w.heap.size ≤ gb675)); have n3_ := Aside0.mk ((by rw [hg]; exact (below_size (bl_ HB.out)) : w.heap.size ≤ gb675)); clear HB; have HB := n0_; have BK675 := n1_; have GW675 := n2_; have GE675 := n3_; clear n0_ n1_ n2_ n3_; clear hb hbox hg))
 (try simp only [Act.put, z1_, z2_, z3_])
 go_cut [14] (fun v14 wc => ∃ (kq : Nat) (x14_2 : Bool), v14 = .bool x14_2 ∧ Aside0 (spec_PairsOf.j0 kq a1 x14_2 l0_0 = some r) ∧ Aside0 (kq ≤ k) ∧ Aside0 (wc.heap[gb675]? = some (.cells #[(.slice A0_0 l0_0.length c0_0)] 27 (0, 0))) ∧ Aside0 (Below w.heap.size w wc))
 case first =>
  have H := HC3.out
  clear HC3
  replace H := Option.bind_eq_some_iff.mp H
  obtain ⟨t676, A50, H⟩ := H
  replace H : (if t676 = true then ((spec_l1In.f a1 0 1000).bind fun t677 => (spec_PairsOf.j0 k a1 (!t677) l0_0)) else (spec_PairsOf.j0 k a1 true l0_0)) = some r := H
  have A5 := Aside0.mk A50
  clear A50
  by_cases c6 : t676 = true
  · subst c6
    have H1 : ((spec_l1In.f a1 0 1000).bind fun t677 => (spec_PairsOf.j0 k a1 (!t677) l0_0)) = some r := by rw [if_pos rfl] at H; exact H
    clear H
    have H := H1
    clear H1
    replace H := Option.bind_eq_some_iff.mp H
    obtain ⟨t677, A70, H⟩ := H
    replace H : (spec_PairsOf.j0 k a1 (!t677) l0_0) = some r := H
    have A7 := Aside0.mk A70
    clear A70
    have H' := Aside0.mk H
    clear H
    have hcz8_0 : w4.cell? ⟨gb675, 0, none⟩ = some (.slice A0_0 l0_0.length c0_0) := (blk_cell BK675.out 0).trans rfl
    have hfz8_0 := blk_frozen BK675.out 0
    go_wp2_with (first | ((with_reducible refine gate_callee (f := 42) rfl ?_); refine goesL_ (some 8) rfl rfl Try.func42 (by kernel_rfl) rfl #[.agg #[.slice A0_0 l0_0.length c0_0]] rfl (by (try simp only [List.map_toArray, List.map_cons, List.map_nil]); first | done | rfl | (simp only [List.length_drop, List.length_take]; rfl)) ?_; (with_reducible refine (spec_IsSemigroup.calls k _ _ l0_0 true _ ?side1 ?side2 A5.out).mono ?_); (case side1 => exact ce_ ((Kd.C_below HR0_0.out HB.out))); (case side2 => exact HC0_0.out); rintro e w9 ⟨rfl, hb⟩; refine ⟨_, rfl, ?_⟩; have n0_ := Aside0.mk (blk_below (g := gb675) (o := .cells #[.slice A0_0 l0_0.length c0_0] 27 (0, 0)) (be_ BK675.out) hb); have n1_ := Aside0.mk (below_step (by repeat (first | (with_reducible first | exact HB.out | apply below_alloc | apply pw_below_drewN | apply below_drew1 | refine below_set ?_ GE675.out) | exact HB.out)) hb); clear BK675; clear HB; have BK675 := n0_; have HB := n1_; clear n0_ n1_; (try clear hb); (try clear hb2); (try clear hk); (try clear hi)) | (go_at_call 62; (with_reducible refine (spec_l1In.calls a1 0 1000 t677 _ A7.out).mono ?_); rintro e w' ⟨rfl, ⟨nd, rfl⟩⟩))
    go_meet
    case rel => exact ⟨_, (!t677), (by first | rfl | (simp; done) | (simp [*]; done)), H', ⟨by first | omega | exact Nat.le_refl _⟩, ⟨be_ BK675.out⟩, ⟨by repeat (first | (with_reducible first | exact HB.out | apply below_alloc | apply pw_below_drewN | apply below_drew1 | refine below_set ?_ GE675.out) | exact HB.out)⟩⟩
  · replace c6 := Bool.eq_false_iff.mpr c6
    subst c6
    have H1 : (spec_PairsOf.j0 k a1 true l0_0) = some r := by rw [if_neg (show ¬ (false = true) by decide)] at H; exact H
    clear H
    have H := H1
    clear H1
    have H' := Aside0.mk H
    clear H
    have hcz10_0 : w4.cell? ⟨gb675, 0, none⟩ = some (.slice A0_0 l0_0.length c0_0) := (blk_cell BK675.out 0).trans rfl
    have hfz10_0 := blk_frozen BK675.out 0
    go_wp2_with (first | ((with_reducible refine gate_callee (f := 42) rfl ?_); refine goesL_ (some 8) rfl rfl Try.func42 (by kernel_rfl) rfl #[.agg #[.slice A0_0 l0_0.length c0_0]] rfl (by (try simp only [List.map_toArray, List.map_cons, List.map_nil]); first | done | rfl | (simp only [List.length_drop, List.length_take]; rfl)) ?_; (with_reducible refine (spec_IsSemigroup.calls k _ _ l0_0 false _ ?side1 ?side2 A5.out).mono ?_); (case side1 => exact ce_ ((Kd.C_below HR0_0.out HB.out))); (case side2 => exact HC0_0.out); rintro e w11 ⟨rfl, hb⟩; refine ⟨_, rfl, ?_⟩; have n0_ := Aside0.mk (blk_below (g := gb675) (o := .cells #[.slice A0_0 l0_0.length c0_0] 27 (0, 0)) (be_ BK675.out) hb); have n1_ := Aside0.mk (below_step (by repeat (first | (with_reducible first | exact HB.out | apply below_alloc | apply pw_below_drewN | apply below_drew1 | refine below_set ?_ GE675.out) | exact HB.out)) hb); clear BK675; clear HB; have BK675 := n0_; have HB := n1_; clear n0_ n1_; (try clear hb); (try clear hb2); (try clear hk); (try clear hi)))
    go_meet
    case rel => exact ⟨_, (true), (by first | rfl | (simp; done) | (simp [*]; done)), H', ⟨by first | omega | exact Nat.le_refl _⟩, ⟨be_ BK675.out⟩, ⟨by repeat (first | (with_reducible first | exact HB.out | apply below_alloc | apply pw_below_drewN | apply below_drew1 | refine below_set ?_ GE675.out) | exact HB.out)⟩⟩
 case rest =>
  clear HC3
  try clear p2
  try clear c3
  try clear c4
  try clear c6
  try clear hcz10_0
  try clear hcz8_0
  try clear hfz10_0
  try clear hfz8_0
  obtain ⟨kq, x14_2, rfl, HA, HJ2, BK675, HB⟩ := hcut
  cases kq with
  | zero => exact absurd HA.out (by simp [spec_PairsOf.j0])
  | succ kj2 =>
   have H := HA.out
   clear HA
   simp only [spec_PairsOf.j0] at H
   by_cases c12 : x14_2 = true
   · subst c12
     have H1 : (some 0) = some r := by rw [if_pos rfl] at H; exact H
     clear H
     have H := H1
     clear H1
     obtain rfl := Option.some.inj H
     go_wp2
     go_ret
     exact ⟨by first | rfl | (simp [errW_none, errW_some] <;> rfl) | (simp [*, errW_none, errW_some] <;> rfl), by repeat (first | (with_reducible first | exact HB.out | apply below_alloc | apply pw_below_drewN | apply below_drew1 | refine below_set ?_ GE675.out) | exact HB.out)⟩
   · replace c12 := Bool.eq_false_iff.mpr c12
     subst c12
     have H1 : (spec_PairsOf.l0 kj2 a1 0 0 l0_0) = some r := by rw [if_neg (show ¬ (false = true) by decide)] at H; exact H
     clear H
     have H := H1
     clear H1
     have H' := Aside0.mk H
     clear H
     go_wp2
     go_loopg [5, 6] kj2 (fun kq v5 v6 w' => ∃ (x5_2 : Int) (x6_2 : Int), v5 = .int .i64 x5_2 ∧ v6 = .int .i64 x6_2 ∧ Aside0 (spec_PairsOf.l0 kq a1 x5_2 x6_2 l0_0 = some r) ∧ Aside0 (kq ≤ kj2) ∧ Aside0 (w'.heap[gb675]? = some (.cells #[(.slice A0_0 l0_0.length c0_0)] 27 (0, 0))) ∧ Aside0 (Below w.heap.size w w'))
     case atStart => exact ⟨(0), (0), (by first | rfl | (simp; done) | (simp [*]; done)), (by first | rfl | (simp; done) | (simp [*]; done)), H', ⟨Nat.le_refl _⟩, ⟨be_ BK675.out⟩, ⟨by repeat (first | (with_reducible first | exact HB.out | apply below_alloc | apply pw_below_drewN | apply below_drew1 | refine below_set ?_ GE675.out) | exact HB.out)⟩⟩
     case round =>
      clear H'
      try clear c1
      try clear p2
      try clear c3
      try clear c4
      try clear c6
      try clear c12
      try clear hcz10_0
      try clear hcz8_0
      try clear hfz10_0
      try clear hfz8_0
      try clear p2
      obtain ⟨x5_2, x6_2, rfl, rfl, HA, HK2, BK675, HB⟩ := hrel
      cases gk with
      | zero => exact absurd HA.out (by simp [spec_PairsOf.l0])
      | succ k2 =>
       have H := HA.out
       clear HA
       simp only [spec_PairsOf.l0] at H
       by_cases c13 : x6_2 ≤ a1
       · rw [if_pos c13] at H
         have c13b0 : decide (x6_2 ≤ a1) = true := decide_eq_true c13
         clear c13
         replace H := Option.bind_eq_some_iff.mp H
         obtain ⟨t678, A140, H⟩ := H
         replace H : (if t678 = true then ((spec_l15Has.f k2 l0_0 (wrap64 (a1 - x6_2))).bind fun t679 => ((spec_l1Bit.f t679).bind fun t680 => (spec_PairsOf.l0 k2 a1 (wrap64 (x5_2 + t680)) (wrap64 (x6_2 + 1)) l0_0))) else ((spec_l1Bit.f false).bind fun t681 => (spec_PairsOf.l0 k2 a1 (wrap64 (x5_2 + t681)) (wrap64 (x6_2 + 1)) l0_0))) = some r := H
         have A14 := Aside0.mk A140
         clear A140
         by_cases c15 : t678 = true
         · subst c15
           have H1 : ((spec_l15Has.f k2 l0_0 (wrap64 (a1 - x6_2))).bind fun t679 => ((spec_l1Bit.f t679).bind fun t680 => (spec_PairsOf.l0 k2 a1 (wrap64 (x5_2 + t680)) (wrap64 (x6_2 + 1)) l0_0))) = some r := by rw [if_pos rfl] at H; exact H
           clear H
           have H := H1
           clear H1
           replace H := Option.bind_eq_some_iff.mp H
           obtain ⟨t679, A160, H⟩ := H
           replace H : ((spec_l1Bit.f t679).bind fun t680 => (spec_PairsOf.l0 k2 a1 (wrap64 (x5_2 + t680)) (wrap64 (x6_2 + 1)) l0_0)) = some r := H
           have A16 := Aside0.mk A160
           clear A160
           replace H := Option.bind_eq_some_iff.mp H
           obtain ⟨t680, A170, H⟩ := H
           replace H : (spec_PairsOf.l0 k2 a1 (wrap64 (x5_2 + t680)) (wrap64 (x6_2 + 1)) l0_0) = some r := H
           have A17 := Aside0.mk A170
           clear A170
           have H' := Aside0.mk H
           clear H
           have hcz18_0 : wr.cell? ⟨gb675, 0, none⟩ = some (.slice A0_0 l0_0.length c0_0) := (blk_cell BK675.out 0).trans rfl
           have hfz18_0 := blk_frozen BK675.out 0
           go_wp2_with (first | ((with_reducible refine gate_callee (f := 70) rfl ?_); refine goesL_ (some 23) rfl rfl Try.func70 (by kernel_rfl) rfl #[.agg #[.slice A0_0 l0_0.length c0_0], .int .i64 x6_2] rfl (by (try simp only [List.map_toArray, List.map_cons, List.map_nil]); first | done | rfl | (simp only [List.length_drop, List.length_take]; rfl)) ?_; (with_reducible refine (spec_l15Has.calls k2 _ _ l0_0 x6_2 true _ ?side1 ?side2 A14.out).mono ?_); (case side1 => exact ce_ ((Kd.C_below HR0_0.out HB.out))); (case side2 => exact HC0_0.out); rintro e w19 ⟨rfl, hb⟩; refine ⟨_, rfl, ?_⟩; have n0_ := Aside0.mk (blk_below (g := gb675) (o := .cells #[.slice A0_0 l0_0.length c0_0] 27 (0, 0)) (be_ BK675.out) hb); have n1_ := Aside0.mk (below_step (by repeat (first | (with_reducible first | exact HB.out | apply below_alloc | apply pw_below_drewN | apply below_drew1 | refine below_set ?_ GE675.out) | exact HB.out)) hb); clear BK675; clear HB; have BK675 := n0_; have HB := n1_; clear n0_ n1_; (try clear hb); (try clear hb2); (try clear hk); (try clear hi); have hcz20_0 : w19.cell? ⟨gb675, 0, none⟩ = some (.slice A0_0 l0_0.length c0_0) := (blk_cell BK675.out 0).trans rfl; have hfz20_0 := blk_frozen BK675.out 0) | (go_at_call 70; (with_reducible refine (spec_l15Has.calls k2 _ _ l0_0 (wrap64 (a1 - x6_2)) t679 _ ?side1 ?side2 A16.out).mono ?_); (case side1 => exact ce_ ((Kd.C_below HR0_0.out HB.out))); (case side2 => exact HC0_0.out); rintro e w21 ⟨rfl, hb⟩; have n0_ := Aside0.mk (blk_below (g := gb675) (o := .cells #[.slice A0_0 l0_0.length c0_0] 27 (0, 0)) (be_ BK675.out) hb); have n1_ := Aside0.mk (below_step (by repeat (first | (with_reducible first | exact HB.out | apply below_alloc | apply pw_below_drewN | apply below_drew1 | refine below_set ?_ GE675.out) | exact HB.out)) hb); clear BK675; clear HB; have BK675 := n0_; have HB := n1_; clear n0_ n1_; (try clear hb); (try clear hb2); (try clear hk); (try clear hi)) | ((with_reducible refine gate_callee (f := 59) rfl ?_); refine goesL_ (some 31) rfl rfl Try.func59 (by kernel_rfl) rfl #[.bool t679] rfl (by (try simp only [List.map_toArray, List.map_cons, List.map_nil]); first | done | rfl | (simp only [List.length_drop, List.length_take]; rfl)) ?_; (with_reducible refine (spec_l1Bit.calls t679 t680 _ A17.out).mono ?_); rintro e w' ⟨rfl, ⟨nd, rfl⟩⟩; refine ⟨_, rfl, ?_⟩))
           go_roundg k2
           case measure => have := HJ2.out; have := HK2.out; omega
           case rel => exact ⟨(wrap64 (x5_2 + t680)), (wrap64 (x6_2 + 1)), (by first | rfl | (simp; done) | (simp [*]; done)), (by first | rfl | (simp; done) | (simp [*]; done)), H', ⟨by have := HJ2.out; have := HK2.out; omega⟩, ⟨be_ BK675.out⟩, ⟨by repeat (first | (with_reducible first | exact HB.out | apply below_alloc | apply pw_below_drewN | apply below_drew1 | refine below_set ?_ GE675.out) | exact HB.out)⟩⟩
         · replace c15 := Bool.eq_false_iff.mpr c15
           subst c15
           have H1 : ((spec_l1Bit.f false).bind fun t681 => (spec_PairsOf.l0 k2 a1 (wrap64 (x5_2 + t681)) (wrap64 (x6_2 + 1)) l0_0)) = some r := by rw [if_neg (show ¬ (false = true) by decide)] at H; exact H
           clear H
           have H := H1
           clear H1
           replace H := Option.bind_eq_some_iff.mp H
           obtain ⟨t681, A220, H⟩ := H
           replace H : (spec_PairsOf.l0 k2 a1 (wrap64 (x5_2 + t681)) (wrap64 (x6_2 + 1)) l0_0) = some r := H
           have A22 := Aside0.mk A220
           clear A220
           have H' := Aside0.mk H
           clear H
           have hcz23_0 : wr.cell? ⟨gb675, 0, none⟩ = some (.slice A0_0 l0_0.length c0_0) := (blk_cell BK675.out 0).trans rfl
           have hfz23_0 := blk_frozen BK675.out 0
           go_wp2_with (first | ((with_reducible refine gate_callee (f := 70) rfl ?_); refine goesL_ (some 23) rfl rfl Try.func70 (by kernel_rfl) rfl #[.agg #[.slice A0_0 l0_0.length c0_0], .int .i64 x6_2] rfl (by (try simp only [List.map_toArray, List.map_cons, List.map_nil]); first | done | rfl | (simp only [List.length_drop, List.length_take]; rfl)) ?_; (with_reducible refine (spec_l15Has.calls k2 _ _ l0_0 x6_2 false _ ?side1 ?side2 A14.out).mono ?_); (case side1 => exact ce_ ((Kd.C_below HR0_0.out HB.out))); (case side2 => exact HC0_0.out); rintro e w24 ⟨rfl, hb⟩; refine ⟨_, rfl, ?_⟩; have n0_ := Aside0.mk (blk_below (g := gb675) (o := .cells #[.slice A0_0 l0_0.length c0_0] 27 (0, 0)) (be_ BK675.out) hb); have n1_ := Aside0.mk (below_step (by repeat (first | (with_reducible first | exact HB.out | apply below_alloc | apply pw_below_drewN | apply below_drew1 | refine below_set ?_ GE675.out) | exact HB.out)) hb); clear BK675; clear HB; have BK675 := n0_; have HB := n1_; clear n0_ n1_; (try clear hb); (try clear hb2); (try clear hk); (try clear hi)) | ((with_reducible refine gate_callee (f := 59) rfl ?_); refine goesL_ (some 31) rfl rfl Try.func59 (by kernel_rfl) rfl #[.bool false] rfl (by (try simp only [List.map_toArray, List.map_cons, List.map_nil]); first | done | rfl | (simp only [List.length_drop, List.length_take]; rfl)) ?_; (with_reducible refine (spec_l1Bit.calls false t681 _ A22.out).mono ?_); rintro e w' ⟨rfl, ⟨nd, rfl⟩⟩; refine ⟨_, rfl, ?_⟩))
           go_roundg k2
           case measure => have := HJ2.out; have := HK2.out; omega
           case rel => exact ⟨(wrap64 (x5_2 + t681)), (wrap64 (x6_2 + 1)), (by first | rfl | (simp; done) | (simp [*]; done)), (by first | rfl | (simp; done) | (simp [*]; done)), H', ⟨by have := HJ2.out; have := HK2.out; omega⟩, ⟨be_ BK675.out⟩, ⟨by repeat (first | (with_reducible first | exact HB.out | apply below_alloc | apply pw_below_drewN | apply below_drew1 | refine below_set ?_ GE675.out) | exact HB.out)⟩⟩
       · rw [if_neg c13] at H
         have c13b0 : decide (x6_2 ≤ a1) = false := decide_eq_false c13
         clear c13
         obtain rfl := Option.some.inj H
         go_wp2
         go_ret
         exact ⟨by first | rfl | (simp [errW_none, errW_some] <;> rfl) | (simp [*, errW_none, errW_some] <;> rfl), by repeat (first | (with_reducible first | exact HB.out | apply below_alloc | apply pw_below_drewN | apply below_drew1 | refine below_set ?_ GE675.out) | exact HB.out)⟩
def impl_GenusOf.f (k : Nat) (l0_0 : List Int) : Option (Int) := (impl_IsSemigroup.f k l0_0).bind fun t683 => (if t683 = true then ((impl_Gaps.f k l0_0).bind fun t684 => (some (t684.length : Int))) else (some (-1)))
set_option maxHeartbeats 8000000 in
set_option maxRecDepth 100000 in
theorem impl_GenusOf.calls (k : Nat) (A0_0 : Option Addr) (c0_0 : Nat) (l0_0 : List Int) (r : Int) (w : World) (hr0_0 : Kd.C (Kd.int .i64) w A0_0 l0_0.length l0_0) (hc0_0 : l0_0.length ≤ c0_0) (h : impl_GenusOf.f k l0_0 = some r) :
 Calls Try.prog 72 #[.agg #[.slice A0_0 l0_0.length c0_0]] w fun e w' => e = .returned (.int .i64 r) ∧ Below w.heap.size w w' := by
 have hu27 := Try.underlying27
 have HR0_0 := Aside0.mk hr0_0
 have HC0_0 := Aside0.mk hc0_0
 clear hr0_0 hc0_0
 have HB := Aside0.mk (Below.refl w.heap.size w)
 have H : ((impl_IsSemigroup.f k l0_0).bind fun t683 => (if t683 = true then ((impl_Gaps.f k l0_0).bind fun t684 => (some (t684.length : Int))) else (some (-1)))) = some r := h
 clear h
 replace H := Option.bind_eq_some_iff.mp H
 obtain ⟨t683, A20, H⟩ := H
 replace H : (if t683 = true then ((impl_Gaps.f k l0_0).bind fun t684 => (some (t684.length : Int))) else (some (-1))) = some r := H
 have A2 := Aside0.mk A20
 clear A20
 by_cases c3 : t683 = true
 · subst c3
   have H1 : ((impl_Gaps.f k l0_0).bind fun t684 => (some (t684.length : Int))) = some r := by rw [if_pos rfl] at H; exact H
   clear H
   have H := H1
   clear H1
   replace H := Option.bind_eq_some_iff.mp H
   obtain ⟨t684, A40, H⟩ := H
   replace H : (some (t684.length : Int)) = some r := H
   have A4 := Aside0.mk A40
   clear A40
   obtain rfl := Option.some.inj H
   go_enter Try.func72, Try.ntmps72
   go_wp2_with (first | ((with_reducible refine gate_dst (N := 1) rfl ?_); refine box_event ?hg (N := 1) ?hd (cs := #[.slice A0_0 l0_0.length c0_0]) (t := 27) ?hr ?_; (case hd => rfl); (case hg => rfl); (case hr => first | (go_simp; done) | (go_simp; rfl)); intro gb682 hg w5 hbox hb; have n0_ := Aside0.mk (below_step (bl_ HB.out) hb); have n1_ := Aside0.mk (hbox); have n2_ := Aside0.mk ((by rw [hg]; exact (below_size (bl_ HB.out)) : w.heap.size ≤ gb682)); have n3_ := Aside0.mk ((by rw [hg]; exact (below_size (bl_ HB.out)) : w.heap.size ≤ gb682)); clear HB; have HB := n0_; have BK682 := n1_; have GW682 := n2_; have GE682 := n3_; clear n0_ n1_ n2_ n3_; clear hb hbox hg; have hcz6_0 : w5.cell? ⟨gb682, 0, none⟩ = some (.slice A0_0 l0_0.length c0_0) := (blk_cell BK682.out 0).trans rfl; have hfz6_0 := blk_frozen BK682.out 0) | ((with_reducible refine gate_callee (f := 56) rfl ?_); refine goesL_ (some 4) rfl rfl Try.func56 (by kernel_rfl) rfl #[.agg #[.slice A0_0 l0_0.length c0_0]] rfl (by (try simp only [List.map_toArray, List.map_cons, List.map_nil]); first | done | rfl | (simp only [List.length_drop, List.length_take]; rfl)) ?_; (with_reducible refine (impl_IsSemigroup.calls k _ _ l0_0 true _ ?side1 ?side2 A2.out).mono ?_); (case side1 => exact ce_ ((Kd.C_below HR0_0.out HB.out))); (case side2 => exact HC0_0.out); rintro e w7 ⟨rfl, hb⟩; refine ⟨_, rfl, ?_⟩; have n0_ := Aside0.mk (blk_below (g := gb682) (o := .cells #[.slice A0_0 l0_0.length c0_0] 27 (0, 0)) (be_ BK682.out) hb); have n1_ := Aside0.mk (below_step (by repeat (first | (with_reducible first | exact HB.out | apply below_alloc | apply pw_below_drewN | apply below_drew1 | refine below_set ?_ GE682.out) | exact HB.out)) hb); clear BK682; clear HB; have BK682 := n0_; have HB := n1_; clear n0_ n1_; (try clear hb); (try clear hb2); (try clear hk); (try clear hi); have hcz8_0 : w7.cell? ⟨gb682, 0, none⟩ = some (.slice A0_0 l0_0.length c0_0) := (blk_cell BK682.out 0).trans rfl; have hfz8_0 := blk_frozen BK682.out 0) | ((with_reducible refine gate_callee (f := 105) rfl ?_); refine goesL_ (some 7) rfl rfl Try.func105 (by kernel_rfl) rfl #[.agg #[.slice A0_0 l0_0.length c0_0]] rfl (by (try simp only [List.map_toArray, List.map_cons, List.map_nil]); first | done | rfl | (simp only [List.length_drop, List.length_take]; rfl)) ?_; (with_reducible refine (impl_Gaps.calls k _ _ l0_0 t684 _ ?side1 ?side2 A4.out).mono ?_); (case side1 => exact ce_ ((Kd.C_below HR0_0.out HB.out))); (case side2 => exact HC0_0.out); rintro e w9 ⟨v685, rfl, ho0, hb⟩; refine ⟨_, rfl, ?_⟩; have n0_ := Aside0.mk (Kd.R_lower ho0 (below_size (by repeat (first | (with_reducible first | exact HB.out | apply below_alloc | apply pw_below_drewN | apply below_drew1 | refine below_set ?_ GE682.out) | exact HB.out)))); have n1_ := Aside0.mk (blk_below (g := gb682) (o := .cells #[.slice A0_0 l0_0.length c0_0] 27 (0, 0)) (be_ BK682.out) hb); have n2_ := Aside0.mk (below_step (by repeat (first | (with_reducible first | exact HB.out | apply below_alloc | apply pw_below_drewN | apply below_drew1 | refine below_set ?_ GE682.out) | exact HB.out)) hb); clear BK682; clear HB; have HO686 := n0_; have BK682 := n1_; have HB := n2_; clear n0_ n1_ n2_; (try clear hb); (try clear hb2); (try clear hk); (try clear hi); (try clear ho0); obtain ⟨Ao10, co10, eo10⟩ := Kd.R_slice HO686.out; subst eo10))
   go_ret
   exact ⟨by first | rfl | (simp [errW_none, errW_some] <;> rfl) | (simp [*, errW_none, errW_some] <;> rfl), by repeat (first | (with_reducible first | exact HB.out | apply below_alloc | apply pw_below_drewN | apply below_drew1 | refine below_set ?_ GE682.out) | exact HB.out)⟩
 · replace c3 := Bool.eq_false_iff.mpr c3
   subst c3
   have H1 : (some (-1)) = some r := by rw [if_neg (show ¬ (false = true) by decide)] at H; exact H
   clear H
   have H := H1
   clear H1
   obtain rfl := Option.some.inj H
   go_enter Try.func72, Try.ntmps72
   go_wp2_with (first | ((with_reducible refine gate_dst (N := 1) rfl ?_); refine box_event ?hg (N := 1) ?hd (cs := #[.slice A0_0 l0_0.length c0_0]) (t := 27) ?hr ?_; (case hd => rfl); (case hg => rfl); (case hr => first | (go_simp; done) | (go_simp; rfl)); intro gb682 hg w11 hbox hb; have n0_ := Aside0.mk (below_step (bl_ HB.out) hb); have n1_ := Aside0.mk (hbox); have n2_ := Aside0.mk ((by rw [hg]; exact (below_size (bl_ HB.out)) : w.heap.size ≤ gb682)); have n3_ := Aside0.mk ((by rw [hg]; exact (below_size (bl_ HB.out)) : w.heap.size ≤ gb682)); clear HB; have HB := n0_; have BK682 := n1_; have GW682 := n2_; have GE682 := n3_; clear n0_ n1_ n2_ n3_; clear hb hbox hg; have hcz12_0 : w11.cell? ⟨gb682, 0, none⟩ = some (.slice A0_0 l0_0.length c0_0) := (blk_cell BK682.out 0).trans rfl; have hfz12_0 := blk_frozen BK682.out 0) | ((with_reducible refine gate_callee (f := 56) rfl ?_); refine goesL_ (some 4) rfl rfl Try.func56 (by kernel_rfl) rfl #[.agg #[.slice A0_0 l0_0.length c0_0]] rfl (by (try simp only [List.map_toArray, List.map_cons, List.map_nil]); first | done | rfl | (simp only [List.length_drop, List.length_take]; rfl)) ?_; (with_reducible refine (impl_IsSemigroup.calls k _ _ l0_0 false _ ?side1 ?side2 A2.out).mono ?_); (case side1 => exact ce_ ((Kd.C_below HR0_0.out HB.out))); (case side2 => exact HC0_0.out); rintro e w13 ⟨rfl, hb⟩; refine ⟨_, rfl, ?_⟩; have n0_ := Aside0.mk (blk_below (g := gb682) (o := .cells #[.slice A0_0 l0_0.length c0_0] 27 (0, 0)) (be_ BK682.out) hb); have n1_ := Aside0.mk (below_step (by repeat (first | (with_reducible first | exact HB.out | apply below_alloc | apply pw_below_drewN | apply below_drew1 | refine below_set ?_ GE682.out) | exact HB.out)) hb); clear BK682; clear HB; have BK682 := n0_; have HB := n1_; clear n0_ n1_; (try clear hb); (try clear hb2); (try clear hk); (try clear hi)))
   go_ret
   exact ⟨by first | rfl | (simp [errW_none, errW_some] <;> rfl) | (simp [*, errW_none, errW_some] <;> rfl), by repeat (first | (with_reducible first | exact HB.out | apply below_alloc | apply pw_below_drewN | apply below_drew1 | refine below_set ?_ GE682.out) | exact HB.out)⟩
end Go.Proofs.Ytapdhljbhekcdaa.PB
end
section
namespace Go.Proofs.Ytapdhljbhekcdaa.PB
open Go.RowKit Go.Proofs.YtapdhljbhekcdaaW.PrintWords Go.Proofs.YtapdhljbhekcdaaW.PrintLast Go.Proofs.YtapdhljbhekcdaaW.PrintMore
set_option linter.unusedVariables false
set_option linter.unusedSimpArgs false
def impl_LinearBound.f (k : Nat) (l0_0 : List Int) (a1 : Int) : Option (Int) := (impl_IsSemigroup.f k l0_0).bind fun t688 => (if t688 = true then ((impl_within.f a1 0 500).bind fun t689 => (if t689 = true then ((impl_GenusOf.f k l0_0).bind fun t690 => (some (mx 0 (wrap64 ((wrap64 (a1 + 1)) - (wrap64 (2 * t690))))))) else (some 0))) else (some 0))
set_option maxHeartbeats 8000000 in
set_option maxRecDepth 100000 in
theorem impl_LinearBound.calls (k : Nat) (A0_0 : Option Addr) (c0_0 : Nat) (l0_0 : List Int) (a1 : Int) (r : Int) (w : World) (hr0_0 : Kd.C (Kd.int .i64) w A0_0 l0_0.length l0_0) (hc0_0 : l0_0.length ≤ c0_0) (h : impl_LinearBound.f k l0_0 a1 = some r) :
 Calls Try.prog 40 #[.agg #[.slice A0_0 l0_0.length c0_0], .int .i64 a1] w fun e w' => e = .returned (.int .i64 r) ∧ Below w.heap.size w w' := by
 have hu27 := Try.underlying27
 have HR0_0 := Aside0.mk hr0_0
 have HC0_0 := Aside0.mk hc0_0
 clear hr0_0 hc0_0
 have HB := Aside0.mk (Below.refl w.heap.size w)
 have H : ((impl_IsSemigroup.f k l0_0).bind fun t688 => (if t688 = true then ((impl_within.f a1 0 500).bind fun t689 => (if t689 = true then ((impl_GenusOf.f k l0_0).bind fun t690 => (some (mx 0 (wrap64 ((wrap64 (a1 + 1)) - (wrap64 (2 * t690))))))) else (some 0))) else (some 0))) = some r := h
 clear h
 replace H := Option.bind_eq_some_iff.mp H
 obtain ⟨t688, A30, H⟩ := H
 replace H : (if t688 = true then ((impl_within.f a1 0 500).bind fun t689 => (if t689 = true then ((impl_GenusOf.f k l0_0).bind fun t690 => (some (mx 0 (wrap64 ((wrap64 (a1 + 1)) - (wrap64 (2 * t690))))))) else (some 0))) else (some 0)) = some r := H
 have A3 := Aside0.mk A30
 clear A30
 by_cases c4 : t688 = true
 · subst c4
   have H1 : ((impl_within.f a1 0 500).bind fun t689 => (if t689 = true then ((impl_GenusOf.f k l0_0).bind fun t690 => (some (mx 0 (wrap64 ((wrap64 (a1 + 1)) - (wrap64 (2 * t690))))))) else (some 0))) = some r := by rw [if_pos rfl] at H; exact H
   clear H
   have H := H1
   clear H1
   replace H := Option.bind_eq_some_iff.mp H
   obtain ⟨t689, A50, H⟩ := H
   replace H : (if t689 = true then ((impl_GenusOf.f k l0_0).bind fun t690 => (some (mx 0 (wrap64 ((wrap64 (a1 + 1)) - (wrap64 (2 * t690))))))) else (some 0)) = some r := H
   have A5 := Aside0.mk A50
   clear A50
   by_cases c6 : t689 = true
   · subst c6
     have H1 : ((impl_GenusOf.f k l0_0).bind fun t690 => (some (mx 0 (wrap64 ((wrap64 (a1 + 1)) - (wrap64 (2 * t690))))))) = some r := by rw [if_pos rfl] at H; exact H
     clear H
     have H := H1
     clear H1
     replace H := Option.bind_eq_some_iff.mp H
     obtain ⟨t690, A70, H⟩ := H
     replace H : (some (mx 0 (wrap64 ((wrap64 (a1 + 1)) - (wrap64 (2 * t690)))))) = some r := H
     have A7 := Aside0.mk A70
     clear A70
     obtain ⟨ji8, hji8⟩ : ∃ j_ : Int, (mx 0 (wrap64 ((wrap64 (a1 + 1)) - (wrap64 (2 * t690))))) = j_ := ⟨_, rfl⟩
     replace H : (some ji8) = some r := by first | (rw [hji8] at H; exact H) | (simp only [hji8] at H ⊢; exact H)
     (try rw [hji8] at A3)
     (try rw [hji8] at A5)
     (try rw [hji8] at A7)
     (try (have hji8l : 0 ≤ ji8 := by (rw [← hji8]; unfold mx; (repeat' split) <;> omega)))
     (try (have hji8m : 0 ≤ ji8 := by omega))
     have hji8_ : (if 0 < (wrap64 ((wrap64 (a1 + 1)) - (wrap64 (2 * t690)))) then (wrap64 ((wrap64 (a1 + 1)) - (wrap64 (2 * t690)))) else 0) = ji8 := hji8
     obtain rfl := Option.some.inj H
     go_enter Try.func40, Try.ntmps40
     go_wp2_with (first | ((with_reducible refine gate_dst (N := 2) rfl ?_); refine box_event ?hg (N := 2) ?hd (cs := #[.slice A0_0 l0_0.length c0_0]) (t := 27) ?hr ?_; (case hd => rfl); (case hg => rfl); (case hr => first | (go_simp; done) | (go_simp; rfl)); intro gb687 hg w9 hbox hb; have n0_ := Aside0.mk (below_step (bl_ HB.out) hb); have n1_ := Aside0.mk (hbox); have n2_ := Aside0.mk ((by rw [hg]; exact (below_size (bl_ HB.out)) : w.heap.size ≤ gb687)); have n3_ := Aside0.mk ((by rw [hg]; exact (below_size (bl_ HB.out)) : w.heap.size ≤ gb687)); clear HB; have HB := n0_; have BK687 := n1_; have GW687 := n2_; have GE687 := n3_; clear n0_ n1_ n2_ n3_; clear hb hbox hg; have hcz10_0 : w9.cell? ⟨gb687, 0, none⟩ = some (.slice A0_0 l0_0.length c0_0) := (blk_cell BK687.out 0).trans rfl; have hfz10_0 := blk_frozen BK687.out 0) | ((with_reducible refine gate_callee (f := 56) rfl ?_); refine goesL_ (some 6) rfl rfl Try.func56 (by kernel_rfl) rfl #[.agg #[.slice A0_0 l0_0.length c0_0]] rfl (by (try simp only [List.map_toArray, List.map_cons, List.map_nil]); first | done | rfl | (simp only [List.length_drop, List.length_take]; rfl)) ?_; (with_reducible refine (impl_IsSemigroup.calls k _ _ l0_0 true _ ?side1 ?side2 A3.out).mono ?_); (case side1 => exact ce_ ((Kd.C_below HR0_0.out HB.out))); (case side2 => exact HC0_0.out); rintro e w11 ⟨rfl, hb⟩; refine ⟨_, rfl, ?_⟩; have n0_ := Aside0.mk (blk_below (g := gb687) (o := .cells #[.slice A0_0 l0_0.length c0_0] 27 (0, 0)) (be_ BK687.out) hb); have n1_ := Aside0.mk (below_step (by repeat (first | (with_reducible first | exact HB.out | apply below_alloc | apply pw_below_drewN | apply below_drew1 | refine below_set ?_ GE687.out) | exact HB.out)) hb); clear BK687; clear HB; have BK687 := n0_; have HB := n1_; clear n0_ n1_; (try clear hb); (try clear hb2); (try clear hk); (try clear hi)) | (go_at_call 67; (with_reducible refine (impl_within.calls a1 0 500 true _ A5.out).mono ?_); rintro e w' ⟨rfl, ⟨nd, rfl⟩⟩; have hcz12_0 : w11.cell? ⟨gb687, 0, none⟩ = some (.slice A0_0 l0_0.length c0_0) := (blk_cell BK687.out 0).trans rfl; have hfz12_0 := blk_frozen BK687.out 0) | ((with_reducible refine gate_callee (f := 72) rfl ?_); refine goesL_ (some 16) rfl rfl Try.func72 (by kernel_rfl) rfl #[.agg #[.slice A0_0 l0_0.length c0_0]] rfl (by (try simp only [List.map_toArray, List.map_cons, List.map_nil]); first | done | rfl | (simp only [List.length_drop, List.length_take]; rfl)) ?_; (with_reducible refine (impl_GenusOf.calls k _ _ l0_0 t690 _ ?side1 ?side2 A7.out).mono ?_); (case side1 => repeat (first | exact (Kd.C_below HR0_0.out (by repeat (first | (with_reducible first | exact HB.out | apply below_alloc | apply pw_below_drewN | apply below_drew1 | refine below_set ?_ GE687.out) | exact HB.out))) | (with_reducible refine Kd.C_alloc ?_ _) | (with_reducible refine Kd.C_drewN ?_ _) | (with_reducible refine Kd.C_drew ?_))); (case side2 => exact HC0_0.out); rintro e w13 ⟨rfl, hb⟩; refine ⟨_, rfl, ?_⟩; have n0_ := Aside0.mk (blk_below (g := gb687) (o := .cells #[.slice A0_0 l0_0.length c0_0] 27 (0, 0)) (be_ BK687.out) hb); have n1_ := Aside0.mk (below_step (by repeat (first | (with_reducible first | exact HB.out | apply below_alloc | apply pw_below_drewN | apply below_drew1 | refine below_set ?_ GE687.out) | exact HB.out)) hb); clear BK687; clear HB; have BK687 := n0_; have HB := n1_; clear n0_ n1_; (try clear hb); (try clear hb2); (try clear hk); (try clear hi)))
     go_ret
     exact ⟨by first | rfl | (simp [errW_none, errW_some] <;> rfl) | (simp only [← hji8]; first | rfl | (simp [errW_none, errW_some] <;> rfl)) | (simp [*, errW_none, errW_some] <;> rfl), by repeat (first | (with_reducible first | exact HB.out | apply below_alloc | apply pw_below_drewN | apply below_drew1 | refine below_set ?_ GE687.out) | exact HB.out)⟩
   · replace c6 := Bool.eq_false_iff.mpr c6
     subst c6
     have H1 : (some 0) = some r := by rw [if_neg (show ¬ (false = true) by decide)] at H; exact H
     clear H
     have H := H1
     clear H1
     obtain rfl := Option.some.inj H
     go_enter Try.func40, Try.ntmps40
     go_wp2_with (first | ((with_reducible refine gate_dst (N := 2) rfl ?_); refine box_event ?hg (N := 2) ?hd (cs := #[.slice A0_0 l0_0.length c0_0]) (t := 27) ?hr ?_; (case hd => rfl); (case hg => rfl); (case hr => first | (go_simp; done) | (go_simp; rfl)); intro gb687 hg w14 hbox hb; have n0_ := Aside0.mk (below_step (bl_ HB.out) hb); have n1_ := Aside0.mk (hbox); have n2_ := Aside0.mk ((by rw [hg]; exact (below_size (bl_ HB.out)) : w.heap.size ≤ gb687)); have n3_ := Aside0.mk ((by rw [hg]; exact (below_size (bl_ HB.out)) : w.heap.size ≤ gb687)); clear HB; have HB := n0_; have BK687 := n1_; have GW687 := n2_; have GE687 := n3_; clear n0_ n1_ n2_ n3_; clear hb hbox hg; have hcz15_0 : w14.cell? ⟨gb687, 0, none⟩ = some (.slice A0_0 l0_0.length c0_0) := (blk_cell BK687.out 0).trans rfl; have hfz15_0 := blk_frozen BK687.out 0) | ((with_reducible refine gate_callee (f := 56) rfl ?_); refine goesL_ (some 6) rfl rfl Try.func56 (by kernel_rfl) rfl #[.agg #[.slice A0_0 l0_0.length c0_0]] rfl (by (try simp only [List.map_toArray, List.map_cons, List.map_nil]); first | done | rfl | (simp only [List.length_drop, List.length_take]; rfl)) ?_; (with_reducible refine (impl_IsSemigroup.calls k _ _ l0_0 true _ ?side1 ?side2 A3.out).mono ?_); (case side1 => exact ce_ ((Kd.C_below HR0_0.out HB.out))); (case side2 => exact HC0_0.out); rintro e w16 ⟨rfl, hb⟩; refine ⟨_, rfl, ?_⟩; have n0_ := Aside0.mk (blk_below (g := gb687) (o := .cells #[.slice A0_0 l0_0.length c0_0] 27 (0, 0)) (be_ BK687.out) hb); have n1_ := Aside0.mk (below_step (by repeat (first | (with_reducible first | exact HB.out | apply below_alloc | apply pw_below_drewN | apply below_drew1 | refine below_set ?_ GE687.out) | exact HB.out)) hb); clear BK687; clear HB; have BK687 := n0_; have HB := n1_; clear n0_ n1_; (try clear hb); (try clear hb2); (try clear hk); (try clear hi)) | (go_at_call 67; (with_reducible refine (impl_within.calls a1 0 500 false _ A5.out).mono ?_); rintro e w' ⟨rfl, ⟨nd, rfl⟩⟩))
     go_ret
     exact ⟨by first | rfl | (simp [errW_none, errW_some] <;> rfl) | (simp [*, errW_none, errW_some] <;> rfl), by repeat (first | (with_reducible first | exact HB.out | apply below_alloc | apply pw_below_drewN | apply below_drew1 | refine below_set ?_ GE687.out) | exact HB.out)⟩
 · replace c4 := Bool.eq_false_iff.mpr c4
   subst c4
   have H1 : (some 0) = some r := by rw [if_neg (show ¬ (false = true) by decide)] at H; exact H
   clear H
   have H := H1
   clear H1
   obtain rfl := Option.some.inj H
   go_enter Try.func40, Try.ntmps40
   go_wp2_with (first | ((with_reducible refine gate_dst (N := 2) rfl ?_); refine box_event ?hg (N := 2) ?hd (cs := #[.slice A0_0 l0_0.length c0_0]) (t := 27) ?hr ?_; (case hd => rfl); (case hg => rfl); (case hr => first | (go_simp; done) | (go_simp; rfl)); intro gb687 hg w17 hbox hb; have n0_ := Aside0.mk (below_step (bl_ HB.out) hb); have n1_ := Aside0.mk (hbox); have n2_ := Aside0.mk ((by rw [hg]; exact (below_size (bl_ HB.out)) : w.heap.size ≤ gb687)); have n3_ := Aside0.mk ((by rw [hg]; exact (below_size (bl_ HB.out)) : w.heap.size ≤ gb687)); clear HB; have HB := n0_; have BK687 := n1_; have GW687 := n2_; have GE687 := n3_; clear n0_ n1_ n2_ n3_; clear hb hbox hg; have hcz18_0 : w17.cell? ⟨gb687, 0, none⟩ = some (.slice A0_0 l0_0.length c0_0) := (blk_cell BK687.out 0).trans rfl; have hfz18_0 := blk_frozen BK687.out 0) | ((with_reducible refine gate_callee (f := 56) rfl ?_); refine goesL_ (some 6) rfl rfl Try.func56 (by kernel_rfl) rfl #[.agg #[.slice A0_0 l0_0.length c0_0]] rfl (by (try simp only [List.map_toArray, List.map_cons, List.map_nil]); first | done | rfl | (simp only [List.length_drop, List.length_take]; rfl)) ?_; (with_reducible refine (impl_IsSemigroup.calls k _ _ l0_0 false _ ?side1 ?side2 A3.out).mono ?_); (case side1 => exact ce_ ((Kd.C_below HR0_0.out HB.out))); (case side2 => exact HC0_0.out); rintro e w19 ⟨rfl, hb⟩; refine ⟨_, rfl, ?_⟩; have n0_ := Aside0.mk (blk_below (g := gb687) (o := .cells #[.slice A0_0 l0_0.length c0_0] 27 (0, 0)) (be_ BK687.out) hb); have n1_ := Aside0.mk (below_step (by repeat (first | (with_reducible first | exact HB.out | apply below_alloc | apply pw_below_drewN | apply below_drew1 | refine below_set ?_ GE687.out) | exact HB.out)) hb); clear BK687; clear HB; have BK687 := n0_; have HB := n1_; clear n0_ n1_; (try clear hb); (try clear hb2); (try clear hk); (try clear hi)))
   go_ret
   exact ⟨by first | rfl | (simp [errW_none, errW_some] <;> rfl) | (simp [*, errW_none, errW_some] <;> rfl), by repeat (first | (with_reducible first | exact HB.out | apply below_alloc | apply pw_below_drewN | apply below_drew1 | refine below_set ?_ GE687.out) | exact HB.out)⟩
def spec_GenusOf.f (k : Nat) (l0_0 : List Int) : Option (Int) := (spec_IsSemigroup.f k l0_0).bind fun t692 => (if t692 = true then ((spec_l4Gaps.f k l0_0).bind fun t693 => (some (t693.length : Int))) else (some (-1)))
set_option maxHeartbeats 8000000 in
set_option maxRecDepth 100000 in
theorem spec_GenusOf.calls (k : Nat) (A0_0 : Option Addr) (c0_0 : Nat) (l0_0 : List Int) (r : Int) (w : World) (hr0_0 : Kd.C (Kd.int .i64) w A0_0 l0_0.length l0_0) (hc0_0 : l0_0.length ≤ c0_0) (h : spec_GenusOf.f k l0_0 = some r) :
 Calls Try.prog 44 #[.agg #[.slice A0_0 l0_0.length c0_0]] w fun e w' => e = .returned (.int .i64 r) ∧ Below w.heap.size w w' := by
 have hu27 := Try.underlying27
 have HR0_0 := Aside0.mk hr0_0
 have HC0_0 := Aside0.mk hc0_0
 clear hr0_0 hc0_0
 have HB := Aside0.mk (Below.refl w.heap.size w)
 have H : ((spec_IsSemigroup.f k l0_0).bind fun t692 => (if t692 = true then ((spec_l4Gaps.f k l0_0).bind fun t693 => (some (t693.length : Int))) else (some (-1)))) = some r := h
 clear h
 replace H := Option.bind_eq_some_iff.mp H
 obtain ⟨t692, A20, H⟩ := H
 replace H : (if t692 = true then ((spec_l4Gaps.f k l0_0).bind fun t693 => (some (t693.length : Int))) else (some (-1))) = some r := H
 have A2 := Aside0.mk A20
 clear A20
 by_cases c3 : t692 = true
 · subst c3
   have H1 : ((spec_l4Gaps.f k l0_0).bind fun t693 => (some (t693.length : Int))) = some r := by rw [if_pos rfl] at H; exact H
   clear H
   have H := H1
   clear H1
   replace H := Option.bind_eq_some_iff.mp H
   obtain ⟨t693, A40, H⟩ := H
   replace H : (some (t693.length : Int)) = some r := H
   have A4 := Aside0.mk A40
   clear A40
   obtain rfl := Option.some.inj H
   go_enter Try.func44, Try.ntmps44
   go_wp2_with (first | ((with_reducible refine gate_dst (N := 1) rfl ?_); refine box_event ?hg (N := 1) ?hd (cs := #[.slice A0_0 l0_0.length c0_0]) (t := 27) ?hr ?_; (case hd => rfl); (case hg => rfl); (case hr => first | (go_simp; done) | (go_simp; rfl)); intro gb691 hg w5 hbox hb; have n0_ := Aside0.mk (below_step (bl_ HB.out) hb); have n1_ := Aside0.mk (hbox); have n2_ := Aside0.mk ((by rw [hg]; exact (below_size (bl_ HB.out)) : w.heap.size ≤ gb691)); have n3_ := Aside0.mk ((by rw [hg]; exact (below_size (bl_ HB.out)) : w.heap.size ≤ gb691)); clear HB; have HB := n0_; have BK691 := n1_; have GW691 := n2_; have GE691 := n3_; clear n0_ n1_ n2_ n3_; clear hb hbox hg; have hcz6_0 : w5.cell? ⟨gb691, 0, none⟩ = some (.slice A0_0 l0_0.length c0_0) := (blk_cell BK691.out 0).trans rfl; have hfz6_0 := blk_frozen BK691.out 0) | ((with_reducible refine gate_callee (f := 42) rfl ?_); refine goesL_ (some 4) rfl rfl Try.func42 (by kernel_rfl) rfl #[.agg #[.slice A0_0 l0_0.length c0_0]] rfl (by (try simp only [List.map_toArray, List.map_cons, List.map_nil]); first | done | rfl | (simp only [List.length_drop, List.length_take]; rfl)) ?_; (with_reducible refine (spec_IsSemigroup.calls k _ _ l0_0 true _ ?side1 ?side2 A2.out).mono ?_); (case side1 => exact ce_ ((Kd.C_below HR0_0.out HB.out))); (case side2 => exact HC0_0.out); rintro e w7 ⟨rfl, hb⟩; refine ⟨_, rfl, ?_⟩; have n0_ := Aside0.mk (blk_below (g := gb691) (o := .cells #[.slice A0_0 l0_0.length c0_0] 27 (0, 0)) (be_ BK691.out) hb); have n1_ := Aside0.mk (below_step (by repeat (first | (with_reducible first | exact HB.out | apply below_alloc | apply pw_below_drewN | apply below_drew1 | refine below_set ?_ GE691.out) | exact HB.out)) hb); clear BK691; clear HB; have BK691 := n0_; have HB := n1_; clear n0_ n1_; (try clear hb); (try clear hb2); (try clear hk); (try clear hi); have hcz8_0 : w7.cell? ⟨gb691, 0, none⟩ = some (.slice A0_0 l0_0.length c0_0) := (blk_cell BK691.out 0).trans rfl; have hfz8_0 := blk_frozen BK691.out 0) | ((with_reducible refine gate_callee (f := 85) rfl ?_); refine goesL_ (some 7) rfl rfl Try.func85 (by kernel_rfl) rfl #[.agg #[.slice A0_0 l0_0.length c0_0]] rfl (by (try simp only [List.map_toArray, List.map_cons, List.map_nil]); first | done | rfl | (simp only [List.length_drop, List.length_take]; rfl)) ?_; (with_reducible refine (spec_l4Gaps.calls k _ _ l0_0 t693 _ ?side1 ?side2 A4.out).mono ?_); (case side1 => exact ce_ ((Kd.C_below HR0_0.out HB.out))); (case side2 => exact HC0_0.out); rintro e w9 ⟨v694, rfl, ho0, hb⟩; refine ⟨_, rfl, ?_⟩; have n0_ := Aside0.mk (Kd.R_lower ho0 (below_size (by repeat (first | (with_reducible first | exact HB.out | apply below_alloc | apply pw_below_drewN | apply below_drew1 | refine below_set ?_ GE691.out) | exact HB.out)))); have n1_ := Aside0.mk (blk_below (g := gb691) (o := .cells #[.slice A0_0 l0_0.length c0_0] 27 (0, 0)) (be_ BK691.out) hb); have n2_ := Aside0.mk (below_step (by repeat (first | (with_reducible first | exact HB.out | apply below_alloc | apply pw_below_drewN | apply below_drew1 | refine below_set ?_ GE691.out) | exact HB.out)) hb); clear BK691; clear HB; have HO695 := n0_; have BK691 := n1_; have HB := n2_; clear n0_ n1_ n2_; (try clear hb); (try clear hb2); (try clear hk); (try clear hi); (try clear ho0); obtain ⟨Ao10, co10, eo10⟩ := Kd.R_slice HO695.out; subst eo10))
   go_ret
   exact ⟨by first | rfl | (simp [errW_none, errW_some] <;> rfl) | (simp [*, errW_none, errW_some] <;> rfl), by repeat (first | (with_reducible first | exact HB.out | apply below_alloc | apply pw_below_drewN | apply below_drew1 | refine below_set ?_ GE691.out) | exact HB.out)⟩
 · replace c3 := Bool.eq_false_iff.mpr c3
   subst c3
   have H1 : (some (-1)) = some r := by rw [if_neg (show ¬ (false = true) by decide)] at H; exact H
   clear H
   have H := H1
   clear H1
   obtain rfl := Option.some.inj H
   go_enter Try.func44, Try.ntmps44
   go_wp2_with (first | ((with_reducible refine gate_dst (N := 1) rfl ?_); refine box_event ?hg (N := 1) ?hd (cs := #[.slice A0_0 l0_0.length c0_0]) (t := 27) ?hr ?_; (case hd => rfl); (case hg => rfl); (case hr => first | (go_simp; done) | (go_simp; rfl)); intro gb691 hg w11 hbox hb; have n0_ := Aside0.mk (below_step (bl_ HB.out) hb); have n1_ := Aside0.mk (hbox); have n2_ := Aside0.mk ((by rw [hg]; exact (below_size (bl_ HB.out)) : w.heap.size ≤ gb691)); have n3_ := Aside0.mk ((by rw [hg]; exact (below_size (bl_ HB.out)) : w.heap.size ≤ gb691)); clear HB; have HB := n0_; have BK691 := n1_; have GW691 := n2_; have GE691 := n3_; clear n0_ n1_ n2_ n3_; clear hb hbox hg; have hcz12_0 : w11.cell? ⟨gb691, 0, none⟩ = some (.slice A0_0 l0_0.length c0_0) := (blk_cell BK691.out 0).trans rfl; have hfz12_0 := blk_frozen BK691.out 0) | ((with_reducible refine gate_callee (f := 42) rfl ?_); refine goesL_ (some 4) rfl rfl Try.func42 (by kernel_rfl) rfl #[.agg #[.slice A0_0 l0_0.length c0_0]] rfl (by (try simp only [List.map_toArray, List.map_cons, List.map_nil]); first | done | rfl | (simp only [List.length_drop, List.length_take]; rfl)) ?_; (with_reducible refine (spec_IsSemigroup.calls k _ _ l0_0 false _ ?side1 ?side2 A2.out).mono ?_); (case side1 => exact ce_ ((Kd.C_below HR0_0.out HB.out))); (case side2 => exact HC0_0.out); rintro e w13 ⟨rfl, hb⟩; refine ⟨_, rfl, ?_⟩; have n0_ := Aside0.mk (blk_below (g := gb691) (o := .cells #[.slice A0_0 l0_0.length c0_0] 27 (0, 0)) (be_ BK691.out) hb); have n1_ := Aside0.mk (below_step (by repeat (first | (with_reducible first | exact HB.out | apply below_alloc | apply pw_below_drewN | apply below_drew1 | refine below_set ?_ GE691.out) | exact HB.out)) hb); clear BK691; clear HB; have BK691 := n0_; have HB := n1_; clear n0_ n1_; (try clear hb); (try clear hb2); (try clear hk); (try clear hi)))
   go_ret
   exact ⟨by first | rfl | (simp [errW_none, errW_some] <;> rfl) | (simp [*, errW_none, errW_some] <;> rfl), by repeat (first | (with_reducible first | exact HB.out | apply below_alloc | apply pw_below_drewN | apply below_drew1 | refine below_set ?_ GE691.out) | exact HB.out)⟩
def spec_LinearBound.j0 : Nat → Int → Bool → List Int → Option (Int)
 | 0, _, _, _ => none
 | k + 1, x1, x12, x697000 => if x12 = true then (some 0) else ((spec_GenusOf.f k x697000).bind fun t699 => ((spec_l1Max.f 0 (wrap64 ((wrap64 (x1 + 1)) - (wrap64 (2 * t699))))).bind fun t700 => (some t700)))
def spec_LinearBound.f (k : Nat) (l0_0 : List Int) (a1 : Int) : Option (Int) := (spec_IsSemigroup.f k l0_0).bind fun t697 => (if t697 = true then ((spec_l1In.f a1 0 500).bind fun t698 => (spec_LinearBound.j0 k a1 (!t698) l0_0)) else (spec_LinearBound.j0 k a1 true l0_0))
set_option maxHeartbeats 8000000 in
set_option maxRecDepth 100000 in
theorem spec_LinearBound.calls (k : Nat) (A0_0 : Option Addr) (c0_0 : Nat) (l0_0 : List Int) (a1 : Int) (r : Int) (w : World) (hr0_0 : Kd.C (Kd.int .i64) w A0_0 l0_0.length l0_0) (hc0_0 : l0_0.length ≤ c0_0) (h : spec_LinearBound.f k l0_0 a1 = some r) :
 Calls Try.prog 41 #[.agg #[.slice A0_0 l0_0.length c0_0], .int .i64 a1] w fun e w' => e = .returned (.int .i64 r) ∧ Below w.heap.size w w' := by
 have hu27 := Try.underlying27
 have HR0_0 := Aside0.mk hr0_0
 have HC0_0 := Aside0.mk hc0_0
 clear hr0_0 hc0_0
 have HB := Aside0.mk (Below.refl w.heap.size w)
 have H : ((spec_IsSemigroup.f k l0_0).bind fun t697 => (if t697 = true then ((spec_l1In.f a1 0 500).bind fun t698 => (spec_LinearBound.j0 k a1 (!t698) l0_0)) else (spec_LinearBound.j0 k a1 true l0_0))) = some r := h
 clear h
 have HC3 := Aside0.mk H
 clear H
 go_enter Try.func41, Try.ntmps41
 go_upto_region 1 with (first | ((with_reducible refine gate_dst (N := 2) rfl ?_); refine box_event ?hg (N := 2) ?hd (cs := #[.slice A0_0 l0_0.length c0_0]) (t := 27) ?hr ?_; (case hd => rfl); (case hg => rfl); (case hr => first | (go_simp; done) | (go_simp; rfl)); intro gb696 hg w4 hbox hb; have n0_ := Aside0.mk (below_step (bl_ HB.out) hb); have n1_ := Aside0.mk (hbox); have n2_ := Aside0.mk ((by rw [hg]; exact (below_size (bl_ HB.out)) : w.heap.size ≤ gb696)); have n3_ := Aside0.mk ((by rw [hg]; exact (below_size (bl_ HB.out)) : w.heap.size ≤ gb696)); clear HB; have HB := n0_; have BK696 := n1_; have GW696 := n2_; have GE696 := n3_; clear n0_ n1_ n2_ n3_; clear hb hbox hg))
 (try simp only [Act.put, z1_, z2_, z3_])
 go_cut [12] (fun v12 wc => ∃ (kq : Nat) (x12_2 : Bool), v12 = .bool x12_2 ∧ Aside0 (spec_LinearBound.j0 kq a1 x12_2 l0_0 = some r) ∧ Aside0 (kq ≤ k) ∧ Aside0 (wc.heap[gb696]? = some (.cells #[(.slice A0_0 l0_0.length c0_0)] 27 (0, 0))) ∧ Aside0 (Below w.heap.size w wc))
 case first =>
  have H := HC3.out
  clear HC3
  replace H := Option.bind_eq_some_iff.mp H
  obtain ⟨t697, A50, H⟩ := H
  replace H : (if t697 = true then ((spec_l1In.f a1 0 500).bind fun t698 => (spec_LinearBound.j0 k a1 (!t698) l0_0)) else (spec_LinearBound.j0 k a1 true l0_0)) = some r := H
  have A5 := Aside0.mk A50
  clear A50
  by_cases c6 : t697 = true
  · subst c6
    have H1 : ((spec_l1In.f a1 0 500).bind fun t698 => (spec_LinearBound.j0 k a1 (!t698) l0_0)) = some r := by rw [if_pos rfl] at H; exact H
    clear H
    have H := H1
    clear H1
    replace H := Option.bind_eq_some_iff.mp H
    obtain ⟨t698, A70, H⟩ := H
    replace H : (spec_LinearBound.j0 k a1 (!t698) l0_0) = some r := H
    have A7 := Aside0.mk A70
    clear A70
    have H' := Aside0.mk H
    clear H
    have hcz8_0 : w4.cell? ⟨gb696, 0, none⟩ = some (.slice A0_0 l0_0.length c0_0) := (blk_cell BK696.out 0).trans rfl
    have hfz8_0 := blk_frozen BK696.out 0
    go_wp2_with (first | ((with_reducible refine gate_callee (f := 42) rfl ?_); refine goesL_ (some 6) rfl rfl Try.func42 (by kernel_rfl) rfl #[.agg #[.slice A0_0 l0_0.length c0_0]] rfl (by (try simp only [List.map_toArray, List.map_cons, List.map_nil]); first | done | rfl | (simp only [List.length_drop, List.length_take]; rfl)) ?_; (with_reducible refine (spec_IsSemigroup.calls k _ _ l0_0 true _ ?side1 ?side2 A5.out).mono ?_); (case side1 => exact ce_ ((Kd.C_below HR0_0.out HB.out))); (case side2 => exact HC0_0.out); rintro e w9 ⟨rfl, hb⟩; refine ⟨_, rfl, ?_⟩; have n0_ := Aside0.mk (blk_below (g := gb696) (o := .cells #[.slice A0_0 l0_0.length c0_0] 27 (0, 0)) (be_ BK696.out) hb); have n1_ := Aside0.mk (below_step (by repeat (first | (with_reducible first | exact HB.out | apply below_alloc | apply pw_below_drewN | apply below_drew1 | refine below_set ?_ GE696.out) | exact HB.out)) hb); clear BK696; clear HB; have BK696 := n0_; have HB := n1_; clear n0_ n1_; (try clear hb); (try clear hb2); (try clear hk); (try clear hi)) | (go_at_call 62; (with_reducible refine (spec_l1In.calls a1 0 500 t698 _ A7.out).mono ?_); rintro e w' ⟨rfl, ⟨nd, rfl⟩⟩))
    go_meet
    case rel => exact ⟨_, (!t698), (by first | rfl | (simp; done) | (simp [*]; done)), H', ⟨by first | omega | exact Nat.le_refl _⟩, ⟨be_ BK696.out⟩, ⟨by repeat (first | (with_reducible first | exact HB.out | apply below_alloc | apply pw_below_drewN | apply below_drew1 | refine below_set ?_ GE696.out) | exact HB.out)⟩⟩
  · replace c6 := Bool.eq_false_iff.mpr c6
    subst c6
    have H1 : (spec_LinearBound.j0 k a1 true l0_0) = some r := by rw [if_neg (show ¬ (false = true) by decide)] at H; exact H
    clear H
    have H := H1
    clear H1
    have H' := Aside0.mk H
    clear H
    have hcz10_0 : w4.cell? ⟨gb696, 0, none⟩ = some (.slice A0_0 l0_0.length c0_0) := (blk_cell BK696.out 0).trans rfl
    have hfz10_0 := blk_frozen BK696.out 0
    go_wp2_with (first | ((with_reducible refine gate_callee (f := 42) rfl ?_); refine goesL_ (some 6) rfl rfl Try.func42 (by kernel_rfl) rfl #[.agg #[.slice A0_0 l0_0.length c0_0]] rfl (by (try simp only [List.map_toArray, List.map_cons, List.map_nil]); first | done | rfl | (simp only [List.length_drop, List.length_take]; rfl)) ?_; (with_reducible refine (spec_IsSemigroup.calls k _ _ l0_0 false _ ?side1 ?side2 A5.out).mono ?_); (case side1 => exact ce_ ((Kd.C_below HR0_0.out HB.out))); (case side2 => exact HC0_0.out); rintro e w11 ⟨rfl, hb⟩; refine ⟨_, rfl, ?_⟩; have n0_ := Aside0.mk (blk_below (g := gb696) (o := .cells #[.slice A0_0 l0_0.length c0_0] 27 (0, 0)) (be_ BK696.out) hb); have n1_ := Aside0.mk (below_step (by repeat (first | (with_reducible first | exact HB.out | apply below_alloc | apply pw_below_drewN | apply below_drew1 | refine below_set ?_ GE696.out) | exact HB.out)) hb); clear BK696; clear HB; have BK696 := n0_; have HB := n1_; clear n0_ n1_; (try clear hb); (try clear hb2); (try clear hk); (try clear hi)))
    go_meet
    case rel => exact ⟨_, (true), (by first | rfl | (simp; done) | (simp [*]; done)), H', ⟨by first | omega | exact Nat.le_refl _⟩, ⟨be_ BK696.out⟩, ⟨by repeat (first | (with_reducible first | exact HB.out | apply below_alloc | apply pw_below_drewN | apply below_drew1 | refine below_set ?_ GE696.out) | exact HB.out)⟩⟩
 case rest =>
  clear HC3
  try clear p2
  try clear c4
  try clear c6
  try clear hcz10_0
  try clear hcz8_0
  try clear hfz10_0
  try clear hfz8_0
  obtain ⟨kq, x12_2, rfl, HA, HJ2, BK696, HB⟩ := hcut
  cases kq with
  | zero => exact absurd HA.out (by simp [spec_LinearBound.j0])
  | succ kj2 =>
   have H := HA.out
   clear HA
   simp only [spec_LinearBound.j0] at H
   by_cases c12 : x12_2 = true
   · subst c12
     have H1 : (some 0) = some r := by rw [if_pos rfl] at H; exact H
     clear H
     have H := H1
     clear H1
     obtain rfl := Option.some.inj H
     go_wp2
     go_ret
     exact ⟨by first | rfl | (simp [errW_none, errW_some] <;> rfl) | (simp [*, errW_none, errW_some] <;> rfl), by repeat (first | (with_reducible first | exact HB.out | apply below_alloc | apply pw_below_drewN | apply below_drew1 | refine below_set ?_ GE696.out) | exact HB.out)⟩
   · replace c12 := Bool.eq_false_iff.mpr c12
     subst c12
     have H1 : ((spec_GenusOf.f kj2 l0_0).bind fun t699 => ((spec_l1Max.f 0 (wrap64 ((wrap64 (a1 + 1)) - (wrap64 (2 * t699))))).bind fun t700 => (some t700))) = some r := by rw [if_neg (show ¬ (false = true) by decide)] at H; exact H
     clear H
     have H := H1
     clear H1
     replace H := Option.bind_eq_some_iff.mp H
     obtain ⟨t699, A130, H⟩ := H
     replace H : ((spec_l1Max.f 0 (wrap64 ((wrap64 (a1 + 1)) - (wrap64 (2 * t699))))).bind fun t700 => (some t700)) = some r := H
     have A13 := Aside0.mk A130
     clear A130
     replace H := Option.bind_eq_some_iff.mp H
     obtain ⟨t700, A140, H⟩ := H
     replace H : (some t700) = some r := H
     have A14 := Aside0.mk A140
     clear A140
     obtain rfl := Option.some.inj H
     have hcz15_0 : wc.cell? ⟨gb696, 0, none⟩ = some (.slice A0_0 l0_0.length c0_0) := (blk_cell BK696.out 0).trans rfl
     have hfz15_0 := blk_frozen BK696.out 0
     go_wp2_with (first | ((with_reducible refine gate_callee (f := 44) rfl ?_); refine goesL_ (some 16) rfl rfl Try.func44 (by kernel_rfl) rfl #[.agg #[.slice A0_0 l0_0.length c0_0]] rfl (by (try simp only [List.map_toArray, List.map_cons, List.map_nil]); first | done | rfl | (simp only [List.length_drop, List.length_take]; rfl)) ?_; (with_reducible refine (spec_GenusOf.calls kj2 _ _ l0_0 t699 _ ?side1 ?side2 A13.out).mono ?_); (case side1 => exact ce_ ((Kd.C_below HR0_0.out HB.out))); (case side2 => exact HC0_0.out); rintro e w16 ⟨rfl, hb⟩; refine ⟨_, rfl, ?_⟩; have n0_ := Aside0.mk (blk_below (g := gb696) (o := .cells #[.slice A0_0 l0_0.length c0_0] 27 (0, 0)) (be_ BK696.out) hb); have n1_ := Aside0.mk (below_step (by repeat (first | (with_reducible first | exact HB.out | apply below_alloc | apply pw_below_drewN | apply below_drew1 | refine below_set ?_ GE696.out) | exact HB.out)) hb); clear BK696; clear HB; have BK696 := n0_; have HB := n1_; clear n0_ n1_; (try clear hb); (try clear hb2); (try clear hk); (try clear hi)) | ((with_reducible refine gate_callee (f := 63) rfl ?_); refine goesL_ (some 19) rfl rfl Try.func63 (by kernel_rfl) rfl #[.int .i64 0, .int .i64 (wrap64 ((wrap64 (a1 + 1)) - (wrap64 (2 * t699))))] rfl (by (try simp only [List.map_toArray, List.map_cons, List.map_nil]); first | done | rfl | (simp only [List.length_drop, List.length_take]; rfl)) ?_; (with_reducible refine (spec_l1Max.calls 0 (wrap64 ((wrap64 (a1 + 1)) - (wrap64 (2 * t699)))) t700 _ A14.out).mono ?_); rintro e w' ⟨rfl, ⟨nd, rfl⟩⟩; refine ⟨_, rfl, ?_⟩))
     go_ret
     exact ⟨by first | rfl | (simp [errW_none, errW_some] <;> rfl) | (simp [*, errW_none, errW_some] <;> rfl), by repeat (first | (with_reducible first | exact HB.out | apply below_alloc | apply pw_below_drewN | apply below_drew1 | refine below_set ?_ GE696.out) | exact HB.out)⟩
end Go.Proofs.Ytapdhljbhekcdaa.PB
end
