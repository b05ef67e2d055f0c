-- Bundled by shake.py from this session's printed and written texts; Lean checks it.
import Derived.Test.YtapdhljbhekcdaaZFnBoundsx1
import Derived.Test.YtapdhljbhekcdaaZFnBoundsx10
import Derived.Test.YtapdhljbhekcdaaZFnBoundsx4
import Derived.Test.YtapdhljbhekcdaaZFnBoundsx5
import Derived.Test.YtapdhljbhekcdaaZFnBoundsx7
import Derived.Test.YtapdhljbhekcdaaZFnBoundsx9
section
namespace Go.Proofs.Ytapdhljbhekcdaa.PB
open Go.RowKit Go.Proofs.YtapdhljbhekcdaaW.PrintWords Go.Proofs.YtapdhljbhekcdaaW.PrintLast Go.Proofs.YtapdhljbhekcdaaW.PrintMore
set_option linter.unusedVariables false
set_option linter.unusedSimpArgs false
mutual
def laws_FnBounds.j0 : Nat → Int → Int → Bool → List Int → Option (Bool)
 | 0, _, _, _, _ => none
 | k + 1, x4, x5, x55, x707000 => if x55 = true then (some false) else ((spec_IsSemigroup.f k x707000).bind fun t723 => (if t723 = true then (if x4 < 0 then (laws_FnBounds.j1 k x4 x5 true x707000) else (laws_FnBounds.j1 k x4 x5 (decide (x4 > 499)) x707000)) else (laws_FnBounds.j1 k x4 x5 true x707000)))
def laws_FnBounds.j1 : Nat → Int → Int → Bool → List Int → Option (Bool)
 | 0, _, _, _, _ => none
 | k + 1, x4, x5, x66, x707000 => if x66 = true then (some true) else ((spec_ConductorOf.f k x707000).bind fun t724 => ((impl_LinearBound.f k x707000 x4).bind fun t725 => (if x5 ≥ t725 then ((impl_OrderBound.f k x707000 (wrap64 (x4 + 1))).bind fun t726 => (if t726 ≥ x5 then (if x5 ≥ 1 then (if (wrap64 ((wrap64 (2 * t724)) + x4)) > 1000 then ((impl_PairsOf.f k x707000 x4).bind fun t727 => (some (decide (t727 ≥ 0)))) else ((impl_PairsOf.f k x707000 (wrap64 ((wrap64 (2 * t724)) + x4))).bind fun t728 => ((spec_GenusOf.f k x707000).bind fun t729 => (if t728 = (wrap64 ((wrap64 ((wrap64 ((wrap64 (2 * t724)) + x4)) + 1)) - (wrap64 (2 * t729)))) then ((impl_PairsOf.f k x707000 x4).bind fun t730 => (some (decide (t730 ≥ 0)))) else (some false))))) else (some false)) else (some false))) else (some false))))
end
def laws_FnBounds.f (k : Nat) (l0 : List Int) : Option (Bool) := (laws_big.f l0).bind fun t701 => (if t701 = true then (some true) else ((spec_DrawOrderBound.f k l0).bind fun bt702 => ((impl_OrderBound.f k bt702.1 bt702.2).bind fun t707 => ((spec_DrawPairsOf.f k l0).bind fun bt708 => ((impl_PairsOf.f k bt708.1 bt708.2).bind fun t713 => ((spec_DrawLinearBound.f k l0).bind fun bt714 => ((spec_OrderBound.f k bt702.1 bt702.2).bind fun t719 => (if t707 = t719 then ((spec_PairsOf.f k bt708.1 bt708.2).bind fun t720 => (if t713 = t720 then ((impl_LinearBound.f k bt714.1 bt714.2).bind fun t721 => ((spec_LinearBound.f k bt714.1 bt714.2).bind fun t722 => (laws_FnBounds.j0 k bt702.2 t707 (t721 != t722) bt702.1))) else (laws_FnBounds.j0 k bt702.2 t707 true bt702.1))) else (laws_FnBounds.j0 k bt702.2 t707 true bt702.1)))))))))
def laws_FnBounds.T8 : Bool × List (List Nat × List Nat) := (true, [([], []), ([], []), ([], []), ([1, 2], [1, 2]), ([0, 3], [0, 3]), ([4, 3], [4]), ([5], [5]), ([5], [5]), ([5], [5]), ([7, 8, 5, 5], [5, 7, 8]), ([6, 9, 5], [5, 6, 9]), ([5, 10], [5, 10]), ([11, 9], [11]), ([12], [12]), ([12], [12]), ([13, 14, 12, 12], [12, 13, 14]), ([12], [12]), ([12], [12]), ([16, 17, 15, 12], [12, 16, 17]), ([15, 18, 12], [12, 15, 18]), ([12, 19], [12, 19])])
def laws_FnBounds.B8 : List Nat := [0, 0, 0, 6, 15, 31, 63, 63, 63, 447, 1023, 2047, 4095, 8191, 8191, 32767, 8191, 8191, 262143, 524287, 1048575]
theorem laws_FnBounds.tab8 : rtab .any (opsOf Try.f11 8) = laws_FnBounds.T8 := by kernel_rfl
theorem laws_FnBounds.bits8 : waitsOk laws_FnBounds.T8.2 laws_FnBounds.B8 = true := by kernel_rfl
def laws_FnBounds.T13 : Bool × List (List Nat × List Nat) := (true, [([], []), ([], []), ([], []), ([1, 2], [1, 2]), ([0, 3], [0, 3]), ([4, 3], [4]), ([5], [5]), ([5], [5]), ([7, 5], [5, 7]), ([6, 8, 5, 5], [5, 6, 8]), ([5], [5]), ([9, 10, 5], [5, 9, 10]), ([5, 11], [5, 11]), ([12, 9], [12]), ([13], [13]), ([14, 13], [13, 14]), ([13, 15], [13, 15]), ([16, 13], [16]), ([17], [17]), ([18, 17], [17, 18]), ([19, 17, 17], [17, 19]), ([20], [20]), ([20], [20]), ([21, 22, 20, 20], [20, 21, 22]), ([20], [20]), ([24, 20], [20, 24]), ([20], [20]), ([26, 23, 20], [20, 26]), ([27, 20], [20, 27]), ([25, 28, 20], [20, 25, 28]), ([23, 29, 20], [20, 23, 29]), ([20, 30, 17], [17, 20, 30]), ([17, 31], [17, 31]), ([32, 27], [32]), ([33], [33]), ([33], [33]), ([34, 35, 33, 33], [33, 34, 35]), ([36, 33], [33, 36]), ([33, 37], [33, 37]), ([38, 36, 0, 1, 2, 3, 4, 5, 6, 7, 8, 9, 10, 11, 12, 13, 14, 15, 16, 17, 18, 19, 20, 21, 22, 23, 24, 25, 26, 27, 28, 29, 30, 31, 32, 33, 34, 35, 36, 37, 38], [38])])
def laws_FnBounds.B13 : List Nat := [0, 0, 0, 6, 15, 31, 63, 63, 191, 511, 63, 2047, 4095, 8191, 16383, 32767, 65535, 131071, 262143, 524287, 1048575, 2097151, 2097151, 8388607, 2097151, 18874367, 2097151, 83886079, 218103807, 536870911, 1073741823, 2147483647, 4294967295, 8589934591, 17179869183, 17179869183, 68719476735, 137438953471, 274877906943, 549755813887]
theorem laws_FnBounds.tab13 : rtab .any (opsOf Try.f11 13) = laws_FnBounds.T13 := by kernel_rfl
theorem laws_FnBounds.bits13 : waitsOk laws_FnBounds.T13.2 laws_FnBounds.B13 = true := by kernel_rfl
set_option maxHeartbeats 8000000 in
set_option maxRecDepth 100000 in
theorem laws_FnBounds.calls (k : Nat) (A0 : Option Addr) (c0 : Nat) (l0 : List Int) (r : Bool) (w : World) (hr0 : Kd.C (Kd.int .u8) w A0 l0.length l0) (hc0 : l0.length ≤ c0) (h : laws_FnBounds.f k l0 = some r) (hr_ : r = true := by rfl) :
 Calls Try.prog 11 #[.slice A0 l0.length c0] w fun e w' => e = .returned (.bool r) ∧ Below w.heap.size w w' := by
 have hr_ := Aside0.mk hr_
 have hu27 := Try.underlying27
 have HR0 := Aside0.mk hr0
 have HC0 := Aside0.mk hc0
 clear hr0 hc0
 have HB := Aside0.mk (Below.refl w.heap.size w)
 have H : ((laws_big.f l0).bind fun t701 => (if t701 = true then (some true) else ((spec_DrawOrderBound.f k l0).bind fun bt702 => ((impl_OrderBound.f k bt702.1 bt702.2).bind fun t707 => ((spec_DrawPairsOf.f k l0).bind fun bt708 => ((impl_PairsOf.f k bt708.1 bt708.2).bind fun t713 => ((spec_DrawLinearBound.f k l0).bind fun bt714 => ((spec_OrderBound.f k bt702.1 bt702.2).bind fun t719 => (if t707 = t719 then ((spec_PairsOf.f k bt708.1 bt708.2).bind fun t720 => (if t713 = t720 then ((impl_LinearBound.f k bt714.1 bt714.2).bind fun t721 => ((spec_LinearBound.f k bt714.1 bt714.2).bind fun t722 => (laws_FnBounds.j0 k bt702.2 t707 (t721 != t722) bt702.1))) else (laws_FnBounds.j0 k bt702.2 t707 true bt702.1))) else (laws_FnBounds.j0 k bt702.2 t707 true bt702.1)))))))))) = some r := h
 clear h
 replace H := Option.bind_eq_some_iff.mp H
 obtain ⟨t701, A20, H⟩ := H
 replace H : (if t701 = true then (some true) else ((spec_DrawOrderBound.f k l0).bind fun bt702 => ((impl_OrderBound.f k bt702.1 bt702.2).bind fun t707 => ((spec_DrawPairsOf.f k l0).bind fun bt708 => ((impl_PairsOf.f k bt708.1 bt708.2).bind fun t713 => ((spec_DrawLinearBound.f k l0).bind fun bt714 => ((spec_OrderBound.f k bt702.1 bt702.2).bind fun t719 => (if t707 = t719 then ((spec_PairsOf.f k bt708.1 bt708.2).bind fun t720 => (if t713 = t720 then ((impl_LinearBound.f k bt714.1 bt714.2).bind fun t721 => ((spec_LinearBound.f k bt714.1 bt714.2).bind fun t722 => (laws_FnBounds.j0 k bt702.2 t707 (t721 != t722) bt702.1))) else (laws_FnBounds.j0 k bt702.2 t707 true bt702.1))) else (laws_FnBounds.j0 k bt702.2 t707 true bt702.1))))))))) = some r := H
 have A2 := Aside0.mk A20
 clear A20
 by_cases c3 : t701 = true
 · subst c3
   have H1 : (some true) = some r := by rw [if_pos rfl] at H; exact H
   clear H
   have H := H1
   clear H1
   obtain rfl := Option.some.inj H
   go_enter Try.func11, Try.ntmps11
   go_wp2_with (first | ((with_reducible refine gate_callee (f := 34) rfl ?_); refine goesL_ (some 13) rfl rfl Try.func34 (by kernel_rfl) rfl #[.slice A0 l0.length c0] rfl (by (try simp only [List.map_toArray, List.map_cons, List.map_nil]); first | done | rfl | (simp only [List.length_drop, List.length_take]; rfl)) ?_; (with_reducible refine (laws_big.calls _ _ l0 true _ ?side1 ?side2 A2.out).mono ?_); (case side1 => exact ce_ (HR0.out)); (case side2 => exact HC0.out); rintro e w' ⟨rfl, ⟨nd, rfl⟩⟩; refine ⟨_, rfl, ?_⟩))
   go_ret
   exact ⟨by first | rfl | (simp [errW_none, errW_some] <;> rfl) | (simp [*, errW_none, errW_some] <;> rfl), bl_ HB.out⟩
 · replace c3 := Bool.eq_false_iff.mpr c3
   subst c3
   have H1 : ((spec_DrawOrderBound.f k l0).bind fun bt702 => ((impl_OrderBound.f k bt702.1 bt702.2).bind fun t707 => ((spec_DrawPairsOf.f k l0).bind fun bt708 => ((impl_PairsOf.f k bt708.1 bt708.2).bind fun t713 => ((spec_DrawLinearBound.f k l0).bind fun bt714 => ((spec_OrderBound.f k bt702.1 bt702.2).bind fun t719 => (if t707 = t719 then ((spec_PairsOf.f k bt708.1 bt708.2).bind fun t720 => (if t713 = t720 then ((impl_LinearBound.f k bt714.1 bt714.2).bind fun t721 => ((spec_LinearBound.f k bt714.1 bt714.2).bind fun t722 => (laws_FnBounds.j0 k bt702.2 t707 (t721 != t722) bt702.1))) else (laws_FnBounds.j0 k bt702.2 t707 true bt702.1))) else (laws_FnBounds.j0 k bt702.2 t707 true bt702.1)))))))) = some r := by rw [if_neg (show ¬ (false = true) by decide)] at H; exact H
   clear H
   have H := H1
   clear H1
   replace H := Option.bind_eq_some_iff.mp H
   obtain ⟨⟨t702, t705⟩, A40, H⟩ := H
   replace H : ((impl_OrderBound.f k t702 t705).bind fun t707 => ((spec_DrawPairsOf.f k l0).bind fun bt708 => ((impl_PairsOf.f k bt708.1 bt708.2).bind fun t713 => ((spec_DrawLinearBound.f k l0).bind fun bt714 => ((spec_OrderBound.f k t702 t705).bind fun t719 => (if t707 = t719 then ((spec_PairsOf.f k bt708.1 bt708.2).bind fun t720 => (if t713 = t720 then ((impl_LinearBound.f k bt714.1 bt714.2).bind fun t721 => ((spec_LinearBound.f k bt714.1 bt714.2).bind fun t722 => (laws_FnBounds.j0 k t705 t707 (t721 != t722) t702))) else (laws_FnBounds.j0 k t705 t707 true t702))) else (laws_FnBounds.j0 k t705 t707 true t702))))))) = some r := H
   have A4 := Aside0.mk A40
   clear A40
   replace H := Option.bind_eq_some_iff.mp H
   obtain ⟨t707, A50, H⟩ := H
   replace H : ((spec_DrawPairsOf.f k l0).bind fun bt708 => ((impl_PairsOf.f k bt708.1 bt708.2).bind fun t713 => ((spec_DrawLinearBound.f k l0).bind fun bt714 => ((spec_OrderBound.f k t702 t705).bind fun t719 => (if t707 = t719 then ((spec_PairsOf.f k bt708.1 bt708.2).bind fun t720 => (if t713 = t720 then ((impl_LinearBound.f k bt714.1 bt714.2).bind fun t721 => ((spec_LinearBound.f k bt714.1 bt714.2).bind fun t722 => (laws_FnBounds.j0 k t705 t707 (t721 != t722) t702))) else (laws_FnBounds.j0 k t705 t707 true t702))) else (laws_FnBounds.j0 k t705 t707 true t702)))))) = some r := H
   have A5 := Aside0.mk A50
   clear A50
   replace H := Option.bind_eq_some_iff.mp H
   obtain ⟨⟨t708, t711⟩, A60, H⟩ := H
   replace H : ((impl_PairsOf.f k t708 t711).bind fun t713 => ((spec_DrawLinearBound.f k l0).bind fun bt714 => ((spec_OrderBound.f k t702 t705).bind fun t719 => (if t707 = t719 then ((spec_PairsOf.f k t708 t711).bind fun t720 => (if t713 = t720 then ((impl_LinearBound.f k bt714.1 bt714.2).bind fun t721 => ((spec_LinearBound.f k bt714.1 bt714.2).bind fun t722 => (laws_FnBounds.j0 k t705 t707 (t721 != t722) t702))) else (laws_FnBounds.j0 k t705 t707 true t702))) else (laws_FnBounds.j0 k t705 t707 true t702))))) = some r := H
   have A6 := Aside0.mk A60
   clear A60
   replace H := Option.bind_eq_some_iff.mp H
   obtain ⟨t713, A70, H⟩ := H
   replace H : ((spec_DrawLinearBound.f k l0).bind fun bt714 => ((spec_OrderBound.f k t702 t705).bind fun t719 => (if t707 = t719 then ((spec_PairsOf.f k t708 t711).bind fun t720 => (if t713 = t720 then ((impl_LinearBound.f k bt714.1 bt714.2).bind fun t721 => ((spec_LinearBound.f k bt714.1 bt714.2).bind fun t722 => (laws_FnBounds.j0 k t705 t707 (t721 != t722) t702))) else (laws_FnBounds.j0 k t705 t707 true t702))) else (laws_FnBounds.j0 k t705 t707 true t702)))) = some r := H
   have A7 := Aside0.mk A70
   clear A70
   replace H := Option.bind_eq_some_iff.mp H
   obtain ⟨⟨t714, t717⟩, A80, H⟩ := H
   replace H : ((spec_OrderBound.f k t702 t705).bind fun t719 => (if t707 = t719 then ((spec_PairsOf.f k t708 t711).bind fun t720 => (if t713 = t720 then ((impl_LinearBound.f k t714 t717).bind fun t721 => ((spec_LinearBound.f k t714 t717).bind fun t722 => (laws_FnBounds.j0 k t705 t707 (t721 != t722) t702))) else (laws_FnBounds.j0 k t705 t707 true t702))) else (laws_FnBounds.j0 k t705 t707 true t702))) = some r := H
   have A8 := Aside0.mk A80
   clear A80
   have HC9 := Aside0.mk H
   clear H
   go_enter Try.func11, Try.ntmps11
   go_upto_region 8 with (first | ((with_reducible refine gate_callee (f := 34) rfl ?_); refine goesL_ (some 13) rfl rfl Try.func34 (by kernel_rfl) rfl #[.slice A0 l0.length c0] rfl (by (try simp only [List.map_toArray, List.map_cons, List.map_nil]); first | done | rfl | (simp only [List.length_drop, List.length_take]; rfl)) ?_; (with_reducible refine (laws_big.calls _ _ l0 false _ ?side1 ?side2 A2.out).mono ?_); (case side1 => exact ce_ (HR0.out)); (case side2 => exact HC0.out); rintro e w' ⟨rfl, ⟨nd, rfl⟩⟩; refine ⟨_, rfl, ?_⟩) | ((with_reducible refine gate_callee (f := 35) rfl ?_); refine goesL_ (some 16) rfl rfl Try.func35 (by kernel_rfl) rfl #[.slice A0 l0.length c0] rfl (by (try simp only [List.map_toArray, List.map_cons, List.map_nil]); first | done | rfl | (simp only [List.length_drop, List.length_take]; rfl)) ?_; (with_reducible refine (spec_DrawOrderBound.calls k _ _ l0 t702 t705 _ ?side1 ?side2 A4.out).mono ?_); (case side1 => exact ce_ (HR0.out)); (case side2 => exact HC0.out); rintro e w10 ⟨v703, rfl, ho0, hb⟩; refine ⟨_, rfl, ?_⟩; have n0_ := Aside0.mk (Kd.Q_lower ho0 (below_size (bl_ HB.out))); have n1_ := Aside0.mk (below_step (bl_ HB.out) hb); clear HB; have HO704 := n0_; have HB := n1_; clear n0_ n1_; (try clear hb); (try clear hb2); (try clear hk); (try clear hi); (try clear ho0)) | ((with_reducible refine gate_dst (N := 3) rfl ?_); refine box_event ?hg (N := 3) ?hd (cs := #[.slice none 0 0]) (t := 27) ?hr ?_; (case hd => rfl); (case hg => rfl); (case hr => first | (go_simp; done) | (go_simp; rfl)); intro gb706 hg w11 hbox hb; have n0_ := Aside0.mk (Kd.Q_below (by (with_reducible repeat (first | apply Kd.Q_alloc | apply Kd.Q_drewN | apply Kd.Q_drew)); exact HO704.out) hb); have n1_ := Aside0.mk (below_step (bl_ HB.out) hb); have n2_ := Aside0.mk (hbox); have n3_ := Aside0.mk ((by rw [hg]; exact (below_size (bl_ HB.out)) : w.heap.size ≤ gb706)); have n4_ := Aside0.mk ((by rw [hg]; exact (below_size (bl_ HB.out)) : w.heap.size ≤ gb706)); clear HO704; clear HB; have HO704 := n0_; have HB := n1_; have BK706 := n2_; have GW706 := n3_; have GE706 := n4_; clear n0_ n1_ n2_ n3_ n4_; clear hb hbox hg; obtain ⟨Ao12, co12, eo12, _⟩ := Kd.Q_slice HO704.out; subst eo12; have hcz13_0 : w11.cell? ⟨gb706, 0, none⟩ = some (.slice none 0 0) := (blk_cell BK706.out 0).trans rfl; have hfz13_0 := blk_frozen BK706.out 0) | ((with_reducible refine gate_callee (f := 27) rfl ?_); refine goesL_ (some 21) rfl rfl Try.func27 (by kernel_rfl) rfl #[.agg #[.slice Ao12 t702.length co12], .int .i64 t705] rfl (by (try simp only [List.map_toArray, List.map_cons, List.map_nil]); first | done | rfl | (simp only [List.length_drop, List.length_take]; rfl)) ?_; (with_reducible refine (impl_OrderBound.calls k _ _ t702 t705 t707 _ ?side1 ?side2 A5.out).mono ?_); (case side1 => refine (Kd.Q_reads' (e := 3) (base := w.heap.size) (ok := fun k_ => True) (n := t702.length) (c := co12) ?_).2.2; exact (by (with_reducible repeat (first | apply Kd.Q_alloc | apply Kd.Q_drewN | apply Kd.Q_drew)); exact (Kd.Q_mono (Kd.Q_far (p := ⟨gb706, 0, none⟩) (Kd.Q_types HO704.out BK706.out (by decide)) (fun _ hk => hk.2) (.slice Ao12 t702.length co12)) (fun _ h_ => h_.1)))); (case side2 => exact (Kd.Q_reads' HO704.out).2.1); rintro e w14 ⟨rfl, hb⟩; refine ⟨_, rfl, ?_⟩; have n0_ := Aside0.mk (Kd.Q_below (by (with_reducible repeat (first | apply Kd.Q_alloc | apply Kd.Q_drewN | apply Kd.Q_drew)); exact (Kd.Q_mono (Kd.Q_far (p := ⟨gb706, 0, none⟩) (Kd.Q_types HO704.out BK706.out (by decide)) (fun _ hk => hk.2) (.slice Ao12 t702.length co12)) (fun _ h_ => h_.1))) hb); have n1_ := Aside0.mk (blk_below (g := gb706) (o := .cells #[.slice Ao12 t702.length co12] 27 (0, 0)) (by (with_reducible repeat (first | refine blk_drewN ?_ _ | refine blk_drew ?_ | refine blk_alloc ?_ _)); refine blk_put (cs := #[.slice none 0 0]) ?_ 0 _ rfl; (with_reducible repeat (first | refine blk_drewN ?_ _ | refine blk_drew ?_ | refine blk_alloc ?_ _)); exact BK706.out) hb); have n2_ := Aside0.mk (below_step (by repeat (first | (with_reducible first | exact HB.out | apply below_alloc | apply pw_below_drewN | apply below_drew1 | refine below_set ?_ GE706.out) | exact HB.out)) hb); clear HO704; clear BK706; clear HB; have HO704 := n0_; have BK706 := n1_; have HB := n2_; clear n0_ n1_ n2_; (try clear hb); (try clear hb2); (try clear hk); (try clear hi)) | ((with_reducible refine gate_callee (f := 36) rfl ?_); refine goesL_ (some 24) rfl rfl Try.func36 (by kernel_rfl) rfl #[.slice A0 l0.length c0] rfl (by (try simp only [List.map_toArray, List.map_cons, List.map_nil]); first | done | rfl | (simp only [List.length_drop, List.length_take]; rfl)) ?_; (with_reducible refine (spec_DrawPairsOf.calls k _ _ l0 t708 t711 _ ?side1 ?side2 A6.out).mono ?_); (case side1 => exact ce_ ((Kd.C_below HR0.out HB.out))); (case side2 => exact HC0.out); rintro e w15 ⟨v709, rfl, ho0, hb⟩; refine ⟨_, rfl, ?_⟩; have n0_ := Aside0.mk (Kd.Q_elder' (by (with_reducible repeat (first | apply Kd.Q_alloc | apply Kd.Q_drewN | apply Kd.Q_drew)); exact HO704.out) (Kd.Q_base ho0) hb); have n1_ := Aside0.mk (Kd.Q_lower (Kd.Q_new' ho0 (Kd.Q_lt (by (with_reducible repeat (first | apply Kd.Q_alloc | apply Kd.Q_drewN | apply Kd.Q_drew)); exact HO704.out))) (below_size (by repeat (first | (with_reducible first | exact HB.out | apply below_alloc | apply pw_below_drewN | apply below_drew1 | refine below_set ?_ GE706.out) | exact HB.out)))); have n2_ := Aside0.mk (blk_below (g := gb706) (o := .cells #[.slice Ao12 t702.length co12] 27 (0, 0)) (be_ BK706.out) hb); have n3_ := Aside0.mk (below_step (by repeat (first | (with_reducible first | exact HB.out | apply below_alloc | apply pw_below_drewN | apply below_drew1 | refine below_set ?_ GE706.out) | exact HB.out)) hb); clear HO704; clear BK706; clear HB; have HO704 := n0_; have HO710 := n1_; have BK706 := n2_; have HB := n3_; clear n0_ n1_ n2_ n3_; (try clear hb); (try clear hb2); (try clear hk); (try clear hi); (try clear ho0)) | ((with_reducible refine gate_dst (N := 6) rfl ?_); refine box_event ?hg (N := 6) ?hd (cs := #[.slice none 0 0]) (t := 27) ?hr ?_; (case hd => rfl); (case hg => rfl); (case hr => first | (go_simp; done) | (go_simp; rfl)); intro gb712 hg w16 hbox hb; have n0_ := Aside0.mk (Kd.Q_below (by (with_reducible repeat (first | apply Kd.Q_alloc | apply Kd.Q_drewN | apply Kd.Q_drew)); exact HO704.out) hb); have n1_ := Aside0.mk (Kd.Q_below (by (with_reducible repeat (first | apply Kd.Q_alloc | apply Kd.Q_drewN | apply Kd.Q_drew)); exact HO710.out) hb); have n2_ := Aside0.mk (blk_below (g := gb706) (o := .cells #[.slice Ao12 t702.length co12] 27 (0, 0)) (be_ BK706.out) hb); have n3_ := Aside0.mk (below_step (by repeat (first | (with_reducible first | exact HB.out | apply below_alloc | apply pw_below_drewN | apply below_drew1 | refine below_set ?_ GE706.out) | exact HB.out)) hb); have n4_ := Aside0.mk (hbox); have n5_ := Aside0.mk ((by rw [hg]; exact (below_size (by repeat (first | (with_reducible first | exact HB.out | apply below_alloc | apply pw_below_drewN | apply below_drew1 | refine below_set ?_ GE706.out) | exact HB.out))) : w.heap.size ≤ gb712)); have n6_ := Aside0.mk ((by rw [hg]; exact (below_size (by repeat (first | (with_reducible first | exact HB.out | apply below_alloc | apply pw_below_drewN | apply below_drew1 | refine below_set ?_ GE706.out) | exact HB.out))) : w.heap.size ≤ gb712)); have n7_ := Aside0.mk ((by rw [hg]; exact Nat.ne_of_lt (blk_lt (g := gb706) (o := .cells #[.slice Ao12 t702.length co12] 27 (0, 0)) (be_ BK706.out)) : gb706 ≠ gb712)); have n8_ := Aside0.mk ((by rw [hg]; exact Nat.ne_of_gt (blk_lt (g := gb706) (o := .cells #[.slice Ao12 t702.length co12] 27 (0, 0)) (be_ BK706.out)) : gb712 ≠ gb706)); clear HO704; clear HO710; clear BK706; clear HB; have HO704 := n0_; have HO710 := n1_; have BK706 := n2_; have HB := n3_; have BK712 := n4_; have GW712 := n5_; have GE712 := n6_; have NB706_712 := n7_; have NB712_706 := n8_; clear n0_ n1_ n2_ n3_ n4_ n5_ n6_ n7_ n8_; clear hb hbox hg; obtain ⟨Ao17, co17, eo17, _⟩ := Kd.Q_slice HO710.out; subst eo17; have hnb18 := NB712_706.out; have hnc18 := NB706_712.out; have hcz19_0 : w16.cell? ⟨gb712, 0, none⟩ = some (.slice none 0 0) := (blk_cell BK712.out 0).trans rfl; have hfz19_0 := blk_frozen BK712.out 0) | ((with_reducible refine gate_callee (f := 37) rfl ?_); refine goesL_ (some 29) rfl rfl Try.func37 (by kernel_rfl) rfl #[.agg #[.slice Ao17 t708.length co17], .int .i64 t711] rfl (by (try simp only [List.map_toArray, List.map_cons, List.map_nil]); first | done | rfl | (simp only [List.length_drop, List.length_take]; rfl)) ?_; (with_reducible refine (impl_PairsOf.calls k _ _ t708 t711 t713 _ ?side1 ?side2 A7.out).mono ?_); (case side1 => refine (Kd.Q_reads' (e := 3) (base := w.heap.size) (ok := fun k_ => (True ∧ some k_ ≠ (.slice Ao12 t702.length co12 : Value).ownBlock)) (n := t708.length) (c := co17) ?_).2.2; exact (by (with_reducible repeat (first | apply Kd.Q_alloc | apply Kd.Q_drewN | apply Kd.Q_drew)); exact (Kd.Q_mono (Kd.Q_far (p := ⟨gb712, 0, none⟩) (Kd.Q_types HO710.out BK712.out (by decide)) (fun _ hk => hk.2) (.slice Ao17 t708.length co17)) (fun _ h_ => h_.1)))); (case side2 => exact (Kd.Q_reads' HO710.out).2.1); rintro e w20 ⟨rfl, hb⟩; refine ⟨_, rfl, ?_⟩; have n0_ := Aside0.mk (Kd.Q_below (by (with_reducible repeat (first | apply Kd.Q_alloc | apply Kd.Q_drewN | apply Kd.Q_drew)); exact (Kd.Q_mono (Kd.Q_far (p := ⟨gb712, 0, none⟩) (Kd.Q_types HO704.out BK712.out (by decide)) (fun _ hk => hk.2) (.slice Ao17 t708.length co17)) (fun _ h_ => h_.1))) hb); have n1_ := Aside0.mk (Kd.Q_below (by (with_reducible repeat (first | apply Kd.Q_alloc | apply Kd.Q_drewN | apply Kd.Q_drew)); exact (Kd.Q_mono (Kd.Q_far (p := ⟨gb712, 0, none⟩) (Kd.Q_types HO710.out BK712.out (by decide)) (fun _ hk => hk.2) (.slice Ao17 t708.length co17)) (fun _ h_ => h_.1))) hb); have n2_ := Aside0.mk (blk_below (g := gb706) (o := .cells #[.slice Ao12 t702.length co12] 27 (0, 0)) (by (with_reducible repeat (first | refine blk_drewN ?_ _ | refine blk_drew ?_ | refine blk_alloc ?_ _)); refine blk_far ?_ NB706_712.out _; (with_reducible repeat (first | refine blk_drewN ?_ _ | refine blk_drew ?_ | refine blk_alloc ?_ _)); exact BK706.out) hb); have n3_ := Aside0.mk (blk_below (g := gb712) (o := .cells #[.slice Ao17 t708.length co17] 27 (0, 0)) (by (with_reducible repeat (first | refine blk_drewN ?_ _ | refine blk_drew ?_ | refine blk_alloc ?_ _)); refine blk_put (cs := #[.slice none 0 0]) ?_ 0 _ rfl; (with_reducible repeat (first | refine blk_drewN ?_ _ | refine blk_drew ?_ | refine blk_alloc ?_ _)); exact BK712.out) hb); have n4_ := Aside0.mk (below_step (by repeat (first | (with_reducible first | exact HB.out | apply below_alloc | apply pw_below_drewN | apply below_drew1 | refine below_set ?_ GE706.out | refine below_set ?_ GE712.out) | exact HB.out)) hb); clear HO704; clear HO710; clear BK706; clear BK712; clear HB; have HO704 := n0_; have HO710 := n1_; have BK706 := n2_; have BK712 := n3_; have HB := n4_; clear n0_ n1_ n2_ n3_ n4_; (try clear hb); (try clear hb2); (try clear hk); (try clear hi)) | ((with_reducible refine gate_callee (f := 38) rfl ?_); refine goesL_ (some 32) rfl rfl Try.func38 (by kernel_rfl) rfl #[.slice A0 l0.length c0] rfl (by (try simp only [List.map_toArray, List.map_cons, List.map_nil]); first | done | rfl | (simp only [List.length_drop, List.length_take]; rfl)) ?_; (with_reducible refine (spec_DrawLinearBound.calls k _ _ l0 t714 t717 _ ?side1 ?side2 A8.out).mono ?_); (case side1 => exact ce_ ((Kd.C_below HR0.out HB.out))); (case side2 => exact HC0.out); rintro e w21 ⟨v715, rfl, ho0, hb⟩; refine ⟨_, rfl, ?_⟩; have n0_ := Aside0.mk (Kd.Q_elder' (by (with_reducible repeat (first | apply Kd.Q_alloc | apply Kd.Q_drewN | apply Kd.Q_drew)); exact HO704.out) (Kd.Q_base ho0) hb); have n1_ := Aside0.mk (Kd.Q_elder' (by (with_reducible repeat (first | apply Kd.Q_alloc | apply Kd.Q_drewN | apply Kd.Q_drew)); exact HO710.out) (Kd.Q_base ho0) hb); have n2_ := Aside0.mk (Kd.Q_lower (Kd.Q_new' (Kd.Q_new' ho0 (Kd.Q_lt (by (with_reducible repeat (first | apply Kd.Q_alloc | apply Kd.Q_drewN | apply Kd.Q_drew)); exact HO704.out))) (Kd.Q_lt (by (with_reducible repeat (first | apply Kd.Q_alloc | apply Kd.Q_drewN | apply Kd.Q_drew)); exact HO710.out))) (below_size (by repeat (first | (with_reducible first | exact HB.out | apply below_alloc | apply pw_below_drewN | apply below_drew1 | refine below_set ?_ GE706.out | refine below_set ?_ GE712.out) | exact HB.out)))); have n3_ := Aside0.mk (blk_below (g := gb706) (o := .cells #[.slice Ao12 t702.length co12] 27 (0, 0)) (be_ BK706.out) hb); have n4_ := Aside0.mk (blk_below (g := gb712) (o := .cells #[.slice Ao17 t708.length co17] 27 (0, 0)) (be_ BK712.out) hb); have n5_ := Aside0.mk (below_step (by repeat (first | (with_reducible first | exact HB.out | apply below_alloc | apply pw_below_drewN | apply below_drew1 | refine below_set ?_ GE706.out | refine below_set ?_ GE712.out) | exact HB.out)) hb); clear HO704; clear HO710; clear BK706; clear BK712; clear HB; have HO704 := n0_; have HO710 := n1_; have HO716 := n2_; have BK706 := n3_; have BK712 := n4_; have HB := n5_; clear n0_ n1_ n2_ n3_ n4_ n5_; (try clear hb); (try clear hb2); (try clear hk); (try clear hi); (try clear ho0)) | ((with_reducible refine gate_dst (N := 9) rfl ?_); refine box_event ?hg (N := 9) ?hd (cs := #[.slice none 0 0]) (t := 27) ?hr ?_; (case hd => rfl); (case hg => rfl); (case hr => first | (go_simp; done) | (go_simp; rfl)); intro gb718 hg w22 hbox hb; have n0_ := Aside0.mk (Kd.Q_below (by (with_reducible repeat (first | apply Kd.Q_alloc | apply Kd.Q_drewN | apply Kd.Q_drew)); exact HO704.out) hb); have n1_ := Aside0.mk (Kd.Q_below (by (with_reducible repeat (first | apply Kd.Q_alloc | apply Kd.Q_drewN | apply Kd.Q_drew)); exact HO710.out) hb); have n2_ := Aside0.mk (Kd.Q_below (by (with_reducible repeat (first | apply Kd.Q_alloc | apply Kd.Q_drewN | apply Kd.Q_drew)); exact HO716.out) hb); have n3_ := Aside0.mk (blk_below (g := gb706) (o := .cells #[.slice Ao12 t702.length co12] 27 (0, 0)) (be_ BK706.out) hb); have n4_ := Aside0.mk (blk_below (g := gb712) (o := .cells #[.slice Ao17 t708.length co17] 27 (0, 0)) (be_ BK712.out) hb); have n5_ := Aside0.mk (below_step (by repeat (first | (with_reducible first | exact HB.out | apply below_alloc | apply pw_below_drewN | apply below_drew1 | refine below_set ?_ GE706.out | refine below_set ?_ GE712.out) | exact HB.out)) hb); have n6_ := Aside0.mk (hbox); have n7_ := Aside0.mk ((by rw [hg]; exact (below_size (by repeat (first | (with_reducible first | exact HB.out | apply below_alloc | apply pw_below_drewN | apply below_drew1 | refine below_set ?_ GE706.out | refine below_set ?_ GE712.out) | exact HB.out))) : w.heap.size ≤ gb718)); have n8_ := Aside0.mk ((by rw [hg]; exact (below_size (by repeat (first | (with_reducible first | exact HB.out | apply below_alloc | apply pw_below_drewN | apply below_drew1 | refine below_set ?_ GE706.out | refine below_set ?_ GE712.out) | exact HB.out))) : w.heap.size ≤ gb718)); have n9_ := Aside0.mk ((by rw [hg]; exact Nat.ne_of_lt (blk_lt (g := gb706) (o := .cells #[.slice Ao12 t702.length co12] 27 (0, 0)) (be_ BK706.out)) : gb706 ≠ gb718)); have n10_ := Aside0.mk ((by rw [hg]; exact Nat.ne_of_gt (blk_lt (g := gb706) (o := .cells #[.slice Ao12 t702.length co12] 27 (0, 0)) (be_ BK706.out)) : gb718 ≠ gb706)); have n11_ := Aside0.mk ((by rw [hg]; exact Nat.ne_of_lt (blk_lt (g := gb712) (o := .cells #[.slice Ao17 t708.length co17] 27 (0, 0)) (be_ BK712.out)) : gb712 ≠ gb718)); have n12_ := Aside0.mk ((by rw [hg]; exact Nat.ne_of_gt (blk_lt (g := gb712) (o := .cells #[.slice Ao17 t708.length co17] 27 (0, 0)) (be_ BK712.out)) : gb718 ≠ gb712)); clear HO704; clear HO710; clear HO716; clear BK706; clear BK712; clear HB; have HO704 := n0_; have HO710 := n1_; have HO716 := n2_; have BK706 := n3_; have BK712 := n4_; have HB := n5_; have BK718 := n6_; have GW718 := n7_; have GE718 := n8_; have NB706_718 := n9_; have NB718_706 := n10_; have NB712_718 := n11_; have NB718_712 := n12_; clear n0_ n1_ n2_ n3_ n4_ n5_ n6_ n7_ n8_ n9_ n10_ n11_ n12_; clear hb hbox hg; obtain ⟨Ao23, co23, eo23, _⟩ := Kd.Q_slice HO716.out; subst eo23; have hnb24 := NB718_706.out; have hnc24 := NB706_718.out; have hnb25 := NB718_712.out; have hnc25 := NB712_718.out; have hcz26_0 : w22.cell? ⟨gb718, 0, none⟩ = some (.slice none 0 0) := (blk_cell BK718.out 0).trans rfl; have hfz26_0 := blk_frozen BK718.out 0))
   (try simp only [Act.put, z1_, z2_, z3_])
   go_cut [55] (fun v55 wc => ∃ (kq : Nat) (x55_8 : Bool), v55 = .bool x55_8 ∧ Aside0 (laws_FnBounds.j0 kq t705 t707 x55_8 t702 = some r) ∧ Aside0 (kq ≤ k) ∧ Aside0 (Kd.Q (Kd.int .i64) 3 wc w.heap.size (fun k_ => some k_ ≠ ((.slice Ao17 t708.length co17) : Value).ownBlock ∧ some k_ ≠ ((.slice Ao23 t714.length co23) : Value).ownBlock) (.slice Ao12 t702.length co12) t702) ∧ Aside0 (Kd.Q (Kd.int .i64) 3 wc w.heap.size (fun k_ => some k_ ≠ ((.slice Ao12 t702.length co12) : Value).ownBlock ∧ some k_ ≠ ((.slice Ao23 t714.length co23) : Value).ownBlock) (.slice Ao17 t708.length co17) t708) ∧ Aside0 (Kd.Q (Kd.int .i64) 3 wc w.heap.size (fun k_ => some k_ ≠ ((.slice Ao12 t702.length co12) : Value).ownBlock ∧ some k_ ≠ ((.slice Ao17 t708.length co17) : Value).ownBlock) (.slice Ao23 t714.length co23) t714) ∧ Aside0 (wc.heap[gb706]? = some (.cells #[(.slice Ao12 t702.length co12)] 27 (0, 0))) ∧ Aside0 (wc.heap[gb712]? = some (.cells #[(.slice Ao17 t708.length co17)] 27 (0, 0))) ∧ Aside0 (wc.heap[gb718]? = some (.cells #[(.slice Ao23 t714.length co23)] 27 (0, 0))) ∧ Aside0 (Below w.heap.size w wc))
   case first =>
    have H := HC9.out
    clear HC9
    replace H := Option.bind_eq_some_iff.mp H
    obtain ⟨t719, A270, H⟩ := H
    replace H : (if t707 = t719 then ((spec_PairsOf.f k t708 t711).bind fun t720 => (if t713 = t720 then ((impl_LinearBound.f k t714 t717).bind fun t721 => ((spec_LinearBound.f k t714 t717).bind fun t722 => (laws_FnBounds.j0 k t705 t707 (t721 != t722) t702))) else (laws_FnBounds.j0 k t705 t707 true t702))) else (laws_FnBounds.j0 k t705 t707 true t702)) = some r := H
    have A27 := Aside0.mk A270
    clear A270
    by_cases c28 : t707 = t719
    · rw [if_pos c28] at H
      have c28b0 : (t707 == t719) = true := beq_iff_eq.mpr c28
      have c28b1 : (t707 != t719) = false := bne_eq_false_iff_eq.mpr c28
      clear c28
      (first | rw [c28b0] | (simp only [i64_w, i32_w]; rw [c28b0]) | skip)
      replace H := Option.bind_eq_some_iff.mp H
      obtain ⟨t720, A290, H⟩ := H
      replace H : (if t713 = t720 then ((impl_LinearBound.f k t714 t717).bind fun t721 => ((spec_LinearBound.f k t714 t717).bind fun t722 => (laws_FnBounds.j0 k t705 t707 (t721 != t722) t702))) else (laws_FnBounds.j0 k t705 t707 true t702)) = some r := H
      have A29 := Aside0.mk A290
      clear A290
      by_cases c30 : t713 = t720
      · rw [if_pos c30] at H
        have c30b0 : (t713 == t720) = true := beq_iff_eq.mpr c30
        have c30b1 : (t713 != t720) = false := bne_eq_false_iff_eq.mpr c30
        clear c30
        replace H := Option.bind_eq_some_iff.mp H
        obtain ⟨t721, A310, H⟩ := H
        replace H : ((spec_LinearBound.f k t714 t717).bind fun t722 => (laws_FnBounds.j0 k t705 t707 (t721 != t722) t702)) = some r := H
        have A31 := Aside0.mk A310
        clear A310
        replace H := Option.bind_eq_some_iff.mp H
        obtain ⟨t722, A320, H⟩ := H
        replace H : (laws_FnBounds.j0 k t705 t707 (t721 != t722) t702) = some r := H
        have A32 := Aside0.mk A320
        clear A320
        have H' := Aside0.mk H
        clear H
        try go_wp2
        have n0_ : Aside0 (Kd.Q (Kd.int .i64) 3 (w22.setCell ⟨gb718, 0, none⟩ (.slice Ao23 t714.length co23)) w.heap.size (fun k_ => some k_ ≠ (.slice Ao17 t708.length co17 : Value).ownBlock ∧ some k_ ≠ (.slice Ao23 t714.length co23 : Value).ownBlock) (.slice Ao12 t702.length co12) t702) := ⟨by (with_reducible repeat (first | apply Kd.Q_alloc | apply Kd.Q_drewN | apply Kd.Q_drew)); exact Kd.Q_mono (Kd.Q_far (p := ⟨gb718, 0, none⟩) (Kd.Q_types HO704.out BK718.out (by decide)) (fun _ hk => hk.2) (.slice Ao23 t714.length co23)) (fun _ hk => ⟨hk.1.1.2, hk.1.2⟩)⟩
        have n1_ : Aside0 (Kd.Q (Kd.int .i64) 3 (w22.setCell ⟨gb718, 0, none⟩ (.slice Ao23 t714.length co23)) w.heap.size (fun k_ => some k_ ≠ (.slice Ao12 t702.length co12 : Value).ownBlock ∧ some k_ ≠ (.slice Ao23 t714.length co23 : Value).ownBlock) (.slice Ao17 t708.length co17) t708) := ⟨by (with_reducible repeat (first | apply Kd.Q_alloc | apply Kd.Q_drewN | apply Kd.Q_drew)); exact Kd.Q_mono (Kd.Q_far (p := ⟨gb718, 0, none⟩) (Kd.Q_types HO710.out BK718.out (by decide)) (fun _ hk => hk.2) (.slice Ao23 t714.length co23)) (fun _ hk => ⟨hk.1.1.2, hk.1.2⟩)⟩
        have n2_ : Aside0 (Kd.Q (Kd.int .i64) 3 (w22.setCell ⟨gb718, 0, none⟩ (.slice Ao23 t714.length co23)) w.heap.size (fun k_ => some k_ ≠ (.slice Ao12 t702.length co12 : Value).ownBlock ∧ some k_ ≠ (.slice Ao17 t708.length co17 : Value).ownBlock) (.slice Ao23 t714.length co23) t714) := ⟨by (with_reducible repeat (first | apply Kd.Q_alloc | apply Kd.Q_drewN | apply Kd.Q_drew)); exact Kd.Q_mono (Kd.Q_far (p := ⟨gb718, 0, none⟩) (Kd.Q_types HO716.out BK718.out (by decide)) (fun _ hk => hk.2) (.slice Ao23 t714.length co23)) (fun _ hk => ⟨hk.1.1.2, hk.1.2⟩)⟩
        have n3_ : Aside0 ((w22.setCell ⟨gb718, 0, none⟩ (.slice Ao23 t714.length co23)).heap[gb706]? = some (.cells #[.slice Ao12 t702.length co12] 27 (0, 0))) := ⟨by (with_reducible repeat (first | refine blk_drewN ?_ _ | refine blk_drew ?_ | refine blk_alloc ?_ _)); refine blk_far ?_ NB706_718.out _; (with_reducible repeat (first | refine blk_drewN ?_ _ | refine blk_drew ?_ | refine blk_alloc ?_ _)); exact BK706.out⟩
        have n4_ : Aside0 ((w22.setCell ⟨gb718, 0, none⟩ (.slice Ao23 t714.length co23)).heap[gb712]? = some (.cells #[.slice Ao17 t708.length co17] 27 (0, 0))) := ⟨by (with_reducible repeat (first | refine blk_drewN ?_ _ | refine blk_drew ?_ | refine blk_alloc ?_ _)); refine blk_far ?_ NB712_718.out _; (with_reducible repeat (first | refine blk_drewN ?_ _ | refine blk_drew ?_ | refine blk_alloc ?_ _)); exact BK712.out⟩
        have n5_ : Aside0 ((w22.setCell ⟨gb718, 0, none⟩ (.slice Ao23 t714.length co23)).heap[gb718]? = some (.cells #[.slice Ao23 t714.length co23] 27 (0, 0))) := ⟨by (with_reducible repeat (first | refine blk_drewN ?_ _ | refine blk_drew ?_ | refine blk_alloc ?_ _)); refine blk_put (cs := #[.slice none 0 0]) ?_ 0 _ rfl; (with_reducible repeat (first | refine blk_drewN ?_ _ | refine blk_drew ?_ | refine blk_alloc ?_ _)); exact BK718.out⟩
        have n6_ : Aside0 (Below w.heap.size w (w22.setCell ⟨gb718, 0, none⟩ (.slice Ao23 t714.length co23))) := ⟨by repeat (first | (with_reducible first | exact HB.out | apply below_alloc | apply pw_below_drewN | apply below_drew1 | refine below_set ?_ GE706.out | refine below_set ?_ GE712.out | refine below_set ?_ GE718.out) | exact HB.out)⟩
        (try clear HO704)
        (try clear HO710)
        (try clear HO716)
        (try clear BK706)
        (try clear BK712)
        (try clear BK718)
        (try clear HB)
        generalize (w22.setCell ⟨gb718, 0, none⟩ (.slice Ao23 t714.length co23)) = w33 at n0_ n1_ n2_ n3_ n4_ n5_ n6_ ⊢
        have HO704 := n0_
        have HO710 := n1_
        have HO716 := n2_
        have BK706 := n3_
        have BK712 := n4_
        have BK718 := n5_
        have HB := n6_
        clear n0_ n1_ n2_ n3_ n4_ n5_ n6_
        have n0_ := Aside0.mk (Kd.Q_drew HO704.out)
        have n1_ := Aside0.mk (Kd.Q_drew HO710.out)
        have n2_ := Aside0.mk (Kd.Q_drew HO716.out)
        have n3_ := Aside0.mk (blk_drew BK706.out)
        have n4_ := Aside0.mk (blk_drew BK712.out)
        have n5_ := Aside0.mk (blk_drew BK718.out)
        have n6_ := Aside0.mk (below_drew1 HB.out)
        clear HO704
        clear HO710
        clear HO716
        clear BK706
        clear BK712
        clear BK718
        clear HB
        have HO704 := n0_
        have HO710 := n1_
        have HO716 := n2_
        have BK706 := n3_
        have BK712 := n4_
        have BK718 := n5_
        have HB := n6_
        clear n0_ n1_ n2_ n3_ n4_ n5_ n6_
        refine start_ (n := 21) (S := fun w' => w'.cell? ⟨gb706, 0, none⟩ = some (.slice Ao12 t702.length co12) ∧ w'.cell? ⟨gb712, 0, none⟩ = some (.slice Ao17 t708.length co17) ∧ w'.cell? ⟨gb718, 0, none⟩ = some (.slice Ao23 t714.length co23)) (ds := []) (B_ 0 21) (by kernel_rfl) rfl rfl ⟨(blk_cell BK706.out 0).trans rfl, (blk_cell BK712.out 0).trans rfl, (blk_cell BK718.out 0).trans rfl⟩ (fun hHeld => ?_); refine with_tabW laws_FnBounds.tab8 laws_FnBounds.bits8 (fun HT_ HW_ => ?_)
        generalize w33.drew = w34 at HO704 HO710 HO716 BK706 BK712 BK718 HB hHeld ⊢
        refine pu_ HT_ 0 35 (B_ 1 21) ?_
        refine pu_ HT_ 2 37 (B_ 5 21) ?_
        refine tk3_ HT_ HW_ hHeld 1 36 (B_ 7 21) ?_
        refine one_ (i := 3) (N := some 38) (B_ 15 21) rfl rfl (one_of HT_.out (by kernel_rfl)) (by decide) (fun K hK => ?_)
        refine goes_ Try.func26 (by kernel_rfl) rfl #[.agg #[.slice Ao12 t702.length co12], .int .i64 t705] (by rfl) rfl rfl (by (try simp only [List.map_toArray, List.map_cons, List.map_nil]); first | done | rfl | (simp only [List.length_drop, List.length_take]; rfl)) ?_
        with_reducible refine (spec_OrderBound.calls k _ _ t702 t705 t719 _ ?side1 ?side2 A27.out).mono ?_
        (case side1 => exact ce_ ((Kd.Q_reads' HO704.out).2.2))
        (case side2 => exact (Kd.Q_reads' HO704.out).2.1)
        rintro e w35 ⟨rfl, hb⟩
        refine ⟨_, rfl, ?_⟩
        have n0_ := Aside0.mk (Kd.Q_below (by (with_reducible repeat (first | apply Kd.Q_alloc | apply Kd.Q_drewN | apply Kd.Q_drew)); exact HO704.out) hb)
        have n1_ := Aside0.mk (Kd.Q_below (by (with_reducible repeat (first | apply Kd.Q_alloc | apply Kd.Q_drewN | apply Kd.Q_drew)); exact HO710.out) hb)
        have n2_ := Aside0.mk (Kd.Q_below (by (with_reducible repeat (first | apply Kd.Q_alloc | apply Kd.Q_drewN | apply Kd.Q_drew)); exact HO716.out) hb)
        have n3_ := Aside0.mk (blk_below (g := gb706) (o := .cells #[.slice Ao12 t702.length co12] 27 (0, 0)) (be_ BK706.out) hb)
        have n4_ := Aside0.mk (blk_below (g := gb712) (o := .cells #[.slice Ao17 t708.length co17] 27 (0, 0)) (be_ BK712.out) hb)
        have n5_ := Aside0.mk (blk_below (g := gb718) (o := .cells #[.slice Ao23 t714.length co23] 27 (0, 0)) (be_ BK718.out) hb)
        have n6_ := Aside0.mk (below_step (by repeat (first | (with_reducible first | exact HB.out | apply below_alloc | apply pw_below_drewN | apply below_drew1 | refine below_set ?_ GE706.out | refine below_set ?_ GE712.out | refine below_set ?_ GE718.out) | exact HB.out)) hb)
        clear HO704
        clear HO710
        clear HO716
        clear BK706
        clear BK712
        clear BK718
        clear HB
        have HO704 := n0_
        have HO710 := n1_
        have HO716 := n2_
        have BK706 := n3_
        have BK712 := n4_
        have BK718 := n5_
        have HB := n6_
        clear n0_ n1_ n2_ n3_ n4_ n5_ n6_
        (try clear hb)
        (try clear hb2)
        (try clear hk)
        (try clear hi)
        refine hK.out _ _ ⟨(blk_cell BK706.out 0).trans rfl, (blk_cell BK712.out 0).trans rfl, (blk_cell BK718.out 0).trans rfl⟩ (fun hHeld => ?_)
        clear hK K
        refine norm_ (a' := ?_) ?_ ?_
        rotate_left
        · show Act.put _ (some 38) _ = _
          simp only [Act.put, z1_, z2_, z3_, i64_w, i32_w]
          rfl
        refine pu_ HT_ 4 39 (B_ 31 21) ?_
        refine pu_ HT_ 5 40 (B_ 63 21) ?_
        refine pu_ HT_ 6 41 (B_ 127 21) ?_
        refine pu_ HT_ 8 43 (B_ 383 21) ?_
        refine tk3_ HT_ HW_ hHeld 7 42 (B_ 511 21) ?_
        refine one_ (i := 9) (N := some 44) (B_ 1023 21) rfl rfl (one_of HT_.out (by kernel_rfl)) (by decide) (fun K hK => ?_)
        refine goes_ Try.func39 (by kernel_rfl) rfl #[.agg #[.slice Ao17 t708.length co17], .int .i64 t711] (by rfl) rfl rfl (by (try simp only [List.map_toArray, List.map_cons, List.map_nil]); first | done | rfl | (simp only [List.length_drop, List.length_take]; rfl)) ?_
        with_reducible refine (spec_PairsOf.calls k _ _ t708 t711 t720 _ ?side1 ?side2 A29.out).mono ?_
        (case side1 => exact ce_ ((Kd.Q_reads' HO710.out).2.2))
        (case side2 => exact (Kd.Q_reads' HO710.out).2.1)
        rintro e w36 ⟨rfl, hb⟩
        refine ⟨_, rfl, ?_⟩
        have n0_ := Aside0.mk (Kd.Q_below (by (with_reducible repeat (first | apply Kd.Q_alloc | apply Kd.Q_drewN | apply Kd.Q_drew)); exact HO704.out) hb)
        have n1_ := Aside0.mk (Kd.Q_below (by (with_reducible repeat (first | apply Kd.Q_alloc | apply Kd.Q_drewN | apply Kd.Q_drew)); exact HO710.out) hb)
        have n2_ := Aside0.mk (Kd.Q_below (by (with_reducible repeat (first | apply Kd.Q_alloc | apply Kd.Q_drewN | apply Kd.Q_drew)); exact HO716.out) hb)
        have n3_ := Aside0.mk (blk_below (g := gb706) (o := .cells #[.slice Ao12 t702.length co12] 27 (0, 0)) (be_ BK706.out) hb)
        have n4_ := Aside0.mk (blk_below (g := gb712) (o := .cells #[.slice Ao17 t708.length co17] 27 (0, 0)) (be_ BK712.out) hb)
        have n5_ := Aside0.mk (blk_below (g := gb718) (o := .cells #[.slice Ao23 t714.length co23] 27 (0, 0)) (be_ BK718.out) hb)
        have n6_ := Aside0.mk (below_step (by repeat (first | (with_reducible first | exact HB.out | apply below_alloc | apply pw_below_drewN | apply below_drew1 | refine below_set ?_ GE706.out | refine below_set ?_ GE712.out | refine below_set ?_ GE718.out) | exact HB.out)) hb)
        clear HO704
        clear HO710
        clear HO716
        clear BK706
        clear BK712
        clear BK718
        clear HB
        have HO704 := n0_
        have HO710 := n1_
        have HO716 := n2_
        have BK706 := n3_
        have BK712 := n4_
        have BK718 := n5_
        have HB := n6_
        clear n0_ n1_ n2_ n3_ n4_ n5_ n6_
        (try clear hb)
        (try clear hb2)
        (try clear hk)
        (try clear hi)
        refine hK.out _ _ ⟨(blk_cell BK706.out 0).trans rfl, (blk_cell BK712.out 0).trans rfl, (blk_cell BK718.out 0).trans rfl⟩ (fun hHeld => ?_)
        clear hK K
        refine norm_ (a' := ?_) ?_ ?_
        rotate_left
        · show Act.put _ (some 44) _ = _
          simp only [Act.put, z1_, z2_, z3_, i64_w, i32_w]
          rfl
        refine pu_ HT_ 10 45 (B_ 2047 21) ?_
        refine pu_ HT_ 11 46 (B_ 4095 21) ?_
        refine pu_ HT_ 12 47 (B_ 8191 21) ?_
        refine pu_ HT_ 14 49 (B_ 24575 21) ?_
        refine pu_ HT_ 17 52 (B_ 155647 21) ?_
        refine tk3_ HT_ HW_ hHeld 13 48 (B_ 163839 21) ?_
        refine tk3_ HT_ HW_ hHeld 16 51 (B_ 229375 21) ?_
        refine one_ (i := 15) (N := some 50) (B_ 262143 21) rfl rfl (one_of HT_.out (by kernel_rfl)) (by decide) (fun K hK => ?_)
        refine goes_ Try.func40 (by kernel_rfl) rfl #[.agg #[.slice Ao23 t714.length co23], .int .i64 t717] (by rfl) rfl rfl (by (try simp only [List.map_toArray, List.map_cons, List.map_nil]); first | done | rfl | (simp only [List.length_drop, List.length_take]; rfl)) ?_
        with_reducible refine (impl_LinearBound.calls k _ _ t714 t717 t721 _ ?side1 ?side2 A31.out).mono ?_
        (case side1 => exact ce_ ((Kd.Q_reads' HO716.out).2.2))
        (case side2 => exact (Kd.Q_reads' HO716.out).2.1)
        rintro e w37 ⟨rfl, hb⟩
        refine ⟨_, rfl, ?_⟩
        have n0_ := Aside0.mk (Kd.Q_below (by (with_reducible repeat (first | apply Kd.Q_alloc | apply Kd.Q_drewN | apply Kd.Q_drew)); exact HO704.out) hb)
        have n1_ := Aside0.mk (Kd.Q_below (by (with_reducible repeat (first | apply Kd.Q_alloc | apply Kd.Q_drewN | apply Kd.Q_drew)); exact HO710.out) hb)
        have n2_ := Aside0.mk (Kd.Q_below (by (with_reducible repeat (first | apply Kd.Q_alloc | apply Kd.Q_drewN | apply Kd.Q_drew)); exact HO716.out) hb)
        have n3_ := Aside0.mk (blk_below (g := gb706) (o := .cells #[.slice Ao12 t702.length co12] 27 (0, 0)) (be_ BK706.out) hb)
        have n4_ := Aside0.mk (blk_below (g := gb712) (o := .cells #[.slice Ao17 t708.length co17] 27 (0, 0)) (be_ BK712.out) hb)
        have n5_ := Aside0.mk (blk_below (g := gb718) (o := .cells #[.slice Ao23 t714.length co23] 27 (0, 0)) (be_ BK718.out) hb)
        have n6_ := Aside0.mk (below_step (by repeat (first | (with_reducible first | exact HB.out | apply below_alloc | apply pw_below_drewN | apply below_drew1 | refine below_set ?_ GE706.out | refine below_set ?_ GE712.out | refine below_set ?_ GE718.out) | exact HB.out)) hb)
        clear HO704
        clear HO710
        clear HO716
        clear BK706
        clear BK712
        clear BK718
        clear HB
        have HO704 := n0_
        have HO710 := n1_
        have HO716 := n2_
        have BK706 := n3_
        have BK712 := n4_
        have BK718 := n5_
        have HB := n6_
        clear n0_ n1_ n2_ n3_ n4_ n5_ n6_
        (try clear hb)
        (try clear hb2)
        (try clear hk)
        (try clear hi)
        refine hK.out _ _ ⟨(blk_cell BK706.out 0).trans rfl, (blk_cell BK712.out 0).trans rfl, (blk_cell BK718.out 0).trans rfl⟩ (fun hHeld => ?_)
        clear hK K
        refine norm_ (a' := ?_) ?_ ?_
        rotate_left
        · show Act.put _ (some 50) _ = _
          simp only [Act.put, z1_, z2_, z3_, i64_w, i32_w]
          rfl
        refine one_ (i := 18) (N := some 53) (B_ 524287 21) rfl rfl (one_of HT_.out (by kernel_rfl)) (by decide) (fun K hK => ?_)
        refine goes_ Try.func41 (by kernel_rfl) rfl #[.agg #[.slice Ao23 t714.length co23], .int .i64 t717] (by rfl) rfl rfl (by (try simp only [List.map_toArray, List.map_cons, List.map_nil]); first | done | rfl | (simp only [List.length_drop, List.length_take]; rfl)) ?_
        with_reducible refine (spec_LinearBound.calls k _ _ t714 t717 t722 _ ?side1 ?side2 A32.out).mono ?_
        (case side1 => exact ce_ ((Kd.Q_reads' HO716.out).2.2))
        (case side2 => exact (Kd.Q_reads' HO716.out).2.1)
        rintro e w38 ⟨rfl, hb⟩
        refine ⟨_, rfl, ?_⟩
        have n0_ := Aside0.mk (Kd.Q_below (by (with_reducible repeat (first | apply Kd.Q_alloc | apply Kd.Q_drewN | apply Kd.Q_drew)); exact HO704.out) hb)
        have n1_ := Aside0.mk (Kd.Q_below (by (with_reducible repeat (first | apply Kd.Q_alloc | apply Kd.Q_drewN | apply Kd.Q_drew)); exact HO710.out) hb)
        have n2_ := Aside0.mk (Kd.Q_below (by (with_reducible repeat (first | apply Kd.Q_alloc | apply Kd.Q_drewN | apply Kd.Q_drew)); exact HO716.out) hb)
        have n3_ := Aside0.mk (blk_below (g := gb706) (o := .cells #[.slice Ao12 t702.length co12] 27 (0, 0)) (be_ BK706.out) hb)
        have n4_ := Aside0.mk (blk_below (g := gb712) (o := .cells #[.slice Ao17 t708.length co17] 27 (0, 0)) (be_ BK712.out) hb)
        have n5_ := Aside0.mk (blk_below (g := gb718) (o := .cells #[.slice Ao23 t714.length co23] 27 (0, 0)) (be_ BK718.out) hb)
        have n6_ := Aside0.mk (below_step (by repeat (first | (with_reducible first | exact HB.out | apply below_alloc | apply pw_below_drewN | apply below_drew1 | refine below_set ?_ GE706.out | refine below_set ?_ GE712.out | refine below_set ?_ GE718.out) | exact HB.out)) hb)
        clear HO704
        clear HO710
        clear HO716
        clear BK706
        clear BK712
        clear BK718
        clear HB
        have HO704 := n0_
        have HO710 := n1_
        have HO716 := n2_
        have BK706 := n3_
        have BK712 := n4_
        have BK718 := n5_
        have HB := n6_
        clear n0_ n1_ n2_ n3_ n4_ n5_ n6_
        (try clear hb)
        (try clear hb2)
        (try clear hk)
        (try clear hi)
        refine hK.out _ _ ⟨(blk_cell BK706.out 0).trans rfl, (blk_cell BK712.out 0).trans rfl, (blk_cell BK718.out 0).trans rfl⟩ (fun hHeld => ?_)
        clear hK K
        refine norm_ (a' := ?_) ?_ ?_
        rotate_left
        · show Act.put _ (some 53) _ = _
          simp only [Act.put, z1_, z2_, z3_, i64_w, i32_w]
          rfl
        refine pu_ HT_ 19 54 (B_ 1048575 21) ?_
        refine pu_ HT_ 20 55 (B_ 2097151 21) ?_
        refine done_ (done_of HT_.out (by kernel_rfl)) ?_
        try go_wp2
        go_meet
        case rel => exact ⟨_, ((t721 != t722)), (by first | rfl | (simp; done) | (simp [*]; done)), H', ⟨by first | omega | exact Nat.le_refl _⟩, ⟨by (with_reducible repeat (first | apply Kd.Q_alloc | apply Kd.Q_drewN | apply Kd.Q_drew)); exact HO704.out⟩, ⟨by (with_reducible repeat (first | apply Kd.Q_alloc | apply Kd.Q_drewN | apply Kd.Q_drew)); exact HO710.out⟩, ⟨by (with_reducible repeat (first | apply Kd.Q_alloc | apply Kd.Q_drewN | apply Kd.Q_drew)); exact HO716.out⟩, ⟨be_ BK706.out⟩, ⟨be_ BK712.out⟩, ⟨be_ BK718.out⟩, ⟨by repeat (first | (with_reducible first | exact HB.out | apply below_alloc | apply pw_below_drewN | apply below_drew1 | refine below_set ?_ GE706.out | refine below_set ?_ GE712.out | refine below_set ?_ GE718.out) | exact HB.out)⟩⟩
      · rw [if_neg c30] at H
        exact absurd (H.trans (congrArg some hr_.out)) (by cases k <;> simp [laws_FnBounds.j0])
    · rw [if_neg c28] at H
      exact absurd (H.trans (congrArg some hr_.out)) (by cases k <;> simp [laws_FnBounds.j0])
   case rest =>
    clear HC9
    try clear c2
    try clear p2
    try clear c3
    try clear c4
    try clear c26
    try clear c28
    try clear c28b0
    try clear c28b1
    try clear c30
    try clear c30b0
    try clear c30b1
    try clear c39
    try clear c40
    try clear c41
    obtain ⟨kq, x55_8, rfl, HA, HJ8, HO_707000, HO_713000, HO_719000, BK706, BK712, BK718, HB⟩ := hcut
    cases kq with
    | zero => exact absurd HA.out (by simp [laws_FnBounds.j0])
    | succ kj8 =>
     have H := HA.out
     clear HA
     simp only [laws_FnBounds.j0] at H
     by_cases c46 : x55_8 = true
     · subst c46
       have H1 : (some false) = some r := by rw [if_pos rfl] at H; exact H
       exact absurd (H1.trans (congrArg some hr_.out)) (by simp)
     · replace c46 := Bool.eq_false_iff.mpr c46
       subst c46
       have H1 : ((spec_IsSemigroup.f kj8 t702).bind fun t723 => (if t723 = true then (if t705 < 0 then (laws_FnBounds.j1 kj8 t705 t707 true t702) else (laws_FnBounds.j1 kj8 t705 t707 (decide (t705 > 499)) t702)) else (laws_FnBounds.j1 kj8 t705 t707 true t702))) = some r := by rw [if_neg (show ¬ (false = true) by decide)] at H; exact H
       clear H
       have H := H1
       clear H1
       have HC47 := Aside0.mk H
       clear H
       go_upto_region 10 with (fail)
       go_cut [66] (fun v66 wc => ∃ (kq : Nat) (x66_46 : Bool), v66 = .bool x66_46 ∧ Aside0 (laws_FnBounds.j1 kq t705 t707 x66_46 t702 = some r) ∧ Aside0 (kq ≤ kj8) ∧ Aside0 (Kd.Q (Kd.int .i64) 3 wc w.heap.size (fun k_ => some k_ ≠ ((.slice Ao17 t708.length co17) : Value).ownBlock ∧ some k_ ≠ ((.slice Ao23 t714.length co23) : Value).ownBlock) (.slice Ao12 t702.length co12) t702) ∧ Aside0 (Kd.Q (Kd.int .i64) 3 wc w.heap.size (fun k_ => some k_ ≠ ((.slice Ao12 t702.length co12) : Value).ownBlock ∧ some k_ ≠ ((.slice Ao23 t714.length co23) : Value).ownBlock) (.slice Ao17 t708.length co17) t708) ∧ Aside0 (Kd.Q (Kd.int .i64) 3 wc w.heap.size (fun k_ => some k_ ≠ ((.slice Ao12 t702.length co12) : Value).ownBlock ∧ some k_ ≠ ((.slice Ao17 t708.length co17) : Value).ownBlock) (.slice Ao23 t714.length co23) t714) ∧ Aside0 (wc.heap[gb706]? = some (.cells #[(.slice Ao12 t702.length co12)] 27 (0, 0))) ∧ Aside0 (wc.heap[gb712]? = some (.cells #[(.slice Ao17 t708.length co17)] 27 (0, 0))) ∧ Aside0 (wc.heap[gb718]? = some (.cells #[(.slice Ao23 t714.length co23)] 27 (0, 0))) ∧ Aside0 (Below w.heap.size w wc))
       case first =>
        have H := HC47.out
        clear HC47
        replace H := Option.bind_eq_some_iff.mp H
        obtain ⟨t723, A480, H⟩ := H
        replace H : (if t723 = true then (if t705 < 0 then (laws_FnBounds.j1 kj8 t705 t707 true t702) else (laws_FnBounds.j1 kj8 t705 t707 (decide (t705 > 499)) t702)) else (laws_FnBounds.j1 kj8 t705 t707 true t702)) = some r := H
        have A48 := Aside0.mk A480
        clear A480
        by_cases c49 : t723 = true
        · subst c49
          have H1 : (if t705 < 0 then (laws_FnBounds.j1 kj8 t705 t707 true t702) else (laws_FnBounds.j1 kj8 t705 t707 (decide (t705 > 499)) t702)) = some r := by rw [if_pos rfl] at H; exact H
          clear H
          have H := H1
          clear H1
          by_cases c50 : t705 < 0
          · rw [if_pos c50] at H
            have c50b0 : decide (t705 < 0) = true := decide_eq_true c50
            clear c50
            (first | rw [c50b0] | (simp only [i64_w, i32_w]; rw [c50b0]) | skip)
            have H' := Aside0.mk H
            clear H
            have hnb51 := NB706_712.out
            have hnc51 := NB712_706.out
            have hnb52 := NB706_718.out
            have hnc52 := NB718_706.out
            have hcz53_0 : wc.cell? ⟨gb706, 0, none⟩ = some (.slice Ao12 t702.length co12) := (blk_cell BK706.out 0).trans rfl
            have hfz53_0 := blk_frozen BK706.out 0
            go_wp2_with (first | ((with_reducible refine gate_callee (f := 42) rfl ?_); refine goesL_ (some 57) rfl rfl Try.func42 (by kernel_rfl) rfl #[.agg #[.slice Ao12 t702.length co12]] rfl (by (try simp only [List.map_toArray, List.map_cons, List.map_nil]); first | done | rfl | (simp only [List.length_drop, List.length_take]; rfl)) ?_; (with_reducible refine (spec_IsSemigroup.calls kj8 _ _ t702 true _ ?side1 ?side2 A48.out).mono ?_); (case side1 => exact ce_ ((Kd.Q_reads' HO_707000.out).2.2)); (case side2 => exact (Kd.Q_reads' HO_707000.out).2.1); rintro e w54 ⟨rfl, hb⟩; refine ⟨_, rfl, ?_⟩; have n0_ := Aside0.mk (Kd.Q_below (by (with_reducible repeat (first | apply Kd.Q_alloc | apply Kd.Q_drewN | apply Kd.Q_drew)); exact HO_707000.out) hb); have n1_ := Aside0.mk (Kd.Q_below (by (with_reducible repeat (first | apply Kd.Q_alloc | apply Kd.Q_drewN | apply Kd.Q_drew)); exact HO_713000.out) hb); have n2_ := Aside0.mk (Kd.Q_below (by (with_reducible repeat (first | apply Kd.Q_alloc | apply Kd.Q_drewN | apply Kd.Q_drew)); exact HO_719000.out) hb); have n3_ := Aside0.mk (blk_below (g := gb706) (o := .cells #[.slice Ao12 t702.length co12] 27 (0, 0)) (be_ BK706.out) hb); have n4_ := Aside0.mk (blk_below (g := gb712) (o := .cells #[.slice Ao17 t708.length co17] 27 (0, 0)) (be_ BK712.out) hb); have n5_ := Aside0.mk (blk_below (g := gb718) (o := .cells #[.slice Ao23 t714.length co23] 27 (0, 0)) (be_ BK718.out) hb); have n6_ := Aside0.mk (below_step (by repeat (first | (with_reducible first | exact HB.out | apply below_alloc | apply pw_below_drewN | apply below_drew1 | refine below_set ?_ GE706.out | refine below_set ?_ GE712.out | refine below_set ?_ GE718.out) | exact HB.out)) hb); clear HO_707000; clear HO_713000; clear HO_719000; clear BK706; clear BK712; clear BK718; clear HB; have HO_707000 := n0_; have HO_713000 := n1_; have HO_719000 := n2_; have BK706 := n3_; have BK712 := n4_; have BK718 := n5_; have HB := n6_; clear n0_ n1_ n2_ n3_ n4_ n5_ n6_; (try clear hb); (try clear hb2); (try clear hk); (try clear hi)))
            go_meet
            case rel => exact ⟨_, (true), (by first | rfl | (simp; done) | (simp [*]; done)), H', ⟨by have := HJ8.out; first | omega | exact Nat.le_refl _⟩, ⟨by (with_reducible repeat (first | apply Kd.Q_alloc | apply Kd.Q_drewN | apply Kd.Q_drew)); exact HO_707000.out⟩, ⟨by (with_reducible repeat (first | apply Kd.Q_alloc | apply Kd.Q_drewN | apply Kd.Q_drew)); exact HO_713000.out⟩, ⟨by (with_reducible repeat (first | apply Kd.Q_alloc | apply Kd.Q_drewN | apply Kd.Q_drew)); exact HO_719000.out⟩, ⟨be_ BK706.out⟩, ⟨be_ BK712.out⟩, ⟨be_ BK718.out⟩, ⟨by repeat (first | (with_reducible first | exact HB.out | apply below_alloc | apply pw_below_drewN | apply below_drew1 | refine below_set ?_ GE706.out | refine below_set ?_ GE712.out | refine below_set ?_ GE718.out) | exact HB.out)⟩⟩
          · rw [if_neg c50] at H
            have c50b0 : decide (t705 < 0) = false := decide_eq_false c50
            clear c50
            (first | rw [c50b0] | (simp only [i64_w, i32_w]; rw [c50b0]) | skip)
            have H' := Aside0.mk H
            clear H
            have hnb55 := NB706_712.out
            have hnc55 := NB712_706.out
            have hnb56 := NB706_718.out
            have hnc56 := NB718_706.out
            have hcz57_0 : wc.cell? ⟨gb706, 0, none⟩ = some (.slice Ao12 t702.length co12) := (blk_cell BK706.out 0).trans rfl
            have hfz57_0 := blk_frozen BK706.out 0
            go_wp2_with (first | ((with_reducible refine gate_callee (f := 42) rfl ?_); refine goesL_ (some 57) rfl rfl Try.func42 (by kernel_rfl) rfl #[.agg #[.slice Ao12 t702.length co12]] rfl (by (try simp only [List.map_toArray, List.map_cons, List.map_nil]); first | done | rfl | (simp only [List.length_drop, List.length_take]; rfl)) ?_; (with_reducible refine (spec_IsSemigroup.calls kj8 _ _ t702 true _ ?side1 ?side2 A48.out).mono ?_); (case side1 => exact ce_ ((Kd.Q_reads' HO_707000.out).2.2)); (case side2 => exact (Kd.Q_reads' HO_707000.out).2.1); rintro e w58 ⟨rfl, hb⟩; refine ⟨_, rfl, ?_⟩; have n0_ := Aside0.mk (Kd.Q_below (by (with_reducible repeat (first | apply Kd.Q_alloc | apply Kd.Q_drewN | apply Kd.Q_drew)); exact HO_707000.out) hb); have n1_ := Aside0.mk (Kd.Q_below (by (with_reducible repeat (first | apply Kd.Q_alloc | apply Kd.Q_drewN | apply Kd.Q_drew)); exact HO_713000.out) hb); have n2_ := Aside0.mk (Kd.Q_below (by (with_reducible repeat (first | apply Kd.Q_alloc | apply Kd.Q_drewN | apply Kd.Q_drew)); exact HO_719000.out) hb); have n3_ := Aside0.mk (blk_below (g := gb706) (o := .cells #[.slice Ao12 t702.length co12] 27 (0, 0)) (be_ BK706.out) hb); have n4_ := Aside0.mk (blk_below (g := gb712) (o := .cells #[.slice Ao17 t708.length co17] 27 (0, 0)) (be_ BK712.out) hb); have n5_ := Aside0.mk (blk_below (g := gb718) (o := .cells #[.slice Ao23 t714.length co23] 27 (0, 0)) (be_ BK718.out) hb); have n6_ := Aside0.mk (below_step (by repeat (first | (with_reducible first | exact HB.out | apply below_alloc | apply pw_below_drewN | apply below_drew1 | refine below_set ?_ GE706.out | refine below_set ?_ GE712.out | refine below_set ?_ GE718.out) | exact HB.out)) hb); clear HO_707000; clear HO_713000; clear HO_719000; clear BK706; clear BK712; clear BK718; clear HB; have HO_707000 := n0_; have HO_713000 := n1_; have HO_719000 := n2_; have BK706 := n3_; have BK712 := n4_; have BK718 := n5_; have HB := n6_; clear n0_ n1_ n2_ n3_ n4_ n5_ n6_; (try clear hb); (try clear hb2); (try clear hk); (try clear hi)))
            go_meet
            case rel => exact ⟨_, (decide (t705 > 499)), (by first | rfl | (simp; done) | (simp [*]; done)), H', ⟨by have := HJ8.out; first | omega | exact Nat.le_refl _⟩, ⟨by (with_reducible repeat (first | apply Kd.Q_alloc | apply Kd.Q_drewN | apply Kd.Q_drew)); exact HO_707000.out⟩, ⟨by (with_reducible repeat (first | apply Kd.Q_alloc | apply Kd.Q_drewN | apply Kd.Q_drew)); exact HO_713000.out⟩, ⟨by (with_reducible repeat (first | apply Kd.Q_alloc | apply Kd.Q_drewN | apply Kd.Q_drew)); exact HO_719000.out⟩, ⟨be_ BK706.out⟩, ⟨be_ BK712.out⟩, ⟨be_ BK718.out⟩, ⟨by repeat (first | (with_reducible first | exact HB.out | apply below_alloc | apply pw_below_drewN | apply below_drew1 | refine below_set ?_ GE706.out | refine below_set ?_ GE712.out | refine below_set ?_ GE718.out) | exact HB.out)⟩⟩
        · replace c49 := Bool.eq_false_iff.mpr c49
          subst c49
          have H1 : (laws_FnBounds.j1 kj8 t705 t707 true t702) = some r := by rw [if_neg (show ¬ (false = true) by decide)] at H; exact H
          clear H
          have H := H1
          clear H1
          have H' := Aside0.mk H
          clear H
          have hnb59 := NB706_712.out
          have hnc59 := NB712_706.out
          have hnb60 := NB706_718.out
          have hnc60 := NB718_706.out
          have hcz61_0 : wc.cell? ⟨gb706, 0, none⟩ = some (.slice Ao12 t702.length co12) := (blk_cell BK706.out 0).trans rfl
          have hfz61_0 := blk_frozen BK706.out 0
          go_wp2_with (first | ((with_reducible refine gate_callee (f := 42) rfl ?_); refine goesL_ (some 57) rfl rfl Try.func42 (by kernel_rfl) rfl #[.agg #[.slice Ao12 t702.length co12]] rfl (by (try simp only [List.map_toArray, List.map_cons, List.map_nil]); first | done | rfl | (simp only [List.length_drop, List.length_take]; rfl)) ?_; (with_reducible refine (spec_IsSemigroup.calls kj8 _ _ t702 false _ ?side1 ?side2 A48.out).mono ?_); (case side1 => exact ce_ ((Kd.Q_reads' HO_707000.out).2.2)); (case side2 => exact (Kd.Q_reads' HO_707000.out).2.1); rintro e w62 ⟨rfl, hb⟩; refine ⟨_, rfl, ?_⟩; have n0_ := Aside0.mk (Kd.Q_below (by (with_reducible repeat (first | apply Kd.Q_alloc | apply Kd.Q_drewN | apply Kd.Q_drew)); exact HO_707000.out) hb); have n1_ := Aside0.mk (Kd.Q_below (by (with_reducible repeat (first | apply Kd.Q_alloc | apply Kd.Q_drewN | apply Kd.Q_drew)); exact HO_713000.out) hb); have n2_ := Aside0.mk (Kd.Q_below (by (with_reducible repeat (first | apply Kd.Q_alloc | apply Kd.Q_drewN | apply Kd.Q_drew)); exact HO_719000.out) hb); have n3_ := Aside0.mk (blk_below (g := gb706) (o := .cells #[.slice Ao12 t702.length co12] 27 (0, 0)) (be_ BK706.out) hb); have n4_ := Aside0.mk (blk_below (g := gb712) (o := .cells #[.slice Ao17 t708.length co17] 27 (0, 0)) (be_ BK712.out) hb); have n5_ := Aside0.mk (blk_below (g := gb718) (o := .cells #[.slice Ao23 t714.length co23] 27 (0, 0)) (be_ BK718.out) hb); have n6_ := Aside0.mk (below_step (by repeat (first | (with_reducible first | exact HB.out | apply below_alloc | apply pw_below_drewN | apply below_drew1 | refine below_set ?_ GE706.out | refine below_set ?_ GE712.out | refine below_set ?_ GE718.out) | exact HB.out)) hb); clear HO_707000; clear HO_713000; clear HO_719000; clear BK706; clear BK712; clear BK718; clear HB; have HO_707000 := n0_; have HO_713000 := n1_; have HO_719000 := n2_; have BK706 := n3_; have BK712 := n4_; have BK718 := n5_; have HB := n6_; clear n0_ n1_ n2_ n3_ n4_ n5_ n6_; (try clear hb); (try clear hb2); (try clear hk); (try clear hi)))
          go_meet
          case rel => exact ⟨_, (true), (by first | rfl | (simp; done) | (simp [*]; done)), H', ⟨by have := HJ8.out; first | omega | exact Nat.le_refl _⟩, ⟨by (with_reducible repeat (first | apply Kd.Q_alloc | apply Kd.Q_drewN | apply Kd.Q_drew)); exact HO_707000.out⟩, ⟨by (with_reducible repeat (first | apply Kd.Q_alloc | apply Kd.Q_drewN | apply Kd.Q_drew)); exact HO_713000.out⟩, ⟨by (with_reducible repeat (first | apply Kd.Q_alloc | apply Kd.Q_drewN | apply Kd.Q_drew)); exact HO_719000.out⟩, ⟨be_ BK706.out⟩, ⟨be_ BK712.out⟩, ⟨be_ BK718.out⟩, ⟨by repeat (first | (with_reducible first | exact HB.out | apply below_alloc | apply pw_below_drewN | apply below_drew1 | refine below_set ?_ GE706.out | refine below_set ?_ GE712.out | refine below_set ?_ GE718.out) | exact HB.out)⟩⟩
       case rest =>
        clear HC47
        try clear c2
        try clear p2
        try clear c3
        try clear c4
        try clear c5
        try clear c6
        try clear c26
        try clear c28
        try clear c28b0
        try clear c28b1
        try clear c30
        try clear c30b0
        try clear c30b1
        try clear c39
        try clear c40
        try clear c41
        try clear c42
        try clear c46
        try clear c49
        try clear c50
        try clear c50b0
        try clear c51
        try clear c52
        try clear c55
        try clear c56
        try clear c59
        try clear c60
        try clear hcz53_0
        try clear hcz57_0
        try clear hcz61_0
        try clear hfz53_0
        try clear hfz57_0
        try clear hfz61_0
        try clear p2
        obtain ⟨kq, x66_46, rfl, HA, HJ46, HO_707000, HO_713000, HO_719000, BK706, BK712, BK718, HB⟩ := hcut
        cases kq with
        | zero => exact absurd HA.out (by simp [laws_FnBounds.j1])
        | succ kj46 =>
         have H := HA.out
         clear HA
         simp only [laws_FnBounds.j1] at H
         by_cases c63 : x66_46 = true
         · subst c63
           have H1 : (some true) = some r := by rw [if_pos rfl] at H; exact H
           clear H
           have H := H1
           clear H1
           obtain rfl := Option.some.inj H
           go_wp2
           go_ret
           exact ⟨by first | rfl | (simp [errW_none, errW_some] <;> rfl) | (simp [*, errW_none, errW_some] <;> rfl), by repeat (first | (with_reducible first | exact HB.out | apply below_alloc | apply pw_below_drewN | apply below_drew1 | refine below_set ?_ GE706.out | refine below_set ?_ GE712.out | refine below_set ?_ GE718.out) | exact HB.out)⟩
         · replace c63 := Bool.eq_false_iff.mpr c63
           subst c63
           have H1 : ((spec_ConductorOf.f kj46 t702).bind fun t724 => ((impl_LinearBound.f kj46 t702 t705).bind fun t725 => (if t707 ≥ t725 then ((impl_OrderBound.f kj46 t702 (wrap64 (t705 + 1))).bind fun t726 => (if t726 ≥ t707 then (if t707 ≥ 1 then (if (wrap64 ((wrap64 (2 * t724)) + t705)) > 1000 then ((impl_PairsOf.f kj46 t702 t705).bind fun t727 => (some (decide (t727 ≥ 0)))) else ((impl_PairsOf.f kj46 t702 (wrap64 ((wrap64 (2 * t724)) + t705))).bind fun t728 => ((spec_GenusOf.f kj46 t702).bind fun t729 => (if t728 = (wrap64 ((wrap64 ((wrap64 ((wrap64 (2 * t724)) + t705)) + 1)) - (wrap64 (2 * t729)))) then ((impl_PairsOf.f kj46 t702 t705).bind fun t730 => (some (decide (t730 ≥ 0)))) else (some false))))) else (some false)) else (some false))) else (some false)))) = some r := by rw [if_neg (show ¬ (false = true) by decide)] at H; exact H
           clear H
           have H := H1
           clear H1
           replace H := Option.bind_eq_some_iff.mp H
           obtain ⟨t724, A640, H⟩ := H
           replace H : ((impl_LinearBound.f kj46 t702 t705).bind fun t725 => (if t707 ≥ t725 then ((impl_OrderBound.f kj46 t702 (wrap64 (t705 + 1))).bind fun t726 => (if t726 ≥ t707 then (if t707 ≥ 1 then (if (wrap64 ((wrap64 (2 * t724)) + t705)) > 1000 then ((impl_PairsOf.f kj46 t702 t705).bind fun t727 => (some (decide (t727 ≥ 0)))) else ((impl_PairsOf.f kj46 t702 (wrap64 ((wrap64 (2 * t724)) + t705))).bind fun t728 => ((spec_GenusOf.f kj46 t702).bind fun t729 => (if t728 = (wrap64 ((wrap64 ((wrap64 ((wrap64 (2 * t724)) + t705)) + 1)) - (wrap64 (2 * t729)))) then ((impl_PairsOf.f kj46 t702 t705).bind fun t730 => (some (decide (t730 ≥ 0)))) else (some false))))) else (some false)) else (some false))) else (some false))) = some r := H
           have A64 := Aside0.mk A640
           clear A640
           replace H := Option.bind_eq_some_iff.mp H
           obtain ⟨t725, A650, H⟩ := H
           replace H : (if t707 ≥ t725 then ((impl_OrderBound.f kj46 t702 (wrap64 (t705 + 1))).bind fun t726 => (if t726 ≥ t707 then (if t707 ≥ 1 then (if (wrap64 ((wrap64 (2 * t724)) + t705)) > 1000 then ((impl_PairsOf.f kj46 t702 t705).bind fun t727 => (some (decide (t727 ≥ 0)))) else ((impl_PairsOf.f kj46 t702 (wrap64 ((wrap64 (2 * t724)) + t705))).bind fun t728 => ((spec_GenusOf.f kj46 t702).bind fun t729 => (if t728 = (wrap64 ((wrap64 ((wrap64 ((wrap64 (2 * t724)) + t705)) + 1)) - (wrap64 (2 * t729)))) then ((impl_PairsOf.f kj46 t702 t705).bind fun t730 => (some (decide (t730 ≥ 0)))) else (some false))))) else (some false)) else (some false))) else (some false)) = some r := H
           have A65 := Aside0.mk A650
           clear A650
           by_cases c66 : t707 ≥ t725
           · rw [if_pos c66] at H
             have c66b0 : decide (t725 ≤ t707) = true := decide_eq_true c66
             clear c66
             replace H := Option.bind_eq_some_iff.mp H
             obtain ⟨t726, A670, H⟩ := H
             replace H : (if t726 ≥ t707 then (if t707 ≥ 1 then (if (wrap64 ((wrap64 (2 * t724)) + t705)) > 1000 then ((impl_PairsOf.f kj46 t702 t705).bind fun t727 => (some (decide (t727 ≥ 0)))) else ((impl_PairsOf.f kj46 t702 (wrap64 ((wrap64 (2 * t724)) + t705))).bind fun t728 => ((spec_GenusOf.f kj46 t702).bind fun t729 => (if t728 = (wrap64 ((wrap64 ((wrap64 ((wrap64 (2 * t724)) + t705)) + 1)) - (wrap64 (2 * t729)))) then ((impl_PairsOf.f kj46 t702 t705).bind fun t730 => (some (decide (t730 ≥ 0)))) else (some false))))) else (some false)) else (some false)) = some r := H
             have A67 := Aside0.mk A670
             clear A670
             by_cases c68 : t726 ≥ t707
             · rw [if_pos c68] at H
               have c68b0 : decide (t707 ≤ t726) = true := decide_eq_true c68
               clear c68
               by_cases c69 : t707 ≥ 1
               · rw [if_pos c69] at H
                 have c69b0 : decide (1 ≤ t707) = true := decide_eq_true c69
                 clear c69
                 by_cases c70 : (wrap64 ((wrap64 (2 * t724)) + t705)) > 1000
                 · rw [if_pos c70] at H
                   have c70b0 : decide (1000 < (wrap64 ((wrap64 (2 * t724)) + t705))) = true := decide_eq_true c70
                   clear c70
                   replace H := Option.bind_eq_some_iff.mp H
                   obtain ⟨t727, A710, H⟩ := H
                   replace H : (some (decide (t727 ≥ 0))) = some r := H
                   have A71 := Aside0.mk A710
                   clear A710
                   obtain rfl := Option.some.inj H
                   have hnb72 := NB706_712.out
                   have hnc72 := NB712_706.out
                   have hnb73 := NB706_718.out
                   have hnc73 := NB718_706.out
                   have hcz74_0 : wc.cell? ⟨gb706, 0, none⟩ = some (.slice Ao12 t702.length co12) := (blk_cell BK706.out 0).trans rfl
                   have hfz74_0 := blk_frozen BK706.out 0
                   try go_wp2_with (first | ((with_reducible refine gate_callee (f := 43) rfl ?_); refine goesL_ (some 68) rfl rfl Try.func43 (by kernel_rfl) rfl #[.agg #[.slice Ao12 t702.length co12]] rfl (by (try simp only [List.map_toArray, List.map_cons, List.map_nil]); first | done | rfl | (simp only [List.length_drop, List.length_take]; rfl)) ?_; (with_reducible refine (spec_ConductorOf.calls kj46 _ _ t702 t724 _ ?side1 ?side2 A64.out).mono ?_); (case side1 => exact ce_ ((Kd.Q_reads' HO_707000.out).2.2)); (case side2 => exact (Kd.Q_reads' HO_707000.out).2.1); rintro e w75 ⟨rfl, hb⟩; refine ⟨_, rfl, ?_⟩; have n0_ := Aside0.mk (Kd.Q_below (by (with_reducible repeat (first | apply Kd.Q_alloc | apply Kd.Q_drewN | apply Kd.Q_drew)); exact HO_707000.out) hb); have n1_ := Aside0.mk (Kd.Q_below (by (with_reducible repeat (first | apply Kd.Q_alloc | apply Kd.Q_drewN | apply Kd.Q_drew)); exact HO_713000.out) hb); have n2_ := Aside0.mk (Kd.Q_below (by (with_reducible repeat (first | apply Kd.Q_alloc | apply Kd.Q_drewN | apply Kd.Q_drew)); exact HO_719000.out) hb); have n3_ := Aside0.mk (blk_below (g := gb706) (o := .cells #[.slice Ao12 t702.length co12] 27 (0, 0)) (be_ BK706.out) hb); have n4_ := Aside0.mk (blk_below (g := gb712) (o := .cells #[.slice Ao17 t708.length co17] 27 (0, 0)) (be_ BK712.out) hb); have n5_ := Aside0.mk (blk_below (g := gb718) (o := .cells #[.slice Ao23 t714.length co23] 27 (0, 0)) (be_ BK718.out) hb); have n6_ := Aside0.mk (below_step (by repeat (first | (with_reducible first | exact HB.out | apply below_alloc | apply pw_below_drewN | apply below_drew1 | refine below_set ?_ GE706.out | refine below_set ?_ GE712.out | refine below_set ?_ GE718.out) | exact HB.out)) hb); clear HO_707000; clear HO_713000; clear HO_719000; clear BK706; clear BK712; clear BK718; clear HB; have HO_707000 := n0_; have HO_713000 := n1_; have HO_719000 := n2_; have BK706 := n3_; have BK712 := n4_; have BK718 := n5_; have HB := n6_; clear n0_ n1_ n2_ n3_ n4_ n5_ n6_; (try clear hb); (try clear hb2); (try clear hk); (try clear hi)))
                   have n0_ := Aside0.mk (Kd.Q_drew HO_707000.out)
                   have n1_ := Aside0.mk (Kd.Q_drew HO_713000.out)
                   have n2_ := Aside0.mk (Kd.Q_drew HO_719000.out)
                   have n3_ := Aside0.mk (blk_drew BK706.out)
                   have n4_ := Aside0.mk (blk_drew BK712.out)
                   have n5_ := Aside0.mk (blk_drew BK718.out)
                   have n6_ := Aside0.mk (below_drew1 HB.out)
                   clear HO_707000
                   clear HO_713000
                   clear HO_719000
                   clear BK706
                   clear BK712
                   clear BK718
                   clear HB
                   have HO_707000 := n0_
                   have HO_713000 := n1_
                   have HO_719000 := n2_
                   have BK706 := n3_
                   have BK712 := n4_
                   have BK718 := n5_
                   have HB := n6_
                   clear n0_ n1_ n2_ n3_ n4_ n5_ n6_
                   refine start_ (n := 40) (S := fun w' => w'.cell? ⟨gb706, 0, none⟩ = some (.slice Ao12 t702.length co12)) (ds := []) (B_ 0 40) (by kernel_rfl) rfl rfl ((blk_cell BK706.out 0).trans rfl) (fun hHeld => ?_); refine with_tabW laws_FnBounds.tab13 laws_FnBounds.bits13 (fun HT_ HW_ => ?_)
                   generalize w75.drew = w76 at HO_707000 HO_713000 HO_719000 BK706 BK712 BK718 HB hHeld ⊢
                   refine pu_ HT_ 0 72 (B_ 1 40) ?_
                   refine pu_ HT_ 2 74 (B_ 5 40) ?_
                   refine tk1_ HT_ HW_ hHeld 1 73 (B_ 7 40) ?_
                   refine one_ (i := 3) (N := some 75) (B_ 15 40) rfl rfl (one_of HT_.out (by kernel_rfl)) (by decide) (fun K hK => ?_)
                   refine goes_ Try.func40 (by kernel_rfl) rfl #[.agg #[.slice Ao12 t702.length co12], .int .i64 t705] (by rfl) rfl rfl (by (try simp only [List.map_toArray, List.map_cons, List.map_nil]); first | done | rfl | (simp only [List.length_drop, List.length_take]; rfl)) ?_
                   with_reducible refine (impl_LinearBound.calls kj46 _ _ t702 t705 t725 _ ?side1 ?side2 A65.out).mono ?_
                   (case side1 => exact ce_ ((Kd.Q_reads' HO_707000.out).2.2))
                   (case side2 => exact (Kd.Q_reads' HO_707000.out).2.1)
                   rintro e w77 ⟨rfl, hb⟩
                   refine ⟨_, rfl, ?_⟩
                   have n0_ := Aside0.mk (Kd.Q_below (by (with_reducible repeat (first | apply Kd.Q_alloc | apply Kd.Q_drewN | apply Kd.Q_drew)); exact HO_707000.out) hb)
                   have n1_ := Aside0.mk (Kd.Q_below (by (with_reducible repeat (first | apply Kd.Q_alloc | apply Kd.Q_drewN | apply Kd.Q_drew)); exact HO_713000.out) hb)
                   have n2_ := Aside0.mk (Kd.Q_below (by (with_reducible repeat (first | apply Kd.Q_alloc | apply Kd.Q_drewN | apply Kd.Q_drew)); exact HO_719000.out) hb)
                   have n3_ := Aside0.mk (blk_below (g := gb706) (o := .cells #[.slice Ao12 t702.length co12] 27 (0, 0)) (be_ BK706.out) hb)
                   have n4_ := Aside0.mk (blk_below (g := gb712) (o := .cells #[.slice Ao17 t708.length co17] 27 (0, 0)) (be_ BK712.out) hb)
                   have n5_ := Aside0.mk (blk_below (g := gb718) (o := .cells #[.slice Ao23 t714.length co23] 27 (0, 0)) (be_ BK718.out) hb)
                   have n6_ := Aside0.mk (below_step (by repeat (first | (with_reducible first | exact HB.out | apply below_alloc | apply pw_below_drewN | apply below_drew1 | refine below_set ?_ GE706.out | refine below_set ?_ GE712.out | refine below_set ?_ GE718.out) | exact HB.out)) hb)
                   clear HO_707000
                   clear HO_713000
                   clear HO_719000
                   clear BK706
                   clear BK712
                   clear BK718
                   clear HB
                   have HO_707000 := n0_
                   have HO_713000 := n1_
                   have HO_719000 := n2_
                   have BK706 := n3_
                   have BK712 := n4_
                   have BK718 := n5_
                   have HB := n6_
                   clear n0_ n1_ n2_ n3_ n4_ n5_ n6_
                   (try clear hb)
                   (try clear hb2)
                   (try clear hk)
                   (try clear hi)
                   refine hK.out _ _ ((blk_cell BK706.out 0).trans rfl) (fun hHeld => ?_)
                   clear hK K
                   refine norm_ (a' := ?_) ?_ ?_
                   rotate_left
                   · show Act.put _ (some 75) _ = _
                     simp only [Act.put, z1_, z2_, z3_, i64_w, i32_w]
                     rfl
                   refine pu_ HT_ 4 76 (B_ 31 40) ?_
                   refine pu_ HT_ 5 77 (B_ 63 40) ?_
                   refine pu_ HT_ 7 79 (B_ 191 40) ?_
                   refine pu_ HT_ 8 80 (B_ 447 40) ?_
                   refine pu_ HT_ 10 82 (B_ 1471 40) ?_
                   refine tk1_ HT_ HW_ hHeld 6 78 (B_ 1535 40) ?_
                   refine one_ (i := 9) (N := some 81) (B_ 2047 40) rfl rfl (one_of HT_.out (by kernel_rfl)) (by decide) (fun K hK => ?_)
                   refine goes_ Try.func27 (by kernel_rfl) rfl #[.agg #[.slice Ao12 t702.length co12], .int .i64 (wrap64 (t705 + 1))] (by rfl) rfl rfl (by (try simp only [List.map_toArray, List.map_cons, List.map_nil]); first | done | rfl | (simp only [List.length_drop, List.length_take]; rfl)) ?_
                   with_reducible refine (impl_OrderBound.calls kj46 _ _ t702 (wrap64 (t705 + 1)) t726 _ ?side1 ?side2 A67.out).mono ?_
                   (case side1 => exact ce_ ((Kd.Q_reads' HO_707000.out).2.2))
                   (case side2 => exact (Kd.Q_reads' HO_707000.out).2.1)
                   rintro e w78 ⟨rfl, hb⟩
                   refine ⟨_, rfl, ?_⟩
                   have n0_ := Aside0.mk (Kd.Q_below (by (with_reducible repeat (first | apply Kd.Q_alloc | apply Kd.Q_drewN | apply Kd.Q_drew)); exact HO_707000.out) hb)
                   have n1_ := Aside0.mk (Kd.Q_below (by (with_reducible repeat (first | apply Kd.Q_alloc | apply Kd.Q_drewN | apply Kd.Q_drew)); exact HO_713000.out) hb)
                   have n2_ := Aside0.mk (Kd.Q_below (by (with_reducible repeat (first | apply Kd.Q_alloc | apply Kd.Q_drewN | apply Kd.Q_drew)); exact HO_719000.out) hb)
                   have n3_ := Aside0.mk (blk_below (g := gb706) (o := .cells #[.slice Ao12 t702.length co12] 27 (0, 0)) (be_ BK706.out) hb)
                   have n4_ := Aside0.mk (blk_below (g := gb712) (o := .cells #[.slice Ao17 t708.length co17] 27 (0, 0)) (be_ BK712.out) hb)
                   have n5_ := Aside0.mk (blk_below (g := gb718) (o := .cells #[.slice Ao23 t714.length co23] 27 (0, 0)) (be_ BK718.out) hb)
                   have n6_ := Aside0.mk (below_step (by repeat (first | (with_reducible first | exact HB.out | apply below_alloc | apply pw_below_drewN | apply below_drew1 | refine below_set ?_ GE706.out | refine below_set ?_ GE712.out | refine below_set ?_ GE718.out) | exact HB.out)) hb)
                   clear HO_707000
                   clear HO_713000
                   clear HO_719000
                   clear BK706
                   clear BK712
                   clear BK718
                   clear HB
                   have HO_707000 := n0_
                   have HO_713000 := n1_
                   have HO_719000 := n2_
                   have BK706 := n3_
                   have BK712 := n4_
                   have BK718 := n5_
                   have HB := n6_
                   clear n0_ n1_ n2_ n3_ n4_ n5_ n6_
                   (try clear hb)
                   (try clear hb2)
                   (try clear hk)
                   (try clear hi)
                   refine hK.out _ _ ((blk_cell BK706.out 0).trans rfl) (fun hHeld => ?_)
                   clear hK K
                   refine norm_ (a' := ?_) ?_ ?_
                   rotate_left
                   · show Act.put _ (some 81) _ = _
                     simp only [Act.put, z1_, z2_, z3_, i64_w, i32_w]
                     rfl
                   refine pu_ HT_ 11 83 (B_ 4095 40) ?_
                   refine pu_ HT_ 12 84 (B_ 8191 40) ?_
                   refine pu_ HT_ 13 85 (B_ 16383 40) ?_
                   refine pu_ HT_ 14 86 (B_ 32767 40) ?_
                   refine pu_ HT_ 15 87 (B_ 65535 40) ?_
                   refine pu_ HT_ 16 88 (B_ 131071 40) ?_
                   refine pu_ HT_ 17 89 (B_ 262143 40) ?_
                   refine pu_ HT_ 18 90 (B_ 524287 40) ?_
                   refine pu_ HT_ 19 91 (B_ 1048575 40) ?_
                   refine pu_ HT_ 20 92 (B_ 2097151 40) ?_
                   refine pn_ HT_ 21 93 (B_ 4194303 40) ?_
                   refine pn_ HT_ 22 94 (B_ 8388607 40) ?_
                   refine pn_ HT_ 23 95 (B_ 16777215 40) ?_
                   refine pn_ HT_ 24 96 (B_ 33554431 40) ?_
                   refine pn_ HT_ 25 97 (B_ 67108863 40) ?_
                   refine pn_ HT_ 26 98 (B_ 134217727 40) ?_
                   refine pn_ HT_ 27 99 (B_ 268435455 40) ?_
                   refine pn_ HT_ 28 100 (B_ 536870911 40) ?_
                   refine pn_ HT_ 29 101 (B_ 1073741823 40) ?_
                   refine pn_ HT_ 30 102 (B_ 2147483647 40) ?_
                   refine pu_ HT_ 31 103 (B_ 4294967295 40) ?_
                   refine pu_ HT_ 32 104 (B_ 8589934591 40) ?_
                   refine pu_ HT_ 33 105 (B_ 17179869183 40) ?_
                   refine pu_ HT_ 35 107 (B_ 51539607551 40) ?_
                   refine tk1_ HT_ HW_ hHeld 34 106 (B_ 68719476735 40) ?_
                   refine one_ (i := 36) (N := some 108) (B_ 137438953471 40) rfl rfl (one_of HT_.out (by kernel_rfl)) (by decide) (fun K hK => ?_)
                   refine goes_ Try.func37 (by kernel_rfl) rfl #[.agg #[.slice Ao12 t702.length co12], .int .i64 t705] (by rfl) rfl rfl (by (try simp only [List.map_toArray, List.map_cons, List.map_nil]); first | done | rfl | (simp only [List.length_drop, List.length_take]; rfl)) ?_
                   with_reducible refine (impl_PairsOf.calls kj46 _ _ t702 t705 t727 _ ?side1 ?side2 A71.out).mono ?_
                   (case side1 => exact ce_ ((Kd.Q_reads' HO_707000.out).2.2))
                   (case side2 => exact (Kd.Q_reads' HO_707000.out).2.1)
                   rintro e w79 ⟨rfl, hb⟩
                   refine ⟨_, rfl, ?_⟩
                   have n0_ := Aside0.mk (Kd.Q_below (by (with_reducible repeat (first | apply Kd.Q_alloc | apply Kd.Q_drewN | apply Kd.Q_drew)); exact HO_707000.out) hb)
                   have n1_ := Aside0.mk (Kd.Q_below (by (with_reducible repeat (first | apply Kd.Q_alloc | apply Kd.Q_drewN | apply Kd.Q_drew)); exact HO_713000.out) hb)
                   have n2_ := Aside0.mk (Kd.Q_below (by (with_reducible repeat (first | apply Kd.Q_alloc | apply Kd.Q_drewN | apply Kd.Q_drew)); exact HO_719000.out) hb)
                   have n3_ := Aside0.mk (blk_below (g := gb706) (o := .cells #[.slice Ao12 t702.length co12] 27 (0, 0)) (be_ BK706.out) hb)
                   have n4_ := Aside0.mk (blk_below (g := gb712) (o := .cells #[.slice Ao17 t708.length co17] 27 (0, 0)) (be_ BK712.out) hb)
                   have n5_ := Aside0.mk (blk_below (g := gb718) (o := .cells #[.slice Ao23 t714.length co23] 27 (0, 0)) (be_ BK718.out) hb)
                   have n6_ := Aside0.mk (below_step (by repeat (first | (with_reducible first | exact HB.out | apply below_alloc | apply pw_below_drewN | apply below_drew1 | refine below_set ?_ GE706.out | refine below_set ?_ GE712.out | refine below_set ?_ GE718.out) | exact HB.out)) hb)
                   clear HO_707000
                   clear HO_713000
                   clear HO_719000
                   clear BK706
                   clear BK712
                   clear BK718
                   clear HB
                   have HO_707000 := n0_
                   have HO_713000 := n1_
                   have HO_719000 := n2_
                   have BK706 := n3_
                   have BK712 := n4_
                   have BK718 := n5_
                   have HB := n6_
                   clear n0_ n1_ n2_ n3_ n4_ n5_ n6_
                   (try clear hb)
                   (try clear hb2)
                   (try clear hk)
                   (try clear hi)
                   refine hK.out _ _ ((blk_cell BK706.out 0).trans rfl) (fun hHeld => ?_)
                   clear hK K
                   refine norm_ (a' := ?_) ?_ ?_
                   rotate_left
                   · show Act.put _ (some 108) _ = _
                     simp only [Act.put, z1_, z2_, z3_, i64_w, i32_w]
                     rfl
                   refine pu_ HT_ 37 109 (B_ 274877906943 40) ?_
                   refine pu_ HT_ 38 110 (B_ 549755813887 40) ?_
                   refine pu_ HT_ 39 2 (B_ 1099511627775 40) ?_
                   refine done_ (done_of HT_.out (by kernel_rfl)) ?_
                   try go_wp2
                   go_ret
                   exact ⟨by first | rfl | (simp [errW_none, errW_some] <;> rfl) | (simp [*, errW_none, errW_some] <;> rfl), by repeat (first | (with_reducible first | exact HB.out | apply below_alloc | apply pw_below_drewN | apply below_drew1 | refine below_set ?_ GE706.out | refine below_set ?_ GE712.out | refine below_set ?_ GE718.out) | exact HB.out)⟩
                 · rw [if_neg c70] at H
                   have c70b0 : decide (1000 < (wrap64 ((wrap64 (2 * t724)) + t705))) = false := decide_eq_false c70
                   clear c70
                   replace H := Option.bind_eq_some_iff.mp H
                   obtain ⟨t728, A800, H⟩ := H
                   replace H : ((spec_GenusOf.f kj46 t702).bind fun t729 => (if t728 = (wrap64 ((wrap64 ((wrap64 ((wrap64 (2 * t724)) + t705)) + 1)) - (wrap64 (2 * t729)))) then ((impl_PairsOf.f kj46 t702 t705).bind fun t730 => (some (decide (t730 ≥ 0)))) else (some false))) = some r := H
                   have A80 := Aside0.mk A800
                   clear A800
                   replace H := Option.bind_eq_some_iff.mp H
                   obtain ⟨t729, A810, H⟩ := H
                   replace H : (if t728 = (wrap64 ((wrap64 ((wrap64 ((wrap64 (2 * t724)) + t705)) + 1)) - (wrap64 (2 * t729)))) then ((impl_PairsOf.f kj46 t702 t705).bind fun t730 => (some (decide (t730 ≥ 0)))) else (some false)) = some r := H
                   have A81 := Aside0.mk A810
                   clear A810
                   by_cases c82 : t728 = (wrap64 ((wrap64 ((wrap64 ((wrap64 (2 * t724)) + t705)) + 1)) - (wrap64 (2 * t729))))
                   · rw [if_pos c82] at H
                     have c82b0 : (t728 == (wrap64 ((wrap64 ((wrap64 ((wrap64 (2 * t724)) + t705)) + 1)) - (wrap64 (2 * t729))))) = true := beq_iff_eq.mpr c82
                     have c82b1 : (t728 != (wrap64 ((wrap64 ((wrap64 ((wrap64 (2 * t724)) + t705)) + 1)) - (wrap64 (2 * t729))))) = false := bne_eq_false_iff_eq.mpr c82
                     clear c82
                     replace H := Option.bind_eq_some_iff.mp H
                     obtain ⟨t730, A830, H⟩ := H
                     replace H : (some (decide (t730 ≥ 0))) = some r := H
                     have A83 := Aside0.mk A830
                     clear A830
                     obtain rfl := Option.some.inj H
                     have hnb84 := NB706_712.out
                     have hnc84 := NB712_706.out
                     have hnb85 := NB706_718.out
                     have hnc85 := NB718_706.out
                     have hcz86_0 : wc.cell? ⟨gb706, 0, none⟩ = some (.slice Ao12 t702.length co12) := (blk_cell BK706.out 0).trans rfl
                     have hfz86_0 := blk_frozen BK706.out 0
                     try go_wp2_with (first | ((with_reducible refine gate_callee (f := 43) rfl ?_); refine goesL_ (some 68) rfl rfl Try.func43 (by kernel_rfl) rfl #[.agg #[.slice Ao12 t702.length co12]] rfl (by (try simp only [List.map_toArray, List.map_cons, List.map_nil]); first | done | rfl | (simp only [List.length_drop, List.length_take]; rfl)) ?_; (with_reducible refine (spec_ConductorOf.calls kj46 _ _ t702 t724 _ ?side1 ?side2 A64.out).mono ?_); (case side1 => exact ce_ ((Kd.Q_reads' HO_707000.out).2.2)); (case side2 => exact (Kd.Q_reads' HO_707000.out).2.1); rintro e w87 ⟨rfl, hb⟩; refine ⟨_, rfl, ?_⟩; have n0_ := Aside0.mk (Kd.Q_below (by (with_reducible repeat (first | apply Kd.Q_alloc | apply Kd.Q_drewN | apply Kd.Q_drew)); exact HO_707000.out) hb); have n1_ := Aside0.mk (Kd.Q_below (by (with_reducible repeat (first | apply Kd.Q_alloc | apply Kd.Q_drewN | apply Kd.Q_drew)); exact HO_713000.out) hb); have n2_ := Aside0.mk (Kd.Q_below (by (with_reducible repeat (first | apply Kd.Q_alloc | apply Kd.Q_drewN | apply Kd.Q_drew)); exact HO_719000.out) hb); have n3_ := Aside0.mk (blk_below (g := gb706) (o := .cells #[.slice Ao12 t702.length co12] 27 (0, 0)) (be_ BK706.out) hb); have n4_ := Aside0.mk (blk_below (g := gb712) (o := .cells #[.slice Ao17 t708.length co17] 27 (0, 0)) (be_ BK712.out) hb); have n5_ := Aside0.mk (blk_below (g := gb718) (o := .cells #[.slice Ao23 t714.length co23] 27 (0, 0)) (be_ BK718.out) hb); have n6_ := Aside0.mk (below_step (by repeat (first | (with_reducible first | exact HB.out | apply below_alloc | apply pw_below_drewN | apply below_drew1 | refine below_set ?_ GE706.out | refine below_set ?_ GE712.out | refine below_set ?_ GE718.out) | exact HB.out)) hb); clear HO_707000; clear HO_713000; clear HO_719000; clear BK706; clear BK712; clear BK718; clear HB; have HO_707000 := n0_; have HO_713000 := n1_; have HO_719000 := n2_; have BK706 := n3_; have BK712 := n4_; have BK718 := n5_; have HB := n6_; clear n0_ n1_ n2_ n3_ n4_ n5_ n6_; (try clear hb); (try clear hb2); (try clear hk); (try clear hi)))
                     have n0_ := Aside0.mk (Kd.Q_drew HO_707000.out)
                     have n1_ := Aside0.mk (Kd.Q_drew HO_713000.out)
                     have n2_ := Aside0.mk (Kd.Q_drew HO_719000.out)
                     have n3_ := Aside0.mk (blk_drew BK706.out)
                     have n4_ := Aside0.mk (blk_drew BK712.out)
                     have n5_ := Aside0.mk (blk_drew BK718.out)
                     have n6_ := Aside0.mk (below_drew1 HB.out)
                     clear HO_707000
                     clear HO_713000
                     clear HO_719000
                     clear BK706
                     clear BK712
                     clear BK718
                     clear HB
                     have HO_707000 := n0_
                     have HO_713000 := n1_
                     have HO_719000 := n2_
                     have BK706 := n3_
                     have BK712 := n4_
                     have BK718 := n5_
                     have HB := n6_
                     clear n0_ n1_ n2_ n3_ n4_ n5_ n6_
                     refine start_ (n := 40) (S := fun w' => w'.cell? ⟨gb706, 0, none⟩ = some (.slice Ao12 t702.length co12)) (ds := []) (B_ 0 40) (by kernel_rfl) rfl rfl ((blk_cell BK706.out 0).trans rfl) (fun hHeld => ?_); refine with_tabW laws_FnBounds.tab13 laws_FnBounds.bits13 (fun HT_ HW_ => ?_)
                     generalize w87.drew = w88 at HO_707000 HO_713000 HO_719000 BK706 BK712 BK718 HB hHeld ⊢
                     refine pu_ HT_ 0 72 (B_ 1 40) ?_
                     refine pu_ HT_ 2 74 (B_ 5 40) ?_
                     refine tk1_ HT_ HW_ hHeld 1 73 (B_ 7 40) ?_
                     refine one_ (i := 3) (N := some 75) (B_ 15 40) rfl rfl (one_of HT_.out (by kernel_rfl)) (by decide) (fun K hK => ?_)
                     refine goes_ Try.func40 (by kernel_rfl) rfl #[.agg #[.slice Ao12 t702.length co12], .int .i64 t705] (by rfl) rfl rfl (by (try simp only [List.map_toArray, List.map_cons, List.map_nil]); first | done | rfl | (simp only [List.length_drop, List.length_take]; rfl)) ?_
                     with_reducible refine (impl_LinearBound.calls kj46 _ _ t702 t705 t725 _ ?side1 ?side2 A65.out).mono ?_
                     (case side1 => exact ce_ ((Kd.Q_reads' HO_707000.out).2.2))
                     (case side2 => exact (Kd.Q_reads' HO_707000.out).2.1)
                     rintro e w89 ⟨rfl, hb⟩
                     refine ⟨_, rfl, ?_⟩
                     have n0_ := Aside0.mk (Kd.Q_below (by (with_reducible repeat (first | apply Kd.Q_alloc | apply Kd.Q_drewN | apply Kd.Q_drew)); exact HO_707000.out) hb)
                     have n1_ := Aside0.mk (Kd.Q_below (by (with_reducible repeat (first | apply Kd.Q_alloc | apply Kd.Q_drewN | apply Kd.Q_drew)); exact HO_713000.out) hb)
                     have n2_ := Aside0.mk (Kd.Q_below (by (with_reducible repeat (first | apply Kd.Q_alloc | apply Kd.Q_drewN | apply Kd.Q_drew)); exact HO_719000.out) hb)
                     have n3_ := Aside0.mk (blk_below (g := gb706) (o := .cells #[.slice Ao12 t702.length co12] 27 (0, 0)) (be_ BK706.out) hb)
                     have n4_ := Aside0.mk (blk_below (g := gb712) (o := .cells #[.slice Ao17 t708.length co17] 27 (0, 0)) (be_ BK712.out) hb)
                     have n5_ := Aside0.mk (blk_below (g := gb718) (o := .cells #[.slice Ao23 t714.length co23] 27 (0, 0)) (be_ BK718.out) hb)
                     have n6_ := Aside0.mk (below_step (by repeat (first | (with_reducible first | exact HB.out | apply below_alloc | apply pw_below_drewN | apply below_drew1 | refine below_set ?_ GE706.out | refine below_set ?_ GE712.out | refine below_set ?_ GE718.out) | exact HB.out)) hb)
                     clear HO_707000
                     clear HO_713000
                     clear HO_719000
                     clear BK706
                     clear BK712
                     clear BK718
                     clear HB
                     have HO_707000 := n0_
                     have HO_713000 := n1_
                     have HO_719000 := n2_
                     have BK706 := n3_
                     have BK712 := n4_
                     have BK718 := n5_
                     have HB := n6_
                     clear n0_ n1_ n2_ n3_ n4_ n5_ n6_
                     (try clear hb)
                     (try clear hb2)
                     (try clear hk)
                     (try clear hi)
                     refine hK.out _ _ ((blk_cell BK706.out 0).trans rfl) (fun hHeld => ?_)
                     clear hK K
                     refine norm_ (a' := ?_) ?_ ?_
                     rotate_left
                     · show Act.put _ (some 75) _ = _
                       simp only [Act.put, z1_, z2_, z3_, i64_w, i32_w]
                       rfl
                     refine pu_ HT_ 4 76 (B_ 31 40) ?_
                     refine pu_ HT_ 5 77 (B_ 63 40) ?_
                     refine pu_ HT_ 7 79 (B_ 191 40) ?_
                     refine pu_ HT_ 8 80 (B_ 447 40) ?_
                     refine pu_ HT_ 10 82 (B_ 1471 40) ?_
                     refine tk1_ HT_ HW_ hHeld 6 78 (B_ 1535 40) ?_
                     refine one_ (i := 9) (N := some 81) (B_ 2047 40) rfl rfl (one_of HT_.out (by kernel_rfl)) (by decide) (fun K hK => ?_)
                     refine goes_ Try.func27 (by kernel_rfl) rfl #[.agg #[.slice Ao12 t702.length co12], .int .i64 (wrap64 (t705 + 1))] (by rfl) rfl rfl (by (try simp only [List.map_toArray, List.map_cons, List.map_nil]); first | done | rfl | (simp only [List.length_drop, List.length_take]; rfl)) ?_
                     with_reducible refine (impl_OrderBound.calls kj46 _ _ t702 (wrap64 (t705 + 1)) t726 _ ?side1 ?side2 A67.out).mono ?_
                     (case side1 => exact ce_ ((Kd.Q_reads' HO_707000.out).2.2))
                     (case side2 => exact (Kd.Q_reads' HO_707000.out).2.1)
                     rintro e w90 ⟨rfl, hb⟩
                     refine ⟨_, rfl, ?_⟩
                     have n0_ := Aside0.mk (Kd.Q_below (by (with_reducible repeat (first | apply Kd.Q_alloc | apply Kd.Q_drewN | apply Kd.Q_drew)); exact HO_707000.out) hb)
                     have n1_ := Aside0.mk (Kd.Q_below (by (with_reducible repeat (first | apply Kd.Q_alloc | apply Kd.Q_drewN | apply Kd.Q_drew)); exact HO_713000.out) hb)
                     have n2_ := Aside0.mk (Kd.Q_below (by (with_reducible repeat (first | apply Kd.Q_alloc | apply Kd.Q_drewN | apply Kd.Q_drew)); exact HO_719000.out) hb)
                     have n3_ := Aside0.mk (blk_below (g := gb706) (o := .cells #[.slice Ao12 t702.length co12] 27 (0, 0)) (be_ BK706.out) hb)
                     have n4_ := Aside0.mk (blk_below (g := gb712) (o := .cells #[.slice Ao17 t708.length co17] 27 (0, 0)) (be_ BK712.out) hb)
                     have n5_ := Aside0.mk (blk_below (g := gb718) (o := .cells #[.slice Ao23 t714.length co23] 27 (0, 0)) (be_ BK718.out) hb)
                     have n6_ := Aside0.mk (below_step (by repeat (first | (with_reducible first | exact HB.out | apply below_alloc | apply pw_below_drewN | apply below_drew1 | refine below_set ?_ GE706.out | refine below_set ?_ GE712.out | refine below_set ?_ GE718.out) | exact HB.out)) hb)
                     clear HO_707000
                     clear HO_713000
                     clear HO_719000
                     clear BK706
                     clear BK712
                     clear BK718
                     clear HB
                     have HO_707000 := n0_
                     have HO_713000 := n1_
                     have HO_719000 := n2_
                     have BK706 := n3_
                     have BK712 := n4_
                     have BK718 := n5_
                     have HB := n6_
                     clear n0_ n1_ n2_ n3_ n4_ n5_ n6_
                     (try clear hb)
                     (try clear hb2)
                     (try clear hk)
                     (try clear hi)
                     refine hK.out _ _ ((blk_cell BK706.out 0).trans rfl) (fun hHeld => ?_)
                     clear hK K
                     refine norm_ (a' := ?_) ?_ ?_
                     rotate_left
                     · show Act.put _ (some 81) _ = _
                       simp only [Act.put, z1_, z2_, z3_, i64_w, i32_w]
                       rfl
                     refine pu_ HT_ 11 83 (B_ 4095 40) ?_
                     refine pu_ HT_ 12 84 (B_ 8191 40) ?_
                     refine pu_ HT_ 13 85 (B_ 16383 40) ?_
                     refine pu_ HT_ 14 86 (B_ 32767 40) ?_
                     refine pu_ HT_ 15 87 (B_ 65535 40) ?_
                     refine pu_ HT_ 16 88 (B_ 131071 40) ?_
                     refine pu_ HT_ 17 89 (B_ 262143 40) ?_
                     refine pu_ HT_ 18 90 (B_ 524287 40) ?_
                     refine pu_ HT_ 19 91 (B_ 1048575 40) ?_
                     refine pu_ HT_ 20 92 (B_ 2097151 40) ?_
                     refine pu_ HT_ 22 94 (B_ 6291455 40) ?_
                     refine pu_ HT_ 24 96 (B_ 23068671 40) ?_
                     refine pu_ HT_ 25 97 (B_ 56623103 40) ?_
                     refine tk1_ HT_ HW_ hHeld 21 93 (B_ 58720255 40) ?_
                     refine tk1_ HT_ HW_ hHeld 26 98 (B_ 125829119 40) ?_
                     refine one_ (i := 23) (N := some 95) (B_ 134217727 40) rfl rfl (one_of HT_.out (by kernel_rfl)) (by decide) (fun K hK => ?_)
                     refine goes_ Try.func37 (by kernel_rfl) rfl #[.agg #[.slice Ao12 t702.length co12], .int .i64 (wrap64 ((wrap64 (2 * t724)) + t705))] (by rfl) rfl rfl (by (try simp only [List.map_toArray, List.map_cons, List.map_nil]); first | done | rfl | (simp only [List.length_drop, List.length_take]; rfl)) ?_
                     with_reducible refine (impl_PairsOf.calls kj46 _ _ t702 (wrap64 ((wrap64 (2 * t724)) + t705)) t728 _ ?side1 ?side2 A80.out).mono ?_
                     (case side1 => exact ce_ ((Kd.Q_reads' HO_707000.out).2.2))
                     (case side2 => exact (Kd.Q_reads' HO_707000.out).2.1)
                     rintro e w91 ⟨rfl, hb⟩
                     refine ⟨_, rfl, ?_⟩
                     have n0_ := Aside0.mk (Kd.Q_below (by (with_reducible repeat (first | apply Kd.Q_alloc | apply Kd.Q_drewN | apply Kd.Q_drew)); exact HO_707000.out) hb)
                     have n1_ := Aside0.mk (Kd.Q_below (by (with_reducible repeat (first | apply Kd.Q_alloc | apply Kd.Q_drewN | apply Kd.Q_drew)); exact HO_713000.out) hb)
                     have n2_ := Aside0.mk (Kd.Q_below (by (with_reducible repeat (first | apply Kd.Q_alloc | apply Kd.Q_drewN | apply Kd.Q_drew)); exact HO_719000.out) hb)
                     have n3_ := Aside0.mk (blk_below (g := gb706) (o := .cells #[.slice Ao12 t702.length co12] 27 (0, 0)) (be_ BK706.out) hb)
                     have n4_ := Aside0.mk (blk_below (g := gb712) (o := .cells #[.slice Ao17 t708.length co17] 27 (0, 0)) (be_ BK712.out) hb)
                     have n5_ := Aside0.mk (blk_below (g := gb718) (o := .cells #[.slice Ao23 t714.length co23] 27 (0, 0)) (be_ BK718.out) hb)
                     have n6_ := Aside0.mk (below_step (by repeat (first | (with_reducible first | exact HB.out | apply below_alloc | apply pw_below_drewN | apply below_drew1 | refine below_set ?_ GE706.out | refine below_set ?_ GE712.out | refine below_set ?_ GE718.out) | exact HB.out)) hb)
                     clear HO_707000
                     clear HO_713000
                     clear HO_719000
                     clear BK706
                     clear BK712
                     clear BK718
                     clear HB
                     have HO_707000 := n0_
                     have HO_713000 := n1_
                     have HO_719000 := n2_
                     have BK706 := n3_
                     have BK712 := n4_
                     have BK718 := n5_
                     have HB := n6_
                     clear n0_ n1_ n2_ n3_ n4_ n5_ n6_
                     (try clear hb)
                     (try clear hb2)
                     (try clear hk)
                     (try clear hi)
                     refine hK.out _ _ ((blk_cell BK706.out 0).trans rfl) (fun hHeld => ?_)
                     clear hK K
                     refine norm_ (a' := ?_) ?_ ?_
                     rotate_left
                     · show Act.put _ (some 95) _ = _
                       simp only [Act.put, z1_, z2_, z3_, i64_w, i32_w]
                       rfl
                     refine one_ (i := 27) (N := some 99) (B_ 268435455 40) rfl rfl (one_of HT_.out (by kernel_rfl)) (by decide) (fun K hK => ?_)
                     refine goes_ Try.func44 (by kernel_rfl) rfl #[.agg #[.slice Ao12 t702.length co12]] (by rfl) rfl rfl (by (try simp only [List.map_toArray, List.map_cons, List.map_nil]); first | done | rfl | (simp only [List.length_drop, List.length_take]; rfl)) ?_
                     with_reducible refine (spec_GenusOf.calls kj46 _ _ t702 t729 _ ?side1 ?side2 A81.out).mono ?_
                     (case side1 => exact ce_ ((Kd.Q_reads' HO_707000.out).2.2))
                     (case side2 => exact (Kd.Q_reads' HO_707000.out).2.1)
                     rintro e w92 ⟨rfl, hb⟩
                     refine ⟨_, rfl, ?_⟩
                     have n0_ := Aside0.mk (Kd.Q_below (by (with_reducible repeat (first | apply Kd.Q_alloc | apply Kd.Q_drewN | apply Kd.Q_drew)); exact HO_707000.out) hb)
                     have n1_ := Aside0.mk (Kd.Q_below (by (with_reducible repeat (first | apply Kd.Q_alloc | apply Kd.Q_drewN | apply Kd.Q_drew)); exact HO_713000.out) hb)
                     have n2_ := Aside0.mk (Kd.Q_below (by (with_reducible repeat (first | apply Kd.Q_alloc | apply Kd.Q_drewN | apply Kd.Q_drew)); exact HO_719000.out) hb)
                     have n3_ := Aside0.mk (blk_below (g := gb706) (o := .cells #[.slice Ao12 t702.length co12] 27 (0, 0)) (be_ BK706.out) hb)
                     have n4_ := Aside0.mk (blk_below (g := gb712) (o := .cells #[.slice Ao17 t708.length co17] 27 (0, 0)) (be_ BK712.out) hb)
                     have n5_ := Aside0.mk (blk_below (g := gb718) (o := .cells #[.slice Ao23 t714.length co23] 27 (0, 0)) (be_ BK718.out) hb)
                     have n6_ := Aside0.mk (below_step (by repeat (first | (with_reducible first | exact HB.out | apply below_alloc | apply pw_below_drewN | apply below_drew1 | refine below_set ?_ GE706.out | refine below_set ?_ GE712.out | refine below_set ?_ GE718.out) | exact HB.out)) hb)
                     clear HO_707000
                     clear HO_713000
                     clear HO_719000
                     clear BK706
                     clear BK712
                     clear BK718
                     clear HB
                     have HO_707000 := n0_
                     have HO_713000 := n1_
                     have HO_719000 := n2_
                     have BK706 := n3_
                     have BK712 := n4_
                     have BK718 := n5_
                     have HB := n6_
                     clear n0_ n1_ n2_ n3_ n4_ n5_ n6_
                     (try clear hb)
                     (try clear hb2)
                     (try clear hk)
                     (try clear hi)
                     refine hK.out _ _ ((blk_cell BK706.out 0).trans rfl) (fun hHeld => ?_)
                     clear hK K
                     refine norm_ (a' := ?_) ?_ ?_
                     rotate_left
                     · show Act.put _ (some 99) _ = _
                       simp only [Act.put, z1_, z2_, z3_, i64_w, i32_w]
                       rfl
                     refine pu_ HT_ 28 100 (B_ 536870911 40) ?_
                     refine pu_ HT_ 29 101 (B_ 1073741823 40) ?_
                     refine pu_ HT_ 30 102 (B_ 2147483647 40) ?_
                     refine pu_ HT_ 31 103 (B_ 4294967295 40) ?_
                     refine pu_ HT_ 32 104 (B_ 8589934591 40) ?_
                     refine pu_ HT_ 33 105 (B_ 17179869183 40) ?_
                     refine pu_ HT_ 35 107 (B_ 51539607551 40) ?_
                     refine tk1_ HT_ HW_ hHeld 34 106 (B_ 68719476735 40) ?_
                     refine one_ (i := 36) (N := some 108) (B_ 137438953471 40) rfl rfl (one_of HT_.out (by kernel_rfl)) (by decide) (fun K hK => ?_)
                     refine goes_ Try.func37 (by kernel_rfl) rfl #[.agg #[.slice Ao12 t702.length co12], .int .i64 t705] (by rfl) rfl rfl (by (try simp only [List.map_toArray, List.map_cons, List.map_nil]); first | done | rfl | (simp only [List.length_drop, List.length_take]; rfl)) ?_
                     with_reducible refine (impl_PairsOf.calls kj46 _ _ t702 t705 t730 _ ?side1 ?side2 A83.out).mono ?_
                     (case side1 => exact ce_ ((Kd.Q_reads' HO_707000.out).2.2))
                     (case side2 => exact (Kd.Q_reads' HO_707000.out).2.1)
                     rintro e w93 ⟨rfl, hb⟩
                     refine ⟨_, rfl, ?_⟩
                     have n0_ := Aside0.mk (Kd.Q_below (by (with_reducible repeat (first | apply Kd.Q_alloc | apply Kd.Q_drewN | apply Kd.Q_drew)); exact HO_707000.out) hb)
                     have n1_ := Aside0.mk (Kd.Q_below (by (with_reducible repeat (first | apply Kd.Q_alloc | apply Kd.Q_drewN | apply Kd.Q_drew)); exact HO_713000.out) hb)
                     have n2_ := Aside0.mk (Kd.Q_below (by (with_reducible repeat (first | apply Kd.Q_alloc | apply Kd.Q_drewN | apply Kd.Q_drew)); exact HO_719000.out) hb)
                     have n3_ := Aside0.mk (blk_below (g := gb706) (o := .cells #[.slice Ao12 t702.length co12] 27 (0, 0)) (be_ BK706.out) hb)
                     have n4_ := Aside0.mk (blk_below (g := gb712) (o := .cells #[.slice Ao17 t708.length co17] 27 (0, 0)) (be_ BK712.out) hb)
                     have n5_ := Aside0.mk (blk_below (g := gb718) (o := .cells #[.slice Ao23 t714.length co23] 27 (0, 0)) (be_ BK718.out) hb)
                     have n6_ := Aside0.mk (below_step (by repeat (first | (with_reducible first | exact HB.out | apply below_alloc | apply pw_below_drewN | apply below_drew1 | refine below_set ?_ GE706.out | refine below_set ?_ GE712.out | refine below_set ?_ GE718.out) | exact HB.out)) hb)
                     clear HO_707000
                     clear HO_713000
                     clear HO_719000
                     clear BK706
                     clear BK712
                     clear BK718
                     clear HB
                     have HO_707000 := n0_
                     have HO_713000 := n1_
                     have HO_719000 := n2_
                     have BK706 := n3_
                     have BK712 := n4_
                     have BK718 := n5_
                     have HB := n6_
                     clear n0_ n1_ n2_ n3_ n4_ n5_ n6_
                     (try clear hb)
                     (try clear hb2)
                     (try clear hk)
                     (try clear hi)
                     refine hK.out _ _ ((blk_cell BK706.out 0).trans rfl) (fun hHeld => ?_)
                     clear hK K
                     refine norm_ (a' := ?_) ?_ ?_
                     rotate_left
                     · show Act.put _ (some 108) _ = _
                       simp only [Act.put, z1_, z2_, z3_, i64_w, i32_w]
                       rfl
                     refine pu_ HT_ 37 109 (B_ 274877906943 40) ?_
                     refine pu_ HT_ 38 110 (B_ 549755813887 40) ?_
                     refine pu_ HT_ 39 2 (B_ 1099511627775 40) ?_
                     refine done_ (done_of HT_.out (by kernel_rfl)) ?_
                     try go_wp2
                     go_ret
                     exact ⟨by first | rfl | (simp [errW_none, errW_some] <;> rfl) | (simp [*, errW_none, errW_some] <;> rfl), by repeat (first | (with_reducible first | exact HB.out | apply below_alloc | apply pw_below_drewN | apply below_drew1 | refine below_set ?_ GE706.out | refine below_set ?_ GE712.out | refine below_set ?_ GE718.out) | exact HB.out)⟩
                   · rw [if_neg c82] at H
                     exact absurd (H.trans (congrArg some hr_.out)) (by simp)
               · rw [if_neg c69] at H
                 exact absurd (H.trans (congrArg some hr_.out)) (by simp)
             · rw [if_neg c68] at H
               exact absurd (H.trans (congrArg some hr_.out)) (by simp)
           · rw [if_neg c66] at H
             exact absurd (H.trans (congrArg some hr_.out)) (by simp)
def laws_FnBounds.Pure : Prop := ∀ (l0 : List Int), l0.length ≤ maxLen → l0.length * 1 ≤ 140737488351232 → (∀ x ∈ l0, (Lit.int .u8 x).wf = true) → ∃ k, laws_FnBounds.f k l0 = some true
theorem laws_FnBounds.walk (P : laws_FnBounds.Pure) (a0 : Option Addr) (len0 cap0 : Nat) (z0 : List Int) (w : World) (w0 : (a0 = none ∧ len0 = 0 ∧ cap0 = 0 ∧ z0 = []) ∨ ∃ x, a0 = some x ∧ len0 ≤ cap0 ∧ cap0 ≤ maxLen ∧ z0.length = cap0 ∧ (∀ i, i < z0.length → w.cell? (x.add i) = some (.int .u8 (z0.getD i 0))) ∧ ∀ n ∈ z0, (Lit.int .u8 n).wf = true) (y0 : len0 * 1 ≤ 140737488351232) :
 Calls Try.prog 11 #[.slice a0 len0 cap0] w fun e w' => e = .returned (.bool true) ∧ Below w.heap.size w w' := by
 obtain ⟨l0, rfl, hr0, hm0, hw0, hc0⟩ := ReadsInt.ofRowC w0
 obtain ⟨k, h⟩ := P l0 hm0 y0 hw0
 refine (laws_FnBounds.calls k _ _ l0 true w (Kd.C_of_reads (d := (0 : Int)) (h1 := fun _ => rfl) hr0) hc0 h).mono ?_
 rintro e w' ⟨rfl, hd⟩
 exact ⟨rfl, hd⟩
end Go.Proofs.Ytapdhljbhekcdaa.PB
end
section
namespace Go.Proofs.Ytapdhljbhekcdaa.E
open Go.RowKit Go.Proofs.YtapdhljbhekcdaaW.PrintWords Go.Proofs.YtapdhljbhekcdaaW.PrintLast Go.Proofs.YtapdhljbhekcdaaW.PrintMore
set_option linter.unusedVariables false
set_option linter.unusedSimpArgs false
theorem w64 {x : Int} (h1 : -9223372036854775808 ≤ x) (h2 : x ≤ 9223372036854775807) : wrap64 x = x := by
 unfold wrap64; omega
theorem nd_t {p : Prop} [Decidable p] (h : ¬ p) : (!decide p) = true := by simp [h]
theorem nd_f {p : Prop} [Decidable p] (h : p) : ¬ (!decide p) = true := by simp [h]
theorem d_t {p : Prop} [Decidable p] (h : p) : decide p = true := by simp [h]
theorem d_f {p : Prop} [Decidable p] (h : ¬ p) : ¬ decide p = true := by simp [h]
theorem emod_le_self {n x : Int} (h : 0 ≤ n) (hx : 0 < x) : n % x ≤ n := by
 have h1 := Int.mul_ediv_add_emod n x
 have h2 : 0 ≤ x * (n / x) := Int.mul_nonneg (by omega) (Int.ediv_nonneg h (by omega))
 omega
theorem ev_ifp {α : Type} {c : Prop} [Decidable c] {a b : Nat → Option α} {r : α} (h : c) (k : Ev a r) : Ev (fun n => if c then a n else b n) r :=
 Ev.congr (fun _ => if_pos h) k
theorem ev_ifn {α : Type} {c : Prop} [Decidable c] {a b : Nat → Option α} {r : α} (h : ¬ c) (k : Ev b r) : Ev (fun n => if c then a n else b n) r :=
 Ev.congr (fun _ => if_neg h) k
theorem ev_bind {α β : Type} {g : Nat → Option α} {f : Nat → α → Option β} (a : α) {r : β} (h : Ev g a) (k : Ev (fun n => f n a) r) : Ev (fun n => (g n).bind (f n)) r := Ev.bind h k
theorem ev_one {α : Type} {g : Nat → Option α} {a b : α} (h : Ev g a) (k : Ev g b) : a = b := by
 obtain ⟨K, h⟩ := h
 obtain ⟨L, k⟩ := k
 have h1 := h (max K L) (by omega)
 have h2 := k (max K L) (by omega)
 rw [h1] at h2
 exact Option.some.inj h2
theorem ev_to {α : Type} {g : Nat → Option α} {a b : α} (h : Ev g a) (e : a = b) : Ev g b := e ▸ h
theorem rd_lt {l : List Int} {i : Int} (h0 : 0 ≤ i) (h : i < l.length) : rd l i = l[i.toNat]'(by omega) := by
 unfold rd; rw [List.getD_eq_getElem?_getD, List.getElem?_eq_getElem (by omega)]; rfl
theorem rd_mem {l : List Int} {i : Int} (h0 : 0 ≤ i) (h : i < l.length) : rd l i ∈ l := by
 rw [rd_lt h0 h]; exact List.getElem_mem _
theorem drop_rd {l : List Int} {i : Int} (h0 : 0 ≤ i) (h : i < l.length) : l.drop i.toNat = rd l i :: l.drop (i + 1).toNat := by
 rw [rd_lt h0 h, List.drop_eq_getElem_cons (by omega)]
 congr 2; omega
theorem take_rd {l : List Int} {i : Int} (h0 : 0 ≤ i) (h : i < l.length) : l.take (i + 1).toNat = l.take i.toNat ++ [rd l i] := by
 rw [rd_lt h0 h, show (i + 1).toNat = i.toNat + 1 from by omega, List.take_succ_eq_append_getElem (by omega)]
theorem rd_ext {l m : List Int} (hl : l.length = m.length) (h : ∀ i : Int, 0 ≤ i → i < l.length → rd l i = rd m i) : l = m := by
 refine List.ext_getElem hl fun n h1 h2 => ?_
 have := h n (by omega) (by omega)
 rw [rd_lt (by omega) (by omega), rd_lt (by omega) (by omega)] at this
 simpa using this
theorem rd_set {l : List Int} {i j : Int} (x : Int) (hi : 0 ≤ i) (hi' : i < l.length) (hj : 0 ≤ j) : rd (l.set i.toNat x) j = if j = i then x else rd l j := by
 unfold rd
 rw [List.getD_eq_getElem?_getD, List.getD_eq_getElem?_getD, List.getElem?_set]
 by_cases h : j = i
 · subst h; rw [if_pos rfl, if_pos rfl, if_pos (by omega)]; rfl
 · rw [if_neg h, if_neg (by omega)]
theorem rd_append {l m : List Int} {i : Int} (hi : 0 ≤ i) : rd (l ++ m) i = if i < l.length then rd l i else rd m (i - l.length) := by
 unfold rd
 rw [List.getD_eq_getElem?_getD, List.getD_eq_getElem?_getD, List.getD_eq_getElem?_getD, List.getElem?_append]
 by_cases h : i < l.length
 · rw [if_pos h, if_pos (by omega)]
 · rw [if_neg h, if_neg (by omega), show i.toNat - l.length = (i - l.length).toNat from by omega]
theorem rd_rep {n : Nat} {x : Int} {i : Int} (hi : 0 ≤ i) (h : i < n) : rd (List.replicate n x) i = x := by
 rw [rd_lt hi (by simpa using h)]; simp
theorem mem_rd {l : List Int} {x : Int} (h : x ∈ l) : ∃ i : Int, 0 ≤ i ∧ i < l.length ∧ rd l i = x := by
 obtain ⟨n, hn, rfl⟩ := List.mem_iff_getElem.1 h
 exact ⟨n, by omega, by omega, by rw [rd_lt (by omega) (by omega)]; simp⟩
end Go.Proofs.Ytapdhljbhekcdaa.E
end
section
namespace Go.Proofs.Ytapdhljbhekcdaa.E
open Go.RowKit Go.Proofs.Ytapdhljbhekcdaa.PB Go.Proofs.YtapdhljbhekcdaaW.PrintWords Go.Proofs.YtapdhljbhekcdaaW.PrintLast Go.Proofs.YtapdhljbhekcdaaW.PrintMore
set_option linter.unusedVariables false
set_option linter.unusedSimpArgs false
theorem l1In_eq (n lo hi : Int) : spec_l1In.f n lo hi = some (decide (lo ≤ n ∧ n ≤ hi)) := by
 unfold spec_l1In.f; by_cases h : n ≥ lo
 · rw [if_pos h]; simp [h]
 · rw [if_neg h]; simp [show ¬ lo ≤ n from h]
theorem within_eq (n lo hi : Int) : impl_within.f n lo hi = some (decide (lo ≤ n ∧ n ≤ hi)) := l1In_eq n lo hi
theorem allWithin_l {l : List Int} {lo hi : Int} (hl : l.length ≤ 1099511627776) (d : Nat) : ∀ (i : Int), 0 ≤ i → i + d = l.length → Ev (fun k => impl_allWithin.l0 k lo hi l l.length i) (decide (∀ x ∈ l.drop i.toNat, lo ≤ x ∧ x ≤ hi)) := by
 induction d with
 | zero =>
  intro i h0 h1
  refine Ev.step (fun k => by rw [impl_allWithin.l0]) ?_
  simp (disch := omega) only [if_neg]
  refine ev_to (Ev.now _) ?_
  rw [List.drop_of_length_le (by omega)]; simp
 | succ d ih =>
  intro i h0 h1
  refine Ev.step (fun k => by rw [impl_allWithin.l0]) ?_
  simp (disch := omega) only [if_pos, w64, within_eq, Option.bind_some]
  rw [drop_rd h0 (by omega)]
  by_cases h : lo ≤ rd l i ∧ rd l i ≤ hi
  · refine ev_ifp (by simpa using h) (ev_to (ih (i + 1) (by omega) (by omega)) ?_)
    simp [h]
  · refine ev_ifn (by simpa using h) (ev_to (Ev.now _) ?_)
    simp only [List.mem_cons, forall_eq_or_imp, h, false_and, decide_false]
theorem allWithin_ev {l : List Int} (lo hi : Int) (hl : l.length ≤ 1099511627776) : Ev (fun k => impl_allWithin.f k l lo hi) (decide (∀ x ∈ l, lo ≤ x ∧ x ≤ hi)) :=
 ev_to (allWithin_l hl l.length 0 (by omega) (by omega)) (by simp)
def Asc (l : List Int) : Prop := ∀ i : Int, 0 < i → i < l.length → rd l (i - 1) < rd l i
noncomputable instance (l : List Int) : Decidable (Asc l) := Classical.propDecidable _
theorem asc_l {l : List Int} (hl : l.length ≤ 1099511627776) (d : Nat) : ∀ (i : Int), 0 < i → i + d = max 1 l.length → (∀ j, 0 < j → j < i → rd l (j - 1) < rd l j) → Ev (fun k => impl_IsAscending.l0 k l i) (decide (Asc l)) ∧ Ev (fun k => spec_IsAscending.l0 k l i) (decide (Asc l)) := by
 induction d with
 | zero =>
  intro i h0 h1 h2
  have ha : Asc l := fun j hj hj' => h2 j hj (by omega)
  constructor
  · refine Ev.step (fun k => by rw [impl_IsAscending.l0]) ?_
    simp (disch := omega) only [if_neg]
    exact ev_to (Ev.now _) (by simp [ha])
  · refine Ev.step (fun k => by rw [spec_IsAscending.l0]) ?_
    simp (disch := omega) only [if_neg]
    exact ev_to (Ev.now _) (by simp [ha])
 | succ d ih =>
  intro i h0 h1 h2
  by_cases h : rd l (i - 1) < rd l i
  · obtain ⟨a, b⟩ := ih (i + 1) (by omega) (by omega) (fun j hj hj' => by
     by_cases e : j = i
     · subst e; exact h
     · exact h2 j hj (by omega))
    constructor
    · refine Ev.step (fun k => by rw [impl_IsAscending.l0]) ?_
      simp (disch := omega) only [if_pos, if_neg, w64]
      exact a
    · refine Ev.step (fun k => by rw [spec_IsAscending.l0]) ?_
      simp (disch := omega) only [if_pos, if_neg, w64]
      exact b
  · have hn : ¬ Asc l := fun ha => h (ha i h0 (by omega))
    constructor
    · refine Ev.step (fun k => by rw [impl_IsAscending.l0]) ?_
      simp (disch := omega) only [if_pos, w64]
      exact ev_to (Ev.now _) (by simp [hn])
    · refine Ev.step (fun k => by rw [spec_IsAscending.l0]) ?_
      simp (disch := omega) only [if_pos, w64]
      exact ev_to (Ev.now _) (by simp [hn])
theorem ascI_ev {l : List Int} (hl : l.length ≤ 1099511627776) : Ev (fun k => impl_IsAscending.f k l) (decide (Asc l)) :=
 (asc_l hl (l.length - 1) 1 (by omega) (by omega) (fun j h h' => by omega)).1
theorem ascS_ev {l : List Int} (hl : l.length ≤ 1099511627776) : Ev (fun k => spec_IsAscending.f k l) (decide (Asc l)) :=
 (asc_l hl (l.length - 1) 1 (by omega) (by omega) (fun j h h' => by omega)).2
end Go.Proofs.Ytapdhljbhekcdaa.E
end
