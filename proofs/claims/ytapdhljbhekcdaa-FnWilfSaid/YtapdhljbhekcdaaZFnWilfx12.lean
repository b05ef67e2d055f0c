-- Bundled by shake.py from this session's printed and written texts; Lean checks it.
import Derived.Test.YtapdhljbhekcdaaZFnWilfx1
import Derived.Test.YtapdhljbhekcdaaZFnWilfx11
import Derived.Test.YtapdhljbhekcdaaZFnWilfx3
import Derived.Test.YtapdhljbhekcdaaZFnWilfx4
import Derived.Test.YtapdhljbhekcdaaZFnWilfx5
import Derived.Test.YtapdhljbhekcdaaZFnWilfx6
import Derived.Test.YtapdhljbhekcdaaZFnWilfx7
import Derived.Test.YtapdhljbhekcdaaZFnWilfx8
import Derived.Test.YtapdhljbhekcdaaZFnWilfx9
section
namespace Go.Proofs.Ytapdhljbhekcdaa.PD
open Go.RowKit Go.Proofs.YtapdhljbhekcdaaW.PrintWords Go.Proofs.YtapdhljbhekcdaaW.PrintLast Go.Proofs.YtapdhljbhekcdaaW.PrintMore
set_option linter.unusedVariables false
set_option linter.unusedSimpArgs false
mutual
def laws_FnWilf.j0 : Nat → Int → Int → Bool → List Int → Option (Bool)
 | 0, _, _, _, _ => none
 | k + 1, x4, x5, x61, x559000 => if x61 = true then (some false) else ((spec_IsSemigroup.f k x559000).bind fun t571 => (if t571 = true then ((spec_MultiplicityOf.f k x559000).bind fun t572 => (if t572 ≤ 12 then (laws_FnWilf.j1 k x4 x5 (decide (x4 < 0)) x559000) else (laws_FnWilf.j1 k x4 x5 false x559000))) else (if x4 = (-1) then (some (x5 == (-1))) else (some false))))
def laws_FnWilf.j1 : Nat → Int → Int → Bool → List Int → Option (Bool)
 | 0, _, _, _, _ => none
 | k + 1, x4, x5, x77, x559000 => if x77 = true then (some false) else ((spec_GenusOf.f k x559000).bind fun t573 => ((spec_ConductorOf.f k x559000).bind fun t574 => (if (wrap64 (x5 + t573)) = t574 then ((spec_DimensionOf.f k x559000).bind fun t575 => (if t575 = 2 then (if x4 = 0 then ((impl_PrimitiveBelow.f k x559000).bind fun t576 => ((spec_DimensionOf.f k x559000).bind fun t577 => (some (decide (t576 ≤ t577))))) else (some false)) else ((impl_PrimitiveBelow.f k x559000).bind fun t578 => ((spec_DimensionOf.f k x559000).bind fun t579 => (some (decide (t578 ≤ t579))))))) else (some false))))
end
def laws_FnWilf.f (k : Nat) (l0 : List Int) : Option (Bool) := (laws_big.f l0).bind fun t554 => (if t554 = true then (some true) else ((spec_DrawWilfNumber.f k l0).bind fun t555 => ((impl_WilfNumber.f k t555).bind fun t559 => ((impl_LeftCount.f k t555).bind fun t560 => ((impl_SporadicDensity.f k t555).bind fun bt561 => ((spec_SporadicDensity.f k t555).bind fun bt563 => ((spec_WilfNumber.f k t555).bind fun t565 => (if t559 = t565 then ((spec_LeftCount.f k t555).bind fun t566 => (if t560 = t566 then ((impl_DepthOf.f k t555).bind fun t567 => ((spec_DepthOf.f k t555).bind fun t568 => (if t567 = t568 then (if bt561.1 = bt563.1 then (if bt561.2 = bt563.2 then ((impl_PrimitiveBelow.f k t555).bind fun t569 => ((spec_PrimitiveBelow.f k t555).bind fun t570 => (laws_FnWilf.j0 k t559 t560 (t569 != t570) t555))) else (laws_FnWilf.j0 k t559 t560 true t555)) else (laws_FnWilf.j0 k t559 t560 true t555)) else (laws_FnWilf.j0 k t559 t560 true t555)))) else (laws_FnWilf.j0 k t559 t560 true t555))) else (laws_FnWilf.j0 k t559 t560 true t555)))))))))
def laws_FnWilf.T8 : Bool × List (List Nat × List Nat) := (true, [([], []), ([], []), ([1], [1]), ([0, 2], [0, 2]), ([3, 2], [3]), ([4], [4]), ([4], [4]), ([6, 4, 4], [4, 6]), ([5, 7, 4], [4, 5, 7]), ([4, 8], [4, 8]), ([9, 7], [9]), ([10], [10]), ([11, 10, 10], [10, 11]), ([10], [10]), ([13, 12, 10], [10, 13]), ([12, 14, 10], [10, 12, 14]), ([10, 15], [10, 15]), ([16, 14], [16]), ([17], [17]), ([17], [17]), ([18, 19, 17], [17, 18, 19]), ([17, 20], [17, 20]), ([21, 17], [21]), ([22], [22]), ([22], [22]), ([23, 24, 22], [22, 23, 24]), ([22, 25], [22, 25]), ([26, 22], [26]), ([27], [27]), ([28, 27, 27], [27, 28]), ([27], [27]), ([30, 29, 27], [27, 30]), ([29, 31, 27], [27, 29, 31]), ([27, 32], [27, 32])])
def laws_FnWilf.B8 : List Nat := [0, 0, 2, 7, 15, 31, 31, 95, 255, 511, 1023, 2047, 4095, 2047, 16383, 32767, 65535, 131071, 262143, 262143, 1048575, 2097151, 4194303, 8388607, 8388607, 33554431, 67108863, 134217727, 268435455, 536870911, 268435455, 2147483647, 4294967295, 8589934591]
theorem laws_FnWilf.tab8 : rtab .any (opsOf Try.f13 8) = laws_FnWilf.T8 := by kernel_rfl
theorem laws_FnWilf.bits8 : waitsOk laws_FnWilf.T8.2 laws_FnWilf.B8 = true := by kernel_rfl
def laws_FnWilf.T14 : Bool × List (List Nat × List Nat) := (true, [([], []), ([], []), ([1], [1]), ([0, 2], [0, 2]), ([], []), ([4, 2], [4]), ([3, 5], [3, 5]), ([6, 5], [6]), ([7], [7]), ([8, 7, 7], [7, 8]), ([9, 7], [7, 9]), ([10, 9, 7], [7, 10]), ([11], [11]), ([12, 11], [11, 12]), ([11, 13, 7], [7, 11, 13]), ([7, 14], [7, 14]), ([15, 11], [15]), ([16], [16]), ([17, 16, 16], [16, 17]), ([16], [16]), ([19, 18, 16], [16, 19]), ([18, 20, 16], [16, 18, 20]), ([16, 21], [16, 21]), ([22, 20, 0, 1, 2, 3, 4, 5, 6, 7, 8, 9, 10, 11, 12, 13, 14, 15, 16, 17, 18, 19, 20, 21, 22], [22])])
def laws_FnWilf.B14 : List Nat := [0, 0, 2, 7, 0, 22, 63, 127, 255, 511, 1023, 2047, 4095, 8191, 16383, 32767, 65535, 131071, 262143, 131071, 1048575, 2097151, 4194303, 8388607]
theorem laws_FnWilf.tab14 : rtab .any (opsOf Try.f13 14) = laws_FnWilf.T14 := by kernel_rfl
theorem laws_FnWilf.bits14 : waitsOk laws_FnWilf.T14.2 laws_FnWilf.B14 = true := by kernel_rfl
set_option maxHeartbeats 8000000 in
set_option maxRecDepth 100000 in
theorem laws_FnWilf.calls (k : Nat) (A0 : Option Addr) (c0 : Nat) (l0 : List Int) (r : Bool) (w : World) (hr0 : Kd.C (Kd.int .u8) w A0 l0.length l0) (hc0 : l0.length ≤ c0) (h : laws_FnWilf.f k l0 = some r) (hr_ : r = true := by rfl) :
 Calls Try.prog 13 #[.slice A0 l0.length c0] w fun e w' => e = .returned (.bool r) ∧ Below w.heap.size w w' := by
 have hr_ := Aside0.mk hr_
 have hu27 := Try.underlying27
 have HR0 := Aside0.mk hr0
 have HC0 := Aside0.mk hc0
 clear hr0 hc0
 have HB := Aside0.mk (Below.refl w.heap.size w)
 have H : ((laws_big.f l0).bind fun t554 => (if t554 = true then (some true) else ((spec_DrawWilfNumber.f k l0).bind fun t555 => ((impl_WilfNumber.f k t555).bind fun t559 => ((impl_LeftCount.f k t555).bind fun t560 => ((impl_SporadicDensity.f k t555).bind fun bt561 => ((spec_SporadicDensity.f k t555).bind fun bt563 => ((spec_WilfNumber.f k t555).bind fun t565 => (if t559 = t565 then ((spec_LeftCount.f k t555).bind fun t566 => (if t560 = t566 then ((impl_DepthOf.f k t555).bind fun t567 => ((spec_DepthOf.f k t555).bind fun t568 => (if t567 = t568 then (if bt561.1 = bt563.1 then (if bt561.2 = bt563.2 then ((impl_PrimitiveBelow.f k t555).bind fun t569 => ((spec_PrimitiveBelow.f k t555).bind fun t570 => (laws_FnWilf.j0 k t559 t560 (t569 != t570) t555))) else (laws_FnWilf.j0 k t559 t560 true t555)) else (laws_FnWilf.j0 k t559 t560 true t555)) else (laws_FnWilf.j0 k t559 t560 true t555)))) else (laws_FnWilf.j0 k t559 t560 true t555))) else (laws_FnWilf.j0 k t559 t560 true t555)))))))))) = some r := h
 clear h
 replace H := Option.bind_eq_some_iff.mp H
 obtain ⟨t554, A20, H⟩ := H
 replace H : (if t554 = true then (some true) else ((spec_DrawWilfNumber.f k l0).bind fun t555 => ((impl_WilfNumber.f k t555).bind fun t559 => ((impl_LeftCount.f k t555).bind fun t560 => ((impl_SporadicDensity.f k t555).bind fun bt561 => ((spec_SporadicDensity.f k t555).bind fun bt563 => ((spec_WilfNumber.f k t555).bind fun t565 => (if t559 = t565 then ((spec_LeftCount.f k t555).bind fun t566 => (if t560 = t566 then ((impl_DepthOf.f k t555).bind fun t567 => ((spec_DepthOf.f k t555).bind fun t568 => (if t567 = t568 then (if bt561.1 = bt563.1 then (if bt561.2 = bt563.2 then ((impl_PrimitiveBelow.f k t555).bind fun t569 => ((spec_PrimitiveBelow.f k t555).bind fun t570 => (laws_FnWilf.j0 k t559 t560 (t569 != t570) t555))) else (laws_FnWilf.j0 k t559 t560 true t555)) else (laws_FnWilf.j0 k t559 t560 true t555)) else (laws_FnWilf.j0 k t559 t560 true t555)))) else (laws_FnWilf.j0 k t559 t560 true t555))) else (laws_FnWilf.j0 k t559 t560 true t555))))))))) = some r := H
 have A2 := Aside0.mk A20
 clear A20
 by_cases c3 : t554 = true
 · subst c3
   have H1 : (some true) = some r := by rw [if_pos rfl] at H; exact H
   clear H
   have H := H1
   clear H1
   obtain rfl := Option.some.inj H
   go_enter Try.func13, Try.ntmps13
   go_wp2_with (first | ((with_reducible refine gate_callee (f := 34) rfl ?_); refine goesL_ (some 11) rfl rfl Try.func34 (by kernel_rfl) rfl #[.slice A0 l0.length c0] rfl (by (try simp only [List.map_toArray, List.map_cons, List.map_nil]); first | done | rfl | (simp only [List.length_drop, List.length_take]; rfl)) ?_; (with_reducible refine (laws_big.calls _ _ l0 true _ ?side1 ?side2 A2.out).mono ?_); (case side1 => exact ce_ (HR0.out)); (case side2 => exact HC0.out); rintro e w' ⟨rfl, ⟨nd, rfl⟩⟩; refine ⟨_, rfl, ?_⟩))
   go_ret
   exact ⟨by first | rfl | (simp [errW_none, errW_some] <;> rfl) | (simp [*, errW_none, errW_some] <;> rfl), bl_ HB.out⟩
 · replace c3 := Bool.eq_false_iff.mpr c3
   subst c3
   have H1 : ((spec_DrawWilfNumber.f k l0).bind fun t555 => ((impl_WilfNumber.f k t555).bind fun t559 => ((impl_LeftCount.f k t555).bind fun t560 => ((impl_SporadicDensity.f k t555).bind fun bt561 => ((spec_SporadicDensity.f k t555).bind fun bt563 => ((spec_WilfNumber.f k t555).bind fun t565 => (if t559 = t565 then ((spec_LeftCount.f k t555).bind fun t566 => (if t560 = t566 then ((impl_DepthOf.f k t555).bind fun t567 => ((spec_DepthOf.f k t555).bind fun t568 => (if t567 = t568 then (if bt561.1 = bt563.1 then (if bt561.2 = bt563.2 then ((impl_PrimitiveBelow.f k t555).bind fun t569 => ((spec_PrimitiveBelow.f k t555).bind fun t570 => (laws_FnWilf.j0 k t559 t560 (t569 != t570) t555))) else (laws_FnWilf.j0 k t559 t560 true t555)) else (laws_FnWilf.j0 k t559 t560 true t555)) else (laws_FnWilf.j0 k t559 t560 true t555)))) else (laws_FnWilf.j0 k t559 t560 true t555))) else (laws_FnWilf.j0 k t559 t560 true t555)))))))) = some r := by rw [if_neg (show ¬ (false = true) by decide)] at H; exact H
   clear H
   have H := H1
   clear H1
   replace H := Option.bind_eq_some_iff.mp H
   obtain ⟨t555, A40, H⟩ := H
   replace H : ((impl_WilfNumber.f k t555).bind fun t559 => ((impl_LeftCount.f k t555).bind fun t560 => ((impl_SporadicDensity.f k t555).bind fun bt561 => ((spec_SporadicDensity.f k t555).bind fun bt563 => ((spec_WilfNumber.f k t555).bind fun t565 => (if t559 = t565 then ((spec_LeftCount.f k t555).bind fun t566 => (if t560 = t566 then ((impl_DepthOf.f k t555).bind fun t567 => ((spec_DepthOf.f k t555).bind fun t568 => (if t567 = t568 then (if bt561.1 = bt563.1 then (if bt561.2 = bt563.2 then ((impl_PrimitiveBelow.f k t555).bind fun t569 => ((spec_PrimitiveBelow.f k t555).bind fun t570 => (laws_FnWilf.j0 k t559 t560 (t569 != t570) t555))) else (laws_FnWilf.j0 k t559 t560 true t555)) else (laws_FnWilf.j0 k t559 t560 true t555)) else (laws_FnWilf.j0 k t559 t560 true t555)))) else (laws_FnWilf.j0 k t559 t560 true t555))) else (laws_FnWilf.j0 k t559 t560 true t555))))))) = some r := H
   have A4 := Aside0.mk A40
   clear A40
   replace H := Option.bind_eq_some_iff.mp H
   obtain ⟨t559, A50, H⟩ := H
   replace H : ((impl_LeftCount.f k t555).bind fun t560 => ((impl_SporadicDensity.f k t555).bind fun bt561 => ((spec_SporadicDensity.f k t555).bind fun bt563 => ((spec_WilfNumber.f k t555).bind fun t565 => (if t559 = t565 then ((spec_LeftCount.f k t555).bind fun t566 => (if t560 = t566 then ((impl_DepthOf.f k t555).bind fun t567 => ((spec_DepthOf.f k t555).bind fun t568 => (if t567 = t568 then (if bt561.1 = bt563.1 then (if bt561.2 = bt563.2 then ((impl_PrimitiveBelow.f k t555).bind fun t569 => ((spec_PrimitiveBelow.f k t555).bind fun t570 => (laws_FnWilf.j0 k t559 t560 (t569 != t570) t555))) else (laws_FnWilf.j0 k t559 t560 true t555)) else (laws_FnWilf.j0 k t559 t560 true t555)) else (laws_FnWilf.j0 k t559 t560 true t555)))) else (laws_FnWilf.j0 k t559 t560 true t555))) else (laws_FnWilf.j0 k t559 t560 true t555)))))) = some r := H
   have A5 := Aside0.mk A50
   clear A50
   replace H := Option.bind_eq_some_iff.mp H
   obtain ⟨t560, A60, H⟩ := H
   replace H : ((impl_SporadicDensity.f k t555).bind fun bt561 => ((spec_SporadicDensity.f k t555).bind fun bt563 => ((spec_WilfNumber.f k t555).bind fun t565 => (if t559 = t565 then ((spec_LeftCount.f k t555).bind fun t566 => (if t560 = t566 then ((impl_DepthOf.f k t555).bind fun t567 => ((spec_DepthOf.f k t555).bind fun t568 => (if t567 = t568 then (if bt561.1 = bt563.1 then (if bt561.2 = bt563.2 then ((impl_PrimitiveBelow.f k t555).bind fun t569 => ((spec_PrimitiveBelow.f k t555).bind fun t570 => (laws_FnWilf.j0 k t559 t560 (t569 != t570) t555))) else (laws_FnWilf.j0 k t559 t560 true t555)) else (laws_FnWilf.j0 k t559 t560 true t555)) else (laws_FnWilf.j0 k t559 t560 true t555)))) else (laws_FnWilf.j0 k t559 t560 true t555))) else (laws_FnWilf.j0 k t559 t560 true t555))))) = some r := H
   have A6 := Aside0.mk A60
   clear A60
   replace H := Option.bind_eq_some_iff.mp H
   obtain ⟨⟨t561, t562⟩, A70, H⟩ := H
   replace H : ((spec_SporadicDensity.f k t555).bind fun bt563 => ((spec_WilfNumber.f k t555).bind fun t565 => (if t559 = t565 then ((spec_LeftCount.f k t555).bind fun t566 => (if t560 = t566 then ((impl_DepthOf.f k t555).bind fun t567 => ((spec_DepthOf.f k t555).bind fun t568 => (if t567 = t568 then (if t561 = bt563.1 then (if t562 = bt563.2 then ((impl_PrimitiveBelow.f k t555).bind fun t569 => ((spec_PrimitiveBelow.f k t555).bind fun t570 => (laws_FnWilf.j0 k t559 t560 (t569 != t570) t555))) else (laws_FnWilf.j0 k t559 t560 true t555)) else (laws_FnWilf.j0 k t559 t560 true t555)) else (laws_FnWilf.j0 k t559 t560 true t555)))) else (laws_FnWilf.j0 k t559 t560 true t555))) else (laws_FnWilf.j0 k t559 t560 true t555)))) = some r := H
   have A7 := Aside0.mk A70
   clear A70
   replace H := Option.bind_eq_some_iff.mp H
   obtain ⟨⟨t563, t564⟩, A80, H⟩ := H
   replace H : ((spec_WilfNumber.f k t555).bind fun t565 => (if t559 = t565 then ((spec_LeftCount.f k t555).bind fun t566 => (if t560 = t566 then ((impl_DepthOf.f k t555).bind fun t567 => ((spec_DepthOf.f k t555).bind fun t568 => (if t567 = t568 then (if t561 = t563 then (if t562 = t564 then ((impl_PrimitiveBelow.f k t555).bind fun t569 => ((spec_PrimitiveBelow.f k t555).bind fun t570 => (laws_FnWilf.j0 k t559 t560 (t569 != t570) t555))) else (laws_FnWilf.j0 k t559 t560 true t555)) else (laws_FnWilf.j0 k t559 t560 true t555)) else (laws_FnWilf.j0 k t559 t560 true t555)))) else (laws_FnWilf.j0 k t559 t560 true t555))) else (laws_FnWilf.j0 k t559 t560 true t555))) = some r := H
   have A8 := Aside0.mk A80
   clear A80
   have HC9 := Aside0.mk H
   clear H
   go_enter Try.func13, Try.ntmps13
   go_upto_region 8 with (first | ((with_reducible refine gate_callee (f := 34) rfl ?_); refine goesL_ (some 11) rfl rfl Try.func34 (by kernel_rfl) rfl #[.slice A0 l0.length c0] rfl (by (try simp only [List.map_toArray, List.map_cons, List.map_nil]); first | done | rfl | (simp only [List.length_drop, List.length_take]; rfl)) ?_; (with_reducible refine (laws_big.calls _ _ l0 false _ ?side1 ?side2 A2.out).mono ?_); (case side1 => exact ce_ (HR0.out)); (case side2 => exact HC0.out); rintro e w' ⟨rfl, ⟨nd, rfl⟩⟩; refine ⟨_, rfl, ?_⟩) | ((with_reducible refine gate_callee (f := 49) rfl ?_); refine goesL_ (some 13) rfl rfl Try.func49 (by kernel_rfl) rfl #[.slice A0 l0.length c0] rfl (by (try simp only [List.map_toArray, List.map_cons, List.map_nil]); first | done | rfl | (simp only [List.length_drop, List.length_take]; rfl)) ?_; (with_reducible refine (spec_DrawWilfNumber.calls k _ _ l0 t555 _ ?side1 ?side2 A4.out).mono ?_); (case side1 => exact ce_ (HR0.out)); (case side2 => exact HC0.out); rintro e w10 ⟨v556, rfl, ho0, hb⟩; refine ⟨_, rfl, ?_⟩; have n0_ := Aside0.mk (Kd.Q_lower ho0 (below_size (bl_ HB.out))); have n1_ := Aside0.mk (below_step (bl_ HB.out) hb); clear HB; have HO557 := n0_; have HB := n1_; clear n0_ n1_; (try clear hb); (try clear hb2); (try clear hk); (try clear hi); (try clear ho0)) | ((with_reducible refine gate_dst (N := 3) rfl ?_); refine box_event ?hg (N := 3) ?hd (cs := #[.slice none 0 0]) (t := 27) ?hr ?_; (case hd => rfl); (case hg => rfl); (case hr => first | (go_simp; done) | (go_simp; rfl)); intro gb558 hg w11 hbox hb; have n0_ := Aside0.mk (Kd.Q_below (by (with_reducible repeat (first | apply Kd.Q_alloc | apply Kd.Q_drewN | apply Kd.Q_drew)); exact HO557.out) hb); have n1_ := Aside0.mk (below_step (bl_ HB.out) hb); have n2_ := Aside0.mk (hbox); have n3_ := Aside0.mk ((by rw [hg]; exact (below_size (bl_ HB.out)) : w.heap.size ≤ gb558)); have n4_ := Aside0.mk ((by rw [hg]; exact (below_size (bl_ HB.out)) : w.heap.size ≤ gb558)); clear HO557; clear HB; have HO557 := n0_; have HB := n1_; have BK558 := n2_; have GW558 := n3_; have GE558 := n4_; clear n0_ n1_ n2_ n3_ n4_; clear hb hbox hg; obtain ⟨Ao12, co12, eo12, _⟩ := Kd.Q_slice HO557.out; subst eo12; have hcz13_0 : w11.cell? ⟨gb558, 0, none⟩ = some (.slice none 0 0) := (blk_cell BK558.out 0).trans rfl; have hfz13_0 := blk_frozen BK558.out 0) | ((with_reducible refine gate_callee (f := 25) rfl ?_); refine goesL_ (some 15) rfl rfl Try.func25 (by kernel_rfl) rfl #[.agg #[.slice Ao12 t555.length co12]] rfl (by (try simp only [List.map_toArray, List.map_cons, List.map_nil]); first | done | rfl | (simp only [List.length_drop, List.length_take]; rfl)) ?_; (with_reducible refine (impl_WilfNumber.calls k _ _ t555 t559 _ ?side1 ?side2 A5.out).mono ?_); (case side1 => refine (Kd.Q_reads' (e := 3) (base := w.heap.size) (ok := fun k_ => True) (n := t555.length) (c := co12) ?_).2.2; exact (by (with_reducible repeat (first | apply Kd.Q_alloc | apply Kd.Q_drewN | apply Kd.Q_drew)); exact (Kd.Q_mono (Kd.Q_far (p := ⟨gb558, 0, none⟩) (Kd.Q_types HO557.out BK558.out (by decide)) (fun _ hk => hk.2) (.slice Ao12 t555.length co12)) (fun _ h_ => h_.1)))); (case side2 => exact (Kd.Q_reads' HO557.out).2.1); rintro e w14 ⟨rfl, hb⟩; refine ⟨_, rfl, ?_⟩; have n0_ := Aside0.mk (Kd.Q_below (by (with_reducible repeat (first | apply Kd.Q_alloc | apply Kd.Q_drewN | apply Kd.Q_drew)); exact (Kd.Q_mono (Kd.Q_far (p := ⟨gb558, 0, none⟩) (Kd.Q_types HO557.out BK558.out (by decide)) (fun _ hk => hk.2) (.slice Ao12 t555.length co12)) (fun _ h_ => h_.1))) hb); have n1_ := Aside0.mk (blk_below (g := gb558) (o := .cells #[.slice Ao12 t555.length co12] 27 (0, 0)) (by (with_reducible repeat (first | refine blk_drewN ?_ _ | refine blk_drew ?_ | refine blk_alloc ?_ _)); refine blk_put (cs := #[.slice none 0 0]) ?_ 0 _ rfl; (with_reducible repeat (first | refine blk_drewN ?_ _ | refine blk_drew ?_ | refine blk_alloc ?_ _)); exact BK558.out) hb); have n2_ := Aside0.mk (below_step (by repeat (first | (with_reducible first | exact HB.out | apply below_alloc | apply pw_below_drewN | apply below_drew1 | refine below_set ?_ GE558.out) | exact HB.out)) hb); clear HO557; clear BK558; clear HB; have HO557 := n0_; have BK558 := n1_; have HB := n2_; clear n0_ n1_ n2_; (try clear hb); (try clear hb2); (try clear hk); (try clear hi); have hcz15_0 : w14.cell? ⟨gb558, 0, none⟩ = some (.slice Ao12 t555.length co12) := (blk_cell BK558.out 0).trans rfl; have hfz15_0 := blk_frozen BK558.out 0) | ((with_reducible refine gate_callee (f := 23) rfl ?_); refine goesL_ (some 17) rfl rfl Try.func23 (by kernel_rfl) rfl #[.agg #[.slice Ao12 t555.length co12]] rfl (by (try simp only [List.map_toArray, List.map_cons, List.map_nil]); first | done | rfl | (simp only [List.length_drop, List.length_take]; rfl)) ?_; (with_reducible refine (impl_LeftCount.calls k _ _ t555 t560 _ ?side1 ?side2 A6.out).mono ?_); (case side1 => exact ce_ ((Kd.Q_reads' HO557.out).2.2)); (case side2 => exact (Kd.Q_reads' HO557.out).2.1); rintro e w16 ⟨rfl, hb⟩; refine ⟨_, rfl, ?_⟩; have n0_ := Aside0.mk (Kd.Q_below (by (with_reducible repeat (first | apply Kd.Q_alloc | apply Kd.Q_drewN | apply Kd.Q_drew)); exact HO557.out) hb); have n1_ := Aside0.mk (blk_below (g := gb558) (o := .cells #[.slice Ao12 t555.length co12] 27 (0, 0)) (be_ BK558.out) hb); have n2_ := Aside0.mk (below_step (by repeat (first | (with_reducible first | exact HB.out | apply below_alloc | apply pw_below_drewN | apply below_drew1 | refine below_set ?_ GE558.out) | exact HB.out)) hb); clear HO557; clear BK558; clear HB; have HO557 := n0_; have BK558 := n1_; have HB := n2_; clear n0_ n1_ n2_; (try clear hb); (try clear hb2); (try clear hk); (try clear hi); have hcz17_0 : w16.cell? ⟨gb558, 0, none⟩ = some (.slice Ao12 t555.length co12) := (blk_cell BK558.out 0).trans rfl; have hfz17_0 := blk_frozen BK558.out 0) | ((with_reducible refine gate_callee (f := 31) rfl ?_); refine goesL_ (some 20) rfl rfl Try.func31 (by kernel_rfl) rfl #[.agg #[.slice Ao12 t555.length co12]] rfl (by (try simp only [List.map_toArray, List.map_cons, List.map_nil]); first | done | rfl | (simp only [List.length_drop, List.length_take]; rfl)) ?_; (with_reducible refine (impl_SporadicDensity.calls k _ _ t555 t561 t562 _ ?side1 ?side2 A7.out).mono ?_); (case side1 => exact ce_ ((Kd.Q_reads' HO557.out).2.2)); (case side2 => exact (Kd.Q_reads' HO557.out).2.1); rintro e w18 ⟨rfl, hb⟩; refine ⟨_, rfl, ?_⟩; have n0_ := Aside0.mk (Kd.Q_below (by (with_reducible repeat (first | apply Kd.Q_alloc | apply Kd.Q_drewN | apply Kd.Q_drew)); exact HO557.out) hb); have n1_ := Aside0.mk (blk_below (g := gb558) (o := .cells #[.slice Ao12 t555.length co12] 27 (0, 0)) (be_ BK558.out) hb); have n2_ := Aside0.mk (below_step (by repeat (first | (with_reducible first | exact HB.out | apply below_alloc | apply pw_below_drewN | apply below_drew1 | refine below_set ?_ GE558.out) | exact HB.out)) hb); clear HO557; clear BK558; clear HB; have HO557 := n0_; have BK558 := n1_; have HB := n2_; clear n0_ n1_ n2_; (try clear hb); (try clear hb2); (try clear hk); (try clear hi); have hcz19_0 : w18.cell? ⟨gb558, 0, none⟩ = some (.slice Ao12 t555.length co12) := (blk_cell BK558.out 0).trans rfl; have hfz19_0 := blk_frozen BK558.out 0) | ((with_reducible refine gate_callee (f := 30) rfl ?_); refine goesL_ (some 25) rfl rfl Try.func30 (by kernel_rfl) rfl #[.agg #[.slice Ao12 t555.length co12]] rfl (by (try simp only [List.map_toArray, List.map_cons, List.map_nil]); first | done | rfl | (simp only [List.length_drop, List.length_take]; rfl)) ?_; (with_reducible refine (spec_SporadicDensity.calls k _ _ t555 t563 t564 _ ?side1 ?side2 A8.out).mono ?_); (case side1 => exact ce_ ((Kd.Q_reads' HO557.out).2.2)); (case side2 => exact (Kd.Q_reads' HO557.out).2.1); rintro e w20 ⟨rfl, hb⟩; refine ⟨_, rfl, ?_⟩; have n0_ := Aside0.mk (Kd.Q_below (by (with_reducible repeat (first | apply Kd.Q_alloc | apply Kd.Q_drewN | apply Kd.Q_drew)); exact HO557.out) hb); have n1_ := Aside0.mk (blk_below (g := gb558) (o := .cells #[.slice Ao12 t555.length co12] 27 (0, 0)) (be_ BK558.out) hb); have n2_ := Aside0.mk (below_step (by repeat (first | (with_reducible first | exact HB.out | apply below_alloc | apply pw_below_drewN | apply below_drew1 | refine below_set ?_ GE558.out) | exact HB.out)) hb); clear HO557; clear BK558; clear HB; have HO557 := n0_; have BK558 := n1_; have HB := n2_; clear n0_ n1_ n2_; (try clear hb); (try clear hb2); (try clear hk); (try clear hi)))
   (try simp only [Act.put, z1_, z2_, z3_])
   go_cut [61] (fun v61 wc => ∃ (kq : Nat) (x61_8 : Bool), v61 = .bool x61_8 ∧ Aside0 (laws_FnWilf.j0 kq t559 t560 x61_8 t555 = some r) ∧ Aside0 (kq ≤ k) ∧ Aside0 (Kd.Q (Kd.int .i64) 3 wc w.heap.size (fun _ => True) (.slice Ao12 t555.length co12) t555) ∧ Aside0 (wc.heap[gb558]? = some (.cells #[(.slice Ao12 t555.length co12)] 27 (0, 0))) ∧ Aside0 (Below w.heap.size w wc))
   case first =>
    have H := HC9.out
    clear HC9
    replace H := Option.bind_eq_some_iff.mp H
    obtain ⟨t565, A210, H⟩ := H
    replace H : (if t559 = t565 then ((spec_LeftCount.f k t555).bind fun t566 => (if t560 = t566 then ((impl_DepthOf.f k t555).bind fun t567 => ((spec_DepthOf.f k t555).bind fun t568 => (if t567 = t568 then (if t561 = t563 then (if t562 = t564 then ((impl_PrimitiveBelow.f k t555).bind fun t569 => ((spec_PrimitiveBelow.f k t555).bind fun t570 => (laws_FnWilf.j0 k t559 t560 (t569 != t570) t555))) else (laws_FnWilf.j0 k t559 t560 true t555)) else (laws_FnWilf.j0 k t559 t560 true t555)) else (laws_FnWilf.j0 k t559 t560 true t555)))) else (laws_FnWilf.j0 k t559 t560 true t555))) else (laws_FnWilf.j0 k t559 t560 true t555)) = some r := H
    have A21 := Aside0.mk A210
    clear A210
    by_cases c22 : t559 = t565
    · rw [if_pos c22] at H
      have c22b0 : (t559 == t565) = true := beq_iff_eq.mpr c22
      have c22b1 : (t559 != t565) = false := bne_eq_false_iff_eq.mpr c22
      clear c22
      (first | rw [c22b0] | (simp only [i64_w, i32_w]; rw [c22b0]) | skip)
      replace H := Option.bind_eq_some_iff.mp H
      obtain ⟨t566, A230, H⟩ := H
      replace H : (if t560 = t566 then ((impl_DepthOf.f k t555).bind fun t567 => ((spec_DepthOf.f k t555).bind fun t568 => (if t567 = t568 then (if t561 = t563 then (if t562 = t564 then ((impl_PrimitiveBelow.f k t555).bind fun t569 => ((spec_PrimitiveBelow.f k t555).bind fun t570 => (laws_FnWilf.j0 k t559 t560 (t569 != t570) t555))) else (laws_FnWilf.j0 k t559 t560 true t555)) else (laws_FnWilf.j0 k t559 t560 true t555)) else (laws_FnWilf.j0 k t559 t560 true t555)))) else (laws_FnWilf.j0 k t559 t560 true t555)) = some r := H
      have A23 := Aside0.mk A230
      clear A230
      by_cases c24 : t560 = t566
      · rw [if_pos c24] at H
        have c24b0 : (t560 == t566) = true := beq_iff_eq.mpr c24
        have c24b1 : (t560 != t566) = false := bne_eq_false_iff_eq.mpr c24
        clear c24
        replace H := Option.bind_eq_some_iff.mp H
        obtain ⟨t567, A250, H⟩ := H
        replace H : ((spec_DepthOf.f k t555).bind fun t568 => (if t567 = t568 then (if t561 = t563 then (if t562 = t564 then ((impl_PrimitiveBelow.f k t555).bind fun t569 => ((spec_PrimitiveBelow.f k t555).bind fun t570 => (laws_FnWilf.j0 k t559 t560 (t569 != t570) t555))) else (laws_FnWilf.j0 k t559 t560 true t555)) else (laws_FnWilf.j0 k t559 t560 true t555)) else (laws_FnWilf.j0 k t559 t560 true t555))) = some r := H
        have A25 := Aside0.mk A250
        clear A250
        replace H := Option.bind_eq_some_iff.mp H
        obtain ⟨t568, A260, H⟩ := H
        replace H : (if t567 = t568 then (if t561 = t563 then (if t562 = t564 then ((impl_PrimitiveBelow.f k t555).bind fun t569 => ((spec_PrimitiveBelow.f k t555).bind fun t570 => (laws_FnWilf.j0 k t559 t560 (t569 != t570) t555))) else (laws_FnWilf.j0 k t559 t560 true t555)) else (laws_FnWilf.j0 k t559 t560 true t555)) else (laws_FnWilf.j0 k t559 t560 true t555)) = some r := H
        have A26 := Aside0.mk A260
        clear A260
        by_cases c27 : t567 = t568
        · rw [if_pos c27] at H
          have c27b0 : (t567 == t568) = true := beq_iff_eq.mpr c27
          have c27b1 : (t567 != t568) = false := bne_eq_false_iff_eq.mpr c27
          clear c27
          by_cases c28 : t561 = t563
          · rw [if_pos c28] at H
            have c28b0 : (t561 == t563) = true := beq_iff_eq.mpr c28
            have c28b1 : (t561 != t563) = false := bne_eq_false_iff_eq.mpr c28
            clear c28
            by_cases c29 : t562 = t564
            · rw [if_pos c29] at H
              have c29b0 : (t562 == t564) = true := beq_iff_eq.mpr c29
              have c29b1 : (t562 != t564) = false := bne_eq_false_iff_eq.mpr c29
              clear c29
              replace H := Option.bind_eq_some_iff.mp H
              obtain ⟨t569, A300, H⟩ := H
              replace H : ((spec_PrimitiveBelow.f k t555).bind fun t570 => (laws_FnWilf.j0 k t559 t560 (t569 != t570) t555)) = some r := H
              have A30 := Aside0.mk A300
              clear A300
              replace H := Option.bind_eq_some_iff.mp H
              obtain ⟨t570, A310, H⟩ := H
              replace H : (laws_FnWilf.j0 k t559 t560 (t569 != t570) t555) = some r := H
              have A31 := Aside0.mk A310
              clear A310
              have H' := Aside0.mk H
              clear H
              try go_wp2
              have n0_ := Aside0.mk (Kd.Q_drew HO557.out)
              have n1_ := Aside0.mk (blk_drew BK558.out)
              have n2_ := Aside0.mk (below_drew1 HB.out)
              clear HO557
              clear BK558
              clear HB
              have HO557 := n0_
              have BK558 := n1_
              have HB := n2_
              clear n0_ n1_ n2_
              refine start_ (n := 34) (S := fun w' => w'.cell? ⟨gb558, 0, none⟩ = some (.slice Ao12 t555.length co12)) (ds := []) (B_ 0 34) (by kernel_rfl) rfl rfl ((blk_cell BK558.out 0).trans rfl) (fun hHeld => ?_); refine with_tabW laws_FnWilf.tab8 laws_FnWilf.bits8 (fun HT_ HW_ => ?_)
              generalize w20.drew = w32 at HO557 BK558 HB hHeld ⊢
              refine pu_ HT_ 0 28 (B_ 1 34) ?_
              refine tk1_ HT_ HW_ hHeld 1 29 (B_ 3 34) ?_
              refine one_ (i := 2) (N := some 30) (B_ 7 34) rfl rfl (one_of HT_.out (by kernel_rfl)) (by decide) (fun K hK => ?_)
              refine goes_ Try.func24 (by kernel_rfl) rfl #[.agg #[.slice Ao12 t555.length co12]] (by rfl) rfl rfl (by (try simp only [List.map_toArray, List.map_cons, List.map_nil]); first | done | rfl | (simp only [List.length_drop, List.length_take]; rfl)) ?_
              with_reducible refine (spec_WilfNumber.calls k _ _ t555 t565 _ ?side1 ?side2 A21.out).mono ?_
              (case side1 => exact ce_ ((Kd.Q_reads' HO557.out).2.2))
              (case side2 => exact (Kd.Q_reads' HO557.out).2.1)
              rintro e w33 ⟨rfl, hb⟩
              refine ⟨_, rfl, ?_⟩
              have n0_ := Aside0.mk (Kd.Q_below (by (with_reducible repeat (first | apply Kd.Q_alloc | apply Kd.Q_drewN | apply Kd.Q_drew)); exact HO557.out) hb)
              have n1_ := Aside0.mk (blk_below (g := gb558) (o := .cells #[.slice Ao12 t555.length co12] 27 (0, 0)) (be_ BK558.out) hb)
              have n2_ := Aside0.mk (below_step (by repeat (first | (with_reducible first | exact HB.out | apply below_alloc | apply pw_below_drewN | apply below_drew1 | refine below_set ?_ GE558.out) | exact HB.out)) hb)
              clear HO557
              clear BK558
              clear HB
              have HO557 := n0_
              have BK558 := n1_
              have HB := n2_
              clear n0_ n1_ n2_
              (try clear hb)
              (try clear hb2)
              (try clear hk)
              (try clear hi)
              refine hK.out _ _ ((blk_cell BK558.out 0).trans rfl) (fun hHeld => ?_)
              clear hK K
              refine norm_ (a' := ?_) ?_ ?_
              rotate_left
              · show Act.put _ (some 30) _ = _
                simp only [Act.put, z1_, z2_, z3_, i64_w, i32_w]
                rfl
              refine pu_ HT_ 3 31 (B_ 15 34) ?_
              refine pu_ HT_ 4 32 (B_ 31 34) ?_
              refine pu_ HT_ 5 33 (B_ 63 34) ?_
              refine tk1_ HT_ HW_ hHeld 6 34 (B_ 127 34) ?_
              refine one_ (i := 7) (N := some 35) (B_ 255 34) rfl rfl (one_of HT_.out (by kernel_rfl)) (by decide) (fun K hK => ?_)
              refine goes_ Try.func22 (by kernel_rfl) rfl #[.agg #[.slice Ao12 t555.length co12]] (by rfl) rfl rfl (by (try simp only [List.map_toArray, List.map_cons, List.map_nil]); first | done | rfl | (simp only [List.length_drop, List.length_take]; rfl)) ?_
              with_reducible refine (spec_LeftCount.calls k _ _ t555 t566 _ ?side1 ?side2 A23.out).mono ?_
              (case side1 => exact ce_ ((Kd.Q_reads' HO557.out).2.2))
              (case side2 => exact (Kd.Q_reads' HO557.out).2.1)
              rintro e w34 ⟨rfl, hb⟩
              refine ⟨_, rfl, ?_⟩
              have n0_ := Aside0.mk (Kd.Q_below (by (with_reducible repeat (first | apply Kd.Q_alloc | apply Kd.Q_drewN | apply Kd.Q_drew)); exact HO557.out) hb)
              have n1_ := Aside0.mk (blk_below (g := gb558) (o := .cells #[.slice Ao12 t555.length co12] 27 (0, 0)) (be_ BK558.out) hb)
              have n2_ := Aside0.mk (below_step (by repeat (first | (with_reducible first | exact HB.out | apply below_alloc | apply pw_below_drewN | apply below_drew1 | refine below_set ?_ GE558.out) | exact HB.out)) hb)
              clear HO557
              clear BK558
              clear HB
              have HO557 := n0_
              have BK558 := n1_
              have HB := n2_
              clear n0_ n1_ n2_
              (try clear hb)
              (try clear hb2)
              (try clear hk)
              (try clear hi)
              refine hK.out _ _ ((blk_cell BK558.out 0).trans rfl) (fun hHeld => ?_)
              clear hK K
              refine norm_ (a' := ?_) ?_ ?_
              rotate_left
              · show Act.put _ (some 35) _ = _
                simp only [Act.put, z1_, z2_, z3_, i64_w, i32_w]
                rfl
              refine pu_ HT_ 8 36 (B_ 511 34) ?_
              refine pu_ HT_ 9 37 (B_ 1023 34) ?_
              refine pu_ HT_ 10 38 (B_ 2047 34) ?_
              refine tk1_ HT_ HW_ hHeld 11 39 (B_ 4095 34) ?_
              refine tk1_ HT_ HW_ hHeld 13 41 (B_ 12287 34) ?_
              refine one_ (i := 12) (N := some 40) (B_ 16383 34) rfl rfl (one_of HT_.out (by kernel_rfl)) (by decide) (fun K hK => ?_)
              refine goes_ Try.func18 (by kernel_rfl) rfl #[.agg #[.slice Ao12 t555.length co12]] (by rfl) rfl rfl (by (try simp only [List.map_toArray, List.map_cons, List.map_nil]); first | done | rfl | (simp only [List.length_drop, List.length_take]; rfl)) ?_
              with_reducible refine (impl_DepthOf.calls k _ _ t555 t567 _ ?side1 ?side2 A25.out).mono ?_
              (case side1 => exact ce_ ((Kd.Q_reads' HO557.out).2.2))
              (case side2 => exact (Kd.Q_reads' HO557.out).2.1)
              rintro e w35 ⟨rfl, hb⟩
              refine ⟨_, rfl, ?_⟩
              have n0_ := Aside0.mk (Kd.Q_below (by (with_reducible repeat (first | apply Kd.Q_alloc | apply Kd.Q_drewN | apply Kd.Q_drew)); exact HO557.out) hb)
              have n1_ := Aside0.mk (blk_below (g := gb558) (o := .cells #[.slice Ao12 t555.length co12] 27 (0, 0)) (be_ BK558.out) hb)
              have n2_ := Aside0.mk (below_step (by repeat (first | (with_reducible first | exact HB.out | apply below_alloc | apply pw_below_drewN | apply below_drew1 | refine below_set ?_ GE558.out) | exact HB.out)) hb)
              clear HO557
              clear BK558
              clear HB
              have HO557 := n0_
              have BK558 := n1_
              have HB := n2_
              clear n0_ n1_ n2_
              (try clear hb)
              (try clear hb2)
              (try clear hk)
              (try clear hi)
              refine hK.out _ _ ((blk_cell BK558.out 0).trans rfl) (fun hHeld => ?_)
              clear hK K
              refine norm_ (a' := ?_) ?_ ?_
              rotate_left
              · show Act.put _ (some 40) _ = _
                simp only [Act.put, z1_, z2_, z3_, i64_w, i32_w]
                rfl
              refine one_ (i := 14) (N := some 42) (B_ 32767 34) rfl rfl (one_of HT_.out (by kernel_rfl)) (by decide) (fun K hK => ?_)
              refine goes_ Try.func16 (by kernel_rfl) rfl #[.agg #[.slice Ao12 t555.length co12]] (by rfl) rfl rfl (by (try simp only [List.map_toArray, List.map_cons, List.map_nil]); first | done | rfl | (simp only [List.length_drop, List.length_take]; rfl)) ?_
              with_reducible refine (spec_DepthOf.calls k _ _ t555 t568 _ ?side1 ?side2 A26.out).mono ?_
              (case side1 => exact ce_ ((Kd.Q_reads' HO557.out).2.2))
              (case side2 => exact (Kd.Q_reads' HO557.out).2.1)
              rintro e w36 ⟨rfl, hb⟩
              refine ⟨_, rfl, ?_⟩
              have n0_ := Aside0.mk (Kd.Q_below (by (with_reducible repeat (first | apply Kd.Q_alloc | apply Kd.Q_drewN | apply Kd.Q_drew)); exact HO557.out) hb)
              have n1_ := Aside0.mk (blk_below (g := gb558) (o := .cells #[.slice Ao12 t555.length co12] 27 (0, 0)) (be_ BK558.out) hb)
              have n2_ := Aside0.mk (below_step (by repeat (first | (with_reducible first | exact HB.out | apply below_alloc | apply pw_below_drewN | apply below_drew1 | refine below_set ?_ GE558.out) | exact HB.out)) hb)
              clear HO557
              clear BK558
              clear HB
              have HO557 := n0_
              have BK558 := n1_
              have HB := n2_
              clear n0_ n1_ n2_
              (try clear hb)
              (try clear hb2)
              (try clear hk)
              (try clear hi)
              refine hK.out _ _ ((blk_cell BK558.out 0).trans rfl) (fun hHeld => ?_)
              clear hK K
              refine norm_ (a' := ?_) ?_ ?_
              rotate_left
              · show Act.put _ (some 42) _ = _
                simp only [Act.put, z1_, z2_, z3_, i64_w, i32_w]
                rfl
              refine pu_ HT_ 15 43 (B_ 65535 34) ?_
              refine pu_ HT_ 16 44 (B_ 131071 34) ?_
              refine pu_ HT_ 17 45 (B_ 262143 34) ?_
              refine pu_ HT_ 18 46 (B_ 524287 34) ?_
              refine pu_ HT_ 19 47 (B_ 1048575 34) ?_
              refine pu_ HT_ 20 48 (B_ 2097151 34) ?_
              refine pu_ HT_ 21 49 (B_ 4194303 34) ?_
              refine pu_ HT_ 22 50 (B_ 8388607 34) ?_
              refine pu_ HT_ 23 51 (B_ 16777215 34) ?_
              refine pu_ HT_ 24 52 (B_ 33554431 34) ?_
              refine pu_ HT_ 25 53 (B_ 67108863 34) ?_
              refine pu_ HT_ 26 54 (B_ 134217727 34) ?_
              refine pu_ HT_ 27 55 (B_ 268435455 34) ?_
              refine tk1_ HT_ HW_ hHeld 28 56 (B_ 536870911 34) ?_
              refine tk1_ HT_ HW_ hHeld 30 58 (B_ 1610612735 34) ?_
              refine one_ (i := 29) (N := some 57) (B_ 2147483647 34) rfl rfl (one_of HT_.out (by kernel_rfl)) (by decide) (fun K hK => ?_)
              refine goes_ Try.func21 (by kernel_rfl) rfl #[.agg #[.slice Ao12 t555.length co12]] (by rfl) rfl rfl (by (try simp only [List.map_toArray, List.map_cons, List.map_nil]); first | done | rfl | (simp only [List.length_drop, List.length_take]; rfl)) ?_
              with_reducible refine (impl_PrimitiveBelow.calls k _ _ t555 t569 _ ?side1 ?side2 A30.out).mono ?_
              (case side1 => exact ce_ ((Kd.Q_reads' HO557.out).2.2))
              (case side2 => exact (Kd.Q_reads' HO557.out).2.1)
              rintro e w37 ⟨rfl, hb⟩
              refine ⟨_, rfl, ?_⟩
              have n0_ := Aside0.mk (Kd.Q_below (by (with_reducible repeat (first | apply Kd.Q_alloc | apply Kd.Q_drewN | apply Kd.Q_drew)); exact HO557.out) hb)
              have n1_ := Aside0.mk (blk_below (g := gb558) (o := .cells #[.slice Ao12 t555.length co12] 27 (0, 0)) (be_ BK558.out) hb)
              have n2_ := Aside0.mk (below_step (by repeat (first | (with_reducible first | exact HB.out | apply below_alloc | apply pw_below_drewN | apply below_drew1 | refine below_set ?_ GE558.out) | exact HB.out)) hb)
              clear HO557
              clear BK558
              clear HB
              have HO557 := n0_
              have BK558 := n1_
              have HB := n2_
              clear n0_ n1_ n2_
              (try clear hb)
              (try clear hb2)
              (try clear hk)
              (try clear hi)
              refine hK.out _ _ ((blk_cell BK558.out 0).trans rfl) (fun hHeld => ?_)
              clear hK K
              refine norm_ (a' := ?_) ?_ ?_
              rotate_left
              · show Act.put _ (some 57) _ = _
                simp only [Act.put, z1_, z2_, z3_, i64_w, i32_w]
                rfl
              refine one_ (i := 31) (N := some 59) (B_ 4294967295 34) rfl rfl (one_of HT_.out (by kernel_rfl)) (by decide) (fun K hK => ?_)
              refine goes_ Try.func20 (by kernel_rfl) rfl #[.agg #[.slice Ao12 t555.length co12]] (by rfl) rfl rfl (by (try simp only [List.map_toArray, List.map_cons, List.map_nil]); first | done | rfl | (simp only [List.length_drop, List.length_take]; rfl)) ?_
              with_reducible refine (spec_PrimitiveBelow.calls k _ _ t555 t570 _ ?side1 ?side2 A31.out).mono ?_
              (case side1 => exact ce_ ((Kd.Q_reads' HO557.out).2.2))
              (case side2 => exact (Kd.Q_reads' HO557.out).2.1)
              rintro e w38 ⟨rfl, hb⟩
              refine ⟨_, rfl, ?_⟩
              have n0_ := Aside0.mk (Kd.Q_below (by (with_reducible repeat (first | apply Kd.Q_alloc | apply Kd.Q_drewN | apply Kd.Q_drew)); exact HO557.out) hb)
              have n1_ := Aside0.mk (blk_below (g := gb558) (o := .cells #[.slice Ao12 t555.length co12] 27 (0, 0)) (be_ BK558.out) hb)
              have n2_ := Aside0.mk (below_step (by repeat (first | (with_reducible first | exact HB.out | apply below_alloc | apply pw_below_drewN | apply below_drew1 | refine below_set ?_ GE558.out) | exact HB.out)) hb)
              clear HO557
              clear BK558
              clear HB
              have HO557 := n0_
              have BK558 := n1_
              have HB := n2_
              clear n0_ n1_ n2_
              (try clear hb)
              (try clear hb2)
              (try clear hk)
              (try clear hi)
              refine hK.out _ _ ((blk_cell BK558.out 0).trans rfl) (fun hHeld => ?_)
              clear hK K
              refine norm_ (a' := ?_) ?_ ?_
              rotate_left
              · show Act.put _ (some 59) _ = _
                simp only [Act.put, z1_, z2_, z3_, i64_w, i32_w]
                rfl
              refine pu_ HT_ 32 60 (B_ 8589934591 34) ?_
              refine pu_ HT_ 33 61 (B_ 17179869183 34) ?_
              refine done_ (done_of HT_.out (by kernel_rfl)) ?_
              try go_wp2
              go_meet
              case rel => exact ⟨_, ((t569 != t570)), (by first | rfl | (simp; done) | (simp [*]; done)), H', ⟨by first | omega | exact Nat.le_refl _⟩, ⟨by (with_reducible repeat (first | apply Kd.Q_alloc | apply Kd.Q_drewN | apply Kd.Q_drew)); exact HO557.out⟩, ⟨be_ BK558.out⟩, ⟨by repeat (first | (with_reducible first | exact HB.out | apply below_alloc | apply pw_below_drewN | apply below_drew1 | refine below_set ?_ GE558.out) | exact HB.out)⟩⟩
            · rw [if_neg c29] at H
              exact absurd (H.trans (congrArg some hr_.out)) (by cases k <;> simp [laws_FnWilf.j0])
          · rw [if_neg c28] at H
            exact absurd (H.trans (congrArg some hr_.out)) (by cases k <;> simp [laws_FnWilf.j0])
        · rw [if_neg c27] at H
          exact absurd (H.trans (congrArg some hr_.out)) (by cases k <;> simp [laws_FnWilf.j0])
      · rw [if_neg c24] at H
        exact absurd (H.trans (congrArg some hr_.out)) (by cases k <;> simp [laws_FnWilf.j0])
    · rw [if_neg c22] at H
      exact absurd (H.trans (congrArg some hr_.out)) (by cases k <;> simp [laws_FnWilf.j0])
   case rest =>
    clear HC9
    try clear c2
    try clear p2
    try clear c22
    try clear c22b0
    try clear c22b1
    try clear c24
    try clear c24b0
    try clear c24b1
    obtain ⟨kq, x61_8, rfl, HA, HJ8, HO_559000, BK558, HB⟩ := hcut
    cases kq with
    | zero => exact absurd HA.out (by simp [laws_FnWilf.j0])
    | succ kj8 =>
     have H := HA.out
     clear HA
     simp only [laws_FnWilf.j0] at H
     by_cases c59 : x61_8 = true
     · subst c59
       have H1 : (some false) = some r := by rw [if_pos rfl] at H; exact H
       exact absurd (H1.trans (congrArg some hr_.out)) (by simp)
     · replace c59 := Bool.eq_false_iff.mpr c59
       subst c59
       have H1 : ((spec_IsSemigroup.f kj8 t555).bind fun t571 => (if t571 = true then ((spec_MultiplicityOf.f kj8 t555).bind fun t572 => (if t572 ≤ 12 then (laws_FnWilf.j1 kj8 t559 t560 (decide (t559 < 0)) t555) else (laws_FnWilf.j1 kj8 t559 t560 false t555))) else (if t559 = (-1) then (some (t560 == (-1))) else (some false)))) = some r := by rw [if_neg (show ¬ (false = true) by decide)] at H; exact H
       clear H
       have H := H1
       clear H1
       replace H := Option.bind_eq_some_iff.mp H
       obtain ⟨t571, A600, H⟩ := H
       replace H : (if t571 = true then ((spec_MultiplicityOf.f kj8 t555).bind fun t572 => (if t572 ≤ 12 then (laws_FnWilf.j1 kj8 t559 t560 (decide (t559 < 0)) t555) else (laws_FnWilf.j1 kj8 t559 t560 false t555))) else (if t559 = (-1) then (some (t560 == (-1))) else (some false))) = some r := H
       have A60 := Aside0.mk A600
       clear A600
       by_cases c61 : t571 = true
       · subst c61
         have H1 : ((spec_MultiplicityOf.f kj8 t555).bind fun t572 => (if t572 ≤ 12 then (laws_FnWilf.j1 kj8 t559 t560 (decide (t559 < 0)) t555) else (laws_FnWilf.j1 kj8 t559 t560 false t555))) = some r := by rw [if_pos rfl] at H; exact H
         clear H
         have H := H1
         clear H1
         have HC62 := Aside0.mk H
         clear H
         have hcz63_0 : wc.cell? ⟨gb558, 0, none⟩ = some (.slice Ao12 t555.length co12) := (blk_cell BK558.out 0).trans rfl
         have hfz63_0 := blk_frozen BK558.out 0
         go_upto_region 12 with (first | ((with_reducible refine gate_callee (f := 42) rfl ?_); refine goesL_ (some 63) rfl rfl Try.func42 (by kernel_rfl) rfl #[.agg #[.slice Ao12 t555.length co12]] rfl (by (try simp only [List.map_toArray, List.map_cons, List.map_nil]); first | done | rfl | (simp only [List.length_drop, List.length_take]; rfl)) ?_; (with_reducible refine (spec_IsSemigroup.calls kj8 _ _ t555 true _ ?side1 ?side2 A60.out).mono ?_); (case side1 => exact ce_ ((Kd.Q_reads' HO_559000.out).2.2)); (case side2 => exact (Kd.Q_reads' HO_559000.out).2.1); rintro e w64 ⟨rfl, hb⟩; refine ⟨_, rfl, ?_⟩; have n0_ := Aside0.mk (Kd.Q_below (by (with_reducible repeat (first | apply Kd.Q_alloc | apply Kd.Q_drewN | apply Kd.Q_drew)); exact HO_559000.out) hb); have n1_ := Aside0.mk (blk_below (g := gb558) (o := .cells #[.slice Ao12 t555.length co12] 27 (0, 0)) (be_ BK558.out) hb); have n2_ := Aside0.mk (below_step (by repeat (first | (with_reducible first | exact HB.out | apply below_alloc | apply pw_below_drewN | apply below_drew1 | refine below_set ?_ GE558.out) | exact HB.out)) hb); clear HO_559000; clear BK558; clear HB; have HO_559000 := n0_; have BK558 := n1_; have HB := n2_; clear n0_ n1_ n2_; (try clear hb); (try clear hb2); (try clear hk); (try clear hi)))
         (try simp only [Act.put, z1_, z2_, z3_])
         go_cut [77] (fun v77 wc => ∃ (kq : Nat) (x77_61 : Bool), v77 = .bool x77_61 ∧ Aside0 (laws_FnWilf.j1 kq t559 t560 x77_61 t555 = some r) ∧ Aside0 (kq ≤ kj8) ∧ Aside0 (Kd.Q (Kd.int .i64) 3 wc w.heap.size (fun _ => True) (.slice Ao12 t555.length co12) t555) ∧ Aside0 (wc.heap[gb558]? = some (.cells #[(.slice Ao12 t555.length co12)] 27 (0, 0))) ∧ Aside0 (Below w.heap.size w wc))
         case first =>
          have H := HC62.out
          clear HC62
          replace H := Option.bind_eq_some_iff.mp H
          obtain ⟨t572, A650, H⟩ := H
          replace H : (if t572 ≤ 12 then (laws_FnWilf.j1 kj8 t559 t560 (decide (t559 < 0)) t555) else (laws_FnWilf.j1 kj8 t559 t560 false t555)) = some r := H
          have A65 := Aside0.mk A650
          clear A650
          by_cases c66 : t572 ≤ 12
          · rw [if_pos c66] at H
            have c66b0 : decide (t572 ≤ 12) = true := decide_eq_true c66
            clear c66
            (first | rw [c66b0] | (simp only [i64_w, i32_w]; rw [c66b0]) | skip)
            have H' := Aside0.mk H
            clear H
            have hcz67_0 : w64.cell? ⟨gb558, 0, none⟩ = some (.slice Ao12 t555.length co12) := (blk_cell BK558.out 0).trans rfl
            have hfz67_0 := blk_frozen BK558.out 0
            go_wp2_with (first | ((with_reducible refine gate_callee (f := 50) rfl ?_); refine goesL_ (some 72) rfl rfl Try.func50 (by kernel_rfl) rfl #[.agg #[.slice Ao12 t555.length co12]] rfl (by (try simp only [List.map_toArray, List.map_cons, List.map_nil]); first | done | rfl | (simp only [List.length_drop, List.length_take]; rfl)) ?_; (with_reducible refine (spec_MultiplicityOf.calls kj8 _ _ t555 t572 _ ?side1 ?side2 A65.out).mono ?_); (case side1 => exact ce_ ((Kd.Q_reads' HO_559000.out).2.2)); (case side2 => exact (Kd.Q_reads' HO_559000.out).2.1); rintro e w68 ⟨rfl, hb⟩; refine ⟨_, rfl, ?_⟩; have n0_ := Aside0.mk (Kd.Q_below (by (with_reducible repeat (first | apply Kd.Q_alloc | apply Kd.Q_drewN | apply Kd.Q_drew)); exact HO_559000.out) hb); have n1_ := Aside0.mk (blk_below (g := gb558) (o := .cells #[.slice Ao12 t555.length co12] 27 (0, 0)) (be_ BK558.out) hb); have n2_ := Aside0.mk (below_step (by repeat (first | (with_reducible first | exact HB.out | apply below_alloc | apply pw_below_drewN | apply below_drew1 | refine below_set ?_ GE558.out) | exact HB.out)) hb); clear HO_559000; clear BK558; clear HB; have HO_559000 := n0_; have BK558 := n1_; have HB := n2_; clear n0_ n1_ n2_; (try clear hb); (try clear hb2); (try clear hk); (try clear hi)))
            go_meet
            case rel => exact ⟨_, (decide (t559 < 0)), (by first | rfl | (simp; done) | (simp [*]; done)), H', ⟨by have := HJ8.out; first | omega | exact Nat.le_refl _⟩, ⟨by (with_reducible repeat (first | apply Kd.Q_alloc | apply Kd.Q_drewN | apply Kd.Q_drew)); exact HO_559000.out⟩, ⟨be_ BK558.out⟩, ⟨by repeat (first | (with_reducible first | exact HB.out | apply below_alloc | apply pw_below_drewN | apply below_drew1 | refine below_set ?_ GE558.out) | exact HB.out)⟩⟩
          · rw [if_neg c66] at H
            have c66b0 : decide (t572 ≤ 12) = false := decide_eq_false c66
            clear c66
            (first | rw [c66b0] | (simp only [i64_w, i32_w]; rw [c66b0]) | skip)
            have H' := Aside0.mk H
            clear H
            have hcz69_0 : w64.cell? ⟨gb558, 0, none⟩ = some (.slice Ao12 t555.length co12) := (blk_cell BK558.out 0).trans rfl
            have hfz69_0 := blk_frozen BK558.out 0
            go_wp2_with (first | ((with_reducible refine gate_callee (f := 50) rfl ?_); refine goesL_ (some 72) rfl rfl Try.func50 (by kernel_rfl) rfl #[.agg #[.slice Ao12 t555.length co12]] rfl (by (try simp only [List.map_toArray, List.map_cons, List.map_nil]); first | done | rfl | (simp only [List.length_drop, List.length_take]; rfl)) ?_; (with_reducible refine (spec_MultiplicityOf.calls kj8 _ _ t555 t572 _ ?side1 ?side2 A65.out).mono ?_); (case side1 => exact ce_ ((Kd.Q_reads' HO_559000.out).2.2)); (case side2 => exact (Kd.Q_reads' HO_559000.out).2.1); rintro e w70 ⟨rfl, hb⟩; refine ⟨_, rfl, ?_⟩; have n0_ := Aside0.mk (Kd.Q_below (by (with_reducible repeat (first | apply Kd.Q_alloc | apply Kd.Q_drewN | apply Kd.Q_drew)); exact HO_559000.out) hb); have n1_ := Aside0.mk (blk_below (g := gb558) (o := .cells #[.slice Ao12 t555.length co12] 27 (0, 0)) (be_ BK558.out) hb); have n2_ := Aside0.mk (below_step (by repeat (first | (with_reducible first | exact HB.out | apply below_alloc | apply pw_below_drewN | apply below_drew1 | refine below_set ?_ GE558.out) | exact HB.out)) hb); clear HO_559000; clear BK558; clear HB; have HO_559000 := n0_; have BK558 := n1_; have HB := n2_; clear n0_ n1_ n2_; (try clear hb); (try clear hb2); (try clear hk); (try clear hi)))
            go_meet
            case rel => exact ⟨_, (false), (by first | rfl | (simp; done) | (simp [*]; done)), H', ⟨by have := HJ8.out; first | omega | exact Nat.le_refl _⟩, ⟨by (with_reducible repeat (first | apply Kd.Q_alloc | apply Kd.Q_drewN | apply Kd.Q_drew)); exact HO_559000.out⟩, ⟨be_ BK558.out⟩, ⟨by repeat (first | (with_reducible first | exact HB.out | apply below_alloc | apply pw_below_drewN | apply below_drew1 | refine below_set ?_ GE558.out) | exact HB.out)⟩⟩
         case rest =>
          clear HC62
          try clear c2
          try clear p2
          try clear c4
          try clear c5
          try clear c6
          try clear c22
          try clear c22b0
          try clear c22b1
          try clear c24
          try clear c24b0
          try clear c24b1
          try clear c42
          try clear c50
          try clear c59
          try clear c61
          try clear c66
          try clear c66b0
          try clear hcz63_0
          try clear hcz67_0
          try clear hcz69_0
          try clear hfz63_0
          try clear hfz67_0
          try clear hfz69_0
          try clear p2
          obtain ⟨kq, x77_61, rfl, HA, HJ61, HO_559000, BK558, HB⟩ := hcut
          cases kq with
          | zero => exact absurd HA.out (by simp [laws_FnWilf.j1])
          | succ kj61 =>
           have H := HA.out
           clear HA
           simp only [laws_FnWilf.j1] at H
           by_cases c71 : x77_61 = true
           · subst c71
             have H1 : (some false) = some r := by rw [if_pos rfl] at H; exact H
             exact absurd (H1.trans (congrArg some hr_.out)) (by simp)
           · replace c71 := Bool.eq_false_iff.mpr c71
             subst c71
             have H1 : ((spec_GenusOf.f kj61 t555).bind fun t573 => ((spec_ConductorOf.f kj61 t555).bind fun t574 => (if (wrap64 (t560 + t573)) = t574 then ((spec_DimensionOf.f kj61 t555).bind fun t575 => (if t575 = 2 then (if t559 = 0 then ((impl_PrimitiveBelow.f kj61 t555).bind fun t576 => ((spec_DimensionOf.f kj61 t555).bind fun t577 => (some (decide (t576 ≤ t577))))) else (some false)) else ((impl_PrimitiveBelow.f kj61 t555).bind fun t578 => ((spec_DimensionOf.f kj61 t555).bind fun t579 => (some (decide (t578 ≤ t579))))))) else (some false)))) = some r := by rw [if_neg (show ¬ (false = true) by decide)] at H; exact H
             clear H
             have H := H1
             clear H1
             replace H := Option.bind_eq_some_iff.mp H
             obtain ⟨t573, A720, H⟩ := H
             replace H : ((spec_ConductorOf.f kj61 t555).bind fun t574 => (if (wrap64 (t560 + t573)) = t574 then ((spec_DimensionOf.f kj61 t555).bind fun t575 => (if t575 = 2 then (if t559 = 0 then ((impl_PrimitiveBelow.f kj61 t555).bind fun t576 => ((spec_DimensionOf.f kj61 t555).bind fun t577 => (some (decide (t576 ≤ t577))))) else (some false)) else ((impl_PrimitiveBelow.f kj61 t555).bind fun t578 => ((spec_DimensionOf.f kj61 t555).bind fun t579 => (some (decide (t578 ≤ t579))))))) else (some false))) = some r := H
             have A72 := Aside0.mk A720
             clear A720
             replace H := Option.bind_eq_some_iff.mp H
             obtain ⟨t574, A730, H⟩ := H
             replace H : (if (wrap64 (t560 + t573)) = t574 then ((spec_DimensionOf.f kj61 t555).bind fun t575 => (if t575 = 2 then (if t559 = 0 then ((impl_PrimitiveBelow.f kj61 t555).bind fun t576 => ((spec_DimensionOf.f kj61 t555).bind fun t577 => (some (decide (t576 ≤ t577))))) else (some false)) else ((impl_PrimitiveBelow.f kj61 t555).bind fun t578 => ((spec_DimensionOf.f kj61 t555).bind fun t579 => (some (decide (t578 ≤ t579))))))) else (some false)) = some r := H
             have A73 := Aside0.mk A730
             clear A730
             by_cases c74 : (wrap64 (t560 + t573)) = t574
             · rw [if_pos c74] at H
               have c74b0 : ((wrap64 (t560 + t573)) == t574) = true := beq_iff_eq.mpr c74
               have c74b1 : ((wrap64 (t560 + t573)) != t574) = false := bne_eq_false_iff_eq.mpr c74
               clear c74
               replace H := Option.bind_eq_some_iff.mp H
               obtain ⟨t575, A750, H⟩ := H
               replace H : (if t575 = 2 then (if t559 = 0 then ((impl_PrimitiveBelow.f kj61 t555).bind fun t576 => ((spec_DimensionOf.f kj61 t555).bind fun t577 => (some (decide (t576 ≤ t577))))) else (some false)) else ((impl_PrimitiveBelow.f kj61 t555).bind fun t578 => ((spec_DimensionOf.f kj61 t555).bind fun t579 => (some (decide (t578 ≤ t579)))))) = some r := H
               have A75 := Aside0.mk A750
               clear A750
               by_cases c76 : t575 = 2
               · rw [if_pos c76] at H
                 have c76b0 : (t575 == 2) = true := beq_iff_eq.mpr c76
                 have c76b1 : (t575 != 2) = false := bne_eq_false_iff_eq.mpr c76
                 clear c76
                 by_cases c77 : t559 = 0
                 · rw [if_pos c77] at H
                   have c77b0 : (t559 == 0) = true := beq_iff_eq.mpr c77
                   have c77b1 : (t559 != 0) = false := bne_eq_false_iff_eq.mpr c77
                   clear c77
                   replace H := Option.bind_eq_some_iff.mp H
                   obtain ⟨t576, A780, H⟩ := H
                   replace H : ((spec_DimensionOf.f kj61 t555).bind fun t577 => (some (decide (t576 ≤ t577)))) = some r := H
                   have A78 := Aside0.mk A780
                   clear A780
                   replace H := Option.bind_eq_some_iff.mp H
                   obtain ⟨t577, A790, H⟩ := H
                   replace H : (some (decide (t576 ≤ t577))) = some r := H
                   have A79 := Aside0.mk A790
                   clear A790
                   obtain rfl := Option.some.inj H
                   try go_wp2
                   have n0_ := Aside0.mk (Kd.Q_drew HO_559000.out)
                   have n1_ := Aside0.mk (blk_drew BK558.out)
                   have n2_ := Aside0.mk (below_drew1 HB.out)
                   clear HO_559000
                   clear BK558
                   clear HB
                   have HO_559000 := n0_
                   have BK558 := n1_
                   have HB := n2_
                   clear n0_ n1_ n2_
                   refine start_ (n := 24) (S := fun w' => w'.cell? ⟨gb558, 0, none⟩ = some (.slice Ao12 t555.length co12)) (ds := []) (B_ 0 24) (by kernel_rfl) rfl rfl ((blk_cell BK558.out 0).trans rfl) (fun hHeld => ?_); refine with_tabW laws_FnWilf.tab14 laws_FnWilf.bits14 (fun HT_ HW_ => ?_)
                   generalize wc.drew = w80 at HO_559000 BK558 HB hHeld ⊢
                   refine pu_ HT_ 0 78 (B_ 1 24) ?_
                   refine tk1_ HT_ HW_ hHeld 1 79 (B_ 3 24) ?_
                   refine tk1_ HT_ HW_ hHeld 4 82 (B_ 19 24) ?_
                   refine one_ (i := 2) (N := some 80) (B_ 23 24) rfl rfl (one_of HT_.out (by kernel_rfl)) (by decide) (fun K hK => ?_)
                   refine goes_ Try.func44 (by kernel_rfl) rfl #[.agg #[.slice Ao12 t555.length co12]] (by rfl) rfl rfl (by (try simp only [List.map_toArray, List.map_cons, List.map_nil]); first | done | rfl | (simp only [List.length_drop, List.length_take]; rfl)) ?_
                   with_reducible refine (spec_GenusOf.calls kj61 _ _ t555 t573 _ ?side1 ?side2 A72.out).mono ?_
                   (case side1 => exact ce_ ((Kd.Q_reads' HO_559000.out).2.2))
                   (case side2 => exact (Kd.Q_reads' HO_559000.out).2.1)
                   rintro e w81 ⟨rfl, hb⟩
                   refine ⟨_, rfl, ?_⟩
                   have n0_ := Aside0.mk (Kd.Q_below (by (with_reducible repeat (first | apply Kd.Q_alloc | apply Kd.Q_drewN | apply Kd.Q_drew)); exact HO_559000.out) hb)
                   have n1_ := Aside0.mk (blk_below (g := gb558) (o := .cells #[.slice Ao12 t555.length co12] 27 (0, 0)) (be_ BK558.out) hb)
                   have n2_ := Aside0.mk (below_step (by repeat (first | (with_reducible first | exact HB.out | apply below_alloc | apply pw_below_drewN | apply below_drew1 | refine below_set ?_ GE558.out) | exact HB.out)) hb)
                   clear HO_559000
                   clear BK558
                   clear HB
                   have HO_559000 := n0_
                   have BK558 := n1_
                   have HB := n2_
                   clear n0_ n1_ n2_
                   (try clear hb)
                   (try clear hb2)
                   (try clear hk)
                   (try clear hi)
                   refine hK.out _ _ ((blk_cell BK558.out 0).trans rfl) (fun hHeld => ?_)
                   clear hK K
                   refine norm_ (a' := ?_) ?_ ?_
                   rotate_left
                   · show Act.put _ (some 80) _ = _
                     simp only [Act.put, z1_, z2_, z3_, i64_w, i32_w]
                     rfl
                   refine pu_ HT_ 3 81 (B_ 31 24) ?_
                   refine one_ (i := 5) (N := some 83) (B_ 63 24) rfl rfl (one_of HT_.out (by kernel_rfl)) (by decide) (fun K hK => ?_)
                   refine goes_ Try.func43 (by kernel_rfl) rfl #[.agg #[.slice Ao12 t555.length co12]] (by rfl) rfl rfl (by (try simp only [List.map_toArray, List.map_cons, List.map_nil]); first | done | rfl | (simp only [List.length_drop, List.length_take]; rfl)) ?_
                   with_reducible refine (spec_ConductorOf.calls kj61 _ _ t555 t574 _ ?side1 ?side2 A73.out).mono ?_
                   (case side1 => exact ce_ ((Kd.Q_reads' HO_559000.out).2.2))
                   (case side2 => exact (Kd.Q_reads' HO_559000.out).2.1)
                   rintro e w82 ⟨rfl, hb⟩
                   refine ⟨_, rfl, ?_⟩
                   have n0_ := Aside0.mk (Kd.Q_below (by (with_reducible repeat (first | apply Kd.Q_alloc | apply Kd.Q_drewN | apply Kd.Q_drew)); exact HO_559000.out) hb)
                   have n1_ := Aside0.mk (blk_below (g := gb558) (o := .cells #[.slice Ao12 t555.length co12] 27 (0, 0)) (be_ BK558.out) hb)
                   have n2_ := Aside0.mk (below_step (by repeat (first | (with_reducible first | exact HB.out | apply below_alloc | apply pw_below_drewN | apply below_drew1 | refine below_set ?_ GE558.out) | exact HB.out)) hb)
                   clear HO_559000
                   clear BK558
                   clear HB
                   have HO_559000 := n0_
                   have BK558 := n1_
                   have HB := n2_
                   clear n0_ n1_ n2_
                   (try clear hb)
                   (try clear hb2)
                   (try clear hk)
                   (try clear hi)
                   refine hK.out _ _ ((blk_cell BK558.out 0).trans rfl) (fun hHeld => ?_)
                   clear hK K
                   refine norm_ (a' := ?_) ?_ ?_
                   rotate_left
                   · show Act.put _ (some 83) _ = _
                     simp only [Act.put, z1_, z2_, z3_, i64_w, i32_w]
                     rfl
                   refine pu_ HT_ 6 84 (B_ 127 24) ?_
                   refine pu_ HT_ 7 85 (B_ 255 24) ?_
                   refine tk1_ HT_ HW_ hHeld 8 86 (B_ 511 24) ?_
                   refine one_ (i := 9) (N := some 87) (B_ 1023 24) rfl rfl (one_of HT_.out (by kernel_rfl)) (by decide) (fun K hK => ?_)
                   refine goes_ Try.func51 (by kernel_rfl) rfl #[.agg #[.slice Ao12 t555.length co12]] (by rfl) rfl rfl (by (try simp only [List.map_toArray, List.map_cons, List.map_nil]); first | done | rfl | (simp only [List.length_drop, List.length_take]; rfl)) ?_
                   with_reducible refine (spec_DimensionOf.calls kj61 _ _ t555 t575 _ ?side1 ?side2 A75.out).mono ?_
                   (case side1 => exact ce_ ((Kd.Q_reads' HO_559000.out).2.2))
                   (case side2 => exact (Kd.Q_reads' HO_559000.out).2.1)
                   rintro e w83 ⟨rfl, hb⟩
                   refine ⟨_, rfl, ?_⟩
                   have n0_ := Aside0.mk (Kd.Q_below (by (with_reducible repeat (first | apply Kd.Q_alloc | apply Kd.Q_drewN | apply Kd.Q_drew)); exact HO_559000.out) hb)
                   have n1_ := Aside0.mk (blk_below (g := gb558) (o := .cells #[.slice Ao12 t555.length co12] 27 (0, 0)) (be_ BK558.out) hb)
                   have n2_ := Aside0.mk (below_step (by repeat (first | (with_reducible first | exact HB.out | apply below_alloc | apply pw_below_drewN | apply below_drew1 | refine below_set ?_ GE558.out) | exact HB.out)) hb)
                   clear HO_559000
                   clear BK558
                   clear HB
                   have HO_559000 := n0_
                   have BK558 := n1_
                   have HB := n2_
                   clear n0_ n1_ n2_
                   (try clear hb)
                   (try clear hb2)
                   (try clear hk)
                   (try clear hi)
                   refine hK.out _ _ ((blk_cell BK558.out 0).trans rfl) (fun hHeld => ?_)
                   clear hK K
                   refine norm_ (a' := ?_) ?_ ?_
                   rotate_left
                   · show Act.put _ (some 87) _ = _
                     simp only [Act.put, z1_, z2_, z3_, i64_w, i32_w]
                     rfl
                   refine pu_ HT_ 10 88 (B_ 2047 24) ?_
                   refine pu_ HT_ 11 89 (B_ 4095 24) ?_
                   refine pu_ HT_ 12 90 (B_ 8191 24) ?_
                   refine pu_ HT_ 13 91 (B_ 16383 24) ?_
                   refine pu_ HT_ 14 92 (B_ 32767 24) ?_
                   refine pu_ HT_ 15 93 (B_ 65535 24) ?_
                   refine pu_ HT_ 16 94 (B_ 131071 24) ?_
                   refine tk1_ HT_ HW_ hHeld 17 95 (B_ 262143 24) ?_
                   refine tk1_ HT_ HW_ hHeld 19 97 (B_ 786431 24) ?_
                   refine one_ (i := 18) (N := some 96) (B_ 1048575 24) rfl rfl (one_of HT_.out (by kernel_rfl)) (by decide) (fun K hK => ?_)
                   refine goes_ Try.func21 (by kernel_rfl) rfl #[.agg #[.slice Ao12 t555.length co12]] (by rfl) rfl rfl (by (try simp only [List.map_toArray, List.map_cons, List.map_nil]); first | done | rfl | (simp only [List.length_drop, List.length_take]; rfl)) ?_
                   with_reducible refine (impl_PrimitiveBelow.calls kj61 _ _ t555 t576 _ ?side1 ?side2 A78.out).mono ?_
                   (case side1 => exact ce_ ((Kd.Q_reads' HO_559000.out).2.2))
                   (case side2 => exact (Kd.Q_reads' HO_559000.out).2.1)
                   rintro e w84 ⟨rfl, hb⟩
                   refine ⟨_, rfl, ?_⟩
                   have n0_ := Aside0.mk (Kd.Q_below (by (with_reducible repeat (first | apply Kd.Q_alloc | apply Kd.Q_drewN | apply Kd.Q_drew)); exact HO_559000.out) hb)
                   have n1_ := Aside0.mk (blk_below (g := gb558) (o := .cells #[.slice Ao12 t555.length co12] 27 (0, 0)) (be_ BK558.out) hb)
                   have n2_ := Aside0.mk (below_step (by repeat (first | (with_reducible first | exact HB.out | apply below_alloc | apply pw_below_drewN | apply below_drew1 | refine below_set ?_ GE558.out) | exact HB.out)) hb)
                   clear HO_559000
                   clear BK558
                   clear HB
                   have HO_559000 := n0_
                   have BK558 := n1_
                   have HB := n2_
                   clear n0_ n1_ n2_
                   (try clear hb)
                   (try clear hb2)
                   (try clear hk)
                   (try clear hi)
                   refine hK.out _ _ ((blk_cell BK558.out 0).trans rfl) (fun hHeld => ?_)
                   clear hK K
                   refine norm_ (a' := ?_) ?_ ?_
                   rotate_left
                   · show Act.put _ (some 96) _ = _
                     simp only [Act.put, z1_, z2_, z3_, i64_w, i32_w]
                     rfl
                   refine one_ (i := 20) (N := some 98) (B_ 2097151 24) rfl rfl (one_of HT_.out (by kernel_rfl)) (by decide) (fun K hK => ?_)
                   refine goes_ Try.func51 (by kernel_rfl) rfl #[.agg #[.slice Ao12 t555.length co12]] (by rfl) rfl rfl (by (try simp only [List.map_toArray, List.map_cons, List.map_nil]); first | done | rfl | (simp only [List.length_drop, List.length_take]; rfl)) ?_
                   with_reducible refine (spec_DimensionOf.calls kj61 _ _ t555 t577 _ ?side1 ?side2 A79.out).mono ?_
                   (case side1 => exact ce_ ((Kd.Q_reads' HO_559000.out).2.2))
                   (case side2 => exact (Kd.Q_reads' HO_559000.out).2.1)
                   rintro e w85 ⟨rfl, hb⟩
                   refine ⟨_, rfl, ?_⟩
                   have n0_ := Aside0.mk (Kd.Q_below (by (with_reducible repeat (first | apply Kd.Q_alloc | apply Kd.Q_drewN | apply Kd.Q_drew)); exact HO_559000.out) hb)
                   have n1_ := Aside0.mk (blk_below (g := gb558) (o := .cells #[.slice Ao12 t555.length co12] 27 (0, 0)) (be_ BK558.out) hb)
                   have n2_ := Aside0.mk (below_step (by repeat (first | (with_reducible first | exact HB.out | apply below_alloc | apply pw_below_drewN | apply below_drew1 | refine below_set ?_ GE558.out) | exact HB.out)) hb)
                   clear HO_559000
                   clear BK558
                   clear HB
                   have HO_559000 := n0_
                   have BK558 := n1_
                   have HB := n2_
                   clear n0_ n1_ n2_
                   (try clear hb)
                   (try clear hb2)
                   (try clear hk)
                   (try clear hi)
                   refine hK.out _ _ ((blk_cell BK558.out 0).trans rfl) (fun hHeld => ?_)
                   clear hK K
                   refine norm_ (a' := ?_) ?_ ?_
                   rotate_left
                   · show Act.put _ (some 98) _ = _
                     simp only [Act.put, z1_, z2_, z3_, i64_w, i32_w]
                     rfl
                   refine pu_ HT_ 21 99 (B_ 4194303 24) ?_
                   refine pu_ HT_ 22 100 (B_ 8388607 24) ?_
                   refine pu_ HT_ 23 2 (B_ 16777215 24) ?_
                   refine done_ (done_of HT_.out (by kernel_rfl)) ?_
                   try go_wp2
                   go_ret
                   exact ⟨by first | rfl | (simp [errW_none, errW_some] <;> rfl) | (simp [*, errW_none, errW_some] <;> rfl), by repeat (first | (with_reducible first | exact HB.out | apply below_alloc | apply pw_below_drewN | apply below_drew1 | refine below_set ?_ GE558.out) | exact HB.out)⟩
                 · rw [if_neg c77] at H
                   exact absurd (H.trans (congrArg some hr_.out)) (by simp)
               · rw [if_neg c76] at H
                 have c76b0 : (t575 == 2) = false := beq_eq_false_iff_ne.mpr c76
                 have c76b1 : (t575 != 2) = true := bne_iff_ne.mpr c76
                 replace H := Option.bind_eq_some_iff.mp H
                 obtain ⟨t578, A900, H⟩ := H
                 replace H : ((spec_DimensionOf.f kj61 t555).bind fun t579 => (some (decide (t578 ≤ t579)))) = some r := H
                 have A90 := Aside0.mk A900
                 clear A900
                 replace H := Option.bind_eq_some_iff.mp H
                 obtain ⟨t579, A910, H⟩ := H
                 replace H : (some (decide (t578 ≤ t579))) = some r := H
                 have A91 := Aside0.mk A910
                 clear A910
                 obtain rfl := Option.some.inj H
                 try go_wp2
                 have n0_ := Aside0.mk (Kd.Q_drew HO_559000.out)
                 have n1_ := Aside0.mk (blk_drew BK558.out)
                 have n2_ := Aside0.mk (below_drew1 HB.out)
                 clear HO_559000
                 clear BK558
                 clear HB
                 have HO_559000 := n0_
                 have BK558 := n1_
                 have HB := n2_
                 clear n0_ n1_ n2_
                 refine start_ (n := 24) (S := fun w' => w'.cell? ⟨gb558, 0, none⟩ = some (.slice Ao12 t555.length co12)) (ds := []) (B_ 0 24) (by kernel_rfl) rfl rfl ((blk_cell BK558.out 0).trans rfl) (fun hHeld => ?_); refine with_tabW laws_FnWilf.tab14 laws_FnWilf.bits14 (fun HT_ HW_ => ?_)
                 generalize wc.drew = w92 at HO_559000 BK558 HB hHeld ⊢
                 refine pu_ HT_ 0 78 (B_ 1 24) ?_
                 refine tk1_ HT_ HW_ hHeld 1 79 (B_ 3 24) ?_
                 refine tk1_ HT_ HW_ hHeld 4 82 (B_ 19 24) ?_
                 refine one_ (i := 2) (N := some 80) (B_ 23 24) rfl rfl (one_of HT_.out (by kernel_rfl)) (by decide) (fun K hK => ?_)
                 refine goes_ Try.func44 (by kernel_rfl) rfl #[.agg #[.slice Ao12 t555.length co12]] (by rfl) rfl rfl (by (try simp only [List.map_toArray, List.map_cons, List.map_nil]); first | done | rfl | (simp only [List.length_drop, List.length_take]; rfl)) ?_
                 with_reducible refine (spec_GenusOf.calls kj61 _ _ t555 t573 _ ?side1 ?side2 A72.out).mono ?_
                 (case side1 => exact ce_ ((Kd.Q_reads' HO_559000.out).2.2))
                 (case side2 => exact (Kd.Q_reads' HO_559000.out).2.1)
                 rintro e w93 ⟨rfl, hb⟩
                 refine ⟨_, rfl, ?_⟩
                 have n0_ := Aside0.mk (Kd.Q_below (by (with_reducible repeat (first | apply Kd.Q_alloc | apply Kd.Q_drewN | apply Kd.Q_drew)); exact HO_559000.out) hb)
                 have n1_ := Aside0.mk (blk_below (g := gb558) (o := .cells #[.slice Ao12 t555.length co12] 27 (0, 0)) (be_ BK558.out) hb)
                 have n2_ := Aside0.mk (below_step (by repeat (first | (with_reducible first | exact HB.out | apply below_alloc | apply pw_below_drewN | apply below_drew1 | refine below_set ?_ GE558.out) | exact HB.out)) hb)
                 clear HO_559000
                 clear BK558
                 clear HB
                 have HO_559000 := n0_
                 have BK558 := n1_
                 have HB := n2_
                 clear n0_ n1_ n2_
                 (try clear hb)
                 (try clear hb2)
                 (try clear hk)
                 (try clear hi)
                 refine hK.out _ _ ((blk_cell BK558.out 0).trans rfl) (fun hHeld => ?_)
                 clear hK K
                 refine norm_ (a' := ?_) ?_ ?_
                 rotate_left
                 · show Act.put _ (some 80) _ = _
                   simp only [Act.put, z1_, z2_, z3_, i64_w, i32_w]
                   rfl
                 refine pu_ HT_ 3 81 (B_ 31 24) ?_
                 refine one_ (i := 5) (N := some 83) (B_ 63 24) rfl rfl (one_of HT_.out (by kernel_rfl)) (by decide) (fun K hK => ?_)
                 refine goes_ Try.func43 (by kernel_rfl) rfl #[.agg #[.slice Ao12 t555.length co12]] (by rfl) rfl rfl (by (try simp only [List.map_toArray, List.map_cons, List.map_nil]); first | done | rfl | (simp only [List.length_drop, List.length_take]; rfl)) ?_
                 with_reducible refine (spec_ConductorOf.calls kj61 _ _ t555 t574 _ ?side1 ?side2 A73.out).mono ?_
                 (case side1 => exact ce_ ((Kd.Q_reads' HO_559000.out).2.2))
                 (case side2 => exact (Kd.Q_reads' HO_559000.out).2.1)
                 rintro e w94 ⟨rfl, hb⟩
                 refine ⟨_, rfl, ?_⟩
                 have n0_ := Aside0.mk (Kd.Q_below (by (with_reducible repeat (first | apply Kd.Q_alloc | apply Kd.Q_drewN | apply Kd.Q_drew)); exact HO_559000.out) hb)
                 have n1_ := Aside0.mk (blk_below (g := gb558) (o := .cells #[.slice Ao12 t555.length co12] 27 (0, 0)) (be_ BK558.out) hb)
                 have n2_ := Aside0.mk (below_step (by repeat (first | (with_reducible first | exact HB.out | apply below_alloc | apply pw_below_drewN | apply below_drew1 | refine below_set ?_ GE558.out) | exact HB.out)) hb)
                 clear HO_559000
                 clear BK558
                 clear HB
                 have HO_559000 := n0_
                 have BK558 := n1_
                 have HB := n2_
                 clear n0_ n1_ n2_
                 (try clear hb)
                 (try clear hb2)
                 (try clear hk)
                 (try clear hi)
                 refine hK.out _ _ ((blk_cell BK558.out 0).trans rfl) (fun hHeld => ?_)
                 clear hK K
                 refine norm_ (a' := ?_) ?_ ?_
                 rotate_left
                 · show Act.put _ (some 83) _ = _
                   simp only [Act.put, z1_, z2_, z3_, i64_w, i32_w]
                   rfl
                 refine pu_ HT_ 6 84 (B_ 127 24) ?_
                 refine pu_ HT_ 7 85 (B_ 255 24) ?_
                 refine tk1_ HT_ HW_ hHeld 8 86 (B_ 511 24) ?_
                 refine one_ (i := 9) (N := some 87) (B_ 1023 24) rfl rfl (one_of HT_.out (by kernel_rfl)) (by decide) (fun K hK => ?_)
                 refine goes_ Try.func51 (by kernel_rfl) rfl #[.agg #[.slice Ao12 t555.length co12]] (by rfl) rfl rfl (by (try simp only [List.map_toArray, List.map_cons, List.map_nil]); first | done | rfl | (simp only [List.length_drop, List.length_take]; rfl)) ?_
                 with_reducible refine (spec_DimensionOf.calls kj61 _ _ t555 t575 _ ?side1 ?side2 A75.out).mono ?_
                 (case side1 => exact ce_ ((Kd.Q_reads' HO_559000.out).2.2))
                 (case side2 => exact (Kd.Q_reads' HO_559000.out).2.1)
                 rintro e w95 ⟨rfl, hb⟩
                 refine ⟨_, rfl, ?_⟩
                 have n0_ := Aside0.mk (Kd.Q_below (by (with_reducible repeat (first | apply Kd.Q_alloc | apply Kd.Q_drewN | apply Kd.Q_drew)); exact HO_559000.out) hb)
                 have n1_ := Aside0.mk (blk_below (g := gb558) (o := .cells #[.slice Ao12 t555.length co12] 27 (0, 0)) (be_ BK558.out) hb)
                 have n2_ := Aside0.mk (below_step (by repeat (first | (with_reducible first | exact HB.out | apply below_alloc | apply pw_below_drewN | apply below_drew1 | refine below_set ?_ GE558.out) | exact HB.out)) hb)
                 clear HO_559000
                 clear BK558
                 clear HB
                 have HO_559000 := n0_
                 have BK558 := n1_
                 have HB := n2_
                 clear n0_ n1_ n2_
                 (try clear hb)
                 (try clear hb2)
                 (try clear hk)
                 (try clear hi)
                 refine hK.out _ _ ((blk_cell BK558.out 0).trans rfl) (fun hHeld => ?_)
                 clear hK K
                 refine norm_ (a' := ?_) ?_ ?_
                 rotate_left
                 · show Act.put _ (some 87) _ = _
                   simp only [Act.put, z1_, z2_, z3_, i64_w, i32_w]
                   rfl
                 refine pu_ HT_ 10 88 (B_ 2047 24) ?_
                 refine pu_ HT_ 11 89 (B_ 4095 24) ?_
                 refine pn_ HT_ 12 90 (B_ 8191 24) ?_
                 refine pn_ HT_ 13 91 (B_ 16383 24) ?_
                 refine pu_ HT_ 14 92 (B_ 32767 24) ?_
                 refine pu_ HT_ 15 93 (B_ 65535 24) ?_
                 refine pu_ HT_ 16 94 (B_ 131071 24) ?_
                 refine tk1_ HT_ HW_ hHeld 17 95 (B_ 262143 24) ?_
                 refine tk1_ HT_ HW_ hHeld 19 97 (B_ 786431 24) ?_
                 refine one_ (i := 18) (N := some 96) (B_ 1048575 24) rfl rfl (one_of HT_.out (by kernel_rfl)) (by decide) (fun K hK => ?_)
                 refine goes_ Try.func21 (by kernel_rfl) rfl #[.agg #[.slice Ao12 t555.length co12]] (by rfl) rfl rfl (by (try simp only [List.map_toArray, List.map_cons, List.map_nil]); first | done | rfl | (simp only [List.length_drop, List.length_take]; rfl)) ?_
                 with_reducible refine (impl_PrimitiveBelow.calls kj61 _ _ t555 t578 _ ?side1 ?side2 A90.out).mono ?_
                 (case side1 => exact ce_ ((Kd.Q_reads' HO_559000.out).2.2))
                 (case side2 => exact (Kd.Q_reads' HO_559000.out).2.1)
                 rintro e w96 ⟨rfl, hb⟩
                 refine ⟨_, rfl, ?_⟩
                 have n0_ := Aside0.mk (Kd.Q_below (by (with_reducible repeat (first | apply Kd.Q_alloc | apply Kd.Q_drewN | apply Kd.Q_drew)); exact HO_559000.out) hb)
                 have n1_ := Aside0.mk (blk_below (g := gb558) (o := .cells #[.slice Ao12 t555.length co12] 27 (0, 0)) (be_ BK558.out) hb)
                 have n2_ := Aside0.mk (below_step (by repeat (first | (with_reducible first | exact HB.out | apply below_alloc | apply pw_below_drewN | apply below_drew1 | refine below_set ?_ GE558.out) | exact HB.out)) hb)
                 clear HO_559000
                 clear BK558
                 clear HB
                 have HO_559000 := n0_
                 have BK558 := n1_
                 have HB := n2_
                 clear n0_ n1_ n2_
                 (try clear hb)
                 (try clear hb2)
                 (try clear hk)
                 (try clear hi)
                 refine hK.out _ _ ((blk_cell BK558.out 0).trans rfl) (fun hHeld => ?_)
                 clear hK K
                 refine norm_ (a' := ?_) ?_ ?_
                 rotate_left
                 · show Act.put _ (some 96) _ = _
                   simp only [Act.put, z1_, z2_, z3_, i64_w, i32_w]
                   rfl
                 refine one_ (i := 20) (N := some 98) (B_ 2097151 24) rfl rfl (one_of HT_.out (by kernel_rfl)) (by decide) (fun K hK => ?_)
                 refine goes_ Try.func51 (by kernel_rfl) rfl #[.agg #[.slice Ao12 t555.length co12]] (by rfl) rfl rfl (by (try simp only [List.map_toArray, List.map_cons, List.map_nil]); first | done | rfl | (simp only [List.length_drop, List.length_take]; rfl)) ?_
                 with_reducible refine (spec_DimensionOf.calls kj61 _ _ t555 t579 _ ?side1 ?side2 A91.out).mono ?_
                 (case side1 => exact ce_ ((Kd.Q_reads' HO_559000.out).2.2))
                 (case side2 => exact (Kd.Q_reads' HO_559000.out).2.1)
                 rintro e w97 ⟨rfl, hb⟩
                 refine ⟨_, rfl, ?_⟩
                 have n0_ := Aside0.mk (Kd.Q_below (by (with_reducible repeat (first | apply Kd.Q_alloc | apply Kd.Q_drewN | apply Kd.Q_drew)); exact HO_559000.out) hb)
                 have n1_ := Aside0.mk (blk_below (g := gb558) (o := .cells #[.slice Ao12 t555.length co12] 27 (0, 0)) (be_ BK558.out) hb)
                 have n2_ := Aside0.mk (below_step (by repeat (first | (with_reducible first | exact HB.out | apply below_alloc | apply pw_below_drewN | apply below_drew1 | refine below_set ?_ GE558.out) | exact HB.out)) hb)
                 clear HO_559000
                 clear BK558
                 clear HB
                 have HO_559000 := n0_
                 have BK558 := n1_
                 have HB := n2_
                 clear n0_ n1_ n2_
                 (try clear hb)
                 (try clear hb2)
                 (try clear hk)
                 (try clear hi)
                 refine hK.out _ _ ((blk_cell BK558.out 0).trans rfl) (fun hHeld => ?_)
                 clear hK K
                 refine norm_ (a' := ?_) ?_ ?_
                 rotate_left
                 · show Act.put _ (some 98) _ = _
                   simp only [Act.put, z1_, z2_, z3_, i64_w, i32_w]
                   rfl
                 refine pu_ HT_ 21 99 (B_ 4194303 24) ?_
                 refine pu_ HT_ 22 100 (B_ 8388607 24) ?_
                 refine pu_ HT_ 23 2 (B_ 16777215 24) ?_
                 refine done_ (done_of HT_.out (by kernel_rfl)) ?_
                 try go_wp2
                 go_ret
                 exact ⟨by first | rfl | (simp [errW_none, errW_some] <;> rfl) | (simp [*, errW_none, errW_some] <;> rfl), by repeat (first | (with_reducible first | exact HB.out | apply below_alloc | apply pw_below_drewN | apply below_drew1 | refine below_set ?_ GE558.out) | exact HB.out)⟩
             · rw [if_neg c74] at H
               exact absurd (H.trans (congrArg some hr_.out)) (by simp)
       · replace c61 := Bool.eq_false_iff.mpr c61
         subst c61
         have H1 : (if t559 = (-1) then (some (t560 == (-1))) else (some false)) = some r := by rw [if_neg (show ¬ (false = true) by decide)] at H; exact H
         clear H
         have H := H1
         clear H1
         by_cases c101 : t559 = (-1)
         · rw [if_pos c101] at H
           have c101b0 : (t559 == (-1)) = true := beq_iff_eq.mpr c101
           have c101b1 : (t559 != (-1)) = false := bne_eq_false_iff_eq.mpr c101
           clear c101
           obtain rfl := Option.some.inj H
           have hcz102_0 : wc.cell? ⟨gb558, 0, none⟩ = some (.slice Ao12 t555.length co12) := (blk_cell BK558.out 0).trans rfl
           have hfz102_0 := blk_frozen BK558.out 0
           go_wp2_with (first | ((with_reducible refine gate_callee (f := 42) rfl ?_); refine goesL_ (some 63) rfl rfl Try.func42 (by kernel_rfl) rfl #[.agg #[.slice Ao12 t555.length co12]] rfl (by (try simp only [List.map_toArray, List.map_cons, List.map_nil]); first | done | rfl | (simp only [List.length_drop, List.length_take]; rfl)) ?_; (with_reducible refine (spec_IsSemigroup.calls kj8 _ _ t555 false _ ?side1 ?side2 A60.out).mono ?_); (case side1 => exact ce_ ((Kd.Q_reads' HO_559000.out).2.2)); (case side2 => exact (Kd.Q_reads' HO_559000.out).2.1); rintro e w103 ⟨rfl, hb⟩; refine ⟨_, rfl, ?_⟩; have n0_ := Aside0.mk (Kd.Q_below (by (with_reducible repeat (first | apply Kd.Q_alloc | apply Kd.Q_drewN | apply Kd.Q_drew)); exact HO_559000.out) hb); have n1_ := Aside0.mk (blk_below (g := gb558) (o := .cells #[.slice Ao12 t555.length co12] 27 (0, 0)) (be_ BK558.out) hb); have n2_ := Aside0.mk (below_step (by repeat (first | (with_reducible first | exact HB.out | apply below_alloc | apply pw_below_drewN | apply below_drew1 | refine below_set ?_ GE558.out) | exact HB.out)) hb); clear HO_559000; clear BK558; clear HB; have HO_559000 := n0_; have BK558 := n1_; have HB := n2_; clear n0_ n1_ n2_; (try clear hb); (try clear hb2); (try clear hk); (try clear hi)))
           go_ret
           exact ⟨by first | rfl | (simp [errW_none, errW_some] <;> rfl) | (simp [*, errW_none, errW_some] <;> rfl), by repeat (first | (with_reducible first | exact HB.out | apply below_alloc | apply pw_below_drewN | apply below_drew1 | refine below_set ?_ GE558.out) | exact HB.out)⟩
         · rw [if_neg c101] at H
           exact absurd (H.trans (congrArg some hr_.out)) (by simp)
def laws_FnWilf.Pure : Prop := ∀ (l0 : List Int), l0.length ≤ maxLen → l0.length * 1 ≤ 140737488351232 → (∀ x ∈ l0, (Lit.int .u8 x).wf = true) → ∃ k, laws_FnWilf.f k l0 = some true
theorem laws_FnWilf.walk (P : laws_FnWilf.Pure) (a0 : Option Addr) (len0 cap0 : Nat) (z0 : List Int) (w : World) (w0 : (a0 = none ∧ len0 = 0 ∧ cap0 = 0 ∧ z0 = []) ∨ ∃ x, a0 = some x ∧ len0 ≤ cap0 ∧ cap0 ≤ maxLen ∧ z0.length = cap0 ∧ (∀ i, i < z0.length → w.cell? (x.add i) = some (.int .u8 (z0.getD i 0))) ∧ ∀ n ∈ z0, (Lit.int .u8 n).wf = true) (y0 : len0 * 1 ≤ 140737488351232) :
 Calls Try.prog 13 #[.slice a0 len0 cap0] w fun e w' => e = .returned (.bool true) ∧ Below w.heap.size w w' := by
 obtain ⟨l0, rfl, hr0, hm0, hw0, hc0⟩ := ReadsInt.ofRowC w0
 obtain ⟨k, h⟩ := P l0 hm0 y0 hw0
 refine (laws_FnWilf.calls k _ _ l0 true w (Kd.C_of_reads (d := (0 : Int)) (h1 := fun _ => rfl) hr0) hc0 h).mono ?_
 rintro e w' ⟨rfl, hd⟩
 exact ⟨rfl, hd⟩
end Go.Proofs.Ytapdhljbhekcdaa.PD
end
section
namespace Go.Proofs.Ytapdhljbhekcdaa.E
open Go.RowKit Go.Proofs.YtapdhljbhekcdaaW.PrintWords Go.Proofs.YtapdhljbhekcdaaW.PrintLast Go.Proofs.YtapdhljbhekcdaaW.PrintMore
set_option linter.unusedVariables false
set_option linter.unusedSimpArgs false
theorem w64 {x : Int} (h1 : -9223372036854775808 ≤ x) (h2 : x ≤ 9223372036854775807) : wrap64 x = x := by
 unfold wrap64; omega
theorem nd_t {p : Prop} [Decidable p] (h : ¬ p) : (!decide p) = true := by simp [h]
theorem d_t {p : Prop} [Decidable p] (h : p) : decide p = true := by simp [h]
theorem d_f {p : Prop} [Decidable p] (h : ¬ p) : ¬ decide p = true := by simp [h]
theorem emod_le_self {n x : Int} (h : 0 ≤ n) (hx : 0 < x) : n % x ≤ n := by
 have h1 := Int.mul_ediv_add_emod n x
 have h2 : 0 ≤ x * (n / x) := Int.mul_nonneg (by omega) (Int.ediv_nonneg h (by omega))
 omega
theorem ev_ifp {α : Type} {c : Prop} [Decidable c] {a b : Nat → Option α} {r : α} (h : c) (k : Ev a r) : Ev (fun n => if c then a n else b n) r :=
 Ev.congr (fun _ => if_pos h) k
theorem ev_ifn {α : Type} {c : Prop} [Decidable c] {a b : Nat → Option α} {r : α} (h : ¬ c) (k : Ev b r) : Ev (fun n => if c then a n else b n) r :=
 Ev.congr (fun _ => if_neg h) k
theorem ev_bind {α β : Type} {g : Nat → Option α} {f : Nat → α → Option β} (a : α) {r : β} (h : Ev g a) (k : Ev (fun n => f n a) r) : Ev (fun n => (g n).bind (f n)) r := Ev.bind h k
theorem ev_one {α : Type} {g : Nat → Option α} {a b : α} (h : Ev g a) (k : Ev g b) : a = b := by
 obtain ⟨K, h⟩ := h
 obtain ⟨L, k⟩ := k
 have h1 := h (max K L) (by omega)
 have h2 := k (max K L) (by omega)
 rw [h1] at h2
 exact Option.some.inj h2
theorem ev_to {α : Type} {g : Nat → Option α} {a b : α} (h : Ev g a) (e : a = b) : Ev g b := e ▸ h
theorem rd_lt {l : List Int} {i : Int} (h0 : 0 ≤ i) (h : i < l.length) : rd l i = l[i.toNat]'(by omega) := by
 unfold rd; rw [List.getD_eq_getElem?_getD, List.getElem?_eq_getElem (by omega)]; rfl
theorem rd_mem {l : List Int} {i : Int} (h0 : 0 ≤ i) (h : i < l.length) : rd l i ∈ l := by
 rw [rd_lt h0 h]; exact List.getElem_mem _
theorem drop_rd {l : List Int} {i : Int} (h0 : 0 ≤ i) (h : i < l.length) : l.drop i.toNat = rd l i :: l.drop (i + 1).toNat := by
 rw [rd_lt h0 h, List.drop_eq_getElem_cons (by omega)]
 congr 2; omega
theorem take_rd {l : List Int} {i : Int} (h0 : 0 ≤ i) (h : i < l.length) : l.take (i + 1).toNat = l.take i.toNat ++ [rd l i] := by
 rw [rd_lt h0 h, show (i + 1).toNat = i.toNat + 1 from by omega, List.take_succ_eq_append_getElem (by omega)]
theorem rd_ext {l m : List Int} (hl : l.length = m.length) (h : ∀ i : Int, 0 ≤ i → i < l.length → rd l i = rd m i) : l = m := by
 refine List.ext_getElem hl fun n h1 h2 => ?_
 have := h n (by omega) (by omega)
 rw [rd_lt (by omega) (by omega), rd_lt (by omega) (by omega)] at this
 simpa using this
theorem rd_set {l : List Int} {i j : Int} (x : Int) (hi : 0 ≤ i) (hi' : i < l.length) (hj : 0 ≤ j) : rd (l.set i.toNat x) j = if j = i then x else rd l j := by
 unfold rd
 rw [List.getD_eq_getElem?_getD, List.getD_eq_getElem?_getD, List.getElem?_set]
 by_cases h : j = i
 · subst h; rw [if_pos rfl, if_pos rfl, if_pos (by omega)]; rfl
 · rw [if_neg h, if_neg (by omega)]
theorem rd_append {l m : List Int} {i : Int} (hi : 0 ≤ i) : rd (l ++ m) i = if i < l.length then rd l i else rd m (i - l.length) := by
 unfold rd
 rw [List.getD_eq_getElem?_getD, List.getD_eq_getElem?_getD, List.getD_eq_getElem?_getD, List.getElem?_append]
 by_cases h : i < l.length
 · rw [if_pos h, if_pos (by omega)]
 · rw [if_neg h, if_neg (by omega), show i.toNat - l.length = (i - l.length).toNat from by omega]
theorem rd_rep {n : Nat} {x : Int} {i : Int} (hi : 0 ≤ i) (h : i < n) : rd (List.replicate n x) i = x := by
 rw [rd_lt hi (by simpa using h)]; simp
theorem mem_rd {l : List Int} {x : Int} (h : x ∈ l) : ∃ i : Int, 0 ≤ i ∧ i < l.length ∧ rd l i = x := by
 obtain ⟨n, hn, rfl⟩ := List.mem_iff_getElem.1 h
 exact ⟨n, by omega, by omega, by rw [rd_lt (by omega) (by omega)]; simp⟩
end Go.Proofs.Ytapdhljbhekcdaa.E
end
section
namespace Go.Proofs.Ytapdhljbhekcdaa.E
open Go.RowKit Go.Proofs.Ytapdhljbhekcdaa.PD Go.Proofs.YtapdhljbhekcdaaW.PrintWords Go.Proofs.YtapdhljbhekcdaaW.PrintLast Go.Proofs.YtapdhljbhekcdaaW.PrintMore
set_option linter.unusedVariables false
set_option linter.unusedSimpArgs false
theorem l1In_eq (n lo hi : Int) : spec_l1In.f n lo hi = some (decide (lo ≤ n ∧ n ≤ hi)) := by
 unfold spec_l1In.f; by_cases h : n ≥ lo
 · rw [if_pos h]; simp [h]
 · rw [if_neg h]; simp [show ¬ lo ≤ n from h]
theorem within_eq (n lo hi : Int) : impl_within.f n lo hi = some (decide (lo ≤ n ∧ n ≤ hi)) := l1In_eq n lo hi
theorem allWithin_l {l : List Int} {lo hi : Int} (hl : l.length ≤ 1099511627776) (d : Nat) : ∀ (i : Int), 0 ≤ i → i + d = l.length → Ev (fun k => impl_allWithin.l0 k lo hi l l.length i) (decide (∀ x ∈ l.drop i.toNat, lo ≤ x ∧ x ≤ hi)) := by
 induction d with
 | zero =>
  intro i h0 h1
  refine Ev.step (fun k => by rw [impl_allWithin.l0]) ?_
  simp (disch := omega) only [if_neg]
  refine ev_to (Ev.now _) ?_
  rw [List.drop_of_length_le (by omega)]; simp
 | succ d ih =>
  intro i h0 h1
  refine Ev.step (fun k => by rw [impl_allWithin.l0]) ?_
  simp (disch := omega) only [if_pos, w64, within_eq, Option.bind_some]
  rw [drop_rd h0 (by omega)]
  by_cases h : lo ≤ rd l i ∧ rd l i ≤ hi
  · refine ev_ifp (by simpa using h) (ev_to (ih (i + 1) (by omega) (by omega)) ?_)
    simp [h]
  · refine ev_ifn (by simpa using h) (ev_to (Ev.now _) ?_)
    simp only [List.mem_cons, forall_eq_or_imp, h, false_and, decide_false]
theorem allWithin_ev {l : List Int} (lo hi : Int) (hl : l.length ≤ 1099511627776) : Ev (fun k => impl_allWithin.f k l lo hi) (decide (∀ x ∈ l, lo ≤ x ∧ x ≤ hi)) :=
 ev_to (allWithin_l hl l.length 0 (by omega) (by omega)) (by simp)
def Asc (l : List Int) : Prop := ∀ i : Int, 0 < i → i < l.length → rd l (i - 1) < rd l i
noncomputable instance (l : List Int) : Decidable (Asc l) := Classical.propDecidable _
theorem asc_l {l : List Int} (hl : l.length ≤ 1099511627776) (d : Nat) : ∀ (i : Int), 0 < i → i + d = max 1 l.length → (∀ j, 0 < j → j < i → rd l (j - 1) < rd l j) → Ev (fun k => impl_IsAscending.l0 k l i) (decide (Asc l)) ∧ Ev (fun k => spec_IsAscending.l0 k l i) (decide (Asc l)) := by
 induction d with
 | zero =>
  intro i h0 h1 h2
  have ha : Asc l := fun j hj hj' => h2 j hj (by omega)
  constructor
  · refine Ev.step (fun k => by rw [impl_IsAscending.l0]) ?_
    simp (disch := omega) only [if_neg]
    exact ev_to (Ev.now _) (by simp [ha])
  · refine Ev.step (fun k => by rw [spec_IsAscending.l0]) ?_
    simp (disch := omega) only [if_neg]
    exact ev_to (Ev.now _) (by simp [ha])
 | succ d ih =>
  intro i h0 h1 h2
  by_cases h : rd l (i - 1) < rd l i
  · obtain ⟨a, b⟩ := ih (i + 1) (by omega) (by omega) (fun j hj hj' => by
     by_cases e : j = i
     · subst e; exact h
     · exact h2 j hj (by omega))
    constructor
    · refine Ev.step (fun k => by rw [impl_IsAscending.l0]) ?_
      simp (disch := omega) only [if_pos, if_neg, w64]
      exact a
    · refine Ev.step (fun k => by rw [spec_IsAscending.l0]) ?_
      simp (disch := omega) only [if_pos, if_neg, w64]
      exact b
  · have hn : ¬ Asc l := fun ha => h (ha i h0 (by omega))
    constructor
    · refine Ev.step (fun k => by rw [impl_IsAscending.l0]) ?_
      simp (disch := omega) only [if_pos, w64]
      exact ev_to (Ev.now _) (by simp [hn])
    · refine Ev.step (fun k => by rw [spec_IsAscending.l0]) ?_
      simp (disch := omega) only [if_pos, w64]
      exact ev_to (Ev.now _) (by simp [hn])
theorem ascI_ev {l : List Int} (hl : l.length ≤ 1099511627776) : Ev (fun k => impl_IsAscending.f k l) (decide (Asc l)) :=
 (asc_l hl (l.length - 1) 1 (by omega) (by omega) (fun j h h' => by omega)).1
theorem ascS_ev {l : List Int} (hl : l.length ≤ 1099511627776) : Ev (fun k => spec_IsAscending.f k l) (decide (Asc l)) :=
 (asc_l hl (l.length - 1) 1 (by omega) (by omega) (fun j h h' => by omega)).2
end Go.Proofs.Ytapdhljbhekcdaa.E
end
section
namespace Go.Proofs.Ytapdhljbhekcdaa.E
open Go.RowKit Go.Proofs.YtapdhljbhekcdaaW.PrintWords Go.Proofs.YtapdhljbhekcdaaW.PrintLast Go.Proofs.YtapdhljbhekcdaaW.PrintMore
set_option linter.unusedVariables false
set_option linter.unusedSimpArgs false
def fl (p : Int → Bool) (i : Int) : Nat → List Int
 | 0 => []
 | d + 1 => if p i = true then i :: fl p (i + 1) d else fl p (i + 1) d
theorem fl_yes {p : Int → Bool} {i : Int} {d : Nat} (h : p i = true) : fl p i (d + 1) = i :: fl p (i + 1) d := by rw [fl, if_pos h]
theorem fl_no {p : Int → Bool} {i : Int} {d : Nat} (h : ¬ p i = true) : fl p i (d + 1) = fl p (i + 1) d := by rw [fl, if_neg h]
theorem fl_app (p : Int → Bool) (d e : Nat) : ∀ i : Int, fl p i (d + e) = fl p i d ++ fl p (i + d) e := by
 induction d with
 | zero => intro i; simp [fl]
 | succ d ih =>
  intro i
  rw [show d + 1 + e = (d + e) + 1 from by omega, show i + ((d + 1 : Nat) : Int) = i + 1 + d from by omega]
  by_cases h : p i = true
  · rw [fl_yes h, fl_yes h, ih, List.cons_append]
  · rw [fl_no h, fl_no h, ih]
theorem fl_mem {p : Int → Bool} {x : Int} (d : Nat) : ∀ i : Int, x ∈ fl p i d ↔ i ≤ x ∧ x < i + d ∧ p x = true := by
 induction d with
 | zero => intro i; simp [fl]; omega
 | succ d ih =>
  intro i
  by_cases h : p i = true
  · rw [fl_yes h, List.mem_cons, ih]
    constructor
    · rintro (rfl | ⟨a, b, c⟩)
      · exact ⟨Int.le_refl _, by omega, h⟩
      · exact ⟨by omega, by omega, c⟩
    · rintro ⟨a, b, c⟩
      by_cases e : x = i
      · exact .inl e
      · exact .inr ⟨by omega, by omega, c⟩
  · rw [fl_no h, ih]
    constructor
    · rintro ⟨a, b, c⟩; exact ⟨by omega, by omega, c⟩
    · rintro ⟨a, b, c⟩
      by_cases e : x = i
      · subst e; exact absurd c h
      · exact ⟨by omega, by omega, c⟩
theorem fl_len (p : Int → Bool) (d : Nat) : ∀ i : Int, (fl p i d).length ≤ d := by
 induction d with
 | zero => intro i; simp [fl]
 | succ d ih =>
  intro i
  have := ih (i + 1)
  by_cases h : p i = true
  · rw [fl_yes h, List.length_cons]; omega
  · rw [fl_no h]; omega
theorem fl_none {p : Int → Bool} (d : Nat) : ∀ i : Int, (∀ x, i ≤ x → x < i + d → ¬ p x = true) → fl p i d = [] := by
 induction d with
 | zero => intro i _; rfl
 | succ d ih => intro i h; rw [fl_no (h i (Int.le_refl _) (by omega)), ih (i + 1) (fun x a b => h x (by omega) (by omega))]
theorem fl_both (p : Int → Bool) (d : Nat) : ∀ i : Int, (fl p i d).length + (fl (fun n => !p n) i d).length = d := by
 induction d with
 | zero => intro i; simp [fl]
 | succ d ih =>
  intro i
  have := ih (i + 1)
  by_cases h : p i = true
  · rw [fl_yes h, fl_no (by simp [h]), List.length_cons]; omega
  · rw [fl_no h, fl_yes (by simpa using h), List.length_cons]; omega
theorem asc_cons {x : Int} {l : List Int} (h : ∀ y ∈ l, x < y) (ha : Asc l) : Asc (x :: l) := by
 intro i h0 h1
 rw [List.length_cons] at h1
 have e : ∀ j : Int, 0 < j → rd (x :: l) j = rd l (j - 1) := fun j hj => by
  unfold rd; rw [show j.toNat = (j - 1).toNat + 1 from by omega, List.getD_cons_succ]
 by_cases c : i = 1
 · subst c
   rw [e 1 (by omega)]
   exact h _ (rd_mem (by omega) (by omega))
 · rw [e i h0, e (i - 1) (by omega)]
   exact ha (i - 1) (by omega) (by omega)
theorem fl_last {p : Int → Bool} {i : Int} {d : Nat} (h : fl p i d ≠ []) : ∃ x, i ≤ x ∧ x < i + d ∧ p x = true ∧ (∀ y, x < y → y < i + d → ¬ p y = true) ∧ rd (fl p i d) ((fl p i d).length - 1) = x := by
 induction d with
 | zero => exact absurd rfl h
 | succ d ih =>
  rw [show d + 1 = d + 1 from rfl, fl_app p d 1 i] at h ⊢
  by_cases c : p (i + d) = true
  · refine ⟨i + d, by omega, by omega, c, fun y a b => by omega, ?_⟩
    rw [show fl p (i + d) 1 = [i + d] from by rw [show (1 : Nat) = 0 + 1 from rfl, fl_yes c]; rfl]
    rw [rd_append (by simp), if_neg (by simp)]
    simp [rd]
  · have e : fl p (i + d) 1 = [] := by rw [show (1 : Nat) = 0 + 1 from rfl, fl_no c]; rfl
    rw [e, List.append_nil] at h ⊢
    obtain ⟨x, a, b, q, r, s⟩ := ih h
    refine ⟨x, a, by omega, q, fun y hy hy' => ?_, s⟩
    by_cases ey : y = i + d
    · rw [ey]; exact c
    · exact r y hy (by omega)
end Go.Proofs.Ytapdhljbhekcdaa.E
end
section
namespace Go.Proofs.Ytapdhljbhekcdaa.E
open Go.RowKit Go.Proofs.Ytapdhljbhekcdaa.PD Go.Proofs.YtapdhljbhekcdaaW.PrintWords Go.Proofs.YtapdhljbhekcdaaW.PrintLast Go.Proofs.YtapdhljbhekcdaaW.PrintMore
set_option linter.unusedVariables false
set_option linter.unusedSimpArgs false
theorem l2Small_eq (n : Int) : spec_l2Small.f n = some (decide (-1000000 ≤ n ∧ n ≤ 1000000)) := by
 unfold spec_l2Small.f; rw [l1In_eq]; rfl
theorem l1Max_eq (a b : Int) : spec_l1Max.f a b = some (max a b) := by
 unfold spec_l1Max.f
 by_cases h : a > b
 · rw [if_pos h, Int.max_eq_left (by omega)]
 · rw [if_neg h, Int.max_eq_right (by omega)]
theorem mx_eq (a b : Int) : mx a b = max a b := by unfold mx; omega
theorem gcdI_l (m : Nat) : ∀ n : Nat, Ev (fun k => impl_GcdOf.l0 k (m : Int) (n : Int)) (Nat.gcd m n : Int) := by
 induction m using Nat.strongRecOn with
 | _ m ih =>
  intro n
  refine Ev.step (fun k => by rw [impl_GcdOf.l0]) ?_
  by_cases h : m = 0
  · subst h
    refine ev_ifp (by rfl) (ev_to (Ev.now _) (by simp))
  · refine ev_ifn (by omega) ?_
    rw [show Int.tmod (n : Int) (m : Int) = ((n % m : Nat) : Int) from rfl, Nat.gcd_rec]
    exact ih _ (Nat.mod_lt _ (by omega)) m
theorem gcdS_l (n : Nat) : ∀ m : Nat, Ev (fun k => spec_GcdOf.l0 k (m : Int) (n : Int)) (Nat.gcd m n : Int) := by
 induction n using Nat.strongRecOn with
 | _ n ih =>
  intro m
  refine Ev.step (fun k => by rw [spec_GcdOf.l0]) ?_
  by_cases h : n = 0
  · subst h
    refine ev_ifn (by simp) (ev_to (Ev.now _) (by simp))
  · refine ev_ifp (by omega) (ev_ifn (by omega) ?_)
    rw [show Int.tmod (m : Int) (n : Int) = ((m % n : Nat) : Int) from rfl, Nat.gcd_comm, Nat.gcd_rec, Nat.gcd_comm]
    exact ih _ (Nat.mod_lt _ (by omega)) n
def gcdOf (a b : Int) : Int := if (-1000000 ≤ a ∧ a ≤ 1000000) ∧ -1000000 ≤ b ∧ b ≤ 1000000 then (Int.gcd a b : Int) else 0
theorem abs_cast (a : Int) : max a (-a) = ((a.natAbs : Nat) : Int) := by omega
theorem gcdI_ev (a b : Int) : Ev (fun k => impl_GcdOf.f k a b) (gcdOf a b) := by
 unfold impl_GcdOf.f gcdOf
 refine ev_bind _ (allWithin_ev _ _ (by simp)) ?_
 by_cases h : (-1000000 ≤ a ∧ a ≤ 1000000) ∧ -1000000 ≤ b ∧ b ≤ 1000000
 · rw [if_pos h]
   refine ev_ifp (by simpa using h) ?_
   obtain ⟨h1, h2⟩ := h
   rw [w64 (by omega) (by omega), w64 (by omega) (by omega), mx_eq, mx_eq, abs_cast, abs_cast]
   exact gcdI_l _ _
 · rw [if_neg h]
   refine ev_ifn (by simpa using h) (Ev.now _)
theorem gcdS_ev (a b : Int) : Ev (fun k => spec_GcdOf.f k a b) (gcdOf a b) := by
 unfold spec_GcdOf.f gcdOf
 simp only [l2Small_eq, Option.bind_some]
 by_cases h1 : -1000000 ≤ a ∧ a ≤ 1000000
 · refine ev_ifp (by simpa using h1) (Ev.step (fun k => by rw [spec_GcdOf.j0]) ?_)
   by_cases h2 : -1000000 ≤ b ∧ b ≤ 1000000
   · rw [if_pos ⟨h1, h2⟩]
     refine ev_ifn (by simpa using h2) ?_
     simp only [l1Max_eq, Option.bind_some]
     rw [w64 (by omega) (by omega), w64 (by omega) (by omega), abs_cast, abs_cast]
     exact gcdS_l _ _
   · rw [if_neg (fun h => h2 h.2)]
     exact ev_ifp (nd_t h2) (Ev.now _)
 · rw [if_neg (fun h => h1 h.1)]
   refine ev_ifn (by simpa using h1) (Ev.step (fun k => by rw [spec_GcdOf.j0]) ?_)
   exact ev_ifp rfl (Ev.now _)
end Go.Proofs.Ytapdhljbhekcdaa.E
end
section
namespace Go.Proofs.Ytapdhljbhekcdaa.E
open Go.RowKit Go.Proofs.Ytapdhljbhekcdaa.PD Go.Proofs.YtapdhljbhekcdaaW.PrintWords Go.Proofs.YtapdhljbhekcdaaW.PrintLast Go.Proofs.YtapdhljbhekcdaaW.PrintMore
set_option linter.unusedVariables false
set_option linter.unusedSimpArgs false
def gl (l : List Int) : Int := l.foldl gcdOf 0
theorem gcdListI_l {l : List Int} (hl : l.length ≤ 1099511627776) (d : Nat) : ∀ (i acc : Int), 0 ≤ i → i + d = l.length → Ev (fun k => impl_GcdOfList.l0 k acc l l.length i) ((l.drop i.toNat).foldl gcdOf acc) := by
 induction d with
 | zero =>
  intro i acc h0 h1
  refine Ev.step (fun k => by rw [impl_GcdOfList.l0]) ?_
  rw [List.drop_of_length_le (by omega)]
  exact ev_ifn (by omega) (Ev.now _)
 | succ d ih =>
  intro i acc h0 h1
  refine Ev.step (fun k => by rw [impl_GcdOfList.l0]) ?_
  rw [drop_rd h0 (by omega), List.foldl_cons, w64 (by omega) (by omega)]
  exact ev_ifp (by omega) (ev_ifp h0 (ev_ifp (by omega) (ev_bind _ (gcdI_ev _ _) (ih (i + 1) _ (by omega) (by omega)))))
theorem gcdListI_ev {l : List Int} (hl : l.length ≤ 1099511627776) : Ev (fun k => impl_GcdOfList.f k l) (gl l) := by
 unfold impl_GcdOfList.f
 have := gcdListI_l hl l.length 0 0 (by omega) (by omega)
 simpa [gl] using this
theorem gcdListS_l {l : List Int} (hl : l.length ≤ 1099511627776) (d : Nat) : ∀ (i acc : Int), 0 ≤ i → i + d = l.length → Ev (fun k => spec_GcdOfList.l0 k l acc i) ((l.drop i.toNat).foldl gcdOf acc) := by
 induction d with
 | zero =>
  intro i acc h0 h1
  refine Ev.step (fun k => by rw [spec_GcdOfList.l0]) ?_
  rw [List.drop_of_length_le (by omega)]
  exact ev_ifn (by omega) (Ev.now _)
 | succ d ih =>
  intro i acc h0 h1
  refine Ev.step (fun k => by rw [spec_GcdOfList.l0]) ?_
  rw [drop_rd h0 (by omega), List.foldl_cons, w64 (by omega) (by omega)]
  exact ev_ifp (by omega) (ev_ifp h0 (ev_bind _ (gcdS_ev _ _) (ih (i + 1) _ (by omega) (by omega))))
theorem gcdListS_ev {l : List Int} (hl : l.length ≤ 1099511627776) : Ev (fun k => spec_GcdOfList.f k l) (gl l) := by
 unfold spec_GcdOfList.f
 have := gcdListS_l hl l.length 0 0 (by omega) (by omega)
 simpa [gl] using this
theorem gcdOf_small {a x : Int} (h0 : 0 ≤ a) (h1 : a ≤ 60) (hx : 1 ≤ x ∧ x ≤ 60) : 1 ≤ gcdOf a x ∧ gcdOf a x ≤ 60 ∧ gcdOf a x ∣ a ∧ gcdOf a x ∣ x := by
 have e : gcdOf a x = (Int.gcd a x : Int) := by unfold gcdOf; rw [if_pos ⟨⟨by omega, by omega⟩, by omega, by omega⟩]
 have d1 := Int.gcd_dvd_left a x
 have d2 := Int.gcd_dvd_right a x
 have p : 0 < Int.gcd a x := Int.gcd_pos_of_ne_zero_right _ (by omega)
 have le := Int.le_of_dvd (by omega) d2
 rw [e]
 exact ⟨by omega, by omega, d1, d2⟩
end Go.Proofs.Ytapdhljbhekcdaa.E
end
section
namespace Go.Proofs.Ytapdhljbhekcdaa.E
open Go.RowKit Go.Proofs.YtapdhljbhekcdaaW.PrintWords Go.Proofs.YtapdhljbhekcdaaW.PrintLast Go.Proofs.YtapdhljbhekcdaaW.PrintMore
set_option linter.unusedVariables false
set_option linter.unusedSimpArgs false
inductive Way (v : List Int) : Int → Int → Prop
 | zero : Way v 0 0
 | add {x k c : Int} : x ∈ v → Way v k c → Way v (k + x) (c + 1)
theorem Way.mono {v u : List Int} (h : ∀ x ∈ v, x ∈ u) {k c : Int} (w : Way v k c) : Way u k c := by
 induction w with
 | zero => exact .zero
 | add hx _ ih => exact .add (h _ hx) ih
theorem Way.pos {v : List Int} (h : ∀ x ∈ v, 1 ≤ x) {k c : Int} (w : Way v k c) : 0 ≤ c ∧ c ≤ k := by
 induction w with
 | zero => omega
 | add hx _ ih => have := h _ hx; omega
theorem Way.plus {v : List Int} {k c : Int} (w : Way v k c) {k' c' : Int} (w' : Way v k' c') : Way v (k + k') (c + c') := by
 induction w' with
 | zero => simpa using w
 | @add x k1 c1 hx _ ih =>
  rw [← Int.add_assoc, ← Int.add_assoc]
  exact .add hx ih
theorem Way.times {v : List Int} {x : Int} (hx : x ∈ v) (j : Nat) : Way v (j * x) j := by
 induction j with
 | zero => simpa using Way.zero
 | succ j ih =>
  have := Way.add hx ih
  rw [show ((j + 1 : Nat) : Int) * x = j * x + x from by rw [Int.natCast_add, Int.add_mul]; simp]
  exact this
theorem Way.last {v : List Int} {k c : Int} (w : Way v k c) : (k = 0 ∧ c = 0) ∨ ∃ x ∈ v, Way v (k - x) (c - 1) := by
 cases w with
 | zero => exact .inl ⟨rfl, rfl⟩
 | @add x k c hx hw => exact .inr ⟨x, hx, by rwa [show k + x - x = k from by omega, show c + 1 - 1 = c from by omega]⟩
theorem Way.split {u : List Int} {x : Int} {k c : Int} (w : Way (u ++ [x]) k c) : ∃ j : Nat, Way u (k - j * x) (c - j) := by
 induction w with
 | zero => exact ⟨0, by simpa using Way.zero⟩
 | @add y k c hy _ ih =>
  obtain ⟨j, h⟩ := ih
  rcases List.mem_append.1 hy with hu | hx
  · refine ⟨j, ?_⟩
    have := Way.add hu h
    rwa [show k - j * x + y = k + y - j * x from by omega, show c - (j : Int) + 1 = c + 1 - j from by omega] at this
  · obtain rfl : y = x := by simpa using hx
    refine ⟨j + 1, ?_⟩
    rw [show ((j + 1 : Nat) : Int) * y = j * y + y from by rw [Int.natCast_add, Int.add_mul]; simp, show k + y - (j * y + y) = k - j * y from by omega, show c + 1 - ((j + 1 : Nat) : Int) = c - j from by omega]
    exact h
def Fw (v : List Int) (k m : Int) : Prop := (m = -1 ∧ ∀ c, ¬ Way v k c) ∨ (Way v k m ∧ ∀ c, Way v k c → m ≤ c)
theorem Fw.one {v : List Int} (hv : ∀ x ∈ v, 1 ≤ x) {k m m' : Int} (h : Fw v k m) (h' : Fw v k m') : m = m' := by
 rcases h with ⟨h1, h2⟩ | ⟨h1, h2⟩ <;> rcases h' with ⟨h3, h4⟩ | ⟨h3, h4⟩
 · omega
 · exact absurd h3 (h2 _)
 · exact absurd h1 (h4 _)
 · have := h2 _ h3; have := h4 _ h1; omega
theorem Fw.ge {v : List Int} (hv : ∀ x ∈ v, 1 ≤ x) {k m : Int} (h : Fw v k m) : -1 ≤ m := by
 rcases h with ⟨h1, h2⟩ | ⟨h1, h2⟩
 · omega
 · have := h1.pos hv; omega
theorem Fw.le {v : List Int} (hv : ∀ x ∈ v, 1 ≤ x) {k m : Int} (h : Fw v k m) (hk : 0 ≤ k) : m ≤ k := by
 rcases h with ⟨h1, h2⟩ | ⟨h1, h2⟩
 · omega
 · have := h1.pos hv; omega
theorem Fw.way {v : List Int} {k m : Int} (h : Fw v k m) (hm : 0 ≤ m) : Way v k m ∧ ∀ c, Way v k c → m ≤ c := by
 rcases h with ⟨h1, h2⟩ | h
 · omega
 · exact h
theorem Fw.nil {k : Int} (hk : 0 ≤ k) : Fw [] k (if k = 0 then 0 else -1) := by
 by_cases h : k = 0
 · subst h
   exact .inr ⟨.zero, fun c w => (w.pos (by simp)).1⟩
 · rw [if_neg h]
   refine .inl ⟨rfl, fun c w => ?_⟩
   rcases w.last with ⟨h1, _⟩ | ⟨x, hx, _⟩
   · exact h h1
   · simp at hx
theorem Fw.below {u : List Int} {x k m : Int} (hu : ∀ y ∈ u, 1 ≤ y) (hk : k < x) (h : Fw u k m) (h0 : 0 ≤ k) : Fw (u ++ [x]) k m := by
 have hv : ∀ y ∈ u ++ [x], 1 ≤ y := by
  intro y hy
  rcases List.mem_append.1 hy with hy | hy
  · exact hu y hy
  · have : y = x := by simpa using hy
    omega
 have key : ∀ c, Way (u ++ [x]) k c → Way u k c := by
  intro c w
  obtain ⟨j, hj⟩ := w.split
  by_cases h : j = 0
  · subst h; simpa using hj
  · exfalso
    have := hj.pos hu
    have hj1 : x ≤ (j : Int) * x := by
     have := Int.mul_le_mul_of_nonneg_right (show (1 : Int) ≤ j from by omega) (show 0 ≤ x from by omega)
     omega
    omega
 rcases h with ⟨h1, h2⟩ | ⟨h1, h2⟩
 · exact .inl ⟨h1, fun c w => h2 c (key c w)⟩
 · exact .inr ⟨h1.mono (fun y hy => List.mem_append.2 (.inl hy)), fun c w => h2 c (key c w)⟩
end Go.Proofs.Ytapdhljbhekcdaa.E
end
section
namespace Go.Proofs.Ytapdhljbhekcdaa.E
open Go.RowKit Go.Proofs.YtapdhljbhekcdaaW.PrintWords Go.Proofs.YtapdhljbhekcdaaW.PrintLast Go.Proofs.YtapdhljbhekcdaaW.PrintMore
set_option linter.unusedVariables false
set_option linter.unusedSimpArgs false
structure Lst (v : List Int) (a G : Int) (t : List Int) : Prop where
 len : (t.length : Int) = a
 ge : ∀ r, 0 ≤ r → r < a → -1 ≤ rd t r
 way : ∀ r, 0 ≤ r → r < a → 0 ≤ rd t r → (∃ c, Way v (rd t r) c) ∧ rd t r % a = r
 least : ∀ n c, Way v n c → 0 ≤ rd t (n % a) ∧ rd t (n % a) ≤ n
 bound : ∀ r, 0 ≤ r → r < a → rd t r ≤ (a - 1) * G
def sets (t : List Int) : Nat := t.countP (fun x => decide (0 ≤ x))
theorem sets_le (t : List Int) : sets t ≤ t.length := List.countP_le_length
def weight (B : Int) (t : List Int) : Int := (t.map fun x => if x < 0 then B else x).sum
theorem weight_nonneg {B : Int} (hB : 0 ≤ B) (t : List Int) : 0 ≤ weight B t := by
 induction t with
 | nil => simp [weight]
 | cons x t ih =>
  unfold weight at *
  rw [List.map_cons, List.sum_cons]
  by_cases h : x < 0
  · rw [if_pos h]; omega
  · rw [if_neg h]; omega
theorem weight_set (B : Int) (t : List Int) (i : Nat) (h : i < t.length) (x : Int) : weight B (t.set i x) + (if t[i] < 0 then B else t[i]) = weight B t + (if x < 0 then B else x) := by
 induction t generalizing i with
 | nil => simp at h
 | cons y t ih =>
  unfold weight at *
  cases i with
  | zero => simp only [z2_, List.map_cons, List.sum_cons, List.getElem_cons_zero]; omega
  | succ i =>
   have := ih i (by simpa using h)
   simp only [z3_, List.map_cons, List.sum_cons, List.getElem_cons_succ]
   omega
theorem sets_set (t : List Int) (i : Nat) (h : i < t.length) (x : Int) (hx : 0 ≤ x) : sets (t.set i x) + (if 0 ≤ t[i] then 1 else 0) = sets t + 1 := by
 induction t generalizing i with
 | nil => simp at h
 | cons y t ih =>
  unfold sets at *
  cases i with
  | zero =>
   simp only [z2_, List.countP_cons, List.getElem_cons_zero]
   by_cases e : 0 ≤ y <;> simp [e, hx]
  | succ i =>
   have := ih i (by simpa using h)
   simp only [z3_, List.countP_cons, List.getElem_cons_succ]
   omega
structure LInv (v : List Int) (a G : Int) (t : List Int) : Prop where
 len : (t.length : Int) = a
 zero : rd t 0 = 0
 ge : ∀ r, 0 ≤ r → r < a → -1 ≤ rd t r
 way : ∀ r, 0 ≤ r → r < a → 0 ≤ rd t r → (∃ c, Way v (rd t r) c) ∧ rd t r % a = r
 bound : ∀ r, 0 ≤ r → r < a → rd t r ≤ ((sets t : Int) - 1) * G
theorem mul_le_of {x y G : Int} (hG : 0 ≤ G) (h : x ≤ y) : x * G ≤ y * G := Int.mul_le_mul_of_nonneg_right h hG
theorem LInv.top {v : List Int} {a G : Int} {t : List Int} (hG : 0 ≤ G) (h : LInv v a G t) {r : Int} (h0 : 0 ≤ r) (h1 : r < a) : rd t r ≤ (a - 1) * G := by
 have := h.bound r h0 h1
 have := sets_le t
 have := h.len
 have := mul_le_of (x := (sets t : Int) - 1) (y := a - 1) hG (by omega)
 omega
theorem LInv.step {v : List Int} {a G : Int} {t : List Int} (hv : ∀ x ∈ v, 1 ≤ x ∧ x ≤ G) (ha : 1 ≤ a) (h : LInv v a G t) {r g : Int} (hr0 : 0 ≤ r) (hr1 : r < a) (hg : g ∈ v) (hs : 0 ≤ rd t r)
 (hc : rd t ((rd t r + g) % a) < 0 ∨ rd t r + g < rd t ((rd t r + g) % a)) :
 LInv v a G (t.set ((rd t r + g) % a).toNat (rd t r + g)) ∧ weight (a * G + 1) (t.set ((rd t r + g) % a).toNat (rd t r + g)) < weight (a * G + 1) t ∧ rd t r + g ≤ a * G ∧ (rd t r + g) % a ≠ r := by
 have hgv := hv g hg
 have hG : 0 ≤ G := by omega
 have q0 := Int.emod_nonneg (rd t r + g) (b := a) (by omega)
 have q1 := Int.emod_lt_of_pos (rd t r + g) (b := a) (by omega)
 generalize hto : (rd t r + g) % a = y0 at *
 have hl := h.len
 have hb := h.bound r hr0 hr1
 have hbt := h.bound y0 q0 q1
 have hsl := sets_le t
 have hne : y0 ≠ r := by rintro rfl; omega
 have h00 : y0 ≠ 0 := by rintro rfl; rw [h.zero] at hc; omega
 have hrd : rd t y0 = t[y0.toNat]'(by omega) := rd_lt q0 (by omega)
 have hss := sets_set t y0.toNat (by omega) (rd t r + g) (by omega)
 have hws := weight_set (a * G + 1) t y0.toNat (by omega) (rd t r + g)
 rw [← hrd] at hss hws
 have hset0 : (sets (t.set y0.toNat (rd t r + g)) : Int) + (if 0 ≤ rd t y0 then 1 else 0) = sets t + 1 := by
  split at hss <;> omega
 have hm : a * G = (a - 1) * G + G := by rw [Int.sub_mul]; omega
 have hm2 : ((sets t : Int)) * G = ((sets t : Int) - 1) * G + G := by rw [Int.sub_mul]; omega
 have hm3 := mul_le_of (x := (sets t : Int) - 1) (y := a - 1) hG (by omega)
 obtain ⟨⟨c, hw⟩, hmod⟩ := h.way r hr0 hr1 hs
 have hset : (sets (t.set y0.toNat (rd t r + g)) : Int) = if rd t y0 < 0 then (sets t : Int) + 1 else sets t := by
  by_cases e : rd t y0 < 0
  · rw [if_pos e]; rw [if_neg (by omega)] at hset0; omega
  · rw [if_neg e]; rw [if_pos (by omega)] at hset0; omega
 have hsets : (sets t : Int) ≤ sets (t.set y0.toNat (rd t r + g)) := by rw [hset]; split <;> omega
 have hup : ((sets t : Int) - 1) * G ≤ ((sets (t.set y0.toNat (rd t r + g)) : Int) - 1) * G := mul_le_of hG (by omega)
 have hy : rd t r + g ≤ ((sets (t.set y0.toNat (rd t r + g)) : Int) - 1) * G := by
  by_cases e : rd t y0 < 0
  · rw [hset, if_pos e, show (sets t : Int) + 1 - 1 = sets t from by omega]; omega
  · omega
 refine ⟨⟨by simpa using hl, ?_, ?_, ?_, ?_⟩, ?_, by omega, hne⟩
 · have := rd_set (l := t) (rd t r + g) q0 (by omega) (show (0 : Int) ≤ 0 by omega)
   rw [this, if_neg (fun e => h00 e.symm)]; exact h.zero
 · intro s hs0 hs1
   rw [rd_set _ q0 (by omega) hs0]
   by_cases e : s = y0
   · rw [if_pos e]; omega
   · rw [if_neg e]; exact h.ge s hs0 hs1
 · intro s hs0 hs1 hpos
   rw [rd_set _ q0 (by omega) hs0] at hpos ⊢
   by_cases e : s = y0
   · rw [if_pos e] at hpos ⊢
     exact ⟨⟨c + 1, .add hg hw⟩, by rw [hto, e]⟩
   · rw [if_neg e] at hpos ⊢; exact h.way s hs0 hs1 hpos
 · intro s hs0 hs1
   rw [rd_set _ q0 (by omega) hs0]
   by_cases e : s = y0
   · rw [if_pos e]; exact hy
   · rw [if_neg e]; have := h.bound s hs0 hs1; omega
 · rw [if_neg (show ¬ rd t r + g < 0 by omega)] at hws
   by_cases e : rd t y0 < 0
   · rw [if_pos e] at hws; omega
   · rw [if_neg e] at hws; omega
def Closed (v : List Int) (a : Int) (t : List Int) : Prop := ∀ r, 0 ≤ r → r < a → 0 ≤ rd t r → ∀ g ∈ v, 0 ≤ rd t ((rd t r + g) % a) ∧ rd t ((rd t r + g) % a) ≤ rd t r + g
theorem LInv.done {v : List Int} {a G : Int} {t : List Int} (hv : ∀ x ∈ v, 1 ≤ x ∧ x ≤ G) (hG : 0 ≤ G) (ha : 1 ≤ a) (h : LInv v a G t) (hc : Closed v a t) : Lst v a G t := by
 refine ⟨h.len, h.ge, h.way, fun n c w => ?_, fun r h0 h1 => h.top hG h0 h1⟩
 induction w with
 | zero => simp [h.zero]
 | @add g k c hg hw ih =>
  have q0 := Int.emod_nonneg k (b := a) (by omega)
  have q1 := Int.emod_lt_of_pos k (b := a) (by omega)
  obtain ⟨c1, c2⟩ := hc (k % a) q0 q1 ih.1 g hg
  have hmod := (h.way (k % a) q0 q1 ih.1).2
  have e : (rd t (k % a) + g) % a = (k + g) % a := by
   rw [Int.add_emod, hmod, ← Int.add_emod]
  rw [e] at c1 c2
  exact ⟨c1, by omega⟩
theorem Lst.one {v : List Int} {a G G' : Int} {t u : List Int} (h : Lst v a G t) (k : Lst v a G' u) : t = u := by
 refine rd_ext (by have := h.len; have := k.len; omega) fun r h0 h1 => ?_
 have ha : r < a := by have := h.len; omega
 have g1 := h.ge r h0 ha
 have g2 := k.ge r h0 ha
 have l1 : 0 ≤ rd t r → 0 ≤ rd u r ∧ rd u r ≤ rd t r := fun hs => by
  obtain ⟨⟨c, w⟩, e⟩ := h.way r h0 ha hs
  have := k.least _ _ w
  rwa [e] at this
 have l2 : 0 ≤ rd u r → 0 ≤ rd t r ∧ rd t r ≤ rd u r := fun hs => by
  obtain ⟨⟨c, w⟩, e⟩ := k.way r h0 ha hs
  have := h.least _ _ w
  rwa [e] at this
 by_cases e1 : 0 ≤ rd t r
 · have := l1 e1; have := l2 (by omega); omega
 · by_cases e2 : 0 ≤ rd u r
   · have := l2 e2; omega
   · omega
theorem LInv.first {v : List Int} {a G : Int} (ha : 1 ≤ a) (hG : 0 ≤ G) : LInv v a G ((List.replicate a.toNat (-1)).set 0 0) := by
 have hl : ((List.replicate a.toNat (-1 : Int)).length : Int) = a := by simp; omega
 have hr : ∀ r, 0 ≤ r → r < a → rd ((List.replicate a.toNat (-1)).set 0 0) r = if r = 0 then 0 else -1 := fun r h0 h1 => by
  have := rd_set (l := List.replicate a.toNat (-1)) (i := 0) (j := r) 0 (by omega) (by omega) h0
  rw [show (0 : Int).toNat = 0 from rfl] at this
  rw [this]
  by_cases e : r = 0
  · rw [if_pos e, if_pos e]
  · rw [if_neg e, if_neg e, rd_rep h0 (by omega)]
 have hs : 1 ≤ sets ((List.replicate a.toNat (-1)).set 0 0) := by
  have := sets_set (List.replicate a.toNat (-1)) 0 (by simp; omega) 0 (by omega)
  simp at this
  omega
 have hp : 0 ≤ ((sets ((List.replicate a.toNat (-1)).set 0 0) : Int) - 1) * G := Int.mul_nonneg (by omega) hG
 refine ⟨by simp; omega, by rw [hr 0 (by omega) (by omega)]; rfl, fun r h0 h1 => ?_, fun r h0 h1 h2 => ?_, fun r h0 h1 => ?_⟩
 · rw [hr r h0 h1]; split <;> omega
 · rw [hr r h0 h1] at h2 ⊢
   by_cases e : r = 0
   · rw [if_pos e]; exact ⟨⟨0, .zero⟩, by rw [e]; rfl⟩
   · rw [if_neg e] at h2; omega
 · rw [hr r h0 h1]; split <;> omega
end Go.Proofs.Ytapdhljbhekcdaa.E
end
