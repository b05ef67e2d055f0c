-- Bundled by shake.py from this session's printed and written texts; Lean checks it.
import Derived.Test.YthkhpejggdnkfaaZFnStampsx1
import Derived.Test.YthkhpejggdnkfaaZFnStampsx2
import Derived.Test.YthkhpejggdnkfaaZFnStampsx3
import Derived.Test.YthkhpejggdnkfaaZFnStampsx4
import Derived.Test.YthkhpejggdnkfaaZFnStampsx5
import Derived.Test.YthkhpejggdnkfaaZFnStampsx6
section
namespace Go.Proofs.Ythkhpejggdnkfaa.PB
open Go.RowKit Go.Proofs.YthkhpejggdnkfaaW.PrintWords Go.Proofs.YthkhpejggdnkfaaW.PrintLast Go.Proofs.YthkhpejggdnkfaaW.PrintMore
set_option linter.unusedVariables false
set_option linter.unusedSimpArgs false
mutual
def laws_FnStamps.j0 : Nat → List Int → Int → Int → List Int → Int → Int → List Int → Bool → Int → Int → List Int → Int → Bool → Option (Bool)
 | 0, _, _, _, _, _, _, _, _, _, _, _, _, _ => none
 | k + 1, x3, x4, x5, x6, x7, x8, x9, x10, x13, x14, x15, x16, x102 => if x102 = true then (some false) else (if x10 = true then ((laws_worth.f k x9 x6).bind fun t425 => (if t425 = x8 then ((laws_total.f k x9).bind fun t426 => (laws_FnStamps.j1 k x3 x4 x5 x13 x14 x15 x16 (decide (t426 > x7)))) else (laws_FnStamps.j1 k x3 x4 x5 x13 x14 x15 x16 true))) else (laws_FnStamps.j1 k x3 x4 x5 x13 x14 x15 x16 false))
def laws_FnStamps.j1 : Nat → List Int → Int → Int → Int → Int → List Int → Int → Bool → Option (Bool)
 | 0, _, _, _, _, _, _, _, _ => none
 | k + 1, x3, x4, x5, x13, x14, x15, x16, x116 => if x116 = true then (some false) else (laws_FnStamps.l0 k x3 x4 x5 x13 x14 x15 x16 1)
def laws_FnStamps.l0 : Nat → List Int → Int → Int → Int → Int → List Int → Int → Int → Option (Bool)
 | 0, _, _, _, _, _, _, _, _ => none
 | k + 1, x3, x4, x5, x13, x14, x15, x16, x19 => if x19 ≤ (wrap64 (x5 + 1)) then (laws_FnStamps.j3 k x3 x4 x5 x13 x14 x15 x16 x19 (decide (x5 ≥ 0))) else (laws_FnStamps.j3 k x3 x4 x5 x13 x14 x15 x16 x19 false)
def laws_FnStamps.j3 : Nat → List Int → Int → Int → Int → Int → List Int → Int → Int → Bool → Option (Bool)
 | 0, _, _, _, _, _, _, _, _, _ => none
 | k + 1, x3, x4, x5, x13, x14, x15, x16, x19, x124 => if x124 = true then ((impl_StampsFor.f k x3 x4 x19).bind fun bt427 => (if (bt427.2 != (decide (x19 ≤ x5))) = true then (some false) else (laws_FnStamps.l0 k x3 x4 x5 x13 x14 x15 x16 (wrap64 (x19 + 1))))) else (if (x15.length : Int) = 0 then (some true) else ((impl_ReachOf.f k x15 x14).bind fun t431 => (if t431 = x16 then (if (x15.length : Int) = x13 then (if (x3.length : Int) = x13 then ((impl_ReachOf.f k x3 x14).bind fun t432 => (some (decide (t432 ≤ x16)))) else (some true)) else (some false)) else (some false))))
end
def laws_FnStamps.f (k : Nat) (l0 : List Int) : Option (Bool) := (laws_big.f l0).bind fun t391 => (if t391 = true then (some true) else ((spec_DrawReachOf.f k l0).bind fun bt392 => ((impl_ReachOf.f k bt392.1 bt392.2).bind fun t396 => ((spec_DrawStampsFor.f k l0).bind fun bt397 => ((impl_StampsFor.f k bt397.1 bt397.2.1 bt397.2.2).bind fun bt402 => ((spec_StampsFor.f k bt397.1 bt397.2.1 bt397.2.2).bind fun bt406 => ((spec_DrawBestStamps.f k l0).bind fun bt410 => ((impl_BestStamps.f k bt410.1 bt410.2).bind fun bt412 => ((spec_BestStamps.f k bt410.1 bt410.2).bind fun bt416 => ((spec_ReachOf.f k bt392.1 bt392.2).bind fun t420 => (if t396 = t420 then (if (bt402.2 != bt406.2) = true then (laws_FnStamps.j0 k bt392.1 bt392.2 t396 bt397.1 bt397.2.1 bt397.2.2 bt402.1 bt402.2 bt410.1 bt410.2 bt412.1 bt412.2 true) else ((laws_sameInts.f k bt402.1 bt406.1).bind fun t421 => (if t421 = true then ((laws_sameInts.f k bt412.1 bt416.1).bind fun t422 => (if t422 = true then (if bt412.2 = bt416.2 then ((impl_AreStamps.f k bt392.1).bind fun t423 => ((spec_AreStamps.f k bt392.1).bind fun t424 => (laws_FnStamps.j0 k bt392.1 bt392.2 t396 bt397.1 bt397.2.1 bt397.2.2 bt402.1 bt402.2 bt410.1 bt410.2 bt412.1 bt412.2 (t423 != t424)))) else (laws_FnStamps.j0 k bt392.1 bt392.2 t396 bt397.1 bt397.2.1 bt397.2.2 bt402.1 bt402.2 bt410.1 bt410.2 bt412.1 bt412.2 true)) else (laws_FnStamps.j0 k bt392.1 bt392.2 t396 bt397.1 bt397.2.1 bt397.2.2 bt402.1 bt402.2 bt410.1 bt410.2 bt412.1 bt412.2 true))) else (laws_FnStamps.j0 k bt392.1 bt392.2 t396 bt397.1 bt397.2.1 bt397.2.2 bt402.1 bt402.2 bt410.1 bt410.2 bt412.1 bt412.2 true)))) else (laws_FnStamps.j0 k bt392.1 bt392.2 t396 bt397.1 bt397.2.1 bt397.2.2 bt402.1 bt402.2 bt410.1 bt410.2 bt412.1 bt412.2 true))))))))))))
set_option maxHeartbeats 8000000 in
set_option maxRecDepth 100000 in
theorem laws_FnStamps.calls (k : Nat) (A0 : Option Addr) (c0 : Nat) (l0 : List Int) (r : Bool) (w : World) (hr0 : Kd.C (Kd.int .u8) w A0 l0.length l0) (hc0 : l0.length ≤ c0) (h : laws_FnStamps.f k l0 = some r) (hr_ : r = true := by rfl) :
 Calls Try.prog 4 #[.slice A0 l0.length c0] w fun e w' => e = .returned (.bool r) ∧ Below w.heap.size w w' := by
 have hr_ := Aside0.mk hr_
 have HR0 := Aside0.mk hr0
 have HC0 := Aside0.mk hc0
 clear hr0 hc0
 have HB := Aside0.mk (Below.refl w.heap.size w)
 have H : ((laws_big.f l0).bind fun t391 => (if t391 = true then (some true) else ((spec_DrawReachOf.f k l0).bind fun bt392 => ((impl_ReachOf.f k bt392.1 bt392.2).bind fun t396 => ((spec_DrawStampsFor.f k l0).bind fun bt397 => ((impl_StampsFor.f k bt397.1 bt397.2.1 bt397.2.2).bind fun bt402 => ((spec_StampsFor.f k bt397.1 bt397.2.1 bt397.2.2).bind fun bt406 => ((spec_DrawBestStamps.f k l0).bind fun bt410 => ((impl_BestStamps.f k bt410.1 bt410.2).bind fun bt412 => ((spec_BestStamps.f k bt410.1 bt410.2).bind fun bt416 => ((spec_ReachOf.f k bt392.1 bt392.2).bind fun t420 => (if t396 = t420 then (if (bt402.2 != bt406.2) = true then (laws_FnStamps.j0 k bt392.1 bt392.2 t396 bt397.1 bt397.2.1 bt397.2.2 bt402.1 bt402.2 bt410.1 bt410.2 bt412.1 bt412.2 true) else ((laws_sameInts.f k bt402.1 bt406.1).bind fun t421 => (if t421 = true then ((laws_sameInts.f k bt412.1 bt416.1).bind fun t422 => (if t422 = true then (if bt412.2 = bt416.2 then ((impl_AreStamps.f k bt392.1).bind fun t423 => ((spec_AreStamps.f k bt392.1).bind fun t424 => (laws_FnStamps.j0 k bt392.1 bt392.2 t396 bt397.1 bt397.2.1 bt397.2.2 bt402.1 bt402.2 bt410.1 bt410.2 bt412.1 bt412.2 (t423 != t424)))) else (laws_FnStamps.j0 k bt392.1 bt392.2 t396 bt397.1 bt397.2.1 bt397.2.2 bt402.1 bt402.2 bt410.1 bt410.2 bt412.1 bt412.2 true)) else (laws_FnStamps.j0 k bt392.1 bt392.2 t396 bt397.1 bt397.2.1 bt397.2.2 bt402.1 bt402.2 bt410.1 bt410.2 bt412.1 bt412.2 true))) else (laws_FnStamps.j0 k bt392.1 bt392.2 t396 bt397.1 bt397.2.1 bt397.2.2 bt402.1 bt402.2 bt410.1 bt410.2 bt412.1 bt412.2 true)))) else (laws_FnStamps.j0 k bt392.1 bt392.2 t396 bt397.1 bt397.2.1 bt397.2.2 bt402.1 bt402.2 bt410.1 bt410.2 bt412.1 bt412.2 true))))))))))))) = some r := h
 clear h
 replace H := Option.bind_eq_some_iff.mp H
 obtain ⟨t391, A20, H⟩ := H
 replace H : (if t391 = true then (some true) else ((spec_DrawReachOf.f k l0).bind fun bt392 => ((impl_ReachOf.f k bt392.1 bt392.2).bind fun t396 => ((spec_DrawStampsFor.f k l0).bind fun bt397 => ((impl_StampsFor.f k bt397.1 bt397.2.1 bt397.2.2).bind fun bt402 => ((spec_StampsFor.f k bt397.1 bt397.2.1 bt397.2.2).bind fun bt406 => ((spec_DrawBestStamps.f k l0).bind fun bt410 => ((impl_BestStamps.f k bt410.1 bt410.2).bind fun bt412 => ((spec_BestStamps.f k bt410.1 bt410.2).bind fun bt416 => ((spec_ReachOf.f k bt392.1 bt392.2).bind fun t420 => (if t396 = t420 then (if (bt402.2 != bt406.2) = true then (laws_FnStamps.j0 k bt392.1 bt392.2 t396 bt397.1 bt397.2.1 bt397.2.2 bt402.1 bt402.2 bt410.1 bt410.2 bt412.1 bt412.2 true) else ((laws_sameInts.f k bt402.1 bt406.1).bind fun t421 => (if t421 = true then ((laws_sameInts.f k bt412.1 bt416.1).bind fun t422 => (if t422 = true then (if bt412.2 = bt416.2 then ((impl_AreStamps.f k bt392.1).bind fun t423 => ((spec_AreStamps.f k bt392.1).bind fun t424 => (laws_FnStamps.j0 k bt392.1 bt392.2 t396 bt397.1 bt397.2.1 bt397.2.2 bt402.1 bt402.2 bt410.1 bt410.2 bt412.1 bt412.2 (t423 != t424)))) else (laws_FnStamps.j0 k bt392.1 bt392.2 t396 bt397.1 bt397.2.1 bt397.2.2 bt402.1 bt402.2 bt410.1 bt410.2 bt412.1 bt412.2 true)) else (laws_FnStamps.j0 k bt392.1 bt392.2 t396 bt397.1 bt397.2.1 bt397.2.2 bt402.1 bt402.2 bt410.1 bt410.2 bt412.1 bt412.2 true))) else (laws_FnStamps.j0 k bt392.1 bt392.2 t396 bt397.1 bt397.2.1 bt397.2.2 bt402.1 bt402.2 bt410.1 bt410.2 bt412.1 bt412.2 true)))) else (laws_FnStamps.j0 k bt392.1 bt392.2 t396 bt397.1 bt397.2.1 bt397.2.2 bt402.1 bt402.2 bt410.1 bt410.2 bt412.1 bt412.2 true)))))))))))) = some r := H
 have A2 := Aside0.mk A20
 clear A20
 by_cases c3 : t391 = true
 · subst c3
   have H1 : (some true) = some r := by rw [if_pos rfl] at H; exact H
   clear H
   have H := H1
   clear H1
   obtain rfl := Option.some.inj H
   go_enter Try.func4, Try.ntmps4
   go_wp2_with (first | ((with_reducible refine gate_callee (f := 13) rfl ?_); refine goesL_ (some 23) rfl rfl Try.func13 (by kernel_rfl) rfl #[.slice A0 l0.length c0] rfl (by (try simp only [List.map_toArray, List.map_cons, List.map_nil]); first | done | rfl | (simp only [List.length_drop, List.length_take]; rfl)) ?_; (with_reducible refine (laws_big.calls _ _ l0 true _ ?side1 ?side2 A2.out).mono ?_); (case side1 => exact ce_ (HR0.out)); (case side2 => exact HC0.out); rintro e w' ⟨rfl, ⟨nd, rfl⟩⟩; refine ⟨_, rfl, ?_⟩))
   go_ret
   exact ⟨by first | rfl | (simp [errW_none, errW_some] <;> rfl) | (simp [*, errW_none, errW_some] <;> rfl), bl_ HB.out⟩
 · replace c3 := Bool.eq_false_iff.mpr c3
   subst c3
   have H1 : ((spec_DrawReachOf.f k l0).bind fun bt392 => ((impl_ReachOf.f k bt392.1 bt392.2).bind fun t396 => ((spec_DrawStampsFor.f k l0).bind fun bt397 => ((impl_StampsFor.f k bt397.1 bt397.2.1 bt397.2.2).bind fun bt402 => ((spec_StampsFor.f k bt397.1 bt397.2.1 bt397.2.2).bind fun bt406 => ((spec_DrawBestStamps.f k l0).bind fun bt410 => ((impl_BestStamps.f k bt410.1 bt410.2).bind fun bt412 => ((spec_BestStamps.f k bt410.1 bt410.2).bind fun bt416 => ((spec_ReachOf.f k bt392.1 bt392.2).bind fun t420 => (if t396 = t420 then (if (bt402.2 != bt406.2) = true then (laws_FnStamps.j0 k bt392.1 bt392.2 t396 bt397.1 bt397.2.1 bt397.2.2 bt402.1 bt402.2 bt410.1 bt410.2 bt412.1 bt412.2 true) else ((laws_sameInts.f k bt402.1 bt406.1).bind fun t421 => (if t421 = true then ((laws_sameInts.f k bt412.1 bt416.1).bind fun t422 => (if t422 = true then (if bt412.2 = bt416.2 then ((impl_AreStamps.f k bt392.1).bind fun t423 => ((spec_AreStamps.f k bt392.1).bind fun t424 => (laws_FnStamps.j0 k bt392.1 bt392.2 t396 bt397.1 bt397.2.1 bt397.2.2 bt402.1 bt402.2 bt410.1 bt410.2 bt412.1 bt412.2 (t423 != t424)))) else (laws_FnStamps.j0 k bt392.1 bt392.2 t396 bt397.1 bt397.2.1 bt397.2.2 bt402.1 bt402.2 bt410.1 bt410.2 bt412.1 bt412.2 true)) else (laws_FnStamps.j0 k bt392.1 bt392.2 t396 bt397.1 bt397.2.1 bt397.2.2 bt402.1 bt402.2 bt410.1 bt410.2 bt412.1 bt412.2 true))) else (laws_FnStamps.j0 k bt392.1 bt392.2 t396 bt397.1 bt397.2.1 bt397.2.2 bt402.1 bt402.2 bt410.1 bt410.2 bt412.1 bt412.2 true)))) else (laws_FnStamps.j0 k bt392.1 bt392.2 t396 bt397.1 bt397.2.1 bt397.2.2 bt402.1 bt402.2 bt410.1 bt410.2 bt412.1 bt412.2 true))))))))))) = some r := by rw [if_neg (show ¬ (false = true) by decide)] at H; exact H
   clear H
   have H := H1
   clear H1
   replace H := Option.bind_eq_some_iff.mp H
   obtain ⟨⟨t392, t393⟩, A40, H⟩ := H
   replace H : ((impl_ReachOf.f k t392 t393).bind fun t396 => ((spec_DrawStampsFor.f k l0).bind fun bt397 => ((impl_StampsFor.f k bt397.1 bt397.2.1 bt397.2.2).bind fun bt402 => ((spec_StampsFor.f k bt397.1 bt397.2.1 bt397.2.2).bind fun bt406 => ((spec_DrawBestStamps.f k l0).bind fun bt410 => ((impl_BestStamps.f k bt410.1 bt410.2).bind fun bt412 => ((spec_BestStamps.f k bt410.1 bt410.2).bind fun bt416 => ((spec_ReachOf.f k t392 t393).bind fun t420 => (if t396 = t420 then (if (bt402.2 != bt406.2) = true then (laws_FnStamps.j0 k t392 t393 t396 bt397.1 bt397.2.1 bt397.2.2 bt402.1 bt402.2 bt410.1 bt410.2 bt412.1 bt412.2 true) else ((laws_sameInts.f k bt402.1 bt406.1).bind fun t421 => (if t421 = true then ((laws_sameInts.f k bt412.1 bt416.1).bind fun t422 => (if t422 = true then (if bt412.2 = bt416.2 then ((impl_AreStamps.f k t392).bind fun t423 => ((spec_AreStamps.f k t392).bind fun t424 => (laws_FnStamps.j0 k t392 t393 t396 bt397.1 bt397.2.1 bt397.2.2 bt402.1 bt402.2 bt410.1 bt410.2 bt412.1 bt412.2 (t423 != t424)))) else (laws_FnStamps.j0 k t392 t393 t396 bt397.1 bt397.2.1 bt397.2.2 bt402.1 bt402.2 bt410.1 bt410.2 bt412.1 bt412.2 true)) else (laws_FnStamps.j0 k t392 t393 t396 bt397.1 bt397.2.1 bt397.2.2 bt402.1 bt402.2 bt410.1 bt410.2 bt412.1 bt412.2 true))) else (laws_FnStamps.j0 k t392 t393 t396 bt397.1 bt397.2.1 bt397.2.2 bt402.1 bt402.2 bt410.1 bt410.2 bt412.1 bt412.2 true)))) else (laws_FnStamps.j0 k t392 t393 t396 bt397.1 bt397.2.1 bt397.2.2 bt402.1 bt402.2 bt410.1 bt410.2 bt412.1 bt412.2 true)))))))))) = some r := H
   have A4 := Aside0.mk A40
   clear A40
   replace H := Option.bind_eq_some_iff.mp H
   obtain ⟨t396, A50, H⟩ := H
   replace H : ((spec_DrawStampsFor.f k l0).bind fun bt397 => ((impl_StampsFor.f k bt397.1 bt397.2.1 bt397.2.2).bind fun bt402 => ((spec_StampsFor.f k bt397.1 bt397.2.1 bt397.2.2).bind fun bt406 => ((spec_DrawBestStamps.f k l0).bind fun bt410 => ((impl_BestStamps.f k bt410.1 bt410.2).bind fun bt412 => ((spec_BestStamps.f k bt410.1 bt410.2).bind fun bt416 => ((spec_ReachOf.f k t392 t393).bind fun t420 => (if t396 = t420 then (if (bt402.2 != bt406.2) = true then (laws_FnStamps.j0 k t392 t393 t396 bt397.1 bt397.2.1 bt397.2.2 bt402.1 bt402.2 bt410.1 bt410.2 bt412.1 bt412.2 true) else ((laws_sameInts.f k bt402.1 bt406.1).bind fun t421 => (if t421 = true then ((laws_sameInts.f k bt412.1 bt416.1).bind fun t422 => (if t422 = true then (if bt412.2 = bt416.2 then ((impl_AreStamps.f k t392).bind fun t423 => ((spec_AreStamps.f k t392).bind fun t424 => (laws_FnStamps.j0 k t392 t393 t396 bt397.1 bt397.2.1 bt397.2.2 bt402.1 bt402.2 bt410.1 bt410.2 bt412.1 bt412.2 (t423 != t424)))) else (laws_FnStamps.j0 k t392 t393 t396 bt397.1 bt397.2.1 bt397.2.2 bt402.1 bt402.2 bt410.1 bt410.2 bt412.1 bt412.2 true)) else (laws_FnStamps.j0 k t392 t393 t396 bt397.1 bt397.2.1 bt397.2.2 bt402.1 bt402.2 bt410.1 bt410.2 bt412.1 bt412.2 true))) else (laws_FnStamps.j0 k t392 t393 t396 bt397.1 bt397.2.1 bt397.2.2 bt402.1 bt402.2 bt410.1 bt410.2 bt412.1 bt412.2 true)))) else (laws_FnStamps.j0 k t392 t393 t396 bt397.1 bt397.2.1 bt397.2.2 bt402.1 bt402.2 bt410.1 bt410.2 bt412.1 bt412.2 true))))))))) = some r := H
   have A5 := Aside0.mk A50
   clear A50
   replace H := Option.bind_eq_some_iff.mp H
   obtain ⟨⟨t397, t398, t399⟩, A60, H⟩ := H
   replace H : ((impl_StampsFor.f k t397 t398 t399).bind fun bt402 => ((spec_StampsFor.f k t397 t398 t399).bind fun bt406 => ((spec_DrawBestStamps.f k l0).bind fun bt410 => ((impl_BestStamps.f k bt410.1 bt410.2).bind fun bt412 => ((spec_BestStamps.f k bt410.1 bt410.2).bind fun bt416 => ((spec_ReachOf.f k t392 t393).bind fun t420 => (if t396 = t420 then (if (bt402.2 != bt406.2) = true then (laws_FnStamps.j0 k t392 t393 t396 t397 t398 t399 bt402.1 bt402.2 bt410.1 bt410.2 bt412.1 bt412.2 true) else ((laws_sameInts.f k bt402.1 bt406.1).bind fun t421 => (if t421 = true then ((laws_sameInts.f k bt412.1 bt416.1).bind fun t422 => (if t422 = true then (if bt412.2 = bt416.2 then ((impl_AreStamps.f k t392).bind fun t423 => ((spec_AreStamps.f k t392).bind fun t424 => (laws_FnStamps.j0 k t392 t393 t396 t397 t398 t399 bt402.1 bt402.2 bt410.1 bt410.2 bt412.1 bt412.2 (t423 != t424)))) else (laws_FnStamps.j0 k t392 t393 t396 t397 t398 t399 bt402.1 bt402.2 bt410.1 bt410.2 bt412.1 bt412.2 true)) else (laws_FnStamps.j0 k t392 t393 t396 t397 t398 t399 bt402.1 bt402.2 bt410.1 bt410.2 bt412.1 bt412.2 true))) else (laws_FnStamps.j0 k t392 t393 t396 t397 t398 t399 bt402.1 bt402.2 bt410.1 bt410.2 bt412.1 bt412.2 true)))) else (laws_FnStamps.j0 k t392 t393 t396 t397 t398 t399 bt402.1 bt402.2 bt410.1 bt410.2 bt412.1 bt412.2 true)))))))) = some r := H
   have A6 := Aside0.mk A60
   clear A60
   replace H := Option.bind_eq_some_iff.mp H
   obtain ⟨⟨t402, t403⟩, A70, H⟩ := H
   replace H : ((spec_StampsFor.f k t397 t398 t399).bind fun bt406 => ((spec_DrawBestStamps.f k l0).bind fun bt410 => ((impl_BestStamps.f k bt410.1 bt410.2).bind fun bt412 => ((spec_BestStamps.f k bt410.1 bt410.2).bind fun bt416 => ((spec_ReachOf.f k t392 t393).bind fun t420 => (if t396 = t420 then (if (t403 != bt406.2) = true then (laws_FnStamps.j0 k t392 t393 t396 t397 t398 t399 t402 t403 bt410.1 bt410.2 bt412.1 bt412.2 true) else ((laws_sameInts.f k t402 bt406.1).bind fun t421 => (if t421 = true then ((laws_sameInts.f k bt412.1 bt416.1).bind fun t422 => (if t422 = true then (if bt412.2 = bt416.2 then ((impl_AreStamps.f k t392).bind fun t423 => ((spec_AreStamps.f k t392).bind fun t424 => (laws_FnStamps.j0 k t392 t393 t396 t397 t398 t399 t402 t403 bt410.1 bt410.2 bt412.1 bt412.2 (t423 != t424)))) else (laws_FnStamps.j0 k t392 t393 t396 t397 t398 t399 t402 t403 bt410.1 bt410.2 bt412.1 bt412.2 true)) else (laws_FnStamps.j0 k t392 t393 t396 t397 t398 t399 t402 t403 bt410.1 bt410.2 bt412.1 bt412.2 true))) else (laws_FnStamps.j0 k t392 t393 t396 t397 t398 t399 t402 t403 bt410.1 bt410.2 bt412.1 bt412.2 true)))) else (laws_FnStamps.j0 k t392 t393 t396 t397 t398 t399 t402 t403 bt410.1 bt410.2 bt412.1 bt412.2 true))))))) = some r := H
   have A7 := Aside0.mk A70
   clear A70
   replace H := Option.bind_eq_some_iff.mp H
   obtain ⟨⟨t406, t407⟩, A80, H⟩ := H
   replace H : ((spec_DrawBestStamps.f k l0).bind fun bt410 => ((impl_BestStamps.f k bt410.1 bt410.2).bind fun bt412 => ((spec_BestStamps.f k bt410.1 bt410.2).bind fun bt416 => ((spec_ReachOf.f k t392 t393).bind fun t420 => (if t396 = t420 then (if (t403 != t407) = true then (laws_FnStamps.j0 k t392 t393 t396 t397 t398 t399 t402 t403 bt410.1 bt410.2 bt412.1 bt412.2 true) else ((laws_sameInts.f k t402 t406).bind fun t421 => (if t421 = true then ((laws_sameInts.f k bt412.1 bt416.1).bind fun t422 => (if t422 = true then (if bt412.2 = bt416.2 then ((impl_AreStamps.f k t392).bind fun t423 => ((spec_AreStamps.f k t392).bind fun t424 => (laws_FnStamps.j0 k t392 t393 t396 t397 t398 t399 t402 t403 bt410.1 bt410.2 bt412.1 bt412.2 (t423 != t424)))) else (laws_FnStamps.j0 k t392 t393 t396 t397 t398 t399 t402 t403 bt410.1 bt410.2 bt412.1 bt412.2 true)) else (laws_FnStamps.j0 k t392 t393 t396 t397 t398 t399 t402 t403 bt410.1 bt410.2 bt412.1 bt412.2 true))) else (laws_FnStamps.j0 k t392 t393 t396 t397 t398 t399 t402 t403 bt410.1 bt410.2 bt412.1 bt412.2 true)))) else (laws_FnStamps.j0 k t392 t393 t396 t397 t398 t399 t402 t403 bt410.1 bt410.2 bt412.1 bt412.2 true)))))) = some r := H
   have A8 := Aside0.mk A80
   clear A80
   replace H := Option.bind_eq_some_iff.mp H
   obtain ⟨⟨t410, t411⟩, A90, H⟩ := H
   replace H : ((impl_BestStamps.f k t410 t411).bind fun bt412 => ((spec_BestStamps.f k t410 t411).bind fun bt416 => ((spec_ReachOf.f k t392 t393).bind fun t420 => (if t396 = t420 then (if (t403 != t407) = true then (laws_FnStamps.j0 k t392 t393 t396 t397 t398 t399 t402 t403 t410 t411 bt412.1 bt412.2 true) else ((laws_sameInts.f k t402 t406).bind fun t421 => (if t421 = true then ((laws_sameInts.f k bt412.1 bt416.1).bind fun t422 => (if t422 = true then (if bt412.2 = bt416.2 then ((impl_AreStamps.f k t392).bind fun t423 => ((spec_AreStamps.f k t392).bind fun t424 => (laws_FnStamps.j0 k t392 t393 t396 t397 t398 t399 t402 t403 t410 t411 bt412.1 bt412.2 (t423 != t424)))) else (laws_FnStamps.j0 k t392 t393 t396 t397 t398 t399 t402 t403 t410 t411 bt412.1 bt412.2 true)) else (laws_FnStamps.j0 k t392 t393 t396 t397 t398 t399 t402 t403 t410 t411 bt412.1 bt412.2 true))) else (laws_FnStamps.j0 k t392 t393 t396 t397 t398 t399 t402 t403 t410 t411 bt412.1 bt412.2 true)))) else (laws_FnStamps.j0 k t392 t393 t396 t397 t398 t399 t402 t403 t410 t411 bt412.1 bt412.2 true))))) = some r := H
   have A9 := Aside0.mk A90
   clear A90
   replace H := Option.bind_eq_some_iff.mp H
   obtain ⟨⟨t412, t413⟩, A100, H⟩ := H
   replace H : ((spec_BestStamps.f k t410 t411).bind fun bt416 => ((spec_ReachOf.f k t392 t393).bind fun t420 => (if t396 = t420 then (if (t403 != t407) = true then (laws_FnStamps.j0 k t392 t393 t396 t397 t398 t399 t402 t403 t410 t411 t412 t413 true) else ((laws_sameInts.f k t402 t406).bind fun t421 => (if t421 = true then ((laws_sameInts.f k t412 bt416.1).bind fun t422 => (if t422 = true then (if t413 = bt416.2 then ((impl_AreStamps.f k t392).bind fun t423 => ((spec_AreStamps.f k t392).bind fun t424 => (laws_FnStamps.j0 k t392 t393 t396 t397 t398 t399 t402 t403 t410 t411 t412 t413 (t423 != t424)))) else (laws_FnStamps.j0 k t392 t393 t396 t397 t398 t399 t402 t403 t410 t411 t412 t413 true)) else (laws_FnStamps.j0 k t392 t393 t396 t397 t398 t399 t402 t403 t410 t411 t412 t413 true))) else (laws_FnStamps.j0 k t392 t393 t396 t397 t398 t399 t402 t403 t410 t411 t412 t413 true)))) else (laws_FnStamps.j0 k t392 t393 t396 t397 t398 t399 t402 t403 t410 t411 t412 t413 true)))) = some r := H
   have A10 := Aside0.mk A100
   clear A100
   replace H := Option.bind_eq_some_iff.mp H
   obtain ⟨⟨t416, t417⟩, A110, H⟩ := H
   replace H : ((spec_ReachOf.f k t392 t393).bind fun t420 => (if t396 = t420 then (if (t403 != t407) = true then (laws_FnStamps.j0 k t392 t393 t396 t397 t398 t399 t402 t403 t410 t411 t412 t413 true) else ((laws_sameInts.f k t402 t406).bind fun t421 => (if t421 = true then ((laws_sameInts.f k t412 t416).bind fun t422 => (if t422 = true then (if t413 = t417 then ((impl_AreStamps.f k t392).bind fun t423 => ((spec_AreStamps.f k t392).bind fun t424 => (laws_FnStamps.j0 k t392 t393 t396 t397 t398 t399 t402 t403 t410 t411 t412 t413 (t423 != t424)))) else (laws_FnStamps.j0 k t392 t393 t396 t397 t398 t399 t402 t403 t410 t411 t412 t413 true)) else (laws_FnStamps.j0 k t392 t393 t396 t397 t398 t399 t402 t403 t410 t411 t412 t413 true))) else (laws_FnStamps.j0 k t392 t393 t396 t397 t398 t399 t402 t403 t410 t411 t412 t413 true)))) else (laws_FnStamps.j0 k t392 t393 t396 t397 t398 t399 t402 t403 t410 t411 t412 t413 true))) = some r := H
   have A11 := Aside0.mk A110
   clear A110
   have HC12 := Aside0.mk H
   clear H
   go_enter Try.func4, Try.ntmps4
   go_upto_region 11 with (first | ((with_reducible refine gate_callee (f := 13) rfl ?_); refine goesL_ (some 23) rfl rfl Try.func13 (by kernel_rfl) rfl #[.slice A0 l0.length c0] rfl (by (try simp only [List.map_toArray, List.map_cons, List.map_nil]); first | done | rfl | (simp only [List.length_drop, List.length_take]; rfl)) ?_; (with_reducible refine (laws_big.calls _ _ l0 false _ ?side1 ?side2 A2.out).mono ?_); (case side1 => exact ce_ (HR0.out)); (case side2 => exact HC0.out); rintro e w' ⟨rfl, ⟨nd, rfl⟩⟩; refine ⟨_, rfl, ?_⟩) | ((with_reducible refine gate_callee (f := 14) rfl ?_); refine goesL_ (some 26) rfl rfl Try.func14 (by kernel_rfl) rfl #[.slice A0 l0.length c0] rfl (by (try simp only [List.map_toArray, List.map_cons, List.map_nil]); first | done | rfl | (simp only [List.length_drop, List.length_take]; rfl)) ?_; (with_reducible refine (spec_DrawReachOf.calls k _ _ l0 t392 t393 _ ?side1 ?side2 A4.out).mono ?_); (case side1 => exact ce_ (HR0.out)); (case side2 => exact HC0.out); rintro e w13 ⟨v394, rfl, ho0, hb⟩; refine ⟨_, rfl, ?_⟩; have n0_ := Aside0.mk (Kd.Q_lower ho0 (below_size (bl_ HB.out))); have n1_ := Aside0.mk (below_step (bl_ HB.out) hb); clear HB; have HO395 := n0_; have HB := n1_; clear n0_ n1_; (try clear hb); (try clear hb2); (try clear hk); (try clear hi); (try clear ho0); obtain ⟨Ao14, co14, eo14, _⟩ := Kd.Q_slice HO395.out; subst eo14) | ((with_reducible refine gate_callee (f := 15) rfl ?_); refine goesL_ (some 31) rfl rfl Try.func15 (by kernel_rfl) rfl #[.slice Ao14 t392.length co14, .int .i64 t393] rfl (by (try simp only [List.map_toArray, List.map_cons, List.map_nil]); first | done | rfl | (simp only [List.length_drop, List.length_take]; rfl)) ?_; (with_reducible refine (impl_ReachOf.calls k _ _ t392 t393 t396 _ ?side1 ?side2 A5.out).mono ?_); (case side1 => exact ce_ ((Kd.Q_reads' HO395.out).2.2)); (case side2 => exact (Kd.Q_reads' HO395.out).2.1); rintro e w15 ⟨rfl, hb⟩; refine ⟨_, rfl, ?_⟩; have n0_ := Aside0.mk (Kd.Q_below (by (with_reducible repeat (first | apply Kd.Q_alloc | apply Kd.Q_drewN | apply Kd.Q_drew)); exact HO395.out) hb); have n1_ := Aside0.mk (below_step (bl_ HB.out) hb); clear HO395; clear HB; have HO395 := n0_; have HB := n1_; clear n0_ n1_; (try clear hb); (try clear hb2); (try clear hk); (try clear hi)) | ((with_reducible refine gate_callee (f := 16) rfl ?_); refine goesL_ (some 34) rfl rfl Try.func16 (by kernel_rfl) rfl #[.slice A0 l0.length c0] rfl (by (try simp only [List.map_toArray, List.map_cons, List.map_nil]); first | done | rfl | (simp only [List.length_drop, List.length_take]; rfl)) ?_; (with_reducible refine (spec_DrawStampsFor.calls k _ _ l0 t397 t398 t399 _ ?side1 ?side2 A6.out).mono ?_); (case side1 => exact ce_ ((Kd.C_below HR0.out HB.out))); (case side2 => exact HC0.out); rintro e w16 ⟨v400, rfl, ho0, hb⟩; refine ⟨_, rfl, ?_⟩; have n0_ := Aside0.mk (Kd.Q_elder' (by (with_reducible repeat (first | apply Kd.Q_alloc | apply Kd.Q_drewN | apply Kd.Q_drew)); exact HO395.out) (Kd.Q_base ho0) hb); have n1_ := Aside0.mk (Kd.Q_lower (Kd.Q_new' ho0 (Kd.Q_lt (by (with_reducible repeat (first | apply Kd.Q_alloc | apply Kd.Q_drewN | apply Kd.Q_drew)); exact HO395.out))) (below_size (bl_ HB.out))); have n2_ := Aside0.mk (below_step (bl_ HB.out) hb); clear HO395; clear HB; have HO395 := n0_; have HO401 := n1_; have HB := n2_; clear n0_ n1_ n2_; (try clear hb); (try clear hb2); (try clear hk); (try clear hi); (try clear ho0); obtain ⟨Ao17, co17, eo17, _⟩ := Kd.Q_slice HO401.out; subst eo17) | ((with_reducible refine gate_callee (f := 17) rfl ?_); refine goesL_ (some 42) rfl rfl Try.func17 (by kernel_rfl) rfl #[.slice Ao17 t397.length co17, .int .i64 t398, .int .i64 t399] rfl (by (try simp only [List.map_toArray, List.map_cons, List.map_nil]); first | done | rfl | (simp only [List.length_drop, List.length_take]; rfl)) ?_; (with_reducible refine (impl_StampsFor.calls k _ _ t397 t398 t399 t402 t403 _ ?side1 ?side2 A7.out).mono ?_); (case side1 => exact ce_ ((Kd.Q_reads' HO401.out).2.2)); (case side2 => exact (Kd.Q_reads' HO401.out).2.1); rintro e w18 ⟨v404, rfl, ho0, hb⟩; refine ⟨_, rfl, ?_⟩; have n0_ := Aside0.mk (Kd.Q_elder' (by (with_reducible repeat (first | apply Kd.Q_alloc | apply Kd.Q_drewN | apply Kd.Q_drew)); exact HO395.out) (Kd.R_base ho0) hb); have n1_ := Aside0.mk (Kd.Q_elder' (by (with_reducible repeat (first | apply Kd.Q_alloc | apply Kd.Q_drewN | apply Kd.Q_drew)); exact HO401.out) (Kd.R_base ho0) hb); have n2_ := Aside0.mk (Kd.R_lower (Kd.R_new' (Kd.R_new' ho0 (Kd.Q_lt (by (with_reducible repeat (first | apply Kd.Q_alloc | apply Kd.Q_drewN | apply Kd.Q_drew)); exact HO395.out))) (Kd.Q_lt (by (with_reducible repeat (first | apply Kd.Q_alloc | apply Kd.Q_drewN | apply Kd.Q_drew)); exact HO401.out))) (below_size (bl_ HB.out))); have n3_ := Aside0.mk (below_step (bl_ HB.out) hb); clear HO395; clear HO401; clear HB; have HO395 := n0_; have HO401 := n1_; have HO405 := n2_; have HB := n3_; clear n0_ n1_ n2_ n3_; (try clear hb); (try clear hb2); (try clear hk); (try clear hi); (try clear ho0)) | ((with_reducible refine gate_callee (f := 18) rfl ?_); refine goesL_ (some 49) rfl rfl Try.func18 (by kernel_rfl) rfl #[.slice Ao17 t397.length co17, .int .i64 t398, .int .i64 t399] rfl (by (try simp only [List.map_toArray, List.map_cons, List.map_nil]); first | done | rfl | (simp only [List.length_drop, List.length_take]; rfl)) ?_; (with_reducible refine (spec_StampsFor.calls k _ _ t397 t398 t399 t406 t407 _ ?side1 ?side2 A8.out).mono ?_); (case side1 => exact ce_ ((Kd.Q_reads' HO401.out).2.2)); (case side2 => exact (Kd.Q_reads' HO401.out).2.1); rintro e w19 ⟨v408, rfl, ho0, hb⟩; refine ⟨_, rfl, ?_⟩; have n0_ := Aside0.mk (Kd.Q_elder' (by (with_reducible repeat (first | apply Kd.Q_alloc | apply Kd.Q_drewN | apply Kd.Q_drew)); exact HO395.out) (Kd.R_base ho0) hb); have n1_ := Aside0.mk (Kd.Q_elder' (by (with_reducible repeat (first | apply Kd.Q_alloc | apply Kd.Q_drewN | apply Kd.Q_drew)); exact HO401.out) (Kd.R_base ho0) hb); have n2_ := Aside0.mk (Kd.R_elder' (re_ HO405.out) (Kd.R_base ho0) hb); have n3_ := Aside0.mk (Kd.R_lower (Kd.R_new' (Kd.R_new' (Kd.R_new' ho0 (Kd.Q_lt (by (with_reducible repeat (first | apply Kd.Q_alloc | apply Kd.Q_drewN | apply Kd.Q_drew)); exact HO395.out))) (Kd.Q_lt (by (with_reducible repeat (first | apply Kd.Q_alloc | apply Kd.Q_drewN | apply Kd.Q_drew)); exact HO401.out))) (Kd.R_lt (re_ HO405.out))) (below_size (bl_ HB.out))); have n4_ := Aside0.mk (below_step (bl_ HB.out) hb); clear HO395; clear HO401; clear HO405; clear HB; have HO395 := n0_; have HO401 := n1_; have HO405 := n2_; have HO409 := n3_; have HB := n4_; clear n0_ n1_ n2_ n3_ n4_; (try clear hb); (try clear hb2); (try clear hk); (try clear hi); (try clear ho0)) | ((with_reducible refine gate_callee (f := 19) rfl ?_); refine goesL_ (some 54) rfl rfl Try.func19 (by kernel_rfl) rfl #[.slice A0 l0.length c0] rfl (by (try simp only [List.map_toArray, List.map_cons, List.map_nil]); first | done | rfl | (simp only [List.length_drop, List.length_take]; rfl)) ?_; (with_reducible refine (spec_DrawBestStamps.calls k _ _ l0 t410 t411 _ ?side1 ?side2 A9.out).mono ?_); (case side1 => exact ce_ ((Kd.C_below HR0.out HB.out))); (case side2 => exact HC0.out); rintro e w20 ⟨rfl, hb⟩; refine ⟨_, rfl, ?_⟩; have n0_ := Aside0.mk (Kd.Q_below (by (with_reducible repeat (first | apply Kd.Q_alloc | apply Kd.Q_drewN | apply Kd.Q_drew)); exact HO395.out) hb); have n1_ := Aside0.mk (Kd.Q_below (by (with_reducible repeat (first | apply Kd.Q_alloc | apply Kd.Q_drewN | apply Kd.Q_drew)); exact HO401.out) hb); have n2_ := Aside0.mk (Kd.R_below (re_ HO405.out) hb); have n3_ := Aside0.mk (Kd.R_below (re_ HO409.out) hb); have n4_ := Aside0.mk (below_step (bl_ HB.out) hb); clear HO395; clear HO401; clear HO405; clear HO409; clear HB; have HO395 := n0_; have HO401 := n1_; have HO405 := n2_; have HO409 := n3_; have HB := n4_; clear n0_ n1_ n2_ n3_ n4_; (try clear hb); (try clear hb2); (try clear hk); (try clear hi)) | ((with_reducible refine gate_callee (f := 9) rfl ?_); refine goesL_ (some 60) rfl rfl Try.func9 (by kernel_rfl) rfl #[.int .i64 t410, .int .i64 t411] rfl (by (try simp only [List.map_toArray, List.map_cons, List.map_nil]); first | done | rfl | (simp only [List.length_drop, List.length_take]; rfl)) ?_; (with_reducible refine (impl_BestStamps.calls k t410 t411 t412 t413 _ A10.out).mono ?_); rintro e w21 ⟨v414, rfl, ho0, hb⟩; refine ⟨_, rfl, ?_⟩; have n0_ := Aside0.mk (Kd.Q_elder' (by (with_reducible repeat (first | apply Kd.Q_alloc | apply Kd.Q_drewN | apply Kd.Q_drew)); exact HO395.out) (Kd.R_base ho0) hb); have n1_ := Aside0.mk (Kd.Q_elder' (by (with_reducible repeat (first | apply Kd.Q_alloc | apply Kd.Q_drewN | apply Kd.Q_drew)); exact HO401.out) (Kd.R_base ho0) hb); have n2_ := Aside0.mk (Kd.R_elder' (re_ HO405.out) (Kd.R_base ho0) hb); have n3_ := Aside0.mk (Kd.R_elder' (re_ HO409.out) (Kd.R_base ho0) hb); have n4_ := Aside0.mk (Kd.R_lower (Kd.R_new' (Kd.R_new' (Kd.R_new' (Kd.R_new' ho0 (Kd.Q_lt (by (with_reducible repeat (first | apply Kd.Q_alloc | apply Kd.Q_drewN | apply Kd.Q_drew)); exact HO395.out))) (Kd.Q_lt (by (with_reducible repeat (first | apply Kd.Q_alloc | apply Kd.Q_drewN | apply Kd.Q_drew)); exact HO401.out))) (Kd.R_lt (re_ HO405.out))) (Kd.R_lt (re_ HO409.out))) (below_size (bl_ HB.out))); have n5_ := Aside0.mk (below_step (bl_ HB.out) hb); clear HO395; clear HO401; clear HO405; clear HO409; clear HB; have HO395 := n0_; have HO401 := n1_; have HO405 := n2_; have HO409 := n3_; have HO415 := n4_; have HB := n5_; clear n0_ n1_ n2_ n3_ n4_ n5_; (try clear hb); (try clear hb2); (try clear hk); (try clear hi); (try clear ho0)) | ((with_reducible refine gate_callee (f := 8) rfl ?_); refine goesL_ (some 66) rfl rfl Try.func8 (by kernel_rfl) rfl #[.int .i64 t410, .int .i64 t411] rfl (by (try simp only [List.map_toArray, List.map_cons, List.map_nil]); first | done | rfl | (simp only [List.length_drop, List.length_take]; rfl)) ?_; (with_reducible refine (spec_BestStamps.calls k t410 t411 t416 t417 _ A11.out).mono ?_); rintro e w22 ⟨v418, rfl, ho0, hb⟩; refine ⟨_, rfl, ?_⟩; have n0_ := Aside0.mk (Kd.Q_elder' (by (with_reducible repeat (first | apply Kd.Q_alloc | apply Kd.Q_drewN | apply Kd.Q_drew)); exact HO395.out) (Kd.R_base ho0) hb); have n1_ := Aside0.mk (Kd.Q_elder' (by (with_reducible repeat (first | apply Kd.Q_alloc | apply Kd.Q_drewN | apply Kd.Q_drew)); exact HO401.out) (Kd.R_base ho0) hb); have n2_ := Aside0.mk (Kd.R_elder' (re_ HO405.out) (Kd.R_base ho0) hb); have n3_ := Aside0.mk (Kd.R_elder' (re_ HO409.out) (Kd.R_base ho0) hb); have n4_ := Aside0.mk (Kd.R_elder' (re_ HO415.out) (Kd.R_base ho0) hb); have n5_ := Aside0.mk (Kd.R_lower (Kd.R_new' (Kd.R_new' (Kd.R_new' (Kd.R_new' (Kd.R_new' ho0 (Kd.Q_lt (by (with_reducible repeat (first | apply Kd.Q_alloc | apply Kd.Q_drewN | apply Kd.Q_drew)); exact HO395.out))) (Kd.Q_lt (by (with_reducible repeat (first | apply Kd.Q_alloc | apply Kd.Q_drewN | apply Kd.Q_drew)); exact HO401.out))) (Kd.R_lt (re_ HO405.out))) (Kd.R_lt (re_ HO409.out))) (Kd.R_lt (re_ HO415.out))) (below_size (bl_ HB.out))); have n6_ := Aside0.mk (below_step (bl_ HB.out) hb); clear HO395; clear HO401; clear HO405; clear HO409; clear HO415; clear HB; have HO395 := n0_; have HO401 := n1_; have HO405 := n2_; have HO409 := n3_; have HO415 := n4_; have HO419 := n5_; have HB := n6_; clear n0_ n1_ n2_ n3_ n4_ n5_ n6_; (try clear hb); (try clear hb2); (try clear hk); (try clear hi); (try clear ho0)))
   (try simp only [Act.put, z1_, z2_, z3_])
   go_cut [102] (fun v102 wc => ∃ (kq : Nat) (x102_11 : Bool), v102 = .bool x102_11 ∧ Aside0 (laws_FnStamps.j0 kq t392 t393 t396 t397 t398 t399 t402 t403 t410 t411 t412 t413 x102_11 = some r) ∧ Aside0 (kq ≤ k) ∧ Aside0 (Kd.Q (Kd.int .i64) 3 wc w.heap.size (fun k_ => some k_ ≠ ((.slice Ao17 t397.length co17) : Value).ownBlock ∧ some k_ ≠ (v404 : Value).ownBlock ∧ some k_ ≠ (v414 : Value).ownBlock) (.slice Ao14 t392.length co14) t392) ∧ Aside0 (Kd.Q (Kd.int .i64) 3 wc w.heap.size (fun k_ => some k_ ≠ ((.slice Ao14 t392.length co14) : Value).ownBlock ∧ some k_ ≠ (v404 : Value).ownBlock ∧ some k_ ≠ (v414 : Value).ownBlock) (.slice Ao17 t397.length co17) t397) ∧ Aside0 (Kd.R (Kd.int .i64) 3 wc w.heap.size (fun k_ => some k_ ≠ ((.slice Ao14 t392.length co14) : Value).ownBlock ∧ some k_ ≠ ((.slice Ao17 t397.length co17) : Value).ownBlock ∧ some k_ ≠ (v414 : Value).ownBlock) v404 t402) ∧ Aside0 (Kd.R (Kd.int .i64) 3 wc w.heap.size (fun k_ => some k_ ≠ ((.slice Ao14 t392.length co14) : Value).ownBlock ∧ some k_ ≠ ((.slice Ao17 t397.length co17) : Value).ownBlock ∧ some k_ ≠ (v404 : Value).ownBlock) v414 t412) ∧ Aside0 (Below w.heap.size w wc))
   case first =>
    have H := HC12.out
    clear HC12
    replace H := Option.bind_eq_some_iff.mp H
    obtain ⟨t420, A230, H⟩ := H
    replace H : (if t396 = t420 then (if (t403 != t407) = true then (laws_FnStamps.j0 k t392 t393 t396 t397 t398 t399 t402 t403 t410 t411 t412 t413 true) else ((laws_sameInts.f k t402 t406).bind fun t421 => (if t421 = true then ((laws_sameInts.f k t412 t416).bind fun t422 => (if t422 = true then (if t413 = t417 then ((impl_AreStamps.f k t392).bind fun t423 => ((spec_AreStamps.f k t392).bind fun t424 => (laws_FnStamps.j0 k t392 t393 t396 t397 t398 t399 t402 t403 t410 t411 t412 t413 (t423 != t424)))) else (laws_FnStamps.j0 k t392 t393 t396 t397 t398 t399 t402 t403 t410 t411 t412 t413 true)) else (laws_FnStamps.j0 k t392 t393 t396 t397 t398 t399 t402 t403 t410 t411 t412 t413 true))) else (laws_FnStamps.j0 k t392 t393 t396 t397 t398 t399 t402 t403 t410 t411 t412 t413 true)))) else (laws_FnStamps.j0 k t392 t393 t396 t397 t398 t399 t402 t403 t410 t411 t412 t413 true)) = some r := H
    have A23 := Aside0.mk A230
    clear A230
    by_cases c24 : t396 = t420
    · rw [if_pos c24] at H
      have c24b0 : (t396 == t420) = true := beq_iff_eq.mpr c24
      have c24b1 : (t396 != t420) = false := bne_eq_false_iff_eq.mpr c24
      clear c24
      (first | rw [c24b0] | (simp only [i64_w, i32_w]; rw [c24b0]) | skip)
      by_cases c25 : (t403 != t407) = true
      · rw [if_pos c25] at H
        exact absurd (H.trans (congrArg some hr_.out)) (by cases k <;> simp [laws_FnStamps.j0])
      · rw [if_neg c25] at H
        have c25b0 : (t403 != t407) = false := by simpa using c25
        (try (have c25b1 : decide (t403 = t407) = true := by simpa using c25))
        (try (have c25b2 : (t403 == t407) = true := by simpa using c25))
        clear c25
        replace H := Option.bind_eq_some_iff.mp H
        obtain ⟨t421, A270, H⟩ := H
        replace H : (if t421 = true then ((laws_sameInts.f k t412 t416).bind fun t422 => (if t422 = true then (if t413 = t417 then ((impl_AreStamps.f k t392).bind fun t423 => ((spec_AreStamps.f k t392).bind fun t424 => (laws_FnStamps.j0 k t392 t393 t396 t397 t398 t399 t402 t403 t410 t411 t412 t413 (t423 != t424)))) else (laws_FnStamps.j0 k t392 t393 t396 t397 t398 t399 t402 t403 t410 t411 t412 t413 true)) else (laws_FnStamps.j0 k t392 t393 t396 t397 t398 t399 t402 t403 t410 t411 t412 t413 true))) else (laws_FnStamps.j0 k t392 t393 t396 t397 t398 t399 t402 t403 t410 t411 t412 t413 true)) = some r := H
        have A27 := Aside0.mk A270
        clear A270
        by_cases c28 : t421 = true
        · subst c28
          have H1 : ((laws_sameInts.f k t412 t416).bind fun t422 => (if t422 = true then (if t413 = t417 then ((impl_AreStamps.f k t392).bind fun t423 => ((spec_AreStamps.f k t392).bind fun t424 => (laws_FnStamps.j0 k t392 t393 t396 t397 t398 t399 t402 t403 t410 t411 t412 t413 (t423 != t424)))) else (laws_FnStamps.j0 k t392 t393 t396 t397 t398 t399 t402 t403 t410 t411 t412 t413 true)) else (laws_FnStamps.j0 k t392 t393 t396 t397 t398 t399 t402 t403 t410 t411 t412 t413 true))) = some r := by rw [if_pos rfl] at H; exact H
          clear H
          have H := H1
          clear H1
          replace H := Option.bind_eq_some_iff.mp H
          obtain ⟨t422, A290, H⟩ := H
          replace H : (if t422 = true then (if t413 = t417 then ((impl_AreStamps.f k t392).bind fun t423 => ((spec_AreStamps.f k t392).bind fun t424 => (laws_FnStamps.j0 k t392 t393 t396 t397 t398 t399 t402 t403 t410 t411 t412 t413 (t423 != t424)))) else (laws_FnStamps.j0 k t392 t393 t396 t397 t398 t399 t402 t403 t410 t411 t412 t413 true)) else (laws_FnStamps.j0 k t392 t393 t396 t397 t398 t399 t402 t403 t410 t411 t412 t413 true)) = some r := H
          have A29 := Aside0.mk A290
          clear A290
          by_cases c30 : t422 = true
          · subst c30
            have H1 : (if t413 = t417 then ((impl_AreStamps.f k t392).bind fun t423 => ((spec_AreStamps.f k t392).bind fun t424 => (laws_FnStamps.j0 k t392 t393 t396 t397 t398 t399 t402 t403 t410 t411 t412 t413 (t423 != t424)))) else (laws_FnStamps.j0 k t392 t393 t396 t397 t398 t399 t402 t403 t410 t411 t412 t413 true)) = some r := by rw [if_pos rfl] at H; exact H
            clear H
            have H := H1
            clear H1
            by_cases c31 : t413 = t417
            · rw [if_pos c31] at H
              have c31b0 : (t413 == t417) = true := beq_iff_eq.mpr c31
              have c31b1 : (t413 != t417) = false := bne_eq_false_iff_eq.mpr c31
              clear c31
              replace H := Option.bind_eq_some_iff.mp H
              obtain ⟨t423, A320, H⟩ := H
              replace H : ((spec_AreStamps.f k t392).bind fun t424 => (laws_FnStamps.j0 k t392 t393 t396 t397 t398 t399 t402 t403 t410 t411 t412 t413 (t423 != t424))) = some r := H
              have A32 := Aside0.mk A320
              clear A320
              replace H := Option.bind_eq_some_iff.mp H
              obtain ⟨t424, A330, H⟩ := H
              replace H : (laws_FnStamps.j0 k t392 t393 t396 t397 t398 t399 t402 t403 t410 t411 t412 t413 (t423 != t424)) = some r := H
              have A33 := Aside0.mk A330
              clear A330
              have H' := Aside0.mk H
              clear H
              go_wp2_with (first | ((with_reducible refine gate_callee (f := 20) rfl ?_); refine goesL_ (some 72) rfl rfl Try.func20 (by kernel_rfl) rfl #[.slice Ao14 t392.length co14, .int .i64 t393] rfl (by (try simp only [List.map_toArray, List.map_cons, List.map_nil]); first | done | rfl | (simp only [List.length_drop, List.length_take]; rfl)) ?_; (with_reducible refine (spec_ReachOf.calls k _ _ t392 t393 t420 _ ?side1 ?side2 A23.out).mono ?_); (case side1 => exact ce_ ((Kd.Q_reads' HO395.out).2.2)); (case side2 => exact (Kd.Q_reads' HO395.out).2.1); rintro e w34 ⟨rfl, hb⟩; refine ⟨_, rfl, ?_⟩; have n0_ := Aside0.mk (Kd.Q_below (by (with_reducible repeat (first | apply Kd.Q_alloc | apply Kd.Q_drewN | apply Kd.Q_drew)); exact HO395.out) hb); have n1_ := Aside0.mk (Kd.Q_below (by (with_reducible repeat (first | apply Kd.Q_alloc | apply Kd.Q_drewN | apply Kd.Q_drew)); exact HO401.out) hb); have n2_ := Aside0.mk (Kd.R_below (re_ HO405.out) hb); have n3_ := Aside0.mk (Kd.R_below (re_ HO409.out) hb); have n4_ := Aside0.mk (Kd.R_below (re_ HO415.out) hb); have n5_ := Aside0.mk (Kd.R_below (re_ HO419.out) hb); have n6_ := Aside0.mk (below_step (bl_ HB.out) hb); clear HO395; clear HO401; clear HO405; clear HO409; clear HO415; clear HO419; clear HB; have HO395 := n0_; have HO401 := n1_; have HO405 := n2_; have HO409 := n3_; have HO415 := n4_; have HO419 := n5_; have HB := n6_; clear n0_ n1_ n2_ n3_ n4_ n5_ n6_; (try clear hb); (try clear hb2); (try clear hk); (try clear hi); obtain ⟨Ao35, co35, eo35⟩ := Kd.R_slice HO405.out; subst eo35; obtain ⟨Ao36, co36, eo36⟩ := Kd.R_slice HO409.out; subst eo36) | (go_at_call 21; (with_reducible refine (laws_sameInts.calls k _ _ t402 _ _ t406 true _ ?side1 ?side2 ?side3 ?side4 A27.out).mono ?_); (case side1 => exact ce_ ((Kd.R_reads' HO405.out).2.2)); (case side2 => exact (Kd.R_reads' HO405.out).2.1); (case side3 => exact ce_ ((Kd.R_reads' HO409.out).2.2)); (case side4 => exact (Kd.R_reads' HO409.out).2.1); rintro e w' ⟨rfl, ⟨nd, rfl⟩⟩; obtain ⟨Ao37, co37, eo37⟩ := Kd.R_slice HO415.out; subst eo37; obtain ⟨Ao38, co38, eo38⟩ := Kd.R_slice HO419.out; subst eo38) | (go_at_call 21; (with_reducible refine (laws_sameInts.calls k _ _ t412 _ _ t416 true _ ?side1 ?side2 ?side3 ?side4 A29.out).mono ?_); (case side1 => exact ce_ ((Kd.R_reads' HO415.out).2.2)); (case side2 => exact (Kd.R_reads' HO415.out).2.1); (case side3 => exact ce_ ((Kd.R_reads' HO419.out).2.2)); (case side4 => exact (Kd.R_reads' HO419.out).2.1); rintro e w' ⟨rfl, ⟨nd, rfl⟩⟩) | (go_at_call 22; (with_reducible refine (impl_AreStamps.calls k _ _ t392 t423 _ ?side1 ?side2 A32.out).mono ?_); (case side1 => exact ce_ ((Kd.Q_reads' HO395.out).2.2)); (case side2 => exact (Kd.Q_reads' HO395.out).2.1); rintro e w' ⟨rfl, ⟨nd, rfl⟩⟩) | (go_at_call 23; (with_reducible refine (spec_AreStamps.calls k _ _ t392 t424 _ ?side1 ?side2 A33.out).mono ?_); (case side1 => exact ce_ ((Kd.Q_reads' HO395.out).2.2)); (case side2 => exact (Kd.Q_reads' HO395.out).2.1); rintro e w' ⟨rfl, ⟨nd, rfl⟩⟩))
              go_meet
              case rel => exact ⟨_, ((t423 != t424)), (by first | rfl | (simp; done) | (simp [*]; done)), H', ⟨by first | omega | exact Nat.le_refl _⟩, ⟨by (with_reducible repeat (first | apply Kd.Q_alloc | apply Kd.Q_drewN | apply Kd.Q_drew)); exact Kd.Q_mono HO395.out (fun _ hk => ⟨hk.1.1.1.1.2, ⟨hk.1.1.1.2, hk.1.2⟩⟩)⟩, ⟨by (with_reducible repeat (first | apply Kd.Q_alloc | apply Kd.Q_drewN | apply Kd.Q_drew)); exact Kd.Q_mono HO401.out (fun _ hk => ⟨hk.1.1.1.1.2, ⟨hk.1.1.1.2, hk.1.2⟩⟩)⟩, ⟨by (with_reducible repeat (first | apply Kd.R_alloc | apply Kd.R_drewN | apply Kd.R_drew)); exact Kd.R_mono HO405.out (fun _ hk => ⟨hk.1.1.1.1.2, ⟨hk.1.1.1.2, hk.1.2⟩⟩)⟩, ⟨by (with_reducible repeat (first | apply Kd.R_alloc | apply Kd.R_drewN | apply Kd.R_drew)); exact Kd.R_mono HO415.out (fun _ hk => ⟨hk.1.1.1.1.2, ⟨hk.1.1.1.2, hk.1.1.2⟩⟩)⟩, ⟨bl_ HB.out⟩⟩
            · rw [if_neg c31] at H
              exact absurd (H.trans (congrArg some hr_.out)) (by cases k <;> simp [laws_FnStamps.j0])
          · replace c30 := Bool.eq_false_iff.mpr c30
            subst c30
            have H1 : (laws_FnStamps.j0 k t392 t393 t396 t397 t398 t399 t402 t403 t410 t411 t412 t413 true) = some r := by rw [if_neg (show ¬ (false = true) by decide)] at H; exact H
            exact absurd (H1.trans (congrArg some hr_.out)) (by cases k <;> simp [laws_FnStamps.j0])
        · replace c28 := Bool.eq_false_iff.mpr c28
          subst c28
          have H1 : (laws_FnStamps.j0 k t392 t393 t396 t397 t398 t399 t402 t403 t410 t411 t412 t413 true) = some r := by rw [if_neg (show ¬ (false = true) by decide)] at H; exact H
          exact absurd (H1.trans (congrArg some hr_.out)) (by cases k <;> simp [laws_FnStamps.j0])
    · rw [if_neg c24] at H
      exact absurd (H.trans (congrArg some hr_.out)) (by cases k <;> simp [laws_FnStamps.j0])
   case rest =>
    clear HC12
    try clear c1
    try clear c2
    try clear p2
    try clear c3
    try clear c4
    try clear c8
    try clear c9
    try clear c13
    try clear c14
    try clear c15
    try clear c16
    try clear c17
    try clear c18
    try clear c19
    try clear c20
    try clear c24
    try clear c24b0
    try clear c24b1
    try clear c25
    try clear c25b0
    try clear c25b1
    try clear c25b2
    try clear c28
    try clear c30
    try clear c31
    try clear c31b0
    try clear c31b1
    obtain ⟨kq, x102_11, rfl, HA, HJ11, HO_3, HO_6, HO_9, HO_15, HB⟩ := hcut
    cases kq with
    | zero => exact absurd HA.out (by simp [laws_FnStamps.j0])
    | succ kj11 =>
     have H := HA.out
     clear HA
     simp only [laws_FnStamps.j0] at H
     by_cases c53 : x102_11 = true
     · subst c53
       have H1 : (some false) = some r := by rw [if_pos rfl] at H; exact H
       exact absurd (H1.trans (congrArg some hr_.out)) (by simp)
     · replace c53 := Bool.eq_false_iff.mpr c53
       subst c53
       have H1 : (if t403 = true then ((laws_worth.f kj11 t402 t397).bind fun t425 => (if t425 = t399 then ((laws_total.f kj11 t402).bind fun t426 => (laws_FnStamps.j1 kj11 t392 t393 t396 t410 t411 t412 t413 (decide (t426 > t398)))) else (laws_FnStamps.j1 kj11 t392 t393 t396 t410 t411 t412 t413 true))) else (laws_FnStamps.j1 kj11 t392 t393 t396 t410 t411 t412 t413 false)) = some r := by rw [if_neg (show ¬ (false = true) by decide)] at H; exact H
       clear H
       have H := H1
       clear H1
       have HC54 := Aside0.mk H
       clear H
       go_upto_region 13 with (fail)
       go_cut [116] (fun v116 wc => ∃ (kq : Nat) (x116_53 : Bool), v116 = .bool x116_53 ∧ Aside0 (laws_FnStamps.j1 kq t392 t393 t396 t410 t411 t412 t413 x116_53 = some r) ∧ Aside0 (kq ≤ kj11) ∧ Aside0 (Kd.Q (Kd.int .i64) 3 wc w.heap.size (fun k_ => some k_ ≠ (v414 : Value).ownBlock) (.slice Ao14 t392.length co14) t392) ∧ Aside0 (Kd.R (Kd.int .i64) 3 wc w.heap.size (fun k_ => some k_ ≠ ((.slice Ao14 t392.length co14) : Value).ownBlock) v414 t412) ∧ Aside0 (Below w.heap.size w wc))
       case first =>
        have H := HC54.out
        clear HC54
        by_cases c55 : t403 = true
        · subst c55
          have H1 : ((laws_worth.f kj11 t402 t397).bind fun t425 => (if t425 = t399 then ((laws_total.f kj11 t402).bind fun t426 => (laws_FnStamps.j1 kj11 t392 t393 t396 t410 t411 t412 t413 (decide (t426 > t398)))) else (laws_FnStamps.j1 kj11 t392 t393 t396 t410 t411 t412 t413 true))) = some r := by rw [if_pos rfl] at H; exact H
          clear H
          have H := H1
          clear H1
          replace H := Option.bind_eq_some_iff.mp H
          obtain ⟨t425, A560, H⟩ := H
          replace H : (if t425 = t399 then ((laws_total.f kj11 t402).bind fun t426 => (laws_FnStamps.j1 kj11 t392 t393 t396 t410 t411 t412 t413 (decide (t426 > t398)))) else (laws_FnStamps.j1 kj11 t392 t393 t396 t410 t411 t412 t413 true)) = some r := H
          have A56 := Aside0.mk A560
          clear A560
          by_cases c57 : t425 = t399
          · rw [if_pos c57] at H
            have c57b0 : (t425 == t399) = true := beq_iff_eq.mpr c57
            have c57b1 : (t425 != t399) = false := bne_eq_false_iff_eq.mpr c57
            clear c57
            (first | rw [c57b0] | (simp only [i64_w, i32_w]; rw [c57b0]) | skip)
            replace H := Option.bind_eq_some_iff.mp H
            obtain ⟨t426, A580, H⟩ := H
            replace H : (laws_FnStamps.j1 kj11 t392 t393 t396 t410 t411 t412 t413 (decide (t426 > t398))) = some r := H
            have A58 := Aside0.mk A580
            clear A580
            have H' := Aside0.mk H
            clear H
            obtain ⟨Ao59, co59, eo59⟩ := Kd.R_slice HO_9.out
            subst eo59
            go_wp2_with (first | (go_at_call 24; (with_reducible refine (laws_worth.calls kj11 _ _ t402 _ _ t397 t425 _ ?side1 ?side2 ?side3 ?side4 A56.out).mono ?_); (case side1 => exact ce_ ((Kd.R_reads' HO_9.out).2.2)); (case side2 => exact (Kd.R_reads' HO_9.out).2.1); (case side3 => exact ce_ ((Kd.Q_reads' HO_6.out).2.2)); (case side4 => exact (Kd.Q_reads' HO_6.out).2.1); rintro e w' ⟨rfl, ⟨nd, rfl⟩⟩) | (go_at_call 25; (with_reducible refine (laws_total.calls kj11 _ _ t402 t426 _ ?side1 ?side2 A58.out).mono ?_); (case side1 => exact ce_ ((Kd.R_reads' HO_9.out).2.2)); (case side2 => exact (Kd.R_reads' HO_9.out).2.1); rintro e w' ⟨rfl, ⟨nd, rfl⟩⟩))
            go_meet
            case rel => exact ⟨_, (decide (t426 > t398)), (by first | rfl | (simp; done) | (simp [*]; done)), H', ⟨by have := HJ11.out; first | omega | exact Nat.le_refl _⟩, ⟨by (with_reducible repeat (first | apply Kd.Q_alloc | apply Kd.Q_drewN | apply Kd.Q_drew)); exact Kd.Q_mono HO_3.out (fun _ hk => hk.2.2)⟩, ⟨by (with_reducible repeat (first | apply Kd.R_alloc | apply Kd.R_drewN | apply Kd.R_drew)); exact Kd.R_mono HO_15.out (fun _ hk => hk.1)⟩, ⟨bl_ HB.out⟩⟩
          · rw [if_neg c57] at H
            exact absurd (H.trans (congrArg some hr_.out)) (by cases kj11 <;> simp [laws_FnStamps.j1])
        · replace c55 := Bool.eq_false_iff.mpr c55
          subst c55
          have H1 : (laws_FnStamps.j1 kj11 t392 t393 t396 t410 t411 t412 t413 false) = some r := by rw [if_neg (show ¬ (false = true) by decide)] at H; exact H
          clear H
          have H := H1
          clear H1
          have H' := Aside0.mk H
          clear H
          go_wp2
          go_meet
          case rel => exact ⟨_, (false), (by first | rfl | (simp; done) | (simp [*]; done)), H', ⟨by have := HJ11.out; first | omega | exact Nat.le_refl _⟩, ⟨by (with_reducible repeat (first | apply Kd.Q_alloc | apply Kd.Q_drewN | apply Kd.Q_drew)); exact Kd.Q_mono HO_3.out (fun _ hk => hk.2.2)⟩, ⟨by (with_reducible repeat (first | apply Kd.R_alloc | apply Kd.R_drewN | apply Kd.R_drew)); exact Kd.R_mono HO_15.out (fun _ hk => hk.1)⟩, ⟨bl_ HB.out⟩⟩
       case rest =>
        clear HC54
        try clear c1
        try clear c2
        try clear p2
        try clear c3
        try clear c4
        try clear c5
        try clear c8
        try clear c9
        try clear c13
        try clear c14
        try clear c15
        try clear c16
        try clear c17
        try clear c18
        try clear c19
        try clear c20
        try clear c24
        try clear c24b0
        try clear c24b1
        try clear c25
        try clear c25b0
        try clear c25b1
        try clear c25b2
        try clear c28
        try clear c30
        try clear c31
        try clear c31b0
        try clear c31b1
        try clear c53
        try clear c55
        try clear c57
        try clear c57b0
        try clear c57b1
        try clear p2
        obtain ⟨kq, x116_53, rfl, HA, HJ53, HO_3, HO_15, HB⟩ := hcut
        cases kq with
        | zero => exact absurd HA.out (by simp [laws_FnStamps.j1])
        | succ kj53 =>
         have H := HA.out
         clear HA
         simp only [laws_FnStamps.j1] at H
         by_cases c61 : x116_53 = true
         · subst c61
           have H1 : (some false) = some r := by rw [if_pos rfl] at H; exact H
           exact absurd (H1.trans (congrArg some hr_.out)) (by simp)
         · replace c61 := Bool.eq_false_iff.mpr c61
           subst c61
           have H1 : (laws_FnStamps.l0 kj53 t392 t393 t396 t410 t411 t412 t413 1) = some r := by rw [if_neg (show ¬ (false = true) by decide)] at H; exact H
           clear H
           have H := H1
           clear H1
           have H' := Aside0.mk H
           clear H
           go_wp2
           go_loopg [19] kj53 (fun kq v19 w' => ∃ (x19_3 : Int), v19 = .int .i64 x19_3 ∧ Aside0 (laws_FnStamps.l0 kq t392 t393 t396 t410 t411 t412 t413 x19_3 = some r) ∧ Aside0 (kq ≤ kj53) ∧ Aside0 (Kd.Q (Kd.int .i64) 3 w' w.heap.size (fun k_ => some k_ ≠ (v414 : Value).ownBlock) (.slice Ao14 t392.length co14) t392) ∧ Aside0 (Kd.R (Kd.int .i64) 3 w' w.heap.size (fun k_ => some k_ ≠ ((.slice Ao14 t392.length co14) : Value).ownBlock) v414 t412) ∧ Aside0 (Below w.heap.size w w'))
           case atStart => exact ⟨(1), (by first | rfl | (simp; done) | (simp [*]; done)), H', ⟨Nat.le_refl _⟩, ⟨by (with_reducible repeat (first | apply Kd.Q_alloc | apply Kd.Q_drewN | apply Kd.Q_drew)); exact HO_3.out⟩, ⟨re_ HO_15.out⟩, ⟨bl_ HB.out⟩⟩
           case round =>
            clear H'
            try clear c1
            try clear c2
            try clear p2
            try clear c3
            try clear c4
            try clear c5
            try clear c6
            try clear c8
            try clear c9
            try clear c13
            try clear c14
            try clear c15
            try clear c16
            try clear c17
            try clear c18
            try clear c19
            try clear c20
            try clear c24
            try clear c24b0
            try clear c24b1
            try clear c25
            try clear c25b0
            try clear c25b1
            try clear c25b2
            try clear c28
            try clear c30
            try clear c31
            try clear c31b0
            try clear c31b1
            try clear c53
            try clear c55
            try clear c57
            try clear c57b0
            try clear c57b1
            try clear c61
            try clear p2
            obtain ⟨x19_3, rfl, HA, HK3, HO_3, HO_15, HB⟩ := hrel
            cases gk with
            | zero => exact absurd HA.out (by simp [laws_FnStamps.l0])
            | succ k3 =>
             have H := HA.out
             clear HA
             simp only [laws_FnStamps.l0] at H
             have HC62 := Aside0.mk H
             clear H
             go_upto_region 16 with (fail)
             go_cut [124] (fun v124 wc => ∃ (kq : Nat) (x124_61 : Bool), v124 = .bool x124_61 ∧ Aside0 (laws_FnStamps.j3 kq t392 t393 t396 t410 t411 t412 t413 x19_3 x124_61 = some r) ∧ Aside0 (kq ≤ k3) ∧ Aside0 (Kd.Q (Kd.int .i64) 3 wc w.heap.size (fun k_ => some k_ ≠ (v414 : Value).ownBlock) (.slice Ao14 t392.length co14) t392) ∧ Aside0 (Kd.R (Kd.int .i64) 3 wc w.heap.size (fun k_ => some k_ ≠ ((.slice Ao14 t392.length co14) : Value).ownBlock) v414 t412) ∧ Aside0 (Below w.heap.size w wc))
             case first =>
              have H := HC62.out
              clear HC62
              by_cases c63 : x19_3 ≤ (wrap64 (t396 + 1))
              · rw [if_pos c63] at H
                have c63b0 : decide (x19_3 ≤ (wrap64 (t396 + 1))) = true := decide_eq_true c63
                clear c63
                (first | rw [c63b0] | (simp only [i64_w, i32_w]; rw [c63b0]) | skip)
                have H' := Aside0.mk H
                clear H
                go_wp2
                go_meet
                case rel => exact ⟨_, (decide (t396 ≥ 0)), (by first | rfl | (simp; done) | (simp [*]; done)), H', ⟨by have := HJ11.out; have := HJ53.out; have := HK3.out; first | omega | exact Nat.le_refl _⟩, ⟨by (with_reducible repeat (first | apply Kd.Q_alloc | apply Kd.Q_drewN | apply Kd.Q_drew)); exact HO_3.out⟩, ⟨re_ HO_15.out⟩, ⟨bl_ HB.out⟩⟩
              · rw [if_neg c63] at H
                have c63b0 : decide (x19_3 ≤ (wrap64 (t396 + 1))) = false := decide_eq_false c63
                clear c63
                (first | rw [c63b0] | (simp only [i64_w, i32_w]; rw [c63b0]) | skip)
                have H' := Aside0.mk H
                clear H
                go_wp2
                go_meet
                case rel => exact ⟨_, (false), (by first | rfl | (simp; done) | (simp [*]; done)), H', ⟨by have := HJ11.out; have := HJ53.out; have := HK3.out; first | omega | exact Nat.le_refl _⟩, ⟨by (with_reducible repeat (first | apply Kd.Q_alloc | apply Kd.Q_drewN | apply Kd.Q_drew)); exact HO_3.out⟩, ⟨re_ HO_15.out⟩, ⟨bl_ HB.out⟩⟩
             case rest =>
              clear HC62
              try clear c1
              try clear c2
              try clear p2
              try clear c3
              try clear c4
              try clear c5
              try clear c6
              try clear p6
              try clear c8
              try clear c9
              try clear c13
              try clear c14
              try clear c15
              try clear c16
              try clear c17
              try clear c18
              try clear c19
              try clear c20
              try clear c24
              try clear c24b0
              try clear c24b1
              try clear c25
              try clear c25b0
              try clear c25b1
              try clear c25b2
              try clear c28
              try clear c30
              try clear c31
              try clear c31b0
              try clear c31b1
              try clear c53
              try clear c55
              try clear c57
              try clear c57b0
              try clear c57b1
              try clear c61
              try clear c63
              try clear c63b0
              try clear p2
              obtain ⟨kq, x124_61, rfl, HA, HJ61, HO_3, HO_15, HB⟩ := hcut
              cases kq with
              | zero => exact absurd HA.out (by simp [laws_FnStamps.j3])
              | succ kj61 =>
               have H := HA.out
               clear HA
               simp only [laws_FnStamps.j3] at H
               by_cases c64 : x124_61 = true
               · subst c64
                 have H1 : ((impl_StampsFor.f kj61 t392 t393 x19_3).bind fun bt427 => (if (bt427.2 != (decide (x19_3 ≤ t396))) = true then (some false) else (laws_FnStamps.l0 kj61 t392 t393 t396 t410 t411 t412 t413 (wrap64 (x19_3 + 1))))) = some r := by rw [if_pos rfl] at H; exact H
                 clear H
                 have H := H1
                 clear H1
                 replace H := Option.bind_eq_some_iff.mp H
                 obtain ⟨⟨t427, t428⟩, A650, H⟩ := H
                 replace H : (if (t428 != (decide (x19_3 ≤ t396))) = true then (some false) else (laws_FnStamps.l0 kj61 t392 t393 t396 t410 t411 t412 t413 (wrap64 (x19_3 + 1)))) = some r := H
                 have A65 := Aside0.mk A650
                 clear A650
                 by_cases c66 : (t428 != (decide (x19_3 ≤ t396))) = true
                 · rw [if_pos c66] at H
                   exact absurd (H.trans (congrArg some hr_.out)) (by simp)
                 · rw [if_neg c66] at H
                   have c66b0 : (t428 != (decide (x19_3 ≤ t396))) = false := by simpa using c66
                   (try (have c66b1 : decide (t428 = (decide (x19_3 ≤ t396))) = true := by simpa using c66))
                   (try (have c66b2 : (t428 == (decide (x19_3 ≤ t396))) = true := by simpa using c66))
                   clear c66
                   have H' := Aside0.mk H
                   clear H
                   go_wp2_with (first | ((with_reducible refine gate_callee (f := 17) rfl ?_); refine goesL_ (some 131) rfl rfl Try.func17 (by kernel_rfl) rfl #[.slice Ao14 t392.length co14, .int .i64 t393, .int .i64 x19_3] rfl (by (try simp only [List.map_toArray, List.map_cons, List.map_nil]); first | done | rfl | (simp only [List.length_drop, List.length_take]; rfl)) ?_; (with_reducible refine (impl_StampsFor.calls kj61 _ _ t392 t393 x19_3 t427 t428 _ ?side1 ?side2 A65.out).mono ?_); (case side1 => exact ce_ ((Kd.Q_reads' HO_3.out).2.2)); (case side2 => exact (Kd.Q_reads' HO_3.out).2.1); rintro e w68 ⟨v429, rfl, ho0, hb⟩; refine ⟨_, rfl, ?_⟩; have n0_ := Aside0.mk (Kd.Q_elder' (by (with_reducible repeat (first | apply Kd.Q_alloc | apply Kd.Q_drewN | apply Kd.Q_drew)); exact HO_3.out) (Kd.R_base ho0) hb); have n1_ := Aside0.mk (Kd.R_elder' (re_ HO_15.out) (Kd.R_base ho0) hb); have n2_ := Aside0.mk (Kd.R_lower (Kd.R_new' (Kd.R_new' ho0 (Kd.Q_lt (by (with_reducible repeat (first | apply Kd.Q_alloc | apply Kd.Q_drewN | apply Kd.Q_drew)); exact HO_3.out))) (Kd.R_lt (re_ HO_15.out))) (below_size (bl_ HB.out))); have n3_ := Aside0.mk (below_step (bl_ HB.out) hb); clear HO_3; clear HO_15; clear HB; have HO_3 := n0_; have HO_15 := n1_; have HO430 := n2_; have HB := n3_; clear n0_ n1_ n2_ n3_; (try clear hb); (try clear hb2); (try clear hk); (try clear hi); (try clear ho0)))
                   go_roundg kj61
                   case measure => have := HJ11.out; have := HJ53.out; have := HK3.out; have := HJ61.out; omega
                   case rel => exact ⟨(wrap64 (x19_3 + 1)), (by first | rfl | (simp; done) | (simp [*]; done)), H', ⟨by have := HJ11.out; have := HJ53.out; have := HK3.out; have := HJ61.out; omega⟩, ⟨by (with_reducible repeat (first | apply Kd.Q_alloc | apply Kd.Q_drewN | apply Kd.Q_drew)); exact Kd.Q_mono HO_3.out (fun _ hk => hk.1)⟩, ⟨by (with_reducible repeat (first | apply Kd.R_alloc | apply Kd.R_drewN | apply Kd.R_drew)); exact Kd.R_mono HO_15.out (fun _ hk => hk.1)⟩, ⟨bl_ HB.out⟩⟩
               · replace c64 := Bool.eq_false_iff.mpr c64
                 subst c64
                 have H1 : (if (t412.length : Int) = 0 then (some true) else ((impl_ReachOf.f kj61 t412 t411).bind fun t431 => (if t431 = t413 then (if (t412.length : Int) = t410 then (if (t392.length : Int) = t410 then ((impl_ReachOf.f kj61 t392 t411).bind fun t432 => (some (decide (t432 ≤ t413)))) else (some true)) else (some false)) else (some false)))) = some r := by rw [if_neg (show ¬ (false = true) by decide)] at H; exact H
                 clear H
                 have H := H1
                 clear H1
                 by_cases c69 : (t412.length : Int) = 0
                 · rw [if_pos c69] at H
                   have c69b0 : ((t412.length : Int) == 0) = true := beq_iff_eq.mpr c69
                   have c69b1 : ((t412.length : Int) != 0) = false := bne_eq_false_iff_eq.mpr c69
                   clear c69
                   obtain rfl := Option.some.inj H
                   obtain ⟨Ao70, co70, eo70⟩ := Kd.R_slice HO_15.out
                   subst eo70
                   go_wp2
                   go_ret
                   exact ⟨by first | rfl | (simp [errW_none, errW_some] <;> rfl) | (simp [*, errW_none, errW_some] <;> rfl), bl_ HB.out⟩
                 · rw [if_neg c69] at H
                   have c69b0 : ((t412.length : Int) == 0) = false := beq_eq_false_iff_ne.mpr c69
                   have c69b1 : ((t412.length : Int) != 0) = true := bne_iff_ne.mpr c69
                   have c69b2 : ¬ (t412 = []) := fun h_ => c69 (by rw [h_]; rfl)
                   replace H := Option.bind_eq_some_iff.mp H
                   obtain ⟨t431, A710, H⟩ := H
                   replace H : (if t431 = t413 then (if (t412.length : Int) = t410 then (if (t392.length : Int) = t410 then ((impl_ReachOf.f kj61 t392 t411).bind fun t432 => (some (decide (t432 ≤ t413)))) else (some true)) else (some false)) else (some false)) = some r := H
                   have A71 := Aside0.mk A710
                   clear A710
                   by_cases c72 : t431 = t413
                   · rw [if_pos c72] at H
                     have c72b0 : (t431 == t413) = true := beq_iff_eq.mpr c72
                     have c72b1 : (t431 != t413) = false := bne_eq_false_iff_eq.mpr c72
                     clear c72
                     by_cases c73 : (t412.length : Int) = t410
                     · rw [if_pos c73] at H
                       have c73b0 : ((t412.length : Int) == t410) = true := beq_iff_eq.mpr c73
                       have c73b1 : ((t412.length : Int) != t410) = false := bne_eq_false_iff_eq.mpr c73
                       clear c73
                       by_cases c74 : (t392.length : Int) = t410
                       · rw [if_pos c74] at H
                         have c74b0 : ((t392.length : Int) == t410) = true := beq_iff_eq.mpr c74
                         have c74b1 : ((t392.length : Int) != t410) = false := bne_eq_false_iff_eq.mpr c74
                         clear c74
                         replace H := Option.bind_eq_some_iff.mp H
                         obtain ⟨t432, A750, H⟩ := H
                         replace H : (some (decide (t432 ≤ t413))) = some r := H
                         have A75 := Aside0.mk A750
                         clear A750
                         obtain rfl := Option.some.inj H
                         obtain ⟨Ao76, co76, eo76⟩ := Kd.R_slice HO_15.out
                         subst eo76
                         go_wp2_with (first | (go_at_call 15; (with_reducible refine (impl_ReachOf.calls kj61 _ _ t412 t411 t431 _ ?side1 ?side2 A71.out).mono ?_); (case side1 => exact ce_ ((Kd.R_reads' HO_15.out).2.2)); (case side2 => exact (Kd.R_reads' HO_15.out).2.1); rintro e w77 ⟨rfl, hb⟩; have n0_ := Aside0.mk (Kd.Q_below (by (with_reducible repeat (first | apply Kd.Q_alloc | apply Kd.Q_drewN | apply Kd.Q_drew)); exact HO_3.out) hb); have n1_ := Aside0.mk (Kd.R_below (re_ HO_15.out) hb); have n2_ := Aside0.mk (below_step (bl_ HB.out) hb); clear HO_3; clear HO_15; clear HB; have HO_3 := n0_; have HO_15 := n1_; have HB := n2_; clear n0_ n1_ n2_; (try clear hb); (try clear hb2); (try clear hk); (try clear hi)) | (go_at_call 15; (with_reducible refine (impl_ReachOf.calls kj61 _ _ t392 t411 t432 _ ?side1 ?side2 A75.out).mono ?_); (case side1 => exact ce_ ((Kd.Q_reads' HO_3.out).2.2)); (case side2 => exact (Kd.Q_reads' HO_3.out).2.1); rintro e w78 ⟨rfl, hb⟩; have n0_ := Aside0.mk (Kd.Q_below (by (with_reducible repeat (first | apply Kd.Q_alloc | apply Kd.Q_drewN | apply Kd.Q_drew)); exact HO_3.out) hb); have n1_ := Aside0.mk (Kd.R_below (re_ HO_15.out) hb); have n2_ := Aside0.mk (below_step (bl_ HB.out) hb); clear HO_3; clear HO_15; clear HB; have HO_3 := n0_; have HO_15 := n1_; have HB := n2_; clear n0_ n1_ n2_; (try clear hb); (try clear hb2); (try clear hk); (try clear hi)))
                         go_ret
                         exact ⟨by first | rfl | (simp [errW_none, errW_some] <;> rfl) | (simp [*, errW_none, errW_some] <;> rfl), bl_ HB.out⟩
                       · rw [if_neg c74] at H
                         have c74b0 : ((t392.length : Int) == t410) = false := beq_eq_false_iff_ne.mpr c74
                         have c74b1 : ((t392.length : Int) != t410) = true := bne_iff_ne.mpr c74
                         obtain rfl := Option.some.inj H
                         obtain ⟨Ao79, co79, eo79⟩ := Kd.R_slice HO_15.out
                         subst eo79
                         go_wp2_with (first | (go_at_call 15; (with_reducible refine (impl_ReachOf.calls kj61 _ _ t412 t411 t431 _ ?side1 ?side2 A71.out).mono ?_); (case side1 => exact ce_ ((Kd.R_reads' HO_15.out).2.2)); (case side2 => exact (Kd.R_reads' HO_15.out).2.1); rintro e w80 ⟨rfl, hb⟩; have n0_ := Aside0.mk (Kd.Q_below (by (with_reducible repeat (first | apply Kd.Q_alloc | apply Kd.Q_drewN | apply Kd.Q_drew)); exact HO_3.out) hb); have n1_ := Aside0.mk (Kd.R_below (re_ HO_15.out) hb); have n2_ := Aside0.mk (below_step (bl_ HB.out) hb); clear HO_3; clear HO_15; clear HB; have HO_3 := n0_; have HO_15 := n1_; have HB := n2_; clear n0_ n1_ n2_; (try clear hb); (try clear hb2); (try clear hk); (try clear hi)))
                         go_ret
                         exact ⟨by first | rfl | (simp [errW_none, errW_some] <;> rfl) | (simp [*, errW_none, errW_some] <;> rfl), bl_ HB.out⟩
                     · rw [if_neg c73] at H
                       exact absurd (H.trans (congrArg some hr_.out)) (by simp)
                   · rw [if_neg c72] at H
                     exact absurd (H.trans (congrArg some hr_.out)) (by simp)
def laws_FnStamps.Pure : Prop := ∀ (l0 : List Int), l0.length ≤ maxLen → l0.length * 1 ≤ 140737488351232 → (∀ x ∈ l0, (Lit.int .u8 x).wf = true) → ∃ k, laws_FnStamps.f k l0 = some true
theorem laws_FnStamps.walk (P : laws_FnStamps.Pure) (a0 : Option Addr) (len0 cap0 : Nat) (z0 : List Int) (w : World) (w0 : (a0 = none ∧ len0 = 0 ∧ cap0 = 0 ∧ z0 = []) ∨ ∃ x, a0 = some x ∧ len0 ≤ cap0 ∧ cap0 ≤ maxLen ∧ z0.length = cap0 ∧ (∀ i, i < z0.length → w.cell? (x.add i) = some (.int .u8 (z0.getD i 0))) ∧ ∀ n ∈ z0, (Lit.int .u8 n).wf = true) (y0 : len0 * 1 ≤ 140737488351232) :
 Calls Try.prog 4 #[.slice a0 len0 cap0] w fun e w' => e = .returned (.bool true) ∧ Below w.heap.size w w' := by
 obtain ⟨l0, rfl, hr0, hm0, hw0, hc0⟩ := ReadsInt.ofRowC w0
 obtain ⟨k, h⟩ := P l0 hm0 y0 hw0
 refine (laws_FnStamps.calls k _ _ l0 true w (Kd.C_of_reads (d := (0 : Int)) (h1 := fun _ => rfl) hr0) hc0 h).mono ?_
 rintro e w' ⟨rfl, hd⟩
 exact ⟨rfl, hd⟩
end Go.Proofs.Ythkhpejggdnkfaa.PB
end
section
namespace Go.Proofs.Ythkhpejggdnkfaa.E
open Go.RowKit Go.Proofs.YthkhpejggdnkfaaW.PrintWords Go.Proofs.YthkhpejggdnkfaaW.PrintLast Go.Proofs.YthkhpejggdnkfaaW.PrintMore
set_option linter.unusedVariables false
set_option linter.unusedSimpArgs false
theorem w64 {x : Int} (h1 : -9223372036854775808 ≤ x) (h2 : x ≤ 9223372036854775807) : wrap64 x = x := by
 unfold wrap64; omega
theorem nd_t {p : Prop} [Decidable p] (h : ¬ p) : (!decide p) = true := by simp [h]
theorem nd_f {p : Prop} [Decidable p] (h : p) : ¬ (!decide p) = true := by simp [h]
theorem d_t {p : Prop} [Decidable p] (h : p) : decide p = true := by simp [h]
theorem ev_ifp {α : Type} {c : Prop} [Decidable c] {a b : Nat → Option α} {r : α} (h : c) (k : Ev a r) : Ev (fun n => if c then a n else b n) r :=
 Ev.congr (fun _ => if_pos h) k
theorem ev_ifn {α : Type} {c : Prop} [Decidable c] {a b : Nat → Option α} {r : α} (h : ¬ c) (k : Ev b r) : Ev (fun n => if c then a n else b n) r :=
 Ev.congr (fun _ => if_neg h) k
theorem ev_eq {α : Type} {o : Option α} {r : α} (h : o = some r) : Ev (fun _ => o) r := ⟨0, fun _ _ => h⟩
theorem ev_bind {α β : Type} {g : Nat → Option α} {f : Nat → α → Option β} (a : α) {r : β} (h : Ev g a) (k : Ev (fun n => f n a) r) : Ev (fun n => (g n).bind (f n)) r := Ev.bind h k
theorem ev_to {α : Type} {g : Nat → Option α} {a b : α} (h : Ev g a) (e : a = b) : Ev g b := e ▸ h
theorem rd_lt {l : List Int} {i : Int} (h0 : 0 ≤ i) (h : i < l.length) : rd l i = l[i.toNat]'(by omega) := by
 unfold rd; rw [List.getD_eq_getElem?_getD, List.getElem?_eq_getElem (by omega)]; rfl
theorem rd_mem {l : List Int} {i : Int} (h0 : 0 ≤ i) (h : i < l.length) : rd l i ∈ l := by
 rw [rd_lt h0 h]; exact List.getElem_mem _
theorem drop_rd {l : List Int} {i : Int} (h0 : 0 ≤ i) (h : i < l.length) : l.drop i.toNat = rd l i :: l.drop (i + 1).toNat := by
 rw [rd_lt h0 h, List.drop_eq_getElem_cons (by omega)]
 congr 2; omega
theorem take_rd {l : List Int} {i : Int} (h0 : 0 ≤ i) (h : i < l.length) : l.take (i + 1).toNat = l.take i.toNat ++ [rd l i] := by
 rw [rd_lt h0 h, show (i + 1).toNat = i.toNat + 1 from by omega, List.take_succ_eq_append_getElem (by omega)]
theorem rd_ext {l m : List Int} (hl : l.length = m.length) (h : ∀ i : Int, 0 ≤ i → i < l.length → rd l i = rd m i) : l = m := by
 refine List.ext_getElem hl fun n h1 h2 => ?_
 have := h n (by omega) (by omega)
 rw [rd_lt (by omega) (by omega), rd_lt (by omega) (by omega)] at this
 simpa using this
theorem rd_set {l : List Int} {i j : Int} (x : Int) (hi : 0 ≤ i) (hi' : i < l.length) (hj : 0 ≤ j) : rd (l.set i.toNat x) j = if j = i then x else rd l j := by
 unfold rd
 rw [List.getD_eq_getElem?_getD, List.getD_eq_getElem?_getD, List.getElem?_set]
 by_cases h : j = i
 · subst h; rw [if_pos rfl, if_pos rfl, if_pos (by omega)]; rfl
 · rw [if_neg h, if_neg (by omega)]
theorem rd_append {l m : List Int} {i : Int} (hi : 0 ≤ i) : rd (l ++ m) i = if i < l.length then rd l i else rd m (i - l.length) := by
 unfold rd
 rw [List.getD_eq_getElem?_getD, List.getD_eq_getElem?_getD, List.getD_eq_getElem?_getD, List.getElem?_append]
 by_cases h : i < l.length
 · rw [if_pos h, if_pos (by omega)]
 · rw [if_neg h, if_neg (by omega), show i.toNat - l.length = (i - l.length).toNat from by omega]
theorem rd_rep {n : Nat} {x : Int} {i : Int} (hi : 0 ≤ i) (h : i < n) : rd (List.replicate n x) i = x := by
 rw [rd_lt hi (by simpa using h)]; simp
theorem mem_rd {l : List Int} {x : Int} (h : x ∈ l) : ∃ i : Int, 0 ≤ i ∧ i < l.length ∧ rd l i = x := by
 obtain ⟨n, hn, rfl⟩ := List.mem_iff_getElem.1 h
 exact ⟨n, by omega, by omega, by rw [rd_lt (by omega) (by omega)]; simp⟩
end Go.Proofs.Ythkhpejggdnkfaa.E
end
section
namespace Go.Proofs.Ythkhpejggdnkfaa.E
open Go.RowKit Go.Proofs.Ythkhpejggdnkfaa.PB Go.Proofs.YthkhpejggdnkfaaW.PrintWords Go.Proofs.YthkhpejggdnkfaaW.PrintLast Go.Proofs.YthkhpejggdnkfaaW.PrintMore
set_option linter.unusedVariables false
set_option linter.unusedSimpArgs false
theorem l1In_eq (n lo hi : Int) : spec_l1In.f n lo hi = some (decide (lo ≤ n ∧ n ≤ hi)) := by
 unfold spec_l1In.f; by_cases h : n ≥ lo
 · rw [if_pos h]; simp [h]
 · rw [if_neg h]; simp [show ¬ lo ≤ n from h]
theorem within_eq (n lo hi : Int) : impl_within.f n lo hi = some (decide (lo ≤ n ∧ n ≤ hi)) := l1In_eq n lo hi
theorem allWithin_l {l : List Int} {lo hi : Int} (hl : l.length ≤ 1099511627776) (d : Nat) : ∀ (i : Int), 0 ≤ i → i + d = l.length → Ev (fun k => impl_allWithin.l0 k lo hi l l.length i) (decide (∀ x ∈ l.drop i.toNat, lo ≤ x ∧ x ≤ hi)) := by
 induction d with
 | zero =>
  intro i h0 h1
  refine Ev.step (fun k => by rw [impl_allWithin.l0]) ?_
  simp (disch := omega) only [if_neg]
  refine ev_to (Ev.now _) ?_
  rw [List.drop_of_length_le (by omega)]; simp
 | succ d ih =>
  intro i h0 h1
  refine Ev.step (fun k => by rw [impl_allWithin.l0]) ?_
  simp (disch := omega) only [if_pos, w64, within_eq, Option.bind_some]
  rw [drop_rd h0 (by omega)]
  by_cases h : lo ≤ rd l i ∧ rd l i ≤ hi
  · refine ev_ifp (by simpa using h) (ev_to (ih (i + 1) (by omega) (by omega)) ?_)
    simp [h]
  · refine ev_ifn (by simpa using h) (ev_to (Ev.now _) ?_)
    simp only [List.mem_cons, forall_eq_or_imp, h, false_and, decide_false]
theorem allWithin_ev {l : List Int} (lo hi : Int) (hl : l.length ≤ 1099511627776) : Ev (fun k => impl_allWithin.f k l lo hi) (decide (∀ x ∈ l, lo ≤ x ∧ x ≤ hi)) :=
 ev_to (allWithin_l hl l.length 0 (by omega) (by omega)) (by simp)
def Asc (l : List Int) : Prop := ∀ i : Int, 0 < i → i < l.length → rd l (i - 1) < rd l i
noncomputable instance (l : List Int) : Decidable (Asc l) := Classical.propDecidable _
theorem asc_l {l : List Int} (hl : l.length ≤ 1099511627776) (d : Nat) : ∀ (i : Int), 0 < i → i + d = max 1 l.length → (∀ j, 0 < j → j < i → rd l (j - 1) < rd l j) → Ev (fun k => impl_IsAscending.l0 k l i) (decide (Asc l)) ∧ Ev (fun k => spec_IsAscending.l0 k l i) (decide (Asc l)) := by
 induction d with
 | zero =>
  intro i h0 h1 h2
  have ha : Asc l := fun j hj hj' => h2 j hj (by omega)
  constructor
  · refine Ev.step (fun k => by rw [impl_IsAscending.l0]) ?_
    simp (disch := omega) only [if_neg]
    exact ev_to (Ev.now _) (by simp [ha])
  · refine Ev.step (fun k => by rw [spec_IsAscending.l0]) ?_
    simp (disch := omega) only [if_neg]
    exact ev_to (Ev.now _) (by simp [ha])
 | succ d ih =>
  intro i h0 h1 h2
  by_cases h : rd l (i - 1) < rd l i
  · obtain ⟨a, b⟩ := ih (i + 1) (by omega) (by omega) (fun j hj hj' => by
     by_cases e : j = i
     · subst e; exact h
     · exact h2 j hj (by omega))
    constructor
    · refine Ev.step (fun k => by rw [impl_IsAscending.l0]) ?_
      simp (disch := omega) only [if_pos, if_neg, w64]
      exact a
    · refine Ev.step (fun k => by rw [spec_IsAscending.l0]) ?_
      simp (disch := omega) only [if_pos, if_neg, w64]
      exact b
  · have hn : ¬ Asc l := fun ha => h (ha i h0 (by omega))
    constructor
    · refine Ev.step (fun k => by rw [impl_IsAscending.l0]) ?_
      simp (disch := omega) only [if_pos, w64]
      exact ev_to (Ev.now _) (by simp [hn])
    · refine Ev.step (fun k => by rw [spec_IsAscending.l0]) ?_
      simp (disch := omega) only [if_pos, w64]
      exact ev_to (Ev.now _) (by simp [hn])
theorem ascI_ev {l : List Int} (hl : l.length ≤ 1099511627776) : Ev (fun k => impl_IsAscending.f k l) (decide (Asc l)) :=
 (asc_l hl (l.length - 1) 1 (by omega) (by omega) (fun j h h' => by omega)).1
theorem ascS_ev {l : List Int} (hl : l.length ≤ 1099511627776) : Ev (fun k => spec_IsAscending.f k l) (decide (Asc l)) :=
 (asc_l hl (l.length - 1) 1 (by omega) (by omega) (fun j h h' => by omega)).2
end Go.Proofs.Ythkhpejggdnkfaa.E
end
section
namespace Go.Proofs.Ythkhpejggdnkfaa.E
open Go.RowKit Go.Proofs.Ythkhpejggdnkfaa.PB Go.Proofs.YthkhpejggdnkfaaW.PrintWords Go.Proofs.YthkhpejggdnkfaaW.PrintLast Go.Proofs.YthkhpejggdnkfaaW.PrintMore
set_option linter.unusedVariables false
set_option linter.unusedSimpArgs false
def AreSt (l : List Int) : Prop := (1 ≤ (l.length : Int) ∧ (l.length : Int) ≤ 6) ∧ (∀ x ∈ l, 1 ≤ x ∧ x ≤ 60) ∧ Asc l
noncomputable instance (l : List Int) : Decidable (AreSt l) := Classical.propDecidable _
theorem areStampsI_ev {l : List Int} (hl : l.length ≤ 1099511627776) : Ev (fun k => impl_AreStamps.f k l) (decide (AreSt l)) := by
 unfold impl_AreStamps.f
 simp only [within_eq, Option.bind_some]
 by_cases h1 : 1 ≤ (l.length : Int) ∧ (l.length : Int) ≤ 6
 · refine ev_ifp (by simpa using h1) (ev_bind _ (allWithin_ev 1 60 hl) ?_)
   by_cases h2 : ∀ x ∈ l, 1 ≤ x ∧ x ≤ 60
   · refine ev_ifp (by simpa using h2) (ev_bind _ (ascI_ev hl) (ev_to (Ev.now _) ?_))
     rw [Bool.eq_iff_iff]; simp only [decide_eq_true_eq]
     exact ⟨fun h => ⟨h1, h2, h⟩, fun h => h.2.2⟩
   · exact ev_ifn (by rw [decide_eq_true_eq]; exact h2) (ev_to (Ev.now _) (decide_eq_false (fun h => h2 h.2.1)).symm)
 · exact ev_ifn (by simpa using h1) (ev_to (Ev.now _) (decide_eq_false (fun h => h1 h.1)).symm)
theorem areStampsS_l {l : List Int} (hl : l.length ≤ 1099511627776) (d : Nat) : ∀ (i : Int), 0 ≤ i → i + d = l.length → (∀ j, 0 ≤ j → j < i → 1 ≤ rd l j ∧ rd l j ≤ 60) → Ev (fun k => spec_AreStamps.l0 k l i) (decide (AreSt l)) := by
 induction d with
 | zero =>
  intro i h0 h1 h2
  refine Ev.step (fun k => by rw [spec_AreStamps.l0]) (ev_ifn (by omega) ?_)
  simp only [l1In_eq, Option.bind_some]
  have h2' : ∀ x ∈ l, 1 ≤ x ∧ x ≤ 60 := fun x hx => by
   obtain ⟨j, hj, hj', rfl⟩ := mem_rd hx
   exact h2 j hj (by omega)
  by_cases h1 : 1 ≤ (l.length : Int) ∧ (l.length : Int) ≤ 6
  · refine ev_ifp (by simpa using h1) (ev_bind _ (ascS_ev hl) (ev_to (Ev.now _) ?_))
    rw [Bool.eq_iff_iff]; simp only [decide_eq_true_eq]
    exact ⟨fun h => ⟨h1, h2', h⟩, fun h => h.2.2⟩
  · exact ev_ifn (by simpa using h1) (ev_to (Ev.now _) (decide_eq_false (fun h => h1 h.1)).symm)
 | succ d ih =>
  intro i h0 h1 h2
  refine Ev.step (fun k => by rw [spec_AreStamps.l0]) (ev_ifp (by omega) (ev_ifp h0 ?_))
  simp only [l1In_eq, Option.bind_some]
  rw [w64 (by omega) (by omega)]
  by_cases h : 1 ≤ rd l i ∧ rd l i ≤ 60
  · refine ev_ifp (by simpa using h) (ih (i + 1) (by omega) (by omega) fun j hj hj' => ?_)
    by_cases e : j = i
    · subst e; exact h
    · exact h2 j hj (by omega)
  · exact ev_ifn (by simpa using h) (ev_to (Ev.now _) (decide_eq_false (fun hc => h (hc.2.1 _ (rd_mem h0 (by omega))))).symm)
theorem areStampsS_ev {l : List Int} (hl : l.length ≤ 1099511627776) : Ev (fun k => spec_AreStamps.f k l) (decide (AreSt l)) :=
 areStampsS_l hl l.length 0 (by omega) (by omega) (fun j h h' => by omega)
end Go.Proofs.Ythkhpejggdnkfaa.E
end
section
namespace Go.Proofs.Ythkhpejggdnkfaa.E
open Go.RowKit Go.Proofs.YthkhpejggdnkfaaW.PrintWords Go.Proofs.YthkhpejggdnkfaaW.PrintLast Go.Proofs.YthkhpejggdnkfaaW.PrintMore
set_option linter.unusedVariables false
set_option linter.unusedSimpArgs false
inductive Way (v : List Int) : Int → Int → Prop
 | zero : Way v 0 0
 | add {x k c : Int} : x ∈ v → Way v k c → Way v (k + x) (c + 1)
theorem Way.mono {v u : List Int} (h : ∀ x ∈ v, x ∈ u) {k c : Int} (w : Way v k c) : Way u k c := by
 induction w with
 | zero => exact .zero
 | add hx _ ih => exact .add (h _ hx) ih
theorem Way.pos {v : List Int} (h : ∀ x ∈ v, 1 ≤ x) {k c : Int} (w : Way v k c) : 0 ≤ c ∧ c ≤ k := by
 induction w with
 | zero => omega
 | add hx _ ih => have := h _ hx; omega
theorem Way.plus {v : List Int} {k c : Int} (w : Way v k c) {k' c' : Int} (w' : Way v k' c') : Way v (k + k') (c + c') := by
 induction w' with
 | zero => simpa using w
 | @add x k1 c1 hx _ ih =>
  rw [← Int.add_assoc, ← Int.add_assoc]
  exact .add hx ih
theorem Way.times {v : List Int} {x : Int} (hx : x ∈ v) (j : Nat) : Way v (j * x) j := by
 induction j with
 | zero => simpa using Way.zero
 | succ j ih =>
  have := Way.add hx ih
  rw [show ((j + 1 : Nat) : Int) * x = j * x + x from by rw [Int.natCast_add, Int.add_mul]; simp]
  exact this
theorem Way.part {v u : List Int} {k c : Int} (w : Way v k c) : Way u k c ∨ ∃ y ∈ v, y ∉ u ∧ Way v (k - y) (c - 1) := by
 induction w with
 | zero => exact .inl .zero
 | @add x k c hx hw ih =>
  by_cases hu : x ∈ u
  · rcases ih with h | ⟨y, hy, hyu, h⟩
    · exact .inl (.add hu h)
    · refine .inr ⟨y, hy, hyu, ?_⟩
      have := Way.add hx h
      rwa [show k - y + x = k + x - y from by omega, show c - 1 + 1 = c + 1 - 1 from by omega] at this
  · exact .inr ⟨x, hx, hu, by rwa [show k + x - x = k from by omega, show c + 1 - 1 = c from by omega]⟩
theorem Way.last {v : List Int} {k c : Int} (w : Way v k c) : (k = 0 ∧ c = 0) ∨ ∃ x ∈ v, Way v (k - x) (c - 1) := by
 cases w with
 | zero => exact .inl ⟨rfl, rfl⟩
 | @add x k c hx hw => exact .inr ⟨x, hx, by rwa [show k + x - x = k from by omega, show c + 1 - 1 = c from by omega]⟩
theorem Way.split {u : List Int} {x : Int} {k c : Int} (w : Way (u ++ [x]) k c) : ∃ j : Nat, Way u (k - j * x) (c - j) := by
 induction w with
 | zero => exact ⟨0, by simpa using Way.zero⟩
 | @add y k c hy _ ih =>
  obtain ⟨j, h⟩ := ih
  rcases List.mem_append.1 hy with hu | hx
  · refine ⟨j, ?_⟩
    have := Way.add hu h
    rwa [show k - j * x + y = k + y - j * x from by omega, show c - (j : Int) + 1 = c + 1 - j from by omega] at this
  · obtain rfl : y = x := by simpa using hx
    refine ⟨j + 1, ?_⟩
    rw [show ((j + 1 : Nat) : Int) * y = j * y + y from by rw [Int.natCast_add, Int.add_mul]; simp, show k + y - (j * y + y) = k - j * y from by omega, show c + 1 - ((j + 1 : Nat) : Int) = c - j from by omega]
    exact h
def Fw (v : List Int) (k m : Int) : Prop := (m = -1 ∧ ∀ c, ¬ Way v k c) ∨ (Way v k m ∧ ∀ c, Way v k c → m ≤ c)
theorem Fw.one {v : List Int} (hv : ∀ x ∈ v, 1 ≤ x) {k m m' : Int} (h : Fw v k m) (h' : Fw v k m') : m = m' := by
 rcases h with ⟨h1, h2⟩ | ⟨h1, h2⟩ <;> rcases h' with ⟨h3, h4⟩ | ⟨h3, h4⟩
 · omega
 · exact absurd h3 (h2 _)
 · exact absurd h1 (h4 _)
 · have := h2 _ h3; have := h4 _ h1; omega
theorem Fw.neg {v : List Int} (hv : ∀ x ∈ v, 1 ≤ x) {k m : Int} (h : Fw v k m) : m < 0 ↔ ∀ c, ¬ Way v k c := by
 rcases h with ⟨h1, h2⟩ | ⟨h1, h2⟩
 · exact ⟨fun _ => h2, fun _ => by omega⟩
 · have := h1.pos hv
   exact ⟨fun h => by omega, fun h => absurd h1 (h _)⟩
theorem Fw.ge {v : List Int} (hv : ∀ x ∈ v, 1 ≤ x) {k m : Int} (h : Fw v k m) : -1 ≤ m := by
 rcases h with ⟨h1, h2⟩ | ⟨h1, h2⟩
 · omega
 · have := h1.pos hv; omega
theorem Fw.le {v : List Int} (hv : ∀ x ∈ v, 1 ≤ x) {k m : Int} (h : Fw v k m) (hk : 0 ≤ k) : m ≤ k := by
 rcases h with ⟨h1, h2⟩ | ⟨h1, h2⟩
 · omega
 · have := h1.pos hv; omega
theorem Fw.way {v : List Int} {k m : Int} (h : Fw v k m) (hm : 0 ≤ m) : Way v k m ∧ ∀ c, Way v k c → m ≤ c := by
 rcases h with ⟨h1, h2⟩ | h
 · omega
 · exact h
theorem Fw.nil {k : Int} (hk : 0 ≤ k) : Fw [] k (if k = 0 then 0 else -1) := by
 by_cases h : k = 0
 · subst h
   exact .inr ⟨.zero, fun c w => (w.pos (by simp)).1⟩
 · rw [if_neg h]
   refine .inl ⟨rfl, fun c w => ?_⟩
   rcases w.last with ⟨h1, _⟩ | ⟨x, hx, _⟩
   · exact h h1
   · simp at hx
theorem Fw.below {u : List Int} {x k m : Int} (hu : ∀ y ∈ u, 1 ≤ y) (hk : k < x) (h : Fw u k m) (h0 : 0 ≤ k) : Fw (u ++ [x]) k m := by
 have hv : ∀ y ∈ u ++ [x], 1 ≤ y := by
  intro y hy
  rcases List.mem_append.1 hy with hy | hy
  · exact hu y hy
  · have : y = x := by simpa using hy
    omega
 have key : ∀ c, Way (u ++ [x]) k c → Way u k c := by
  intro c w
  obtain ⟨j, hj⟩ := w.split
  by_cases h : j = 0
  · subst h; simpa using hj
  · exfalso
    have := hj.pos hu
    have hj1 : x ≤ (j : Int) * x := by
     have := Int.mul_le_mul_of_nonneg_right (show (1 : Int) ≤ j from by omega) (show 0 ≤ x from by omega)
     omega
    omega
 rcases h with ⟨h1, h2⟩ | ⟨h1, h2⟩
 · exact .inl ⟨h1, fun c w => h2 c (key c w)⟩
 · exact .inr ⟨h1.mono (fun y hy => List.mem_append.2 (.inl hy)), fun c w => h2 c (key c w)⟩
theorem Fw.next {u : List Int} {x k m p : Int} (hu : ∀ y ∈ u, 1 ≤ y) (hx : 1 ≤ x) (h : Fw u k m) (hp : Fw (u ++ [x]) (k - x) p) :
 Fw (u ++ [x]) k (if p ≥ 0 then (if m < 0 then p + 1 else if p + 1 < m then p + 1 else m) else m) := by
 have hv : ∀ y ∈ u ++ [x], 1 ≤ y := by
  intro y hy
  rcases List.mem_append.1 hy with hy | hy
  · exact hu y hy
  · have : y = x := by simpa using hy
    omega
 have key : ∀ c, Way (u ++ [x]) k c → Way u k c ∨ Way (u ++ [x]) (k - x) (c - 1) := by
  intro c w
  rcases w.part (u := u) with h | ⟨y, hy, hyu, h⟩
  · exact .inl h
  · rcases List.mem_append.1 hy with hy | hy
    · exact absurd hy hyu
    · obtain rfl : y = x := by simpa using hy
      exact .inr h
 have hup : ∀ c, Way u k c → Way (u ++ [x]) k c := fun c w => w.mono (fun y hy => List.mem_append.2 (.inl hy))
 have hone : ∀ c, Way (u ++ [x]) (k - x) c → Way (u ++ [x]) k (c + 1) := fun c w => by
  have := Way.add (show x ∈ u ++ [x] by simp) w
  rwa [show k - x + x = k from by omega] at this
 have hm := h.neg hu
 have hpn := hp.neg hv
 by_cases c1 : p ≥ 0
 · rw [if_pos c1]
   obtain ⟨p1, p2⟩ := hp.way c1
   by_cases c2 : m < 0
   · rw [if_pos c2]
     refine .inr ⟨hone _ p1, fun c w => ?_⟩
     rcases key c w with h1 | h1
     · exact absurd h1 (hm.1 c2 c)
     · have := p2 _ h1; omega
   · rw [if_neg c2]
     obtain ⟨m1, m2⟩ := h.way (by omega)
     by_cases c3 : p + 1 < m
     · rw [if_pos c3]
       refine .inr ⟨hone _ p1, fun c w => ?_⟩
       rcases key c w with h1 | h1
       · have := m2 _ h1; omega
       · have := p2 _ h1; omega
     · rw [if_neg c3]
       refine .inr ⟨hup _ m1, fun c w => ?_⟩
       rcases key c w with h1 | h1
       · exact m2 _ h1
       · have := p2 _ h1; omega
 · rw [if_neg c1]
   rcases h with ⟨h1, h2⟩ | ⟨h1, h2⟩
   · refine .inl ⟨h1, fun c w => ?_⟩
     rcases key c w with h3 | h3
     · exact h2 _ h3
     · exact hpn.1 (by omega) _ h3
   · refine .inr ⟨hup _ h1, fun c w => ?_⟩
     rcases key c w with h3 | h3
     · exact h2 _ h3
     · exact absurd h3 (hpn.1 (by omega) _)
end Go.Proofs.Ythkhpejggdnkfaa.E
end
section
namespace Go.Proofs.Ythkhpejggdnkfaa.E
open Go.RowKit Go.Proofs.YthkhpejggdnkfaaW.PrintWords Go.Proofs.YthkhpejggdnkfaaW.PrintLast Go.Proofs.YthkhpejggdnkfaaW.PrintMore
set_option linter.unusedVariables false
set_option linter.unusedSimpArgs false
def TB (B : Int) (v : List Int) (k m : Int) : Prop := 0 ≤ m ∧ m ≤ B ∧ (∀ c, Way v k c → m ≤ c) ∧ (m < B → Way v k m)
theorem TB.end_ {B : Int} {v : List Int} (hv : ∀ x ∈ v, 1 ≤ x) (ha : Asc v) {n best i : Int} {out : List Int} (hn : 1 ≤ n) (h0 : 0 ≤ best) (h1 : best ≤ B) (h2 : best < B → Way v n best) (h3 : ∀ j, 0 ≤ j → j < i → rd v j ≤ n → best ≤ rd out (n - rd v j) + 1)
 (h4 : ∀ k, 0 ≤ k → k < n → ∀ c, Way v k c → rd out k ≤ c ∨ best ≤ c + 1) (hi : ∀ j, i ≤ j → j < v.length → n < rd v j) : TB B v n best := by
 refine ⟨h0, h1, fun c w => ?_, h2⟩
 rcases w.last with ⟨e, _⟩ | ⟨x, hx, w'⟩
 · omega
 · have hp := w'.pos hv
   have hx1 := hv x hx
   obtain ⟨j, hj, hj', rfl⟩ := mem_rd hx
   by_cases hji : j < i
   · have := h3 j hj hji (by omega)
     rcases h4 (n - rd v j) (by omega) (by omega) _ w' with h | h <;> omega
   · have := hi j (by omega) hj'
     omega
theorem Asc.lt {v : List Int} (ha : Asc v) {i : Int} (h0 : 0 ≤ i) (d : Nat) : i + d < v.length → rd v i ≤ rd v (i + d) := by
 induction d with
 | zero => intro _; simp
 | succ d ih =>
  intro h
  have h1 := ih (by omega)
  have h2 := ha (i + (d + 1 : Nat)) (by omega) h
  rw [show i + ((d + 1 : Nat) : Int) - 1 = i + d from by omega] at h2
  omega
theorem Asc.le {v : List Int} (ha : Asc v) {i j : Int} (h0 : 0 ≤ i) (hij : i ≤ j) (hj : j < v.length) : rd v i ≤ rd v j := by
 have := ha.lt h0 (j - i).toNat (by omega)
 rwa [show i + ((j - i).toNat : Int) = j from by omega] at this
end Go.Proofs.Ythkhpejggdnkfaa.E
end
section
namespace Go.Proofs.Ythkhpejggdnkfaa.E
open Go.RowKit Go.Proofs.YthkhpejggdnkfaaW.PrintWords Go.Proofs.YthkhpejggdnkfaaW.PrintLast Go.Proofs.YthkhpejggdnkfaaW.PrintMore
set_option linter.unusedVariables false
set_option linter.unusedSimpArgs false
theorem AreSt.len {v : List Int} (h : AreSt v) : 1 ≤ v.length ∧ v.length ≤ 6 := by have := h.1; omega
theorem AreSt.vals {v : List Int} (h : AreSt v) : ∀ x ∈ v, 1 ≤ x ∧ x ≤ 1000 := fun x hx => by have := h.2.1 x hx; omega
theorem AreSt.pos {v : List Int} (h : AreSt v) : ∀ x ∈ v, 1 ≤ x := fun x hx => (h.2.1 x hx).1
theorem Way.most {v : List Int} {B : Int} (h : ∀ x ∈ v, x ≤ B) {k c : Int} (w : Way v k c) : k ≤ c * B := by
 induction w with
 | zero => simp
 | @add x k c hx _ ih => have := h x hx; rw [Int.add_mul]; omega
def Can (v : List Int) (h k : Int) : Prop := ∃ c, c ≤ h ∧ Way v k c
theorem can_fw {v : List Int} (hv : ∀ x ∈ v, 1 ≤ x) {k m h : Int} (hh : 0 ≤ h) (f : Fw v k m) : (0 ≤ m ∧ m ≤ h) ↔ Can v h k := by
 constructor
 · rintro ⟨h1, h2⟩; exact ⟨m, h2, (f.way h1).1⟩
 · rintro ⟨c, hc, w⟩
   have h1 : 0 ≤ m := by have := (not_congr (f.neg hv)).2 (fun hno => hno _ w); omega
   have := (f.way h1).2 _ w
   omega
theorem can_tb {v : List Int} {k m h : Int} (hh : h < 9) (f : TB 9 v k m) : m ≤ h ↔ Can v h k := by
 constructor
 · intro h1; exact ⟨m, h1, f.2.2.2 (by omega)⟩
 · rintro ⟨c, hc, w⟩
   have := f.2.2.1 _ w
   omega
end Go.Proofs.Ythkhpejggdnkfaa.E
end
section
namespace Go.Proofs.Ythkhpejggdnkfaa.E
open Go.RowKit Go.Proofs.Ythkhpejggdnkfaa.PB Go.Proofs.YthkhpejggdnkfaaW.PrintWords Go.Proofs.YthkhpejggdnkfaaW.PrintLast Go.Proofs.YthkhpejggdnkfaaW.PrintMore
set_option linter.unusedVariables false
set_option linter.unusedSimpArgs false
def RowOk (v : List Int) (n : Int) (row : List Int) : Prop := (row.length : Int) = n + 1 ∧ ∀ k, 0 ≤ k → k ≤ n → Fw v k (rd row k)
def FewTab (v : List Int) (n : Int) (t : List (List Int)) : Prop := t.length = v.length + 1 ∧ ∀ i : Int, 0 ≤ i → i ≤ v.length → RowOk (v.take i.toNat) n (rd_L2 t i)
theorem rdLL_append {t : List (List Int)} {r : List Int} {i : Int} (h0 : 0 ≤ i) (h : i ≤ t.length) : rd_L2 (t ++ [r]) i = if i = t.length then r else rd_L2 t i := by
 unfold rd_L2
 rw [List.getD_eq_getElem?_getD, List.getD_eq_getElem?_getD, List.getElem?_append]
 by_cases e : i = t.length
 · rw [if_pos e, if_neg (by omega), e]; simp
 · rw [if_neg e, if_pos (by omega)]
theorem fewest_l2 {v vals : List Int} {n x : Int} {len i : Int} (hn : 0 ≤ n) (hn' : n ≤ 4000) (hv : ∀ y ∈ v, 1 ≤ y) (hx : 1 ≤ x) (hx' : x ≤ 1000) {out : List (List Int)} (ho : out.length ≤ 1000) (hi : 0 ≤ i) (hi' : i ≤ 1000) (d : Nat) :
 ∀ (kk : Int) (next : List Int), x ≤ kk → kk + d = max x (n + 1) → (next.length : Int) = n + 1 → (∀ k, 0 ≤ k → k ≤ n → k < kk → Fw (v ++ [x]) k (rd next k)) → (∀ k, kk ≤ k → k ≤ n → Fw v k (rd next k)) →
  ∃ next', RowOk (v ++ [x]) n next' ∧ ∀ r, Ev (fun k => impl_fewest.l1 k n next' (out ++ [next']) vals len (i + 1)) r → Ev (fun k => impl_fewest.l2 k n out x next kk vals len i) r := by
 have hv' : ∀ y ∈ v ++ [x], 1 ≤ y := by
  intro y hy
  rcases List.mem_append.1 hy with hy | hy
  · exact hv y hy
  · have : y = x := by simpa using hy
    omega
 induction d with
 | zero =>
  intro kk next h0 h1 h2 h3 h4
  refine ⟨next, ⟨h2, fun k hk hk' => h3 k hk hk' (by omega)⟩, fun r hr => Ev.step (fun k => by rw [impl_fewest.l2]) (ev_ifn (by omega) ?_)⟩
  rw [w64 (by omega) (by omega)]
  exact ev_ifp (by omega) hr
 | succ d ih =>
  intro kk next h0 h1 h2 h3 h4
  have hkn : kk ≤ n := by omega
  have f1 := h3 (kk - x) (by omega) (by omega) (by omega)
  have f2 := h4 kk (by omega) hkn
  have f3 := Fw.next hv hx f2 f1
  have b1 := f1.ge hv'
  have b2 := f1.le hv' (by omega)
  have done : ∀ (y : Int), Fw (v ++ [x]) kk y → ∃ next', RowOk (v ++ [x]) n next' ∧ ∀ r, Ev (fun k => impl_fewest.l1 k n next' (out ++ [next']) vals len (i + 1)) r → Ev (fun k => impl_fewest.l2 k n out x (next.set kk.toNat y) (kk + 1) vals len i) r := by
   intro y hy
   refine ih (kk + 1) (next.set kk.toNat y) (by omega) (by omega) (by simpa using h2) ?_ ?_
   · intro k hk hk' hk''
     rw [rd_set _ (by omega) (by omega) hk]
     by_cases e : k = kk
     · subst e; rw [if_pos rfl]; exact hy
     · rw [if_neg e]; exact h3 k hk hk' (by omega)
   · intro k hk hk'
     rw [rd_set _ (by omega) (by omega) (by omega), if_neg (by omega)]
     exact h4 k (by omega) hk'
  have same : Fw (v ++ [x]) kk (rd next kk) → ∃ next', RowOk (v ++ [x]) n next' ∧ ∀ r, Ev (fun k => impl_fewest.l1 k n next' (out ++ [next']) vals len (i + 1)) r → Ev (fun k => impl_fewest.l2 k n out x next (kk + 1) vals len i) r := by
   intro hy
   refine ih (kk + 1) next (by omega) (by omega) h2 ?_ (fun k hk hk' => h4 k (by omega) hk')
   intro k hk hk' hk''
   by_cases e : k = kk
   · subst e; exact hy
   · exact h3 k hk hk' (by omega)
  by_cases c1 : rd next (kk - x) ≥ 0
  · rw [if_pos c1] at f3
    by_cases c2 : rd next kk < 0
    · rw [if_pos c2] at f3
      obtain ⟨next', a, b⟩ := done _ f3
      refine ⟨next', a, fun r hr => Ev.step (fun k => by rw [impl_fewest.l2]) ?_⟩
      simp (disch := omega) only [if_pos, w64]
      exact b r hr
    · rw [if_neg c2] at f3
      by_cases c3 : rd next (kk - x) + 1 < rd next kk
      · rw [if_pos c3] at f3
        obtain ⟨next', a, b⟩ := done _ f3
        refine ⟨next', a, fun r hr => Ev.step (fun k => by rw [impl_fewest.l2]) ?_⟩
        simp (disch := omega) only [if_pos, if_neg, w64]
        exact b r hr
      · rw [if_neg c3] at f3
        obtain ⟨next', a, b⟩ := same f3
        refine ⟨next', a, fun r hr => Ev.step (fun k => by rw [impl_fewest.l2]) ?_⟩
        simp (disch := omega) only [if_pos, if_neg, w64]
        exact b r hr
  · rw [if_neg c1] at f3
    obtain ⟨next', a, b⟩ := same f3
    refine ⟨next', a, fun r hr => Ev.step (fun k => by rw [impl_fewest.l2]) ?_⟩
    simp (disch := omega) only [if_pos, if_neg, w64]
    exact b r hr
theorem fewest_l1 {vals : List Int} {n : Int} (hn : 0 ≤ n) (hn' : n ≤ 4000) (hv : ∀ y ∈ vals, 1 ≤ y ∧ y ≤ 1000) (hl : vals.length ≤ 20) (d : Nat) :
 ∀ (i : Int) (row : List Int) (out : List (List Int)), 0 ≤ i → i + d = vals.length → RowOk (vals.take i.toNat) n row → (out.length : Int) = i + 1 → (∀ j : Int, 0 ≤ j → j ≤ i → RowOk (vals.take j.toNat) n (rd_L2 out j)) →
  ∃ t, FewTab vals n t ∧ Ev (fun k => impl_fewest.l1 k n row out vals vals.length i) t := by
 induction d with
 | zero =>
  intro i row out h0 h1 h2 h3 h4
  exact ⟨out, ⟨by omega, fun j hj hj' => h4 j hj (by omega)⟩, Ev.step (fun k => by rw [impl_fewest.l1]) (ev_ifn (by omega) (Ev.now _))⟩
 | succ d ih =>
  intro i row out h0 h1 h2 h3 h4
  have hx := hv _ (rd_mem (l := vals) h0 (by omega))
  have ht := take_rd (l := vals) h0 (by omega)
  have hvt : ∀ y ∈ vals.take i.toNat, 1 ≤ y := fun y hy => (hv y (List.mem_of_mem_take hy)).1
  obtain ⟨next', a, b⟩ := fewest_l2 (v := vals.take i.toNat) (vals := vals) (len := vals.length) (i := i) (out := out) hn hn' hvt hx.1 hx.2 (by omega) h0 (by omega) (max (rd vals i) (n + 1) - rd vals i).toNat (rd vals i) row (by omega) (by omega) h2.1 (fun k hk hk' hk'' => (h2.2 k hk hk').below hvt hk'' hk) (fun k hk hk' => h2.2 k (by omega) hk')
  rw [← ht] at a
  obtain ⟨t, ht1, ht2⟩ := ih (i + 1) next' (out ++ [next']) (by omega) (by omega) a (by simp; omega) (by
   intro j hj hj'
   rw [rdLL_append hj (by omega)]
   by_cases e : j = out.length
   · rw [if_pos e, show j = i + 1 from by omega]; exact a
   · rw [if_neg e]; exact h4 j hj (by omega))
  refine ⟨t, ht1, Ev.step (fun k => by rw [impl_fewest.l1]) ?_⟩
  have hr := h2.1
  refine ev_ifp (by omega) (ev_ifp h0 (ev_ifp (by omega) ?_))
  simp only [Option.bind_some]
  refine ev_ifp (by simp; omega) ?_
  exact b t ht2
theorem fewest_l0 {vals : List Int} {n : Int} (hn : 0 ≤ n) (hn' : n ≤ 4000) {t : List (List Int)} (H : Ev (fun k => impl_fewest.l1 k n ((List.replicate (n + 1).toNat (-1)).set 0 0) [(List.replicate (n + 1).toNat (-1)).set 0 0] vals vals.length 0) t) (d : Nat) :
 ∀ (i : Int) (row : List Int), 0 ≤ i → i + d = n + 1 → (row.length : Int) = n + 1 → (∀ j, 0 ≤ j → j < i → rd row j = -1) → Ev (fun k => impl_fewest.l0 k vals n row (n + 1) i) t := by
 induction d with
 | zero =>
  intro i row h0 h1 h2 h3
  have e : row = List.replicate (n + 1).toNat (-1) := rd_ext (by simp; omega) fun j hj hj' => by rw [h3 j hj (by omega), rd_rep hj (by omega)]
  subst e
  refine Ev.step (fun k => by rw [impl_fewest.l0]) (ev_ifn (by omega) (ev_ifp (by omega) ?_))
  simp only [Option.bind_some]
  exact H
 | succ d ih =>
  intro i row h0 h1 h2 h3
  refine Ev.step (fun k => by rw [impl_fewest.l0]) ?_
  simp (disch := omega) only [if_pos, w64]
  refine ih (i + 1) _ (by omega) (by omega) (by simpa using h2) fun j hj hj' => ?_
  rw [rd_set _ h0 (by omega) hj]
  by_cases e : j = i
  · rw [if_pos e]
  · rw [if_neg e]; exact h3 j hj (by omega)
theorem rowOk_first {n : Int} (hn : 0 ≤ n) : RowOk [] n ((List.replicate (n + 1).toNat (-1)).set 0 0) := by
 refine ⟨by simp; omega, fun k hk hk' => ?_⟩
 have := rd_set (l := List.replicate (n + 1).toNat (-1)) (i := 0) (j := k) 0 (by omega) (by simp; omega) hk
 rw [show (0 : Int).toNat = 0 from rfl] at this
 rw [this]
 have f := Fw.nil hk
 by_cases e : k = 0
 · rw [if_pos e] at f ⊢; exact f
 · rw [if_neg e] at f ⊢; rw [rd_rep hk (by omega)]; exact f
theorem fewest_ev {vals : List Int} {n : Int} (hn : 0 ≤ n) (hn' : n ≤ 4000) (hv : ∀ y ∈ vals, 1 ≤ y ∧ y ≤ 1000) (hl : vals.length ≤ 20) : ∃ t, FewTab vals n t ∧ Ev (fun k => impl_fewest.f k vals n) t := by
 have h1 := rowOk_first hn
 obtain ⟨t, a, b⟩ := fewest_l1 hn hn' hv hl vals.length 0 _ [(List.replicate (n + 1).toNat (-1)).set 0 0] (by omega) (by omega) (by simpa using h1) (by simp) (by
  intro j hj hj'
  obtain rfl : j = 0 := by omega
  simpa [rd_L2] using h1)
 refine ⟨t, a, ?_⟩
 unfold impl_fewest.f
 rw [w64 (by omega) (by omega)]
 refine ev_ifp (by omega) (ev_ifp (by omega) ?_)
 simp only [Option.bind_some]
 rw [show ((List.replicate (n + 1).toNat (0 : Int)).length : Int) = n + 1 from by simp; omega]
 exact fewest_l0 hn hn' b (n + 1).toNat 0 _ (by omega) (by omega) (by simp; omega) (fun j h h' => by omega)
end Go.Proofs.Ythkhpejggdnkfaa.E
end
section
namespace Go.Proofs.Ythkhpejggdnkfaa.E
open Go.RowKit Go.Proofs.Ythkhpejggdnkfaa.PB Go.Proofs.YthkhpejggdnkfaaW.PrintWords Go.Proofs.YthkhpejggdnkfaaW.PrintLast Go.Proofs.YthkhpejggdnkfaaW.PrintMore
set_option linter.unusedVariables false
set_option linter.unusedSimpArgs false
theorem l1Min_eq (a b : Int) : spec_l1Min.f a b = some (min a b) := by
 unfold spec_l1Min.f
 by_cases h : a < b
 · rw [if_pos h, Int.min_eq_left (by omega)]
 · rw [if_neg h, Int.min_eq_right (by omega)]
end Go.Proofs.Ythkhpejggdnkfaa.E
end
section
namespace Go.Proofs.Ythkhpejggdnkfaa.E
open Go.RowKit Go.Proofs.Ythkhpejggdnkfaa.PB Go.Proofs.YthkhpejggdnkfaaW.PrintWords Go.Proofs.YthkhpejggdnkfaaW.PrintLast Go.Proofs.YthkhpejggdnkfaaW.PrintMore
set_option linter.unusedVariables false
set_option linter.unusedSimpArgs false
def CAP27 (_ : Int) : Int := 9
theorem tab27_l1 {v : List Int} {most n : Int} {out : List Int} (hl : v.length ≤ 20) (hv : ∀ x ∈ v, 1 ≤ x ∧ x ≤ 1000) (ha : Asc v) (hn : 1 ≤ n) (hn' : n ≤ 4000) (ho : (out.length : Int) = n) (hout : ∀ k, 0 ≤ k → k < n → TB (CAP27 k) v k (rd out k)) (hw : ∀ k m, 0 ≤ k → TB (CAP27 k) v k m → Way v k m ∨ ∀ n, CAP27 n ≤ m + 1) (d : Nat) :
 ∀ (i best : Int), 0 ≤ i → i + d = v.length → 0 ≤ best → best ≤ CAP27 n → (best < CAP27 n → Way v n best) → (∀ j, 0 ≤ j → j < i → rd v j ≤ n → best ≤ rd out (n - rd v j) + 1) →
  ∃ m, TB (CAP27 n) v n m ∧ ∀ r, Ev (fun k => spec_l27Table.l0 k v most (out ++ [m]) (n + 1)) r → Ev (fun k => spec_l27Table.l1 k v most out n best i) r := by
 have hv1 : ∀ x ∈ v, 1 ≤ x := fun x hx => (hv x hx).1
 induction d with
 | zero =>
  intro i best h0 h1 h2 h3 h4 h5
  refine ⟨best, TB.end_ (out := out) (i := i) hv1 ha hn h2 h3 h4 h5 (fun k hk hk' c w => .inl ((hout k hk hk').2.2.1 c w)) (fun j hj hj' => by omega), fun r hr => Ev.step (fun k => by rw [spec_l27Table.l1]) (ev_ifn (by omega) (ev_ifp (by omega) ?_))⟩
  rw [w64 (by omega) (by omega)]; exact hr
 | succ d ih =>
  intro i best h0 h1 h2 h3 h4 h5
  have hx := hv _ (rd_mem (l := v) h0 (by omega))
  by_cases hc : rd v i ≤ n
  · have ht := hout (n - rd v i) (by omega) (by omega)
    have hb : CAP27 (n - rd v i) ≤ 4000 := by unfold CAP27; omega
    have hm : Way v n (rd out (n - rd v i) + 1) ∨ CAP27 n ≤ rd out (n - rd v i) + 1 := by
     rcases hw _ _ (by omega) ht with e | e
     · have := Way.add (rd_mem (l := v) h0 (by omega)) e
       rw [show n - rd v i + rd v i = n from by omega] at this
       exact .inl this
     · exact .inr (e n)
    obtain ⟨m, a, b⟩ := ih (i + 1) (min best (rd out (n - rd v i) + 1)) (by omega) (by omega) (by have := ht.1; omega) (by omega) (by
     intro hlt
     by_cases e : best < rd out (n - rd v i) + 1
     · rw [Int.min_eq_left (by omega)] at hlt ⊢; exact h4 hlt
     · rw [Int.min_eq_right (by omega)] at hlt ⊢
       rcases hm with h | h
       · exact h
       · omega) (by
     intro j hj hj' hjn
     by_cases e : j = i
     · subst e; omega
     · have := h5 j hj (by omega) hjn; omega)
    refine ⟨m, a, fun r hr => Ev.step (fun k => by rw [spec_l27Table.l1]) ?_⟩
    have ht1 := ht.1
    have ht2 := ht.2.1
    simp (disch := omega) only [if_pos, w64, l1Min_eq, Option.bind_some]
    exact b r hr
  · refine ⟨best, TB.end_ (out := out) (i := i) hv1 ha hn h2 h3 h4 h5 (fun k hk hk' c w => .inl ((hout k hk hk').2.2.1 c w)) (fun j hj hj' => by have := ha.le h0 hj hj'; omega), fun r hr => Ev.step (fun k => by rw [spec_l27Table.l1]) (ev_ifp (by omega) (ev_ifp h0 (ev_ifn hc (ev_ifp (by omega) ?_))))⟩
    rw [w64 (by omega) (by omega)]; exact hr
theorem tab27_l0 {v : List Int} {most : Int} (hl : v.length ≤ 20) (hv : ∀ x ∈ v, 1 ≤ x ∧ x ≤ 1000) (ha : Asc v) (hm' : most ≤ 4000) (hw : ∀ k m, 0 ≤ k → TB (CAP27 k) v k m → Way v k m ∨ ∀ n, CAP27 n ≤ m + 1) (d : Nat) : ∀ (n : Int) (out : List Int), 1 ≤ n → n + d = most + 1 → (out.length : Int) = n → (∀ k, 0 ≤ k → k < n → TB (CAP27 k) v k (rd out k)) →
 ∃ t : List Int, (t.length : Int) = most + 1 ∧ (∀ k, 0 ≤ k → k ≤ most → TB (CAP27 k) v k (rd t k)) ∧ Ev (fun k => spec_l27Table.l0 k v most out n) t := by
 induction d with
 | zero =>
  intro n out h1 h2 h3 h4
  exact ⟨out, by omega, fun k hk hk' => h4 k hk (by omega), Ev.step (fun k => by rw [spec_l27Table.l0]) (ev_ifn (by omega) (Ev.now _))⟩
 | succ d ih =>
  intro n out h1 h2 h3 h4
  obtain ⟨m, a, b⟩ := tab27_l1 (most := most) hl hv ha h1 (by omega) h3 h4 hw v.length 0 (CAP27 n) (by omega) (by omega) (by unfold CAP27; omega) (by omega) (by omega) (fun j hj hj' => by omega)
  obtain ⟨t, t1, t2, t3⟩ := ih (n + 1) (out ++ [m]) (by omega) (by omega) (by simp; omega) (by
   intro k hk hk'
   rw [rd_append hk]
   by_cases e : k < out.length
   · rw [if_pos e]; exact h4 k hk (by omega)
   · rw [if_neg e, show k - out.length = 0 from by omega]
     rw [show k = n from by omega]; exact a)
  refine ⟨t, t1, t2, ?_⟩
  refine Ev.step (fun k => by rw [spec_l27Table.l0]) ?_
  exact ev_ifp (by omega) (b t t3)
theorem tab27_ev {v : List Int} {most : Int} (hl : v.length ≤ 20) (hv : ∀ x ∈ v, 1 ≤ x ∧ x ≤ 1000) (ha : Asc v) (hm : 0 ≤ most) (hm' : most ≤ 4000) :
 ∃ t : List Int, (t.length : Int) = most + 1 ∧ (∀ k, 0 ≤ k → k ≤ most → TB (CAP27 k) v k (rd t k)) ∧ Ev (fun k => spec_l27Table.f k v most) t := by
 refine tab27_l0 hl hv ha hm' (fun k m hk h => by
  by_cases e : m < 9
  · exact .inl (h.2.2.2 e)
  · exact .inr fun n => by unfold CAP27; omega) most.toNat 1 [0] (by omega) (by omega) (by simp) fun k hk hk' => ?_
 obtain rfl : k = 0 := by omega
 refine ⟨by simp [rd], by simp [rd, CAP27], fun c w => ?_, fun _ => by simpa [rd] using Way.zero⟩
 simpa [rd] using (w.pos (fun x hx => (hv x hx).1)).1
end Go.Proofs.Ythkhpejggdnkfaa.E
end
section
namespace Go.Proofs.Ythkhpejggdnkfaa.E
open Go.RowKit Go.Proofs.Ythkhpejggdnkfaa.PB Go.Proofs.YthkhpejggdnkfaaW.PrintWords Go.Proofs.YthkhpejggdnkfaaW.PrintLast Go.Proofs.YthkhpejggdnkfaaW.PrintMore
set_option linter.unusedVariables false
set_option linter.unusedSimpArgs false
def IsReach (v : List Int) (h r : Int) : Prop := 0 ≤ r ∧ r ≤ 360 ∧ (∀ k, 1 ≤ k → k ≤ r → Can v h k) ∧ ¬ Can v h (r + 1)
theorem reach_l {v : List Int} (hs : AreSt v) {h : Int} (hh : 1 ≤ h ∧ h ≤ 6) {row tb : List Int} (hr : RowOk v 361 row) (ht1 : (tb.length : Int) = 362) (ht2 : ∀ k, 0 ≤ k → k ≤ 361 → TB 9 v k (rd tb k)) (d : Nat) :
 ∀ n : Int, 0 ≤ n → n + d = 360 → (∀ k, 1 ≤ k → k ≤ n → Can v h k) → ∃ r, IsReach v h r ∧ Ev (fun k => impl_ReachOf.l0 k h row n) r ∧ Ev (fun k => spec_l27Reach.l0 k tb h n) r := by
 have top : ¬ Can v h 361 := by
  rintro ⟨c, hc, w⟩
  have h1 := w.most (B := 60) (fun x hx => (hs.2.1 x hx).2)
  omega
 have hrl := hr.1
 have stop : ∀ n : Int, 0 ≤ n → n ≤ 360 → ¬ Can v h (n + 1) → Ev (fun k => impl_ReachOf.l0 k h row n) n ∧ Ev (fun k => spec_l27Reach.l0 k tb h n) n := by
  intro n h0 h1 hc
  have f := (not_congr (can_fw hs.pos (by omega) (hr.2 (n + 1) (by omega) (by omega)))).2 hc
  have g := (not_congr (can_tb (by omega) (ht2 (n + 1) (by omega) (by omega)))).2 hc
  constructor
  · refine Ev.step (fun k => by rw [impl_ReachOf.l0]) ?_
    rw [w64 (by omega) (by omega)]
    refine ev_ifp (by omega) (ev_ifp (by omega) ?_)
    by_cases c1 : rd row (n + 1) ≥ 0
    · exact ev_ifp c1 (ev_ifn (by omega) (Ev.now _))
    · exact ev_ifn c1 (Ev.now _)
  · refine Ev.step (fun k => by rw [spec_l27Reach.l0]) ?_
    rw [w64 (by omega) (by omega)]
    exact ev_ifp (by omega) (ev_ifp (by omega) (ev_ifn g (Ev.now _)))
 induction d with
 | zero =>
  intro n h0 h1 h2
  obtain rfl : n = 360 := by omega
  obtain ⟨a, b⟩ := stop 360 (by omega) (by omega) top
  exact ⟨360, ⟨by omega, by omega, h2, top⟩, a, b⟩
 | succ d ih =>
  intro n h0 h1 h2
  by_cases hc : Can v h (n + 1)
  · obtain ⟨r, hR, a, b⟩ := ih (n + 1) (by omega) (by omega) (fun k hk hk' => by
     by_cases e : k = n + 1
     · rw [e]; exact hc
     · exact h2 k hk (by omega))
    have f := (can_fw hs.pos (by omega) (hr.2 (n + 1) (by omega) (by omega))).2 hc
    have g := (can_tb (by omega) (ht2 (n + 1) (by omega) (by omega))).2 hc
    refine ⟨r, hR, Ev.step (fun k => by rw [impl_ReachOf.l0]) ?_, Ev.step (fun k => by rw [spec_l27Reach.l0]) ?_⟩
    · rw [w64 (by omega) (by omega)]
      exact ev_ifp (by omega) (ev_ifp (by omega) (ev_ifp f.1 (ev_ifp f.2 a)))
    · rw [w64 (by omega) (by omega)]
      exact ev_ifp (by omega) (ev_ifp (by omega) (ev_ifp g b))
  · obtain ⟨a, b⟩ := stop n h0 (by omega) hc
    exact ⟨n, ⟨h0, by omega, h2, hc⟩, a, b⟩
theorem IsReach.one {v : List Int} {h r r' : Int} (a : IsReach v h r) (b : IsReach v h r') : r = r' := by
 by_cases h1 : r < r'
 · exact absurd (b.2.2.1 (r + 1) (by have := a.1; omega) (by omega)) a.2.2.2
 · by_cases h2 : r' < r
   · exact absurd (a.2.2.1 (r' + 1) (by have := b.1; omega) (by omega)) b.2.2.2
   · omega
def ReachArg (v : List Int) (h : Int) : Prop := AreSt v ∧ 1 ≤ h ∧ h ≤ 6
theorem reach_ev (v : List Int) (h : Int) (hl : v.length ≤ 1099511627776) : ∃ r, Ev (fun k => impl_ReachOf.f k v h) r ∧ Ev (fun k => spec_ReachOf.f k v h) r ∧ (ReachArg v h → IsReach v h r) ∧ (¬ ReachArg v h → r = -1) := by
 by_cases h1 : AreSt v
 · by_cases hh : 1 ≤ h ∧ h ≤ 6
   · have hlen := h1.len
     obtain ⟨t, ht, hE⟩ := fewest_ev (n := 361) (by omega) (by omega) h1.vals (by omega)
     obtain ⟨tb, hb1, hb2, hE'⟩ := tab27_ev (v := v) (most := 361) (by omega) h1.vals h1.2.2 (by omega) (by omega)
     have hrow := ht.2 v.length (by omega) (by omega)
     rw [show ((v.length : Int)).toNat = v.length from by omega, List.take_length] at hrow
     obtain ⟨r, hR, a, b⟩ := reach_l h1 hh hrow (by omega) hb2 360 0 (by omega) (by omega) (fun k hk hk' => by omega)
     have htl := ht.1
     refine ⟨r, ?_, ?_, fun _ => hR, fun h' => absurd ⟨h1, hh⟩ h'⟩
     · unfold impl_ReachOf.f
       simp only [within_eq, Option.bind_some]
       refine ev_bind _ (areStampsI_ev hl) (ev_ifp (by simpa using h1) ?_)
       refine Ev.step (fun k => by rw [impl_ReachOf.j0]) ?_
       exact ev_ifn (nd_f hh) (ev_bind _ hE (ev_ifp (by omega) (ev_ifp (by omega) a)))
     · unfold spec_ReachOf.f
       simp only [l1In_eq, Option.bind_some]
       refine ev_bind _ (areStampsS_ev hl) (ev_ifp (by simpa using h1) (Ev.step (fun k => by rw [spec_ReachOf.j0]) (ev_ifn (by simpa using hh) (ev_bind _ hE' (ev_bind r ?_ (Ev.now _))))))
       unfold spec_l27Reach.f
       exact b
   · refine ⟨-1, ?_, ?_, fun h' => absurd h'.2 hh, fun _ => rfl⟩
     · unfold impl_ReachOf.f
       simp only [within_eq, Option.bind_some]
       exact ev_bind _ (areStampsI_ev hl) (ev_ifp (by simpa using h1) (Ev.step (fun k => by rw [impl_ReachOf.j0]) (ev_ifp (nd_t hh) (Ev.now _))))
     · unfold spec_ReachOf.f
       simp only [l1In_eq, Option.bind_some]
       exact ev_bind _ (areStampsS_ev hl) (ev_ifp (by simpa using h1) (Ev.step (fun k => by rw [spec_ReachOf.j0]) (ev_ifp (nd_t hh) (Ev.now _))))
 · refine ⟨-1, ?_, ?_, fun h' => absurd h'.1 h1, fun _ => rfl⟩
   · unfold impl_ReachOf.f
     exact ev_bind _ (areStampsI_ev hl) (ev_ifn (by simpa using h1) (Ev.step (fun k => by rw [impl_ReachOf.j0]) (ev_ifp rfl (Ev.now _))))
   · unfold spec_ReachOf.f
     exact ev_bind _ (areStampsS_ev hl) (ev_ifn (by simpa using h1) (Ev.step (fun k => by rw [spec_ReachOf.j0]) (ev_ifp rfl (Ev.now _))))
end Go.Proofs.Ythkhpejggdnkfaa.E
end
