-- Bundled by shake.py from this session's printed and written texts; Lean checks it.
import Derived.Test.YteaiehpgigaoaaaDoorZFnExactNewSessionx1
import Derived.Test.YteaiehpgigaoaaaDoorZFnExactNewSessionx4
import Derived.Test.YteaiehpgigaoaaaDoorZFnExactNewSessionx5
section
namespace Go.Proofs.YteaiehpgigaoaaaDoor.PA
open Go.RowKit Go.Proofs.YteaiehpgigaoaaaDoorW.PrintWords Go.Proofs.YteaiehpgigaoaaaDoorW.PrintLast Go.Proofs.YteaiehpgigaoaaaDoorW.PrintMore
attribute [local go_sem] max2_int min2_int max_two min_two max_three min_three max_four min_four
set_option linter.unusedVariables false
set_option linter.unusedSimpArgs false
def impl_Generates.f (k : Nat) (l0 : List Int) (a1 : Int) : Option (Bool) := (impl_usable.f k l0).bind fun t375 => (if t375 = true then ((impl_within.f a1 0 1000000).bind fun t376 => (if t376 = true then (if 0 < (l0.length : Int) then ((impl_leasts.f k l0 (rd l0 0)).bind fun t378 => (if (rd l0 0) = 0 then (none) else (if 0 ≤ (Int.tmod a1 (rd l0 0)) then (if (Int.tmod a1 (rd l0 0)) < (t378.length : Int) then (if (rd t378 (Int.tmod a1 (rd l0 0))) ≥ 0 then (some (decide ((rd t378 (Int.tmod a1 (rd l0 0))) ≤ a1))) else (some false)) else (none)) else (none)))) else (none)) else (some false))) else (some false))
def impl_Generates.T3 : Bool × List (List Nat × List Nat) := (true, [([], []), ([], []), ([1], [1]), ([2], [2]), ([0, 3], [0, 3]), ([], []), ([], []), ([6], [6]), ([7], [7]), ([5, 8], [5, 8]), ([4, 9], [4, 9]), ([10], [10]), ([11, 4, 0, 1, 2, 3, 4, 5, 6, 7, 8, 9, 10, 11], [11])])
def impl_Generates.B3 : List Nat := [0, 0, 2, 6, 15, 0, 0, 64, 192, 480, 1023, 2047, 4095]
theorem impl_Generates.tab3 : rtab .any (opsOf Tryd.f39 3) = impl_Generates.T3 := by kernel_rfl
theorem impl_Generates.bits3 : waitsOk impl_Generates.T3.2 impl_Generates.B3 = true := by kernel_rfl
set_option maxHeartbeats 8000000 in
set_option maxRecDepth 100000 in
theorem impl_Generates.calls (k : Nat) (A0 : Option Addr) (c0 : Nat) (l0 : List Int) (a1 : Int) (r : Bool) (w : World) (hr0 : Kd.C (Kd.int .i64) w A0 l0.length l0) (hc0 : l0.length ≤ c0) (h : impl_Generates.f k l0 a1 = some r) :
 Calls Tryd.prog 39 #[.slice A0 l0.length c0, .int .i64 a1] w fun e w' => e = .returned (.bool r) ∧ Below w.heap.size w w' := by
 have HR0 := Aside0.mk hr0
 have HC0 := Aside0.mk hc0
 clear hr0 hc0
 have HB := Aside0.mk (Below.refl w.heap.size w)
 have H : ((impl_usable.f k l0).bind fun t375 => (if t375 = true then ((impl_within.f a1 0 1000000).bind fun t376 => (if t376 = true then (if 0 < (l0.length : Int) then ((impl_leasts.f k l0 (rd l0 0)).bind fun t378 => (if (rd l0 0) = 0 then (none) else (if 0 ≤ (Int.tmod a1 (rd l0 0)) then (if (Int.tmod a1 (rd l0 0)) < (t378.length : Int) then (if (rd t378 (Int.tmod a1 (rd l0 0))) ≥ 0 then (some (decide ((rd t378 (Int.tmod a1 (rd l0 0))) ≤ a1))) else (some false)) else (none)) else (none)))) else (none)) else (some false))) else (some false))) = some r := h
 clear h
 replace H := Option.bind_eq_some_iff.mp H
 obtain ⟨t375, A30, H⟩ := H
 replace H : (if t375 = true then ((impl_within.f a1 0 1000000).bind fun t376 => (if t376 = true then (if 0 < (l0.length : Int) then ((impl_leasts.f k l0 (rd l0 0)).bind fun t378 => (if (rd l0 0) = 0 then (none) else (if 0 ≤ (Int.tmod a1 (rd l0 0)) then (if (Int.tmod a1 (rd l0 0)) < (t378.length : Int) then (if (rd t378 (Int.tmod a1 (rd l0 0))) ≥ 0 then (some (decide ((rd t378 (Int.tmod a1 (rd l0 0))) ≤ a1))) else (some false)) else (none)) else (none)))) else (none)) else (some false))) else (some false)) = some r := H
 have A3 := Aside0.mk A30
 clear A30
 by_cases c4 : t375 = true
 · subst c4
   have H1 : ((impl_within.f a1 0 1000000).bind fun t376 => (if t376 = true then (if 0 < (l0.length : Int) then ((impl_leasts.f k l0 (rd l0 0)).bind fun t378 => (if (rd l0 0) = 0 then (none) else (if 0 ≤ (Int.tmod a1 (rd l0 0)) then (if (Int.tmod a1 (rd l0 0)) < (t378.length : Int) then (if (rd t378 (Int.tmod a1 (rd l0 0))) ≥ 0 then (some (decide ((rd t378 (Int.tmod a1 (rd l0 0))) ≤ a1))) else (some false)) else (none)) else (none)))) else (none)) else (some false))) = some r := by rw [if_pos rfl] at H; exact H
   clear H
   have H := H1
   clear H1
   replace H := Option.bind_eq_some_iff.mp H
   obtain ⟨t376, A50, H⟩ := H
   replace H : (if t376 = true then (if 0 < (l0.length : Int) then ((impl_leasts.f k l0 (rd l0 0)).bind fun t378 => (if (rd l0 0) = 0 then (none) else (if 0 ≤ (Int.tmod a1 (rd l0 0)) then (if (Int.tmod a1 (rd l0 0)) < (t378.length : Int) then (if (rd t378 (Int.tmod a1 (rd l0 0))) ≥ 0 then (some (decide ((rd t378 (Int.tmod a1 (rd l0 0))) ≤ a1))) else (some false)) else (none)) else (none)))) else (none)) else (some false)) = some r := H
   have A5 := Aside0.mk A50
   clear A50
   by_cases c6 : t376 = true
   · subst c6
     have H1 : (if 0 < (l0.length : Int) then ((impl_leasts.f k l0 (rd l0 0)).bind fun t378 => (if (rd l0 0) = 0 then (none) else (if 0 ≤ (Int.tmod a1 (rd l0 0)) then (if (Int.tmod a1 (rd l0 0)) < (t378.length : Int) then (if (rd t378 (Int.tmod a1 (rd l0 0))) ≥ 0 then (some (decide ((rd t378 (Int.tmod a1 (rd l0 0))) ≤ a1))) else (some false)) else (none)) else (none)))) else (none)) = some r := by rw [if_pos rfl] at H; exact H
     clear H
     have H := H1
     clear H1
     by_cases c7 : 0 < (l0.length : Int)
     · rw [if_pos c7] at H
       have c7b0 : decide (0 < (l0.length : Int)) = true := decide_eq_true c7
       have c7b1 : decide (0 < l0.length) = true := decide_eq_true (by omega)
       clear c7
       replace H := Option.bind_eq_some_iff.mp H
       obtain ⟨t378, A80, H⟩ := H
       replace H : (if (rd l0 0) = 0 then (none) else (if 0 ≤ (Int.tmod a1 (rd l0 0)) then (if (Int.tmod a1 (rd l0 0)) < (t378.length : Int) then (if (rd t378 (Int.tmod a1 (rd l0 0))) ≥ 0 then (some (decide ((rd t378 (Int.tmod a1 (rd l0 0))) ≤ a1))) else (some false)) else (none)) else (none))) = some r := H
       have A8 := Aside0.mk A80
       clear A80
       by_cases c9 : (rd l0 0) = 0
       · rw [if_pos c9] at H
         exact absurd H (by simp)
       · rw [if_neg c9] at H
         have c9b0 : ((rd l0 0) == 0) = false := beq_eq_false_iff_ne.mpr c9
         have c9b1 : ((rd l0 0) != 0) = true := bne_iff_ne.mpr c9
         obtain ⟨ji10, hji10⟩ : ∃ j_ : Int, (Int.tmod a1 (rd l0 0)) = j_ := ⟨_, rfl⟩
         replace H : (if 0 ≤ (ji10) then (if (ji10) < (t378.length : Int) then (if (rd t378 (ji10)) ≥ 0 then (some (decide ((rd t378 (ji10)) ≤ a1))) else (some false)) else (none)) else (none)) = some r := by first | (rw [hji10] at H; exact H) | (simp only [hji10] at H ⊢; exact H)
         (try rw [hji10] at A3)
         (try rw [hji10] at A5)
         (try rw [hji10] at A8)
         by_cases c11 : 0 ≤ (ji10)
         · rw [if_pos c11] at H
           have c11b0 : decide (0 ≤ (ji10)) = true := decide_eq_true c11
           clear c11
           by_cases c12 : (ji10) < (t378.length : Int)
           · rw [if_pos c12] at H
             have c12b0 : decide ((ji10) < (t378.length : Int)) = true := decide_eq_true c12
             clear c12
             by_cases c13 : (rd t378 (ji10)) ≥ 0
             · rw [if_pos c13] at H
               have c13b0 : decide (0 ≤ (rd t378 (ji10))) = true := decide_eq_true c13
               clear c13
               obtain rfl := Option.some.inj H
               go_enter Tryd.func39, Tryd.ntmps39
               try go_wp2_with (first | ((with_reducible refine gate_callee (f := 54) rfl ?_); refine gL_ (some 7) Tryd.func54 #[.slice A0 l0.length c0] ?_; (with_reducible refine (impl_usable.calls k _ _ l0 true _ ?side1 ?side2 A3.out).mono ?_); (case side1 => exact ce_ (HR0.out)); (case side2 => exact HC0.out); rintro e w' ⟨rfl, ⟨nd, rfl⟩⟩; refine ⟨_, rfl, ?_⟩) | (go_at_call 24; (with_reducible refine (impl_within.calls a1 0 1000000 true _ A5.out).mono ?_); rintro e w' ⟨rfl, ⟨nd, rfl⟩⟩))
               replace HB := Aside0.mk (below_drew1 HB.out)
               have p377 : 0 ≤ (0 : Int) := (by omega)
               have q377 : 0 < (l0.length : Int) := od_
               obtain ⟨ad377, e377, hx377_0⟩ := Kd.at_int HR0.out 0 p377 q377
               have hw377_0 := hx377_0
               (try rw [show ((0 : Int)).toNat = 0 from rfl] at hw377_0)
               (try rw [show 0 * 1 = 0 from rfl] at hw377_0)
               (try rw [Addr.add_zero'] at hw377_0)
               cases e377
               have qi377 : (0 < l0.length) = True := eq_true (by omega)
               (try rw [show ((0 : Int)).toNat = 0 from rfl] at hx377_0)
               (try rw [Addr.add_zero'] at hx377_0)
               (try replace hx377_0 := (HB.out.cell (World.block_lt_of_cell? w _ hx377_0)).trans hx377_0)
               replace p377 := eq_true p377
               replace q377 := eq_true q377
               have p381 : 0 ≤ (0 : Int) := (by omega)
               have q381 : 0 < (l0.length : Int) := od_
               obtain ⟨ad381, e381, hx381_0⟩ := Kd.at_int HR0.out 0 p381 q381
               have hw381_0 := hx381_0
               (try rw [show ((0 : Int)).toNat = 0 from rfl] at hw381_0)
               (try rw [show 0 * 1 = 0 from rfl] at hw381_0)
               (try rw [Addr.add_zero'] at hw381_0)
               obtain rfl : ad377 = ad381 := (by injection e381)
               have qi381 : (0 < l0.length) = True := eq_true (by omega)
               (try rw [show ((0 : Int)).toNat = 0 from rfl] at hx381_0)
               (try rw [Addr.add_zero'] at hx381_0)
               (try replace hx381_0 := (HB.out.cell (World.block_lt_of_cell? w _ hx381_0)).trans hx381_0)
               replace p381 := eq_true p381
               replace q381 := eq_true q381
               refine start_ (n := 13) (S := fun w' => w'.cell? ad377 = some (.int .i64 (rd l0 0)) ∧ w'.cell? ad377 = some (.int .i64 (rd l0 0)) ∧ True) (ds := []) (B_ 0 13) (by kernel_rfl) rfl rfl ⟨((HB.out.cell (World.block_lt_of_cell? w _ hw377_0)).trans hw377_0), ((HB.out.cell (World.block_lt_of_cell? w _ hw381_0)).trans hw381_0), trivial⟩ (fun hHeld => ?_); refine with_tabW impl_Generates.tab3 impl_Generates.bits3 (fun HT_ HW_ => ?_)
               (first | (generalize hq_ : World.drew (World.drewN w _) = w14 at hHeld ⊢; have HBq_ : Aside0 (Below w.heap.size w w14) := ⟨hq_ ▸ (below_drew1 (pw_below_drewN (Below.refl w.heap.size w) _))⟩; clear hq_ HB; have HB := HBq_; clear HBq_; replace hx377_0 := (HB.out.cell (World.block_lt_of_cell? w _ hw377_0)).trans hw377_0; replace hx381_0 := (HB.out.cell (World.block_lt_of_cell? w _ hw381_0)).trans hw381_0) | (generalize w.drew = w14 at HB hx377_0 hx381_0 hHeld ⊢))
               refine pu_ HT_ 0 14 (B_ 1 13) ?_
               refine pu_ HT_ 1 15 (B_ 3 13) ?_
               refine pu_ HT_ 2 16 (B_ 7 13) ?_
               refine pu_ HT_ 5 19 (B_ 39 13) ?_
               refine pu_ HT_ 6 20 (B_ 103 13) ?_
               refine pu_ HT_ 7 21 (B_ 231 13) ?_
               refine tk3_ HT_ HW_ hHeld 3 17 (B_ 239 13) ?_
               refine tk3_ HT_ HW_ hHeld 8 22 (B_ 495 13) ?_
               refine pu_ HT_ 9 23 (B_ 1007 13) ?_
               refine one_ (i := 4) (N := some 18) (B_ 1023 13) rfl rfl (one_of HT_.out (by kernel_rfl)) (by decide) (fun K hK => ?_)
               refine goes_ Tryd.func40 (by kernel_rfl) rfl #[.slice (some ad377) l0.length c0, .int .i64 (rd l0 0)] (by rfl) rfl rfl (by (try simp only [List.map_toArray, List.map_cons, List.map_nil]); first | done | rfl | (simp only [List.length_drop, List.length_take]; rfl)) ?_
               with_reducible refine (impl_leasts.calls k _ _ l0 (rd l0 0) t378 _ ?side1 ?side2 A8.out).mono ?_
               (case side1 => exact ce_ ((Kd.C_below HR0.out HB.out)))
               (case side2 => exact HC0.out)
               rintro e w15 ⟨v379, rfl, ho0, hb⟩
               refine ⟨_, rfl, ?_⟩
               have HO380 := Aside0.mk (Kd.R_lower ho0 (below_size (bl_ HB.out)))
               replace HB := Aside0.mk (below_step (bl_ HB.out) hb)
               (try clear hb)
               (try clear hb2)
               (try clear hk)
               (try clear hi)
               (try clear ho0)
               obtain ⟨Ao16, co16, eo16⟩ := Kd.R_slice HO380.out
               (first | subst eo16 | (injection eo16 with f1_ f2_ f3_; have f4_ := f1_.symm; have f5_ := f3_.symm; clear f1_ f2_ f3_; subst f4_; subst f5_))
               have p382 : 0 ≤ ((ji10) : Int) := od_
               have q382 : (ji10) < (t378.length : Int) := od_
               obtain ⟨ad382, e382, hx382_0⟩ := Kd.at_int (Kd.R_reads' HO380.out).2.2 (ji10) p382 q382
               cases e382
               replace p382 := eq_true p382
               replace q382 := eq_true q382
               refine hK.out _ _ ⟨((HB.out.cell (World.block_lt_of_cell? w _ hw377_0)).trans hw377_0), ((HB.out.cell (World.block_lt_of_cell? w _ hw381_0)).trans hw381_0), trivial⟩ (fun _ => ?_); refine restart_ (S' := fun w' => w'.cell? ad377 = some (.int .i64 (rd l0 0)) ∧ w'.cell? ad377 = some (.int .i64 (rd l0 0)) ∧ w'.cell? (ad382.add ((ji10)).toNat) = some (.int .i64 (rd t378 (ji10)))) (fun _ h => ⟨h.1, h.2.1, trivial⟩) ⟨((HB.out.cell (World.block_lt_of_cell? w _ hw377_0)).trans hw377_0), ((HB.out.cell (World.block_lt_of_cell? w _ hw381_0)).trans hw381_0), hx382_0⟩ (fun hHeld => ?_)
               clear hK K
               refine norm_ (a' := ?_) ?_ ?_
               rotate_left
               · show Act.put _ (some 18) _ = _
                 simp only [Act.put, z1_, z2_, z3_, i64_w, i32_w]
                 rfl
               refine pu_ HT_ 10 24 (B_ 2047 13) ?_
               refine tk3_ HT_ HW_ hHeld 11 25 (B_ 4095 13) ?_
               refine pu_ HT_ 12 5 (B_ 8191 13) ?_
               refine done_ (done_of HT_.out (by kernel_rfl)) ?_
               try go_wp2
               go_ret
               exact ⟨by first | rfl | (simp [errW_none, errW_some] <;> rfl) | (simp only [← hji10]; first | rfl | (simp [errW_none, errW_some] <;> rfl)) | (simp [*, errW_none, errW_some] <;> rfl), bl_ HB.out⟩
             · rw [if_neg c13] at H
               have c13b0 : decide (0 ≤ (rd t378 (ji10))) = false := decide_eq_false c13
               clear c13
               obtain rfl := Option.some.inj H
               go_enter Tryd.func39, Tryd.ntmps39
               try go_wp2_with (first | ((with_reducible refine gate_callee (f := 54) rfl ?_); refine gL_ (some 7) Tryd.func54 #[.slice A0 l0.length c0] ?_; (with_reducible refine (impl_usable.calls k _ _ l0 true _ ?side1 ?side2 A3.out).mono ?_); (case side1 => exact ce_ (HR0.out)); (case side2 => exact HC0.out); rintro e w' ⟨rfl, ⟨nd, rfl⟩⟩; refine ⟨_, rfl, ?_⟩) | (go_at_call 24; (with_reducible refine (impl_within.calls a1 0 1000000 true _ A5.out).mono ?_); rintro e w' ⟨rfl, ⟨nd, rfl⟩⟩))
               replace HB := Aside0.mk (below_drew1 HB.out)
               have p377 : 0 ≤ (0 : Int) := (by omega)
               have q377 : 0 < (l0.length : Int) := od_
               obtain ⟨ad377, e377, hx377_0⟩ := Kd.at_int HR0.out 0 p377 q377
               have hw377_0 := hx377_0
               (try rw [show ((0 : Int)).toNat = 0 from rfl] at hw377_0)
               (try rw [show 0 * 1 = 0 from rfl] at hw377_0)
               (try rw [Addr.add_zero'] at hw377_0)
               cases e377
               have qi377 : (0 < l0.length) = True := eq_true (by omega)
               (try rw [show ((0 : Int)).toNat = 0 from rfl] at hx377_0)
               (try rw [Addr.add_zero'] at hx377_0)
               (try replace hx377_0 := (HB.out.cell (World.block_lt_of_cell? w _ hx377_0)).trans hx377_0)
               replace p377 := eq_true p377
               replace q377 := eq_true q377
               have p381 : 0 ≤ (0 : Int) := (by omega)
               have q381 : 0 < (l0.length : Int) := od_
               obtain ⟨ad381, e381, hx381_0⟩ := Kd.at_int HR0.out 0 p381 q381
               have hw381_0 := hx381_0
               (try rw [show ((0 : Int)).toNat = 0 from rfl] at hw381_0)
               (try rw [show 0 * 1 = 0 from rfl] at hw381_0)
               (try rw [Addr.add_zero'] at hw381_0)
               obtain rfl : ad377 = ad381 := (by injection e381)
               have qi381 : (0 < l0.length) = True := eq_true (by omega)
               (try rw [show ((0 : Int)).toNat = 0 from rfl] at hx381_0)
               (try rw [Addr.add_zero'] at hx381_0)
               (try replace hx381_0 := (HB.out.cell (World.block_lt_of_cell? w _ hx381_0)).trans hx381_0)
               replace p381 := eq_true p381
               replace q381 := eq_true q381
               refine start_ (n := 13) (S := fun w' => w'.cell? ad377 = some (.int .i64 (rd l0 0)) ∧ w'.cell? ad377 = some (.int .i64 (rd l0 0)) ∧ True) (ds := []) (B_ 0 13) (by kernel_rfl) rfl rfl ⟨((HB.out.cell (World.block_lt_of_cell? w _ hw377_0)).trans hw377_0), ((HB.out.cell (World.block_lt_of_cell? w _ hw381_0)).trans hw381_0), trivial⟩ (fun hHeld => ?_); refine with_tabW impl_Generates.tab3 impl_Generates.bits3 (fun HT_ HW_ => ?_)
               (first | (generalize hq_ : World.drew (World.drewN w _) = w17 at hHeld ⊢; have HBq_ : Aside0 (Below w.heap.size w w17) := ⟨hq_ ▸ (below_drew1 (pw_below_drewN (Below.refl w.heap.size w) _))⟩; clear hq_ HB; have HB := HBq_; clear HBq_; replace hx377_0 := (HB.out.cell (World.block_lt_of_cell? w _ hw377_0)).trans hw377_0; replace hx381_0 := (HB.out.cell (World.block_lt_of_cell? w _ hw381_0)).trans hw381_0) | (generalize w.drew = w17 at HB hx377_0 hx381_0 hHeld ⊢))
               refine pu_ HT_ 0 14 (B_ 1 13) ?_
               refine pu_ HT_ 1 15 (B_ 3 13) ?_
               refine pu_ HT_ 2 16 (B_ 7 13) ?_
               refine pu_ HT_ 5 19 (B_ 39 13) ?_
               refine pu_ HT_ 6 20 (B_ 103 13) ?_
               refine pu_ HT_ 7 21 (B_ 231 13) ?_
               refine tk3_ HT_ HW_ hHeld 3 17 (B_ 239 13) ?_
               refine tk3_ HT_ HW_ hHeld 8 22 (B_ 495 13) ?_
               refine pu_ HT_ 9 23 (B_ 1007 13) ?_
               refine one_ (i := 4) (N := some 18) (B_ 1023 13) rfl rfl (one_of HT_.out (by kernel_rfl)) (by decide) (fun K hK => ?_)
               refine goes_ Tryd.func40 (by kernel_rfl) rfl #[.slice (some ad377) l0.length c0, .int .i64 (rd l0 0)] (by rfl) rfl rfl (by (try simp only [List.map_toArray, List.map_cons, List.map_nil]); first | done | rfl | (simp only [List.length_drop, List.length_take]; rfl)) ?_
               with_reducible refine (impl_leasts.calls k _ _ l0 (rd l0 0) t378 _ ?side1 ?side2 A8.out).mono ?_
               (case side1 => exact ce_ ((Kd.C_below HR0.out HB.out)))
               (case side2 => exact HC0.out)
               rintro e w18 ⟨v379, rfl, ho0, hb⟩
               refine ⟨_, rfl, ?_⟩
               have HO380 := Aside0.mk (Kd.R_lower ho0 (below_size (bl_ HB.out)))
               replace HB := Aside0.mk (below_step (bl_ HB.out) hb)
               (try clear hb)
               (try clear hb2)
               (try clear hk)
               (try clear hi)
               (try clear ho0)
               obtain ⟨Ao19, co19, eo19⟩ := Kd.R_slice HO380.out
               (first | subst eo19 | (injection eo19 with f1_ f2_ f3_; have f4_ := f1_.symm; have f5_ := f3_.symm; clear f1_ f2_ f3_; subst f4_; subst f5_))
               have p382 : 0 ≤ ((ji10) : Int) := od_
               have q382 : (ji10) < (t378.length : Int) := od_
               obtain ⟨ad382, e382, hx382_0⟩ := Kd.at_int (Kd.R_reads' HO380.out).2.2 (ji10) p382 q382
               cases e382
               replace p382 := eq_true p382
               replace q382 := eq_true q382
               refine hK.out _ _ ⟨((HB.out.cell (World.block_lt_of_cell? w _ hw377_0)).trans hw377_0), ((HB.out.cell (World.block_lt_of_cell? w _ hw381_0)).trans hw381_0), trivial⟩ (fun _ => ?_); refine restart_ (S' := fun w' => w'.cell? ad377 = some (.int .i64 (rd l0 0)) ∧ w'.cell? ad377 = some (.int .i64 (rd l0 0)) ∧ w'.cell? (ad382.add ((ji10)).toNat) = some (.int .i64 (rd t378 (ji10)))) (fun _ h => ⟨h.1, h.2.1, trivial⟩) ⟨((HB.out.cell (World.block_lt_of_cell? w _ hw377_0)).trans hw377_0), ((HB.out.cell (World.block_lt_of_cell? w _ hw381_0)).trans hw381_0), hx382_0⟩ (fun hHeld => ?_)
               clear hK K
               refine norm_ (a' := ?_) ?_ ?_
               rotate_left
               · show Act.put _ (some 18) _ = _
                 simp only [Act.put, z1_, z2_, z3_, i64_w, i32_w]
                 rfl
               refine pu_ HT_ 10 24 (B_ 2047 13) ?_
               refine tk3_ HT_ HW_ hHeld 11 25 (B_ 4095 13) ?_
               refine pu_ HT_ 12 5 (B_ 8191 13) ?_
               refine done_ (done_of HT_.out (by kernel_rfl)) ?_
               try go_wp2
               go_ret
               exact ⟨by first | rfl | (simp [errW_none, errW_some] <;> rfl) | (simp only [← hji10]; first | rfl | (simp [errW_none, errW_some] <;> rfl)) | (simp [*, errW_none, errW_some] <;> rfl), bl_ HB.out⟩
           · rw [if_neg c12] at H
             exact absurd H (by simp)
         · rw [if_neg c11] at H
           exact absurd H (by simp)
     · rw [if_neg c7] at H
       exact absurd H (by simp)
   · replace c6 := Bool.eq_false_iff.mpr c6
     subst c6
     have H1 : (some false) = some r := by rw [if_neg (show ¬ (false = true) by decide)] at H; exact H
     clear H
     have H := H1
     clear H1
     obtain rfl := Option.some.inj H
     go_enter Tryd.func39, Tryd.ntmps39
     go_wp2_with (first | ((with_reducible refine gate_callee (f := 54) rfl ?_); refine gL_ (some 7) Tryd.func54 #[.slice A0 l0.length c0] ?_; (with_reducible refine (impl_usable.calls k _ _ l0 true _ ?side1 ?side2 A3.out).mono ?_); (case side1 => exact ce_ (HR0.out)); (case side2 => exact HC0.out); rintro e w' ⟨rfl, ⟨nd, rfl⟩⟩; refine ⟨_, rfl, ?_⟩) | (go_at_call 24; (with_reducible refine (impl_within.calls a1 0 1000000 false _ A5.out).mono ?_); rintro e w' ⟨rfl, ⟨nd, rfl⟩⟩))
     go_ret
     exact ⟨by first | rfl | (simp [errW_none, errW_some] <;> rfl) | (simp [*, errW_none, errW_some] <;> rfl), bl_ HB.out⟩
 · replace c4 := Bool.eq_false_iff.mpr c4
   subst c4
   have H1 : (some false) = some r := by rw [if_neg (show ¬ (false = true) by decide)] at H; exact H
   clear H
   have H := H1
   clear H1
   obtain rfl := Option.some.inj H
   go_enter Tryd.func39, Tryd.ntmps39
   go_wp2_with (first | ((with_reducible refine gate_callee (f := 54) rfl ?_); refine gL_ (some 7) Tryd.func54 #[.slice A0 l0.length c0] ?_; (with_reducible refine (impl_usable.calls k _ _ l0 false _ ?side1 ?side2 A3.out).mono ?_); (case side1 => exact ce_ (HR0.out)); (case side2 => exact HC0.out); rintro e w' ⟨rfl, ⟨nd, rfl⟩⟩; refine ⟨_, rfl, ?_⟩))
   go_ret
   exact ⟨by first | rfl | (simp [errW_none, errW_some] <;> rfl) | (simp [*, errW_none, errW_some] <;> rfl), bl_ HB.out⟩
end Go.Proofs.YteaiehpgigaoaaaDoor.PA
end
section
namespace Go.Proofs.YteaiehpgigaoaaaDoor.PA
open Go.RowKit Go.Proofs.YteaiehpgigaoaaaDoorW.PrintWords Go.Proofs.YteaiehpgigaoaaaDoorW.PrintLast Go.Proofs.YteaiehpgigaoaaaDoorW.PrintMore
attribute [local go_sem] max2_int min2_int max_two min_two max_three min_three max_four min_four
set_option linter.unusedVariables false
set_option linter.unusedSimpArgs false
mutual
def impl_IsSemigroup.j0 : Nat → List Int → Bool → Option (Bool)
 | 0, _, _ => none
 | k + 1, x3, x27 => if x27 = true then (some false) else (impl_IsSemigroup.l0 k x3 1)
def impl_IsSemigroup.l0 : Nat → List Int → Int → Option (Bool)
 | 0, _, _ => none
 | k + 1, x3, x4 => if x4 < (x3.length : Int) then (if 0 ≤ x4 then (if x4 ≤ (x3.length : Int) then ((impl_Generates.f k (x3.take (x4 : Int).toNat) (rd x3 x4)).bind fun t390 => (if t390 = true then (some false) else (impl_IsSemigroup.l0 k x3 (wrap64 (x4 + 1))))) else (none)) else (none)) else (if 0 < (x3.length : Int) then ((impl_leasts.f k x3 (rd x3 0)).bind fun t392 => (impl_IsSemigroup.l1 k x3 t392 (t392.length : Int) 0)) else (none))
def impl_IsSemigroup.l1 : Nat → List Int → List Int → Int → Int → Option (Bool)
 | 0, _, _, _, _ => none
 | k + 1, x3, x46, x47, x48 => if x48 < x47 then (if 0 ≤ x48 then (if x48 < (x46.length : Int) then (if 0 < (x3.length : Int) then (if (wrap64 ((rd x46 x48) - (rd x3 0))) ≥ 200 then (some false) else (impl_IsSemigroup.l1 k x3 x46 x47 (wrap64 (x48 + 1)))) else (none)) else (none)) else (none)) else (some true)
end
def impl_IsSemigroup.f (k : Nat) (l0_0 : List Int) : Option (Bool) := (impl_within.f (l0_0.length : Int) 1 12).bind fun t384 => (if t384 = true then ((impl_allWithin.f k l0_0 1 60).bind fun t385 => (if t385 = true then ((impl_IsAscending.f k l0_0).bind fun t386 => (if t386 = true then ((impl_GcdOfList.f k l0_0).bind fun t387 => (impl_IsSemigroup.j0 k l0_0 (t387 != 1))) else (impl_IsSemigroup.j0 k l0_0 true))) else (impl_IsSemigroup.j0 k l0_0 true))) else (impl_IsSemigroup.j0 k l0_0 true))
def impl_IsSemigroup.T7 : Bool × List (List Nat × List Nat) := (true, [([], []), ([], []), ([0, 1], [0, 1]), ([], []), ([], []), ([3, 4], [3, 4]), ([5], [5]), ([2, 6], [2, 6])])
def impl_IsSemigroup.B7 : List Nat := [0, 0, 3, 0, 0, 24, 56, 127]
theorem impl_IsSemigroup.tab7 : rtab .any (opsOf Tryd.f23 7) = impl_IsSemigroup.T7 := by kernel_rfl
theorem impl_IsSemigroup.bits7 : waitsOk impl_IsSemigroup.T7.2 impl_IsSemigroup.B7 = true := by kernel_rfl
set_option maxHeartbeats 8000000 in
set_option maxRecDepth 100000 in
theorem impl_IsSemigroup.calls (k : Nat) (A0_0 : Option Addr) (c0_0 : Nat) (l0_0 : List Int) (r : Bool) (w : World) (hr0_0 : Kd.C (Kd.int .i64) w A0_0 l0_0.length l0_0) (hc0_0 : l0_0.length ≤ c0_0) (h : impl_IsSemigroup.f k l0_0 = some r) :
 Calls Tryd.prog 23 #[.agg #[.slice A0_0 l0_0.length c0_0]] w fun e w' => e = .returned (.bool r) ∧ Below w.heap.size w w' := by
 have hu24 := Tryd.underlying24
 have HR0_0 := Aside0.mk hr0_0
 have HC0_0 := Aside0.mk hc0_0
 clear hr0_0 hc0_0
 have HB := Aside0.mk (Below.refl w.heap.size w)
 have H : ((impl_within.f (l0_0.length : Int) 1 12).bind fun t384 => (if t384 = true then ((impl_allWithin.f k l0_0 1 60).bind fun t385 => (if t385 = true then ((impl_IsAscending.f k l0_0).bind fun t386 => (if t386 = true then ((impl_GcdOfList.f k l0_0).bind fun t387 => (impl_IsSemigroup.j0 k l0_0 (t387 != 1))) else (impl_IsSemigroup.j0 k l0_0 true))) else (impl_IsSemigroup.j0 k l0_0 true))) else (impl_IsSemigroup.j0 k l0_0 true))) = some r := h
 clear h
 have HC2 := Aside0.mk H
 clear H
 go_enter Tryd.func23, Tryd.ntmps23
 go_upto_region 2 with (first | ((with_reducible refine gate_dst (N := 1) rfl ?_); refine box_event ?hg (N := 1) ?hd (cs := #[.slice A0_0 l0_0.length c0_0]) (t := 24) ?hr ?_; (case hd => rfl); (case hg => rfl); (case hr => first | (go_simp; done) | (go_simp; rfl)); intro gb383 hg w3 hbox hb; have BK383 := Aside0.mk (hbox); have GW383 := Aside0.mk ((by rw [hg]; exact (below_size (bl_ HB.out)) : w.heap.size ≤ gb383)); have GE383 := Aside0.mk ((by rw [hg]; exact (below_size (bl_ HB.out)) : w.heap.size ≤ gb383)); replace HB := Aside0.mk (below_step (bl_ HB.out) hb); clear hb hbox hg; have hcz4_0 : w3.cell? ⟨gb383, 0, none⟩ = some (.slice A0_0 l0_0.length c0_0) := (blk_cell BK383.out 0).trans rfl; have hfz4_0 := blk_frozen BK383.out 0))
 (try simp only [Act.put, z1_, z2_, z3_])
 go_cut [27] (fun v27 wc => ∃ (kq : Nat) (x27_1 : Bool), v27 = .bool x27_1 ∧ Aside0 (impl_IsSemigroup.j0 kq l0_0 x27_1 = some r) ∧ Aside0 (kq ≤ k) ∧ Aside0 (wc.heap[gb383]? = some (.cells #[(.slice A0_0 l0_0.length c0_0)] 24 (0, 0))) ∧ Aside0 (Below w.heap.size w wc))
 case first =>
  have H := HC2.out
  clear HC2
  replace H := Option.bind_eq_some_iff.mp H
  obtain ⟨t384, A50, H⟩ := H
  replace H : (if t384 = true then ((impl_allWithin.f k l0_0 1 60).bind fun t385 => (if t385 = true then ((impl_IsAscending.f k l0_0).bind fun t386 => (if t386 = true then ((impl_GcdOfList.f k l0_0).bind fun t387 => (impl_IsSemigroup.j0 k l0_0 (t387 != 1))) else (impl_IsSemigroup.j0 k l0_0 true))) else (impl_IsSemigroup.j0 k l0_0 true))) else (impl_IsSemigroup.j0 k l0_0 true)) = some r := H
  have A5 := Aside0.mk A50
  clear A50
  by_cases c6 : t384 = true
  · subst c6
    have H1 : ((impl_allWithin.f k l0_0 1 60).bind fun t385 => (if t385 = true then ((impl_IsAscending.f k l0_0).bind fun t386 => (if t386 = true then ((impl_GcdOfList.f k l0_0).bind fun t387 => (impl_IsSemigroup.j0 k l0_0 (t387 != 1))) else (impl_IsSemigroup.j0 k l0_0 true))) else (impl_IsSemigroup.j0 k l0_0 true))) = some r := by rw [if_pos rfl] at H; exact H
    clear H
    have H := H1
    clear H1
    replace H := Option.bind_eq_some_iff.mp H
    obtain ⟨t385, A70, H⟩ := H
    replace H : (if t385 = true then ((impl_IsAscending.f k l0_0).bind fun t386 => (if t386 = true then ((impl_GcdOfList.f k l0_0).bind fun t387 => (impl_IsSemigroup.j0 k l0_0 (t387 != 1))) else (impl_IsSemigroup.j0 k l0_0 true))) else (impl_IsSemigroup.j0 k l0_0 true)) = some r := H
    have A7 := Aside0.mk A70
    clear A70
    by_cases c8 : t385 = true
    · subst c8
      have H1 : ((impl_IsAscending.f k l0_0).bind fun t386 => (if t386 = true then ((impl_GcdOfList.f k l0_0).bind fun t387 => (impl_IsSemigroup.j0 k l0_0 (t387 != 1))) else (impl_IsSemigroup.j0 k l0_0 true))) = some r := by rw [if_pos rfl] at H; exact H
      clear H
      have H := H1
      clear H1
      replace H := Option.bind_eq_some_iff.mp H
      obtain ⟨t386, A90, H⟩ := H
      replace H : (if t386 = true then ((impl_GcdOfList.f k l0_0).bind fun t387 => (impl_IsSemigroup.j0 k l0_0 (t387 != 1))) else (impl_IsSemigroup.j0 k l0_0 true)) = some r := H
      have A9 := Aside0.mk A90
      clear A90
      by_cases c10 : t386 = true
      · subst c10
        have H1 : ((impl_GcdOfList.f k l0_0).bind fun t387 => (impl_IsSemigroup.j0 k l0_0 (t387 != 1))) = some r := by rw [if_pos rfl] at H; exact H
        clear H
        have H := H1
        clear H1
        replace H := Option.bind_eq_some_iff.mp H
        obtain ⟨t387, A110, H⟩ := H
        replace H : (impl_IsSemigroup.j0 k l0_0 (t387 != 1)) = some r := H
        have A11 := Aside0.mk A110
        clear A110
        have H' := Aside0.mk H
        clear H
        go_wp2_with (first | ((with_reducible refine gate_callee (f := 24) rfl ?_); refine gL_ (some 11) Tryd.func24 #[.int .i64 (l0_0.length : Int), .int .i64 1, .int .i64 12] ?_; (with_reducible refine (impl_within.calls (l0_0.length : Int) 1 12 true _ A5.out).mono ?_); rintro e w' ⟨rfl, ⟨nd, rfl⟩⟩; refine ⟨_, rfl, ?_⟩) | (go_at_call 36; (with_reducible refine (impl_allWithin.calls k _ _ l0_0 1 60 true _ ?side1 ?side2 A7.out).mono ?_); (case side1 => repeat (first | exact (Kd.C_below HR0_0.out (by repeat (first | (with_reducible first | exact HB.out | apply below_alloc | apply pw_below_drewN | apply below_drew1 | refine below_set ?_ GE383.out) | exact HB.out))) | (with_reducible refine Kd.C_alloc ?_ _) | (with_reducible refine Kd.C_drewN ?_ _) | (with_reducible refine Kd.C_drew ?_))); (case side2 => exact HC0_0.out); rintro e w' ⟨rfl, ⟨nd, rfl⟩⟩) | (go_at_call 37; (with_reducible refine (impl_IsAscending.calls k _ _ l0_0 true _ ?side1 ?side2 A9.out).mono ?_); (case side1 => repeat (first | exact (Kd.C_below HR0_0.out (by repeat (first | (with_reducible first | exact HB.out | apply below_alloc | apply pw_below_drewN | apply below_drew1 | refine below_set ?_ GE383.out) | exact HB.out))) | (with_reducible refine Kd.C_alloc ?_ _) | (with_reducible refine Kd.C_drewN ?_ _) | (with_reducible refine Kd.C_drew ?_))); (case side2 => exact HC0_0.out); rintro e w' ⟨rfl, ⟨nd, rfl⟩⟩) | (go_at_call 38; (with_reducible refine (impl_GcdOfList.calls k _ _ l0_0 t387 _ ?side1 ?side2 A11.out).mono ?_); (case side1 => repeat (first | exact (Kd.C_below HR0_0.out (by repeat (first | (with_reducible first | exact HB.out | apply below_alloc | apply pw_below_drewN | apply below_drew1 | refine below_set ?_ GE383.out) | exact HB.out))) | (with_reducible refine Kd.C_alloc ?_ _) | (with_reducible refine Kd.C_drewN ?_ _) | (with_reducible refine Kd.C_drew ?_))); (case side2 => exact HC0_0.out); rintro e w12 ⟨rfl, hb⟩; replace BK383 := Aside0.mk (blk_below (be_ BK383.out) hb); replace HB := Aside0.mk (below_step (by repeat (first | (with_reducible first | exact HB.out | apply below_alloc | apply pw_below_drewN | apply below_drew1 | refine below_set ?_ GE383.out) | exact HB.out)) hb); (try clear hb); (try clear hb2); (try clear hk); (try clear hi)))
        go_meet
        case rel => exact ⟨_, ((t387 != 1)), (by first | rfl | (simp; done) | (simp [*]; done)), H', ⟨by first | omega | exact Nat.le_refl _⟩, ⟨be_ BK383.out⟩, ⟨by repeat (first | (with_reducible first | exact HB.out | apply below_alloc | apply pw_below_drewN | apply below_drew1 | refine below_set ?_ GE383.out) | exact HB.out)⟩⟩
      · replace c10 := Bool.eq_false_iff.mpr c10
        subst c10
        have H1 : (impl_IsSemigroup.j0 k l0_0 true) = some r := by rw [if_neg (show ¬ (false = true) by decide)] at H; exact H
        clear H
        have H := H1
        clear H1
        have H' := Aside0.mk H
        clear H
        go_wp2_with (first | ((with_reducible refine gate_callee (f := 24) rfl ?_); refine gL_ (some 11) Tryd.func24 #[.int .i64 (l0_0.length : Int), .int .i64 1, .int .i64 12] ?_; (with_reducible refine (impl_within.calls (l0_0.length : Int) 1 12 true _ A5.out).mono ?_); rintro e w' ⟨rfl, ⟨nd, rfl⟩⟩; refine ⟨_, rfl, ?_⟩) | (go_at_call 36; (with_reducible refine (impl_allWithin.calls k _ _ l0_0 1 60 true _ ?side1 ?side2 A7.out).mono ?_); (case side1 => repeat (first | exact (Kd.C_below HR0_0.out (by repeat (first | (with_reducible first | exact HB.out | apply below_alloc | apply pw_below_drewN | apply below_drew1 | refine below_set ?_ GE383.out) | exact HB.out))) | (with_reducible refine Kd.C_alloc ?_ _) | (with_reducible refine Kd.C_drewN ?_ _) | (with_reducible refine Kd.C_drew ?_))); (case side2 => exact HC0_0.out); rintro e w' ⟨rfl, ⟨nd, rfl⟩⟩) | (go_at_call 37; (with_reducible refine (impl_IsAscending.calls k _ _ l0_0 false _ ?side1 ?side2 A9.out).mono ?_); (case side1 => repeat (first | exact (Kd.C_below HR0_0.out (by repeat (first | (with_reducible first | exact HB.out | apply below_alloc | apply pw_below_drewN | apply below_drew1 | refine below_set ?_ GE383.out) | exact HB.out))) | (with_reducible refine Kd.C_alloc ?_ _) | (with_reducible refine Kd.C_drewN ?_ _) | (with_reducible refine Kd.C_drew ?_))); (case side2 => exact HC0_0.out); rintro e w' ⟨rfl, ⟨nd, rfl⟩⟩))
        go_meet
        case rel => exact ⟨_, (true), (by first | rfl | (simp; done) | (simp [*]; done)), H', ⟨by first | omega | exact Nat.le_refl _⟩, ⟨be_ BK383.out⟩, ⟨by repeat (first | (with_reducible first | exact HB.out | apply below_alloc | apply pw_below_drewN | apply below_drew1 | refine below_set ?_ GE383.out) | exact HB.out)⟩⟩
    · replace c8 := Bool.eq_false_iff.mpr c8
      subst c8
      have H1 : (impl_IsSemigroup.j0 k l0_0 true) = some r := by rw [if_neg (show ¬ (false = true) by decide)] at H; exact H
      clear H
      have H := H1
      clear H1
      have H' := Aside0.mk H
      clear H
      go_wp2_with (first | ((with_reducible refine gate_callee (f := 24) rfl ?_); refine gL_ (some 11) Tryd.func24 #[.int .i64 (l0_0.length : Int), .int .i64 1, .int .i64 12] ?_; (with_reducible refine (impl_within.calls (l0_0.length : Int) 1 12 true _ A5.out).mono ?_); rintro e w' ⟨rfl, ⟨nd, rfl⟩⟩; refine ⟨_, rfl, ?_⟩) | (go_at_call 36; (with_reducible refine (impl_allWithin.calls k _ _ l0_0 1 60 false _ ?side1 ?side2 A7.out).mono ?_); (case side1 => repeat (first | exact (Kd.C_below HR0_0.out (by repeat (first | (with_reducible first | exact HB.out | apply below_alloc | apply pw_below_drewN | apply below_drew1 | refine below_set ?_ GE383.out) | exact HB.out))) | (with_reducible refine Kd.C_alloc ?_ _) | (with_reducible refine Kd.C_drewN ?_ _) | (with_reducible refine Kd.C_drew ?_))); (case side2 => exact HC0_0.out); rintro e w' ⟨rfl, ⟨nd, rfl⟩⟩))
      go_meet
      case rel => exact ⟨_, (true), (by first | rfl | (simp; done) | (simp [*]; done)), H', ⟨by first | omega | exact Nat.le_refl _⟩, ⟨be_ BK383.out⟩, ⟨by repeat (first | (with_reducible first | exact HB.out | apply below_alloc | apply pw_below_drewN | apply below_drew1 | refine below_set ?_ GE383.out) | exact HB.out)⟩⟩
  · replace c6 := Bool.eq_false_iff.mpr c6
    subst c6
    have H1 : (impl_IsSemigroup.j0 k l0_0 true) = some r := by rw [if_neg (show ¬ (false = true) by decide)] at H; exact H
    clear H
    have H := H1
    clear H1
    have H' := Aside0.mk H
    clear H
    go_wp2_with (first | ((with_reducible refine gate_callee (f := 24) rfl ?_); refine gL_ (some 11) Tryd.func24 #[.int .i64 (l0_0.length : Int), .int .i64 1, .int .i64 12] ?_; (with_reducible refine (impl_within.calls (l0_0.length : Int) 1 12 false _ A5.out).mono ?_); rintro e w' ⟨rfl, ⟨nd, rfl⟩⟩; refine ⟨_, rfl, ?_⟩))
    go_meet
    case rel => exact ⟨_, (true), (by first | rfl | (simp; done) | (simp [*]; done)), H', ⟨by first | omega | exact Nat.le_refl _⟩, ⟨be_ BK383.out⟩, ⟨by repeat (first | (with_reducible first | exact HB.out | apply below_alloc | apply pw_below_drewN | apply below_drew1 | refine below_set ?_ GE383.out) | exact HB.out)⟩⟩
 case rest =>
  clear HC2
  try clear c1
  try clear c2
  try clear p2
  try clear c6
  try clear c8
  try clear c10
  try clear hcz4_0
  try clear hfz4_0
  obtain ⟨kq, x27_1, rfl, HA, HJ1, BK383, HB⟩ := hcut
  cases kq with
  | zero => exact absurd HA.out (by simp [impl_IsSemigroup.j0])
  | succ kj1 =>
   have H := HA.out
   clear HA
   simp only [impl_IsSemigroup.j0] at H
   by_cases c13 : x27_1 = true
   · subst c13
     have H1 : (some false) = some r := by rw [if_pos rfl] at H; exact H
     clear H
     have H := H1
     clear H1
     obtain rfl := Option.some.inj H
     go_wp2
     go_ret
     exact ⟨by first | rfl | (simp [errW_none, errW_some] <;> rfl) | (simp [*, errW_none, errW_some] <;> rfl), by repeat (first | (with_reducible first | exact HB.out | apply below_alloc | apply pw_below_drewN | apply below_drew1 | refine below_set ?_ GE383.out) | exact HB.out)⟩
   · replace c13 := Bool.eq_false_iff.mpr c13
     subst c13
     have H1 : (impl_IsSemigroup.l0 kj1 l0_0 1) = some r := by rw [if_neg (show ¬ (false = true) by decide)] at H; exact H
     clear H
     have H := H1
     clear H1
     have H' := Aside0.mk H
     clear H
     go_wp2
     go_loopg [4] kj1 (fun kq v4 w' => ∃ (x4_2 : Int), v4 = .int .i64 x4_2 ∧ Aside0 (impl_IsSemigroup.l0 kq l0_0 x4_2 = some r) ∧ Aside0 (kq ≤ kj1) ∧ Aside0 (w'.heap[gb383]? = some (.cells #[(.slice A0_0 l0_0.length c0_0)] 24 (0, 0))) ∧ Aside0 (Below w.heap.size w w'))
     case atStart => exact ⟨(1), (by first | rfl | (simp; done) | (simp [*]; done)), H', ⟨Nat.le_refl _⟩, ⟨be_ BK383.out⟩, ⟨by repeat (first | (with_reducible first | exact HB.out | apply below_alloc | apply pw_below_drewN | apply below_drew1 | refine below_set ?_ GE383.out) | exact HB.out)⟩⟩
     case round =>
      clear H'
      try clear c1
      try clear c2
      try clear p2
      try clear c6
      try clear c8
      try clear c10
      try clear c13
      try clear hcz4_0
      try clear hfz4_0
      try clear p2
      obtain ⟨x4_2, rfl, HA, HK2, BK383, HB⟩ := hrel
      cases gk with
      | zero => exact absurd HA.out (by simp [impl_IsSemigroup.l0])
      | succ k2 =>
       have H := HA.out
       clear HA
       simp only [impl_IsSemigroup.l0] at H
       by_cases c14 : x4_2 < (l0_0.length : Int)
       · rw [if_pos c14] at H
         have c14b0 : decide (x4_2 < (l0_0.length : Int)) = true := decide_eq_true c14
         clear c14
         by_cases c15 : 0 ≤ x4_2
         · rw [if_pos c15] at H
           have c15b0 := eq_true c15
           have c15b1 : decide (0 ≤ x4_2) = true := decide_eq_true c15
           clear c15
           by_cases c16 : x4_2 ≤ (l0_0.length : Int)
           · rw [if_pos c16] at H
             have c16b0 := eq_true c16
             have c16b1 : decide (x4_2 ≤ (l0_0.length : Int)) = true := decide_eq_true c16
             clear c16
             replace H := Option.bind_eq_some_iff.mp H
             obtain ⟨t390, A170, H⟩ := H
             replace H : (if t390 = true then (some false) else (impl_IsSemigroup.l0 k2 l0_0 (wrap64 (x4_2 + 1)))) = some r := H
             have A17 := Aside0.mk A170
             clear A170
             by_cases c18 : t390 = true
             · subst c18
               have H1 : (some false) = some r := by rw [if_pos rfl] at H; exact H
               clear H
               have H := H1
               clear H1
               obtain rfl := Option.some.inj H
               try go_wp2
               replace BK383 := Aside0.mk (blk_drew BK383.out)
               replace HB := Aside0.mk (below_drew1 HB.out)
               obtain ⟨i020, hi020, _, hsz20, _⟩ := info_parts info3
               obtain ⟨hcut20, hA20, hC20⟩ := print_take_of (P := Tryd.prog) (Value.int .i64) 0 22 3 .i64 Tryd.underlying22 hi020 hsz20 A0_0 c0_0 l0_0 x4_2 (od_) (od_) HC0_0.out
               have HR388 := Aside0.mk (Kd.C_of_reads (h1 := fun _ => rfl) (hA20 _ (Kd.reads_of_C HR0_0.out)))
               have HC388 := Aside0.mk hC20
               clear hA20 hC20 hi020 hsz20
               have p389 : 0 ≤ (x4_2 : Int) := od_
               have q389 : x4_2 < (l0_0.length : Int) := od_
               obtain ⟨ad389, e389, hx389_0⟩ := Kd.at_int HR0_0.out x4_2 p389 q389
               have hw389_0 := hx389_0
               cases e389
               (try replace hx389_0 := (HB.out.cell (World.block_lt_of_cell? w _ hx389_0)).trans hx389_0)
               replace p389 := eq_true p389
               replace q389 := eq_true q389
               refine start_ (n := 8) (S := fun w' => w'.cell? (ad389.add (x4_2).toNat) = some (.int .i64 (rd l0_0 x4_2))) (ds := []) (B_ 0 8) (by kernel_rfl) rfl rfl (by first | exact hw389_0 | exact (HB.out.cell (World.block_lt_of_cell? w _ hw389_0)).trans hw389_0 | (obtain ⟨_, e_, h_⟩ := Kd.at_int HR0_0.out x4_2 (of_eq_true p389) (of_eq_true q389); cases e_; exact h_)) (fun hHeld => ?_); refine with_tabW impl_IsSemigroup.tab7 impl_IsSemigroup.bits7 (fun HT_ HW_ => ?_)
               generalize wr.drew = w19 at BK383 HB HR388 hx389_0 hHeld ⊢
               refine pu_ HT_ 0 34 (B_ 1 8) ?_
               refine pu_ HT_ 1 35 (B_ 3 8) ?_
               refine pu_ HT_ 2 36 (B_ 7 8) ?_
               refine pu_ HT_ 3 37 (B_ 15 8) ?_
               refine pu_ HT_ 4 38 (B_ 31 8) ?_
               refine pu_ HT_ 5 39 (B_ 63 8) ?_
               refine tk1_ HT_ HW_ hHeld 6 40 (B_ 127 8) ?_
               refine one_ (i := 7) (N := some 41) (B_ 255 8) rfl rfl (one_of HT_.out (by kernel_rfl)) (by decide) (fun K hK => ?_)
               refine goes_ Tryd.func39 (by kernel_rfl) rfl #[.slice (some ad389) (l0_0.take (x4_2 : Int).toNat).length c0_0, .int .i64 (rd l0_0 x4_2)] (by rfl) rfl rfl (by (try simp only [List.map_toArray, List.map_cons, List.map_nil]); first | done | (rw [show (l0_0.take (x4_2 : Int).toNat).length = x4_2.toNat from (by rw [List.length_take]; have h_ : (x4_2 : Int) ≤ (l0_0.length : Int) := od_; omega)] <;> rfl) | rfl | (simp only [List.length_drop, List.length_take]; rfl)) ?_
               with_reducible refine (impl_Generates.calls k2 _ _ (l0_0.take (x4_2 : Int).toNat) (rd l0_0 x4_2) true _ ?side1 ?side2 A17.out).mono ?_
               (case side1 => exact ce_ ((Kd.C_below HR388.out HB.out)))
               (case side2 => exact HC388.out)
               rintro e w21 ⟨rfl, hb⟩
               refine ⟨_, rfl, ?_⟩
               replace BK383 := Aside0.mk (blk_below (be_ BK383.out) hb)
               replace HB := Aside0.mk (below_step (by repeat (first | (with_reducible first | exact HB.out | apply below_alloc | apply pw_below_drewN | apply below_drew1 | refine below_set ?_ GE383.out) | exact HB.out)) hb)
               (try clear hb)
               (try clear hb2)
               (try clear hk)
               (try clear hi)
               refine hK.out _ _ (by first | exact hw389_0 | exact (HB.out.cell (World.block_lt_of_cell? w _ hw389_0)).trans hw389_0 | (obtain ⟨_, e_, h_⟩ := Kd.at_int HR0_0.out x4_2 (of_eq_true p389) (of_eq_true q389); cases e_; exact h_)) (fun hHeld => ?_)
               clear hK K
               refine norm_ (a' := ?_) ?_ ?_
               rotate_left
               · show Act.put _ (some 41) _ = _
                 simp only [Act.put, z1_, z2_, z3_, i64_w, i32_w]
                 rfl
               refine done_ (done_of HT_.out (by kernel_rfl)) ?_
               try go_wp2
               go_ret
               exact ⟨by first | rfl | (simp [errW_none, errW_some] <;> rfl) | (simp [*, errW_none, errW_some] <;> rfl), by repeat (first | (with_reducible first | exact HB.out | apply below_alloc | apply pw_below_drewN | apply below_drew1 | refine below_set ?_ GE383.out) | exact HB.out)⟩
             · replace c18 := Bool.eq_false_iff.mpr c18
               subst c18
               have H1 : (impl_IsSemigroup.l0 k2 l0_0 (wrap64 (x4_2 + 1))) = some r := by rw [if_neg (show ¬ (false = true) by decide)] at H; exact H
               clear H
               have H := H1
               clear H1
               have H' := Aside0.mk H
               clear H
               try go_wp2
               replace BK383 := Aside0.mk (blk_drew BK383.out)
               replace HB := Aside0.mk (below_drew1 HB.out)
               obtain ⟨i023, hi023, _, hsz23, _⟩ := info_parts info3
               obtain ⟨hcut23, hA23, hC23⟩ := print_take_of (P := Tryd.prog) (Value.int .i64) 0 22 3 .i64 Tryd.underlying22 hi023 hsz23 A0_0 c0_0 l0_0 x4_2 (od_) (od_) HC0_0.out
               have HR388 := Aside0.mk (Kd.C_of_reads (h1 := fun _ => rfl) (hA23 _ (Kd.reads_of_C HR0_0.out)))
               have HC388 := Aside0.mk hC23
               clear hA23 hC23 hi023 hsz23
               have p389 : 0 ≤ (x4_2 : Int) := od_
               have q389 : x4_2 < (l0_0.length : Int) := od_
               obtain ⟨ad389, e389, hx389_0⟩ := Kd.at_int HR0_0.out x4_2 p389 q389
               have hw389_0 := hx389_0
               cases e389
               (try replace hx389_0 := (HB.out.cell (World.block_lt_of_cell? w _ hx389_0)).trans hx389_0)
               replace p389 := eq_true p389
               replace q389 := eq_true q389
               refine start_ (n := 8) (S := fun w' => w'.cell? (ad389.add (x4_2).toNat) = some (.int .i64 (rd l0_0 x4_2))) (ds := []) (B_ 0 8) (by kernel_rfl) rfl rfl (by first | exact hw389_0 | exact (HB.out.cell (World.block_lt_of_cell? w _ hw389_0)).trans hw389_0 | (obtain ⟨_, e_, h_⟩ := Kd.at_int HR0_0.out x4_2 (of_eq_true p389) (of_eq_true q389); cases e_; exact h_)) (fun hHeld => ?_); refine with_tabW impl_IsSemigroup.tab7 impl_IsSemigroup.bits7 (fun HT_ HW_ => ?_)
               generalize wr.drew = w22 at BK383 HB HR388 hx389_0 hHeld ⊢
               refine pu_ HT_ 0 34 (B_ 1 8) ?_
               refine pu_ HT_ 1 35 (B_ 3 8) ?_
               refine pu_ HT_ 2 36 (B_ 7 8) ?_
               refine pu_ HT_ 3 37 (B_ 15 8) ?_
               refine pu_ HT_ 4 38 (B_ 31 8) ?_
               refine pu_ HT_ 5 39 (B_ 63 8) ?_
               refine tk1_ HT_ HW_ hHeld 6 40 (B_ 127 8) ?_
               refine one_ (i := 7) (N := some 41) (B_ 255 8) rfl rfl (one_of HT_.out (by kernel_rfl)) (by decide) (fun K hK => ?_)
               refine goes_ Tryd.func39 (by kernel_rfl) rfl #[.slice (some ad389) (l0_0.take (x4_2 : Int).toNat).length c0_0, .int .i64 (rd l0_0 x4_2)] (by rfl) rfl rfl (by (try simp only [List.map_toArray, List.map_cons, List.map_nil]); first | done | (rw [show (l0_0.take (x4_2 : Int).toNat).length = x4_2.toNat from (by rw [List.length_take]; have h_ : (x4_2 : Int) ≤ (l0_0.length : Int) := od_; omega)] <;> rfl) | rfl | (simp only [List.length_drop, List.length_take]; rfl)) ?_
               with_reducible refine (impl_Generates.calls k2 _ _ (l0_0.take (x4_2 : Int).toNat) (rd l0_0 x4_2) false _ ?side1 ?side2 A17.out).mono ?_
               (case side1 => exact ce_ ((Kd.C_below HR388.out HB.out)))
               (case side2 => exact HC388.out)
               rintro e w24 ⟨rfl, hb⟩
               refine ⟨_, rfl, ?_⟩
               replace BK383 := Aside0.mk (blk_below (be_ BK383.out) hb)
               replace HB := Aside0.mk (below_step (by repeat (first | (with_reducible first | exact HB.out | apply below_alloc | apply pw_below_drewN | apply below_drew1 | refine below_set ?_ GE383.out) | exact HB.out)) hb)
               (try clear hb)
               (try clear hb2)
               (try clear hk)
               (try clear hi)
               refine hK.out _ _ (by first | exact hw389_0 | exact (HB.out.cell (World.block_lt_of_cell? w _ hw389_0)).trans hw389_0 | (obtain ⟨_, e_, h_⟩ := Kd.at_int HR0_0.out x4_2 (of_eq_true p389) (of_eq_true q389); cases e_; exact h_)) (fun hHeld => ?_)
               clear hK K
               refine norm_ (a' := ?_) ?_ ?_
               rotate_left
               · show Act.put _ (some 41) _ = _
                 simp only [Act.put, z1_, z2_, z3_, i64_w, i32_w]
                 rfl
               refine done_ (done_of HT_.out (by kernel_rfl)) ?_
               try go_wp2
               go_roundg k2
               case measure => have := HJ1.out; have := HK2.out; omega
               case rel => exact ⟨(wrap64 (x4_2 + 1)), (by first | rfl | (simp; done) | (simp [*]; done)), H', ⟨by have := HJ1.out; have := HK2.out; omega⟩, ⟨be_ BK383.out⟩, ⟨by repeat (first | (with_reducible first | exact HB.out | apply below_alloc | apply pw_below_drewN | apply below_drew1 | refine below_set ?_ GE383.out) | exact HB.out)⟩⟩
           · rw [if_neg c16] at H
             exact absurd H (by simp)
         · rw [if_neg c15] at H
           exact absurd H (by simp)
       · rw [if_neg c14] at H
         have c14b0 : decide (x4_2 < (l0_0.length : Int)) = false := decide_eq_false c14
         clear c14
         by_cases c25 : 0 < (l0_0.length : Int)
         · rw [if_pos c25] at H
           have c25b0 : decide (0 < (l0_0.length : Int)) = true := decide_eq_true c25
           have c25b1 : decide (0 < l0_0.length) = true := decide_eq_true (by omega)
           clear c25
           replace H := Option.bind_eq_some_iff.mp H
           obtain ⟨t392, A260, H⟩ := H
           replace H : (impl_IsSemigroup.l1 k2 l0_0 t392 (t392.length : Int) 0) = some r := H
           have A26 := Aside0.mk A260
           clear A260
           have H' := Aside0.mk H
           clear H
           have p391 : 0 ≤ (0 : Int) := (by omega)
           have q391 : 0 < (l0_0.length : Int) := od_
           obtain ⟨ad391, e391, hx391_0⟩ := Kd.at_int HR0_0.out 0 p391 q391
           cases e391
           have qi391 : (0 < l0_0.length) = True := eq_true (by omega)
           (try rw [show ((0 : Int)).toNat = 0 from rfl] at hx391_0)
           (try rw [Addr.add_zero'] at hx391_0)
           (try replace hx391_0 := (HB.out.cell (World.block_lt_of_cell? w _ hx391_0)).trans hx391_0)
           replace p391 := eq_true p391
           replace q391 := eq_true q391
           go_wp2_with (first | ((with_reducible refine gate_callee (f := 40) rfl ?_); refine gL_ (some 46) Tryd.func40 #[.slice (some ad391) l0_0.length c0_0, .int .i64 (rd l0_0 0)] ?_; (with_reducible refine (impl_leasts.calls k2 _ _ l0_0 (rd l0_0 0) t392 _ ?side1 ?side2 A26.out).mono ?_); (case side1 => exact ce_ ((Kd.C_below HR0_0.out HB.out))); (case side2 => exact HC0_0.out); rintro e w27 ⟨v393, rfl, ho0, hb⟩; refine ⟨_, rfl, ?_⟩; have HO394 := Aside0.mk (Kd.R_lower ho0 (below_size (by repeat (first | (with_reducible first | exact HB.out | apply below_alloc | apply pw_below_drewN | apply below_drew1 | refine below_set ?_ GE383.out) | exact HB.out)))); replace BK383 := Aside0.mk (blk_below (be_ BK383.out) hb); replace HB := Aside0.mk (below_step (by repeat (first | (with_reducible first | exact HB.out | apply below_alloc | apply pw_below_drewN | apply below_drew1 | refine below_set ?_ GE383.out) | exact HB.out)) hb); (try clear hb); (try clear hb2); (try clear hk); (try clear hi); (try clear ho0); obtain ⟨Ao28, co28, eo28⟩ := Kd.R_slice HO394.out; subst eo28))
           go_loopg [48] k2 (fun kq v48 w' => ∃ (x48_3 : Int), v48 = .int .i64 x48_3 ∧ Aside0 (impl_IsSemigroup.l1 kq l0_0 t392 (t392.length : Int) x48_3 = some r) ∧ Aside0 (kq ≤ k2) ∧ Aside0 (Kd.R (Kd.int .i64) 3 w' w.heap.size (fun _ => True) (.slice Ao28 t392.length co28) t392) ∧ Aside0 (w'.heap[gb383]? = some (.cells #[(.slice (some ad391) l0_0.length c0_0)] 24 (0, 0))) ∧ Aside0 (Below w.heap.size w w'))
           case atStart => exact ⟨(0), (by first | rfl | (simp; done) | (simp [*]; done)), H', ⟨Nat.le_refl _⟩, ⟨re_ HO394.out⟩, ⟨be_ BK383.out⟩, ⟨by repeat (first | (with_reducible first | exact HB.out | apply below_alloc | apply pw_below_drewN | apply below_drew1 | refine below_set ?_ GE383.out) | exact HB.out)⟩⟩
           case round =>
            clear H'
            try clear c1
            try clear c2
            try clear p2
            try clear c3
            try clear p3
            try clear q3
            try clear hx3
            try clear qi3
            try clear c4
            try clear c6
            try clear p6
            try clear c8
            try clear c10
            try clear c13
            try clear c14
            try clear c14b0
            try clear c15
            try clear c15b0
            try clear c15b1
            try clear c16
            try clear c16b0
            try clear c16b1
            try clear c18
            try clear c23
            try clear c24
            try clear c25
            try clear c25b0
            try clear c25b1
            try clear hcz4_0
            try clear hfz4_0
            try clear hx389_0
            try clear hx391_0
            try clear p2
            try clear p389
            try clear p391
            try clear q389
            try clear q391
            obtain ⟨x48_3, rfl, HA, HK3, HO_46, BK383, HB⟩ := hrel
            cases gk with
            | zero => exact absurd HA.out (by simp [impl_IsSemigroup.l1])
            | succ k3 =>
             have H := HA.out
             clear HA
             simp only [impl_IsSemigroup.l1] at H
             by_cases c29 : x48_3 < (t392.length : Int)
             · rw [if_pos c29] at H
               have c29b0 : decide (x48_3 < (t392.length : Int)) = true := decide_eq_true c29
               clear c29
               by_cases c30 : 0 ≤ x48_3
               · rw [if_pos c30] at H
                 have c30b0 : decide (0 ≤ x48_3) = true := decide_eq_true c30
                 clear c30
                 by_cases c31 : x48_3 < (t392.length : Int)
                 · rw [if_pos c31] at H
                   have c31b0 : decide (x48_3 < (t392.length : Int)) = true := decide_eq_true c31
                   clear c31
                   by_cases c32 : 0 < (l0_0.length : Int)
                   · rw [if_pos c32] at H
                     have c32b0 : decide (0 < (l0_0.length : Int)) = true := decide_eq_true c32
                     have c32b1 : decide (0 < l0_0.length) = true := decide_eq_true (by omega)
                     clear c32
                     by_cases c33 : (wrap64 ((rd t392 x48_3) - (rd l0_0 0))) ≥ 200
                     · rw [if_pos c33] at H
                       have c33b0 : decide (200 ≤ (wrap64 ((rd t392 x48_3) - (rd l0_0 0)))) = true := decide_eq_true c33
                       clear c33
                       obtain rfl := Option.some.inj H
                       have p395 : 0 ≤ (x48_3 : Int) := od_
                       have q395 : x48_3 < (t392.length : Int) := od_
                       obtain ⟨ad395, e395, hx395_0⟩ := Kd.at_int (Kd.R_reads' HO_46.out).2.2 x48_3 p395 q395
                       cases e395
                       replace p395 := eq_true p395
                       replace q395 := eq_true q395
                       have p396 : 0 ≤ (0 : Int) := (by omega)
                       have q396 : 0 < (l0_0.length : Int) := od_
                       obtain ⟨ad396, e396, hx396_0⟩ := Kd.at_int HR0_0.out 0 p396 q396
                       obtain rfl : ad391 = ad396 := (by injection e396)
                       have qi396 : (0 < l0_0.length) = True := eq_true (by omega)
                       (try rw [show ((0 : Int)).toNat = 0 from rfl] at hx396_0)
                       (try rw [Addr.add_zero'] at hx396_0)
                       (try replace hx396_0 := (HB.out.cell (World.block_lt_of_cell? w _ hx396_0)).trans hx396_0)
                       replace p396 := eq_true p396
                       replace q396 := eq_true q396
                       go_wp2
                       go_ret
                       exact ⟨by first | rfl | (simp [errW_none, errW_some] <;> rfl) | (simp [*, errW_none, errW_some] <;> rfl), by repeat (first | (with_reducible first | exact HB.out | apply below_alloc | apply pw_below_drewN | apply below_drew1 | refine below_set ?_ GE383.out) | exact HB.out)⟩
                     · rw [if_neg c33] at H
                       have c33b0 : decide (200 ≤ (wrap64 ((rd t392 x48_3) - (rd l0_0 0)))) = false := decide_eq_false c33
                       clear c33
                       have H' := Aside0.mk H
                       clear H
                       have p395 : 0 ≤ (x48_3 : Int) := od_
                       have q395 : x48_3 < (t392.length : Int) := od_
                       obtain ⟨ad395, e395, hx395_0⟩ := Kd.at_int (Kd.R_reads' HO_46.out).2.2 x48_3 p395 q395
                       cases e395
                       replace p395 := eq_true p395
                       replace q395 := eq_true q395
                       have p396 : 0 ≤ (0 : Int) := (by omega)
                       have q396 : 0 < (l0_0.length : Int) := od_
                       obtain ⟨ad396, e396, hx396_0⟩ := Kd.at_int HR0_0.out 0 p396 q396
                       obtain rfl : ad391 = ad396 := (by injection e396)
                       have qi396 : (0 < l0_0.length) = True := eq_true (by omega)
                       (try rw [show ((0 : Int)).toNat = 0 from rfl] at hx396_0)
                       (try rw [Addr.add_zero'] at hx396_0)
                       (try replace hx396_0 := (HB.out.cell (World.block_lt_of_cell? w _ hx396_0)).trans hx396_0)
                       replace p396 := eq_true p396
                       replace q396 := eq_true q396
                       go_wp2
                       go_roundg k3
                       case measure => have := HJ1.out; have := HK2.out; have := HK3.out; omega
                       case rel => exact ⟨(wrap64 (x48_3 + 1)), (by first | rfl | (simp; done) | (simp [*]; done)), H', ⟨by have := HJ1.out; have := HK2.out; have := HK3.out; omega⟩, ⟨re_ HO_46.out⟩, ⟨be_ BK383.out⟩, ⟨by repeat (first | (with_reducible first | exact HB.out | apply below_alloc | apply pw_below_drewN | apply below_drew1 | refine below_set ?_ GE383.out) | exact HB.out)⟩⟩
                   · rw [if_neg c32] at H
                     exact absurd H (by simp)
                 · rw [if_neg c31] at H
                   exact absurd H (by simp)
               · rw [if_neg c30] at H
                 exact absurd H (by simp)
             · rw [if_neg c29] at H
               have c29b0 : decide (x48_3 < (t392.length : Int)) = false := decide_eq_false c29
               clear c29
               obtain rfl := Option.some.inj H
               go_wp2
               go_ret
               exact ⟨by first | rfl | (simp [errW_none, errW_some] <;> rfl) | (simp [*, errW_none, errW_some] <;> rfl), by repeat (first | (with_reducible first | exact HB.out | apply below_alloc | apply pw_below_drewN | apply below_drew1 | refine below_set ?_ GE383.out) | exact HB.out)⟩
         · rw [if_neg c25] at H
           exact absurd H (by simp)
def impl_ParseSemigroup.f (k : Nat) (a0 : ByteArray) : Option (List Int × Bool) := (strings_CutPrefix.f a0 (⟨#[60]⟩ : ByteArray)).bind fun bt398 => ((strings_CutSuffix.f bt398.1 (⟨#[62]⟩ : ByteArray)).bind fun bt400 => ((impl_ParseList.f k bt400.1).bind fun bt402 => (if bt398.2 = true then (if bt400.2 = true then (if bt402.2 = true then ((impl_IsSemigroup.f k bt402.1).bind fun t407 => (if t407 = true then (some (bt402.1, true)) else (some (([] : List Int), false)))) else (some (([] : List Int), false))) else (some (([] : List Int), false))) else (some (([] : List Int), false)))))
set_option maxHeartbeats 8000000 in
set_option maxRecDepth 100000 in
theorem impl_ParseSemigroup.calls (k : Nat) (a0 : ByteArray) (r1 : List Int) (r2 : Bool) (w : World) (h : impl_ParseSemigroup.f k a0 = some (r1, r2)) :
 Calls Tryd.prog 12 #[.string a0] w fun e w' => ∃ v0_ : Value, e = .returned (.tuple #[.agg #[v0_], .bool r2]) ∧ Kd.R (Kd.int .i64) 3 w' w.heap.size (fun _ => True) v0_ r1 ∧ Below w.heap.size w w' := by
 have hu24 := Tryd.underlying24
 have HB := Aside0.mk (Below.refl w.heap.size w)
 have H : ((strings_CutPrefix.f a0 (⟨#[60]⟩ : ByteArray)).bind fun bt398 => ((strings_CutSuffix.f bt398.1 (⟨#[62]⟩ : ByteArray)).bind fun bt400 => ((impl_ParseList.f k bt400.1).bind fun bt402 => (if bt398.2 = true then (if bt400.2 = true then (if bt402.2 = true then ((impl_IsSemigroup.f k bt402.1).bind fun t407 => (if t407 = true then (some (bt402.1, true)) else (some (([] : List Int), false)))) else (some (([] : List Int), false))) else (some (([] : List Int), false))) else (some (([] : List Int), false)))))) = some (r1, r2) := h
 clear h
 replace H := Option.bind_eq_some_iff.mp H
 obtain ⟨⟨t398, t399⟩, A20, H⟩ := H
 replace H : ((strings_CutSuffix.f t398 (⟨#[62]⟩ : ByteArray)).bind fun bt400 => ((impl_ParseList.f k bt400.1).bind fun bt402 => (if t399 = true then (if bt400.2 = true then (if bt402.2 = true then ((impl_IsSemigroup.f k bt402.1).bind fun t407 => (if t407 = true then (some (bt402.1, true)) else (some (([] : List Int), false)))) else (some (([] : List Int), false))) else (some (([] : List Int), false))) else (some (([] : List Int), false))))) = some (r1, r2) := H
 have A2 := Aside0.mk A20
 clear A20
 replace H := Option.bind_eq_some_iff.mp H
 obtain ⟨⟨t400, t401⟩, A30, H⟩ := H
 replace H : ((impl_ParseList.f k t400).bind fun bt402 => (if t399 = true then (if t401 = true then (if bt402.2 = true then ((impl_IsSemigroup.f k bt402.1).bind fun t407 => (if t407 = true then (some (bt402.1, true)) else (some (([] : List Int), false)))) else (some (([] : List Int), false))) else (some (([] : List Int), false))) else (some (([] : List Int), false)))) = some (r1, r2) := H
 have A3 := Aside0.mk A30
 clear A30
 replace H := Option.bind_eq_some_iff.mp H
 obtain ⟨⟨t402, t403⟩, A40, H⟩ := H
 replace H : (if t399 = true then (if t401 = true then (if t403 = true then ((impl_IsSemigroup.f k t402).bind fun t407 => (if t407 = true then (some (t402, true)) else (some (([] : List Int), false)))) else (some (([] : List Int), false))) else (some (([] : List Int), false))) else (some (([] : List Int), false))) = some (r1, r2) := H
 have A4 := Aside0.mk A40
 clear A40
 by_cases c5 : t399 = true
 · subst c5
   have H1 : (if t401 = true then (if t403 = true then ((impl_IsSemigroup.f k t402).bind fun t407 => (if t407 = true then (some (t402, true)) else (some (([] : List Int), false)))) else (some (([] : List Int), false))) else (some (([] : List Int), false))) = some (r1, r2) := by rw [if_pos rfl] at H; exact H
   clear H
   have H := H1
   clear H1
   by_cases c6 : t401 = true
   · subst c6
     have H1 : (if t403 = true then ((impl_IsSemigroup.f k t402).bind fun t407 => (if t407 = true then (some (t402, true)) else (some (([] : List Int), false)))) else (some (([] : List Int), false))) = some (r1, r2) := by rw [if_pos rfl] at H; exact H
     clear H
     have H := H1
     clear H1
     by_cases c7 : t403 = true
     · subst c7
       have H1 : ((impl_IsSemigroup.f k t402).bind fun t407 => (if t407 = true then (some (t402, true)) else (some (([] : List Int), false)))) = some (r1, r2) := by rw [if_pos rfl] at H; exact H
       clear H
       have H := H1
       clear H1
       replace H := Option.bind_eq_some_iff.mp H
       obtain ⟨t407, A80, H⟩ := H
       replace H : (if t407 = true then (some (t402, true)) else (some (([] : List Int), false))) = some (r1, r2) := H
       have A8 := Aside0.mk A80
       clear A80
       by_cases c9 : t407 = true
       · subst c9
         have H1 : (some (t402, true)) = some (r1, r2) := by rw [if_pos rfl] at H; exact H
         clear H
         have H := H1
         clear H1
         simp only [Option.some.injEq, Prod.mk.injEq] at H
         obtain ⟨rfl, rfl⟩ := H
         go_enter Tryd.func12, Tryd.ntmps12
         go_wp2_with (first | ((with_reducible refine gate_dst (N := 2) rfl ?_); refine box_event ?hg (N := 2) ?hd (cs := #[.slice none 0 0]) (t := 24) ?hr ?_; (case hd => rfl); (case hg => rfl); (case hr => first | (go_simp; done) | (go_simp; rfl)); intro gb397 hg w10 hbox hb; have BK397 := Aside0.mk (hbox); have GW397 := Aside0.mk ((by rw [hg]; exact (below_size (bl_ HB.out)) : w.heap.size ≤ gb397)); have GE397 := Aside0.mk ((by rw [hg]; exact (below_size (bl_ HB.out)) : w.heap.size ≤ gb397)); replace HB := Aside0.mk (below_step (bl_ HB.out) hb); clear hb hbox hg) | ((with_reducible refine gate_callee (f := 20) rfl ?_); refine gL_ (some 12) Tryd.func20 #[.string a0, .string (⟨#[60]⟩ : ByteArray)] ?_; (with_reducible refine (strings_CutPrefix.calls a0 (⟨#[60]⟩ : ByteArray) t398 true _ A2.out).mono ?_); rintro e w' ⟨rfl, ⟨nd, rfl⟩⟩; refine ⟨_, rfl, ?_⟩; (try (rw [drewN_self w10]; generalize hq_ : World.drewN w10 _ = w10; have n0_ : Aside0 (w10.heap[gb397]? = some (.cells #[.slice none 0 0] 24 (0, 0))) := ⟨by rw [← hq_]; exact (be_ BK397.out)⟩; have n1_ : Aside0 (Below w.heap.size w w10) := ⟨by rw [← hq_]; exact (by repeat (first | (with_reducible first | exact HB.out | apply below_alloc | apply pw_below_drewN | apply below_drew1 | refine below_set ?_ GE397.out) | exact HB.out))⟩; clear BK397 HB hq_; have BK397 := n0_; have HB := n1_; clear n0_ n1_))) | ((with_reducible refine gate_callee (f := 21) rfl ?_); refine gL_ (some 17) Tryd.func21 #[.string t398, .string (⟨#[62]⟩ : ByteArray)] ?_; (with_reducible refine (strings_CutSuffix.calls t398 (⟨#[62]⟩ : ByteArray) t400 true _ A3.out).mono ?_); rintro e w' ⟨rfl, ⟨nd, rfl⟩⟩; refine ⟨_, rfl, ?_⟩; (try (rw [drewN_self w10]; generalize hq_ : World.drewN w10 _ = w10; have n0_ : Aside0 (w10.heap[gb397]? = some (.cells #[.slice none 0 0] 24 (0, 0))) := ⟨by rw [← hq_]; exact (be_ BK397.out)⟩; have n1_ : Aside0 (Below w.heap.size w w10) := ⟨by rw [← hq_]; exact (by repeat (first | (with_reducible first | exact HB.out | apply below_alloc | apply pw_below_drewN | apply below_drew1 | refine below_set ?_ GE397.out) | exact HB.out))⟩; clear BK397 HB hq_; have BK397 := n0_; have HB := n1_; clear n0_ n1_))) | ((with_reducible refine gate_callee (f := 22) rfl ?_); refine gL_ (some 22) Tryd.func22 #[.string t400] ?_; (with_reducible refine (impl_ParseList.calls k t400 t402 true _ A4.out).mono ?_); rintro e w11 ⟨v404, rfl, ho0, hb⟩; refine ⟨_, rfl, ?_⟩; have HO405 := Aside0.mk (Kd.R_lower ho0 (below_size (by repeat (first | (with_reducible first | exact HB.out | apply below_alloc | apply pw_below_drewN | apply below_drew1 | refine below_set ?_ GE397.out) | exact HB.out)))); replace BK397 := Aside0.mk (blk_below (be_ BK397.out) hb); replace HB := Aside0.mk (below_step (by repeat (first | (with_reducible first | exact HB.out | apply below_alloc | apply pw_below_drewN | apply below_drew1 | refine below_set ?_ GE397.out) | exact HB.out)) hb); (try clear hb); (try clear hb2); (try clear hk); (try clear hi); (try clear ho0); obtain ⟨Ao12, co12, eo12⟩ := Kd.R_slice HO405.out; subst eo12) | ((with_reducible refine gate_dst (N := 9) rfl ?_); refine box_event ?hg (N := 9) ?hd (cs := #[.slice none 0 0]) (t := 24) ?hr ?_; (case hd => rfl); (case hg => rfl); (case hr => first | (go_simp; done) | (go_simp; rfl)); intro gb406 hg w13 hbox hb; replace HO405 := Aside0.mk (Kd.R_below (re_ HO405.out) hb); have BK406 := Aside0.mk (hbox); have GW406 := Aside0.mk ((by rw [hg]; exact (below_size (by repeat (first | (with_reducible first | exact HB.out | apply below_alloc | apply pw_below_drewN | apply below_drew1 | refine below_set ?_ GE397.out) | exact HB.out))) : w.heap.size ≤ gb406)); have GE406 := Aside0.mk ((by rw [hg]; exact (below_size (by repeat (first | (with_reducible first | exact HB.out | apply below_alloc | apply pw_below_drewN | apply below_drew1 | refine below_set ?_ GE397.out) | exact HB.out))) : w.heap.size ≤ gb406)); replace HB := Aside0.mk (below_step (by repeat (first | (with_reducible first | exact HB.out | apply below_alloc | apply pw_below_drewN | apply below_drew1 | refine below_set ?_ GE397.out) | exact HB.out)) hb); have NB397_406 := Aside0.mk ((by rw [hg]; exact Nat.ne_of_lt (blk_lt (be_ BK397.out)) : gb397 ≠ gb406)); have NB406_397 := Aside0.mk ((by rw [hg]; exact Nat.ne_of_gt (blk_lt (be_ BK397.out)) : gb406 ≠ gb397)); replace BK397 := Aside0.mk (blk_below (be_ BK397.out) hb); clear hb hbox hg; have hnb14 := NB406_397.out; have hnc14 := NB397_406.out; have hcz15_0 : w13.cell? ⟨gb406, 0, none⟩ = some (.slice none 0 0) := (blk_cell BK406.out 0).trans rfl; have hfz15_0 := blk_frozen BK406.out 0) | (go_at_call 23; (with_reducible refine (impl_IsSemigroup.calls k _ _ t402 true _ ?side1 ?side2 A8.out).mono ?_); (case side1 => refine (Kd.R_reads' (e := 3) (base := w.heap.size) (ok := fun k_ => True) (n := t402.length) (c := co12) ?_).2.2; exact (by (with_reducible repeat (first | apply Kd.R_alloc | apply Kd.R_drewN | apply Kd.R_drew)); exact (Kd.R_mono (Kd.R_far (p := ⟨gb406, 0, none⟩) (Kd.R_types HO405.out BK406.out (by decide)) (fun _ hk => hk.2) (.slice Ao12 t402.length co12)) (fun _ h_ => h_.1)))); (case side2 => exact (Kd.R_reads' HO405.out).2.1); rintro e w16 ⟨rfl, hb⟩; replace HO405 := Aside0.mk (Kd.R_below (by (with_reducible repeat (first | apply Kd.R_alloc | apply Kd.R_drewN | apply Kd.R_drew)); exact (Kd.R_mono (Kd.R_far (p := ⟨gb406, 0, none⟩) (Kd.R_types HO405.out BK406.out (by decide)) (fun _ hk => hk.2) (.slice Ao12 t402.length co12)) (fun _ h_ => h_.1))) hb); replace BK397 := Aside0.mk (blk_below (g := gb397) (o := .cells #[.slice none 0 0] 24 (0, 0)) (by (with_reducible repeat (first | refine blk_drewN ?_ _ | refine blk_drew ?_ | refine blk_alloc ?_ _)); refine blk_far ?_ NB397_406.out _; (with_reducible repeat (first | refine blk_drewN ?_ _ | refine blk_drew ?_ | refine blk_alloc ?_ _)); exact BK397.out) hb); replace BK406 := Aside0.mk (blk_below (g := gb406) (o := .cells #[.slice Ao12 t402.length co12] 24 (0, 0)) (by (with_reducible repeat (first | refine blk_drewN ?_ _ | refine blk_drew ?_ | refine blk_alloc ?_ _)); refine blk_put (cs := #[.slice none 0 0]) ?_ 0 _ rfl; (with_reducible repeat (first | refine blk_drewN ?_ _ | refine blk_drew ?_ | refine blk_alloc ?_ _)); exact BK406.out) hb); replace HB := Aside0.mk (below_step (by repeat (first | (with_reducible first | exact HB.out | apply below_alloc | apply pw_below_drewN | apply below_drew1 | refine below_set ?_ (Aside0.out (by assumption))) | exact HB.out)) hb); (try clear hb); (try clear hb2); (try clear hk); (try clear hi); have hcz17_0 : w16.cell? ⟨gb406, 0, none⟩ = some (.slice Ao12 t402.length co12) := (blk_cell BK406.out 0).trans rfl; have hfz17_0 := blk_frozen BK406.out 0; have hcz18_0 : w16.cell? ⟨gb397, 0, none⟩ = some (.slice none 0 0) := (blk_cell BK397.out 0).trans rfl; have hfz18_0 := blk_frozen BK397.out 0))
         refine bodyPost_ret (results_ct rfl _ _ gb397 24 #[.slice Ao12 t402.length co12] (0, 0) _ rfl (by (with_reducible repeat (first | refine blk_drewN ?_ _ | refine blk_drew ?_ | refine blk_alloc ?_ _)); refine blk_put (cs := #[.slice none 0 0]) ?_ 0 _ rfl; (with_reducible repeat (first | refine blk_drewN ?_ _ | refine blk_drew ?_ | refine blk_alloc ?_ _)); exact BK397.out) Tryd.underlying24 rfl (by kernel_rfl)) rfl ?_
         exact ⟨_, by first | rfl | (simp [errW_none, errW_some] <;> rfl) | (simp [*, errW_none, errW_some] <;> rfl), by (with_reducible repeat (first | apply Kd.R_alloc | apply Kd.R_drewN | apply Kd.R_drew)); exact Kd.R_mono (Kd.R_far (p := ⟨gb397, 0, none⟩) (Kd.R_types HO405.out BK397.out (by decide)) (fun _ hk => hk.2) (.slice Ao12 t402.length co12)) (fun _ hk => trivial), by repeat (first | (with_reducible first | exact HB.out | apply below_alloc | apply pw_below_drewN | apply below_drew1 | refine below_set ?_ (Aside0.out (by assumption))) | exact HB.out)⟩
       · replace c9 := Bool.eq_false_iff.mpr c9
         subst c9
         have H1 : (some (([] : List Int), false)) = some (r1, r2) := by rw [if_neg (show ¬ (false = true) by decide)] at H; exact H
         clear H
         have H := H1
         clear H1
         simp only [Option.some.injEq, Prod.mk.injEq] at H
         obtain ⟨rfl, rfl⟩ := H
         go_enter Tryd.func12, Tryd.ntmps12
         go_wp2_with (first | ((with_reducible refine gate_dst (N := 2) rfl ?_); refine box_event ?hg (N := 2) ?hd (cs := #[.slice none 0 0]) (t := 24) ?hr ?_; (case hd => rfl); (case hg => rfl); (case hr => first | (go_simp; done) | (go_simp; rfl)); intro gb397 hg w19 hbox hb; have BK397 := Aside0.mk (hbox); have GW397 := Aside0.mk ((by rw [hg]; exact (below_size (bl_ HB.out)) : w.heap.size ≤ gb397)); have GE397 := Aside0.mk ((by rw [hg]; exact (below_size (bl_ HB.out)) : w.heap.size ≤ gb397)); replace HB := Aside0.mk (below_step (bl_ HB.out) hb); clear hb hbox hg) | ((with_reducible refine gate_callee (f := 20) rfl ?_); refine gL_ (some 12) Tryd.func20 #[.string a0, .string (⟨#[60]⟩ : ByteArray)] ?_; (with_reducible refine (strings_CutPrefix.calls a0 (⟨#[60]⟩ : ByteArray) t398 true _ A2.out).mono ?_); rintro e w' ⟨rfl, ⟨nd, rfl⟩⟩; refine ⟨_, rfl, ?_⟩; (try (rw [drewN_self w19]; generalize hq_ : World.drewN w19 _ = w19; have n0_ : Aside0 (w19.heap[gb397]? = some (.cells #[.slice none 0 0] 24 (0, 0))) := ⟨by rw [← hq_]; exact (be_ BK397.out)⟩; have n1_ : Aside0 (Below w.heap.size w w19) := ⟨by rw [← hq_]; exact (by repeat (first | (with_reducible first | exact HB.out | apply below_alloc | apply pw_below_drewN | apply below_drew1 | refine below_set ?_ GE397.out) | exact HB.out))⟩; clear BK397 HB hq_; have BK397 := n0_; have HB := n1_; clear n0_ n1_))) | ((with_reducible refine gate_callee (f := 21) rfl ?_); refine gL_ (some 17) Tryd.func21 #[.string t398, .string (⟨#[62]⟩ : ByteArray)] ?_; (with_reducible refine (strings_CutSuffix.calls t398 (⟨#[62]⟩ : ByteArray) t400 true _ A3.out).mono ?_); rintro e w' ⟨rfl, ⟨nd, rfl⟩⟩; refine ⟨_, rfl, ?_⟩; (try (rw [drewN_self w19]; generalize hq_ : World.drewN w19 _ = w19; have n0_ : Aside0 (w19.heap[gb397]? = some (.cells #[.slice none 0 0] 24 (0, 0))) := ⟨by rw [← hq_]; exact (be_ BK397.out)⟩; have n1_ : Aside0 (Below w.heap.size w w19) := ⟨by rw [← hq_]; exact (by repeat (first | (with_reducible first | exact HB.out | apply below_alloc | apply pw_below_drewN | apply below_drew1 | refine below_set ?_ GE397.out) | exact HB.out))⟩; clear BK397 HB hq_; have BK397 := n0_; have HB := n1_; clear n0_ n1_))) | ((with_reducible refine gate_callee (f := 22) rfl ?_); refine gL_ (some 22) Tryd.func22 #[.string t400] ?_; (with_reducible refine (impl_ParseList.calls k t400 t402 true _ A4.out).mono ?_); rintro e w20 ⟨v404, rfl, ho0, hb⟩; refine ⟨_, rfl, ?_⟩; have HO405 := Aside0.mk (Kd.R_lower ho0 (below_size (by repeat (first | (with_reducible first | exact HB.out | apply below_alloc | apply pw_below_drewN | apply below_drew1 | refine below_set ?_ GE397.out) | exact HB.out)))); replace BK397 := Aside0.mk (blk_below (be_ BK397.out) hb); replace HB := Aside0.mk (below_step (by repeat (first | (with_reducible first | exact HB.out | apply below_alloc | apply pw_below_drewN | apply below_drew1 | refine below_set ?_ GE397.out) | exact HB.out)) hb); (try clear hb); (try clear hb2); (try clear hk); (try clear hi); (try clear ho0); obtain ⟨Ao21, co21, eo21⟩ := Kd.R_slice HO405.out; subst eo21) | ((with_reducible refine gate_dst (N := 9) rfl ?_); refine box_event ?hg (N := 9) ?hd (cs := #[.slice none 0 0]) (t := 24) ?hr ?_; (case hd => rfl); (case hg => rfl); (case hr => first | (go_simp; done) | (go_simp; rfl)); intro gb406 hg w22 hbox hb; replace HO405 := Aside0.mk (Kd.R_below (re_ HO405.out) hb); have BK406 := Aside0.mk (hbox); have GW406 := Aside0.mk ((by rw [hg]; exact (below_size (by repeat (first | (with_reducible first | exact HB.out | apply below_alloc | apply pw_below_drewN | apply below_drew1 | refine below_set ?_ GE397.out) | exact HB.out))) : w.heap.size ≤ gb406)); have GE406 := Aside0.mk ((by rw [hg]; exact (below_size (by repeat (first | (with_reducible first | exact HB.out | apply below_alloc | apply pw_below_drewN | apply below_drew1 | refine below_set ?_ GE397.out) | exact HB.out))) : w.heap.size ≤ gb406)); replace HB := Aside0.mk (below_step (by repeat (first | (with_reducible first | exact HB.out | apply below_alloc | apply pw_below_drewN | apply below_drew1 | refine below_set ?_ GE397.out) | exact HB.out)) hb); have NB397_406 := Aside0.mk ((by rw [hg]; exact Nat.ne_of_lt (blk_lt (be_ BK397.out)) : gb397 ≠ gb406)); have NB406_397 := Aside0.mk ((by rw [hg]; exact Nat.ne_of_gt (blk_lt (be_ BK397.out)) : gb406 ≠ gb397)); replace BK397 := Aside0.mk (blk_below (be_ BK397.out) hb); clear hb hbox hg; have hnb23 := NB406_397.out; have hnc23 := NB397_406.out; have hcz24_0 : w22.cell? ⟨gb406, 0, none⟩ = some (.slice none 0 0) := (blk_cell BK406.out 0).trans rfl; have hfz24_0 := blk_frozen BK406.out 0) | (go_at_call 23; (with_reducible refine (impl_IsSemigroup.calls k _ _ t402 false _ ?side1 ?side2 A8.out).mono ?_); (case side1 => refine (Kd.R_reads' (e := 3) (base := w.heap.size) (ok := fun k_ => True) (n := t402.length) (c := co21) ?_).2.2; exact (by (with_reducible repeat (first | apply Kd.R_alloc | apply Kd.R_drewN | apply Kd.R_drew)); exact (Kd.R_mono (Kd.R_far (p := ⟨gb406, 0, none⟩) (Kd.R_types HO405.out BK406.out (by decide)) (fun _ hk => hk.2) (.slice Ao21 t402.length co21)) (fun _ h_ => h_.1)))); (case side2 => exact (Kd.R_reads' HO405.out).2.1); rintro e w25 ⟨rfl, hb⟩; replace HO405 := Aside0.mk (Kd.R_below (by (with_reducible repeat (first | apply Kd.R_alloc | apply Kd.R_drewN | apply Kd.R_drew)); exact (Kd.R_mono (Kd.R_far (p := ⟨gb406, 0, none⟩) (Kd.R_types HO405.out BK406.out (by decide)) (fun _ hk => hk.2) (.slice Ao21 t402.length co21)) (fun _ h_ => h_.1))) hb); replace BK397 := Aside0.mk (blk_below (g := gb397) (o := .cells #[.slice none 0 0] 24 (0, 0)) (by (with_reducible repeat (first | refine blk_drewN ?_ _ | refine blk_drew ?_ | refine blk_alloc ?_ _)); refine blk_far ?_ NB397_406.out _; (with_reducible repeat (first | refine blk_drewN ?_ _ | refine blk_drew ?_ | refine blk_alloc ?_ _)); exact BK397.out) hb); replace BK406 := Aside0.mk (blk_below (g := gb406) (o := .cells #[.slice Ao21 t402.length co21] 24 (0, 0)) (by (with_reducible repeat (first | refine blk_drewN ?_ _ | refine blk_drew ?_ | refine blk_alloc ?_ _)); refine blk_put (cs := #[.slice none 0 0]) ?_ 0 _ rfl; (with_reducible repeat (first | refine blk_drewN ?_ _ | refine blk_drew ?_ | refine blk_alloc ?_ _)); exact BK406.out) hb); replace HB := Aside0.mk (below_step (by repeat (first | (with_reducible first | exact HB.out | apply below_alloc | apply pw_below_drewN | apply below_drew1 | refine below_set ?_ (Aside0.out (by assumption))) | exact HB.out)) hb); (try clear hb); (try clear hb2); (try clear hk); (try clear hi); have hcz26_0 : w25.cell? ⟨gb397, 0, none⟩ = some (.slice none 0 0) := (blk_cell BK397.out 0).trans rfl; have hfz26_0 := blk_frozen BK397.out 0))
         refine bodyPost_ret (results_ct rfl _ _ gb397 24 #[.slice none 0 0] (0, 0) _ rfl (by (with_reducible repeat (first | refine blk_drewN ?_ _ | refine blk_drew ?_ | refine blk_alloc ?_ _)); refine blk_put (cs := #[.slice none 0 0]) ?_ 0 _ rfl; (with_reducible repeat (first | refine blk_drewN ?_ _ | refine blk_drew ?_ | refine blk_alloc ?_ _)); exact BK397.out) Tryd.underlying24 rfl (by kernel_rfl)) rfl ?_
         exact ⟨_, by first | rfl | (simp [errW_none, errW_some] <;> rfl) | (simp [*, errW_none, errW_some] <;> rfl), by first | exact Kd.R_nil _ _ _ _ _ | exact Kd.N_nil _ _ _ _ _ | exact Kd.V_nil _ _ _ _ _ | exact Kd.Q_nil _ _ _ _ _ | exact Kd.S_nil _ _ _ _ _, by repeat (first | (with_reducible first | exact HB.out | apply below_alloc | apply pw_below_drewN | apply below_drew1 | refine below_set ?_ (Aside0.out (by assumption))) | exact HB.out)⟩
     · replace c7 := Bool.eq_false_iff.mpr c7
       subst c7
       have H1 : (some (([] : List Int), false)) = some (r1, r2) := by rw [if_neg (show ¬ (false = true) by decide)] at H; exact H
       clear H
       have H := H1
       clear H1
       simp only [Option.some.injEq, Prod.mk.injEq] at H
       obtain ⟨rfl, rfl⟩ := H
       go_enter Tryd.func12, Tryd.ntmps12
       go_wp2_with (first | ((with_reducible refine gate_dst (N := 2) rfl ?_); refine box_event ?hg (N := 2) ?hd (cs := #[.slice none 0 0]) (t := 24) ?hr ?_; (case hd => rfl); (case hg => rfl); (case hr => first | (go_simp; done) | (go_simp; rfl)); intro gb397 hg w27 hbox hb; have BK397 := Aside0.mk (hbox); have GW397 := Aside0.mk ((by rw [hg]; exact (below_size (bl_ HB.out)) : w.heap.size ≤ gb397)); have GE397 := Aside0.mk ((by rw [hg]; exact (below_size (bl_ HB.out)) : w.heap.size ≤ gb397)); replace HB := Aside0.mk (below_step (bl_ HB.out) hb); clear hb hbox hg) | ((with_reducible refine gate_callee (f := 20) rfl ?_); refine gL_ (some 12) Tryd.func20 #[.string a0, .string (⟨#[60]⟩ : ByteArray)] ?_; (with_reducible refine (strings_CutPrefix.calls a0 (⟨#[60]⟩ : ByteArray) t398 true _ A2.out).mono ?_); rintro e w' ⟨rfl, ⟨nd, rfl⟩⟩; refine ⟨_, rfl, ?_⟩; (try (rw [drewN_self w27]; generalize hq_ : World.drewN w27 _ = w27; have n0_ : Aside0 (w27.heap[gb397]? = some (.cells #[.slice none 0 0] 24 (0, 0))) := ⟨by rw [← hq_]; exact (be_ BK397.out)⟩; have n1_ : Aside0 (Below w.heap.size w w27) := ⟨by rw [← hq_]; exact (by repeat (first | (with_reducible first | exact HB.out | apply below_alloc | apply pw_below_drewN | apply below_drew1 | refine below_set ?_ GE397.out) | exact HB.out))⟩; clear BK397 HB hq_; have BK397 := n0_; have HB := n1_; clear n0_ n1_))) | ((with_reducible refine gate_callee (f := 21) rfl ?_); refine gL_ (some 17) Tryd.func21 #[.string t398, .string (⟨#[62]⟩ : ByteArray)] ?_; (with_reducible refine (strings_CutSuffix.calls t398 (⟨#[62]⟩ : ByteArray) t400 true _ A3.out).mono ?_); rintro e w' ⟨rfl, ⟨nd, rfl⟩⟩; refine ⟨_, rfl, ?_⟩; (try (rw [drewN_self w27]; generalize hq_ : World.drewN w27 _ = w27; have n0_ : Aside0 (w27.heap[gb397]? = some (.cells #[.slice none 0 0] 24 (0, 0))) := ⟨by rw [← hq_]; exact (be_ BK397.out)⟩; have n1_ : Aside0 (Below w.heap.size w w27) := ⟨by rw [← hq_]; exact (by repeat (first | (with_reducible first | exact HB.out | apply below_alloc | apply pw_below_drewN | apply below_drew1 | refine below_set ?_ GE397.out) | exact HB.out))⟩; clear BK397 HB hq_; have BK397 := n0_; have HB := n1_; clear n0_ n1_))) | ((with_reducible refine gate_callee (f := 22) rfl ?_); refine gL_ (some 22) Tryd.func22 #[.string t400] ?_; (with_reducible refine (impl_ParseList.calls k t400 t402 false _ A4.out).mono ?_); rintro e w28 ⟨v404, rfl, ho0, hb⟩; refine ⟨_, rfl, ?_⟩; have HO405 := Aside0.mk (Kd.R_lower ho0 (below_size (by repeat (first | (with_reducible first | exact HB.out | apply below_alloc | apply pw_below_drewN | apply below_drew1 | refine below_set ?_ GE397.out) | exact HB.out)))); replace BK397 := Aside0.mk (blk_below (be_ BK397.out) hb); replace HB := Aside0.mk (below_step (by repeat (first | (with_reducible first | exact HB.out | apply below_alloc | apply pw_below_drewN | apply below_drew1 | refine below_set ?_ GE397.out) | exact HB.out)) hb); (try clear hb); (try clear hb2); (try clear hk); (try clear hi); (try clear ho0); obtain ⟨Ao29, co29, eo29⟩ := Kd.R_slice HO405.out; subst eo29) | ((with_reducible refine gate_dst (N := 9) rfl ?_); refine box_event ?hg (N := 9) ?hd (cs := #[.slice none 0 0]) (t := 24) ?hr ?_; (case hd => rfl); (case hg => rfl); (case hr => first | (go_simp; done) | (go_simp; rfl)); intro gb406 hg w30 hbox hb; replace HO405 := Aside0.mk (Kd.R_below (re_ HO405.out) hb); have BK406 := Aside0.mk (hbox); have GW406 := Aside0.mk ((by rw [hg]; exact (below_size (by repeat (first | (with_reducible first | exact HB.out | apply below_alloc | apply pw_below_drewN | apply below_drew1 | refine below_set ?_ GE397.out) | exact HB.out))) : w.heap.size ≤ gb406)); have GE406 := Aside0.mk ((by rw [hg]; exact (below_size (by repeat (first | (with_reducible first | exact HB.out | apply below_alloc | apply pw_below_drewN | apply below_drew1 | refine below_set ?_ GE397.out) | exact HB.out))) : w.heap.size ≤ gb406)); replace HB := Aside0.mk (below_step (by repeat (first | (with_reducible first | exact HB.out | apply below_alloc | apply pw_below_drewN | apply below_drew1 | refine below_set ?_ GE397.out) | exact HB.out)) hb); have NB397_406 := Aside0.mk ((by rw [hg]; exact Nat.ne_of_lt (blk_lt (be_ BK397.out)) : gb397 ≠ gb406)); have NB406_397 := Aside0.mk ((by rw [hg]; exact Nat.ne_of_gt (blk_lt (be_ BK397.out)) : gb406 ≠ gb397)); replace BK397 := Aside0.mk (blk_below (be_ BK397.out) hb); clear hb hbox hg; have hnb31 := NB406_397.out; have hnc31 := NB397_406.out; have hcz32_0 : w30.cell? ⟨gb406, 0, none⟩ = some (.slice none 0 0) := (blk_cell BK406.out 0).trans rfl; have hfz32_0 := blk_frozen BK406.out 0; have hcz33_0 : w30.cell? ⟨gb397, 0, none⟩ = some (.slice none 0 0) := (blk_cell BK397.out 0).trans rfl; have hfz33_0 := blk_frozen BK397.out 0))
       refine bodyPost_ret (results_ct rfl _ _ gb397 24 #[.slice none 0 0] (0, 0) _ rfl (by (with_reducible repeat (first | refine blk_drewN ?_ _ | refine blk_drew ?_ | refine blk_alloc ?_ _)); refine blk_put (cs := #[.slice none 0 0]) ?_ 0 _ rfl; (with_reducible repeat (first | refine blk_drewN ?_ _ | refine blk_drew ?_ | refine blk_alloc ?_ _)); refine blk_far ?_ NB397_406.out _; (with_reducible repeat (first | refine blk_drewN ?_ _ | refine blk_drew ?_ | refine blk_alloc ?_ _)); exact BK397.out) Tryd.underlying24 rfl (by kernel_rfl)) rfl ?_
       exact ⟨_, by first | rfl | (simp [errW_none, errW_some] <;> rfl) | (simp [*, errW_none, errW_some] <;> rfl), by first | exact Kd.R_nil _ _ _ _ _ | exact Kd.N_nil _ _ _ _ _ | exact Kd.V_nil _ _ _ _ _ | exact Kd.Q_nil _ _ _ _ _ | exact Kd.S_nil _ _ _ _ _, by repeat (first | (with_reducible first | exact HB.out | apply below_alloc | apply pw_below_drewN | apply below_drew1 | refine below_set ?_ (Aside0.out (by assumption))) | exact HB.out)⟩
   · replace c6 := Bool.eq_false_iff.mpr c6
     subst c6
     have H1 : (some (([] : List Int), false)) = some (r1, r2) := by rw [if_neg (show ¬ (false = true) by decide)] at H; exact H
     clear H
     have H := H1
     clear H1
     simp only [Option.some.injEq, Prod.mk.injEq] at H
     obtain ⟨rfl, rfl⟩ := H
     go_enter Tryd.func12, Tryd.ntmps12
     go_wp2_with (first | ((with_reducible refine gate_dst (N := 2) rfl ?_); refine box_event ?hg (N := 2) ?hd (cs := #[.slice none 0 0]) (t := 24) ?hr ?_; (case hd => rfl); (case hg => rfl); (case hr => first | (go_simp; done) | (go_simp; rfl)); intro gb397 hg w34 hbox hb; have BK397 := Aside0.mk (hbox); have GW397 := Aside0.mk ((by rw [hg]; exact (below_size (bl_ HB.out)) : w.heap.size ≤ gb397)); have GE397 := Aside0.mk ((by rw [hg]; exact (below_size (bl_ HB.out)) : w.heap.size ≤ gb397)); replace HB := Aside0.mk (below_step (bl_ HB.out) hb); clear hb hbox hg) | ((with_reducible refine gate_callee (f := 20) rfl ?_); refine gL_ (some 12) Tryd.func20 #[.string a0, .string (⟨#[60]⟩ : ByteArray)] ?_; (with_reducible refine (strings_CutPrefix.calls a0 (⟨#[60]⟩ : ByteArray) t398 true _ A2.out).mono ?_); rintro e w' ⟨rfl, ⟨nd, rfl⟩⟩; refine ⟨_, rfl, ?_⟩; (try (rw [drewN_self w34]; generalize hq_ : World.drewN w34 _ = w34; have n0_ : Aside0 (w34.heap[gb397]? = some (.cells #[.slice none 0 0] 24 (0, 0))) := ⟨by rw [← hq_]; exact (be_ BK397.out)⟩; have n1_ : Aside0 (Below w.heap.size w w34) := ⟨by rw [← hq_]; exact (by repeat (first | (with_reducible first | exact HB.out | apply below_alloc | apply pw_below_drewN | apply below_drew1 | refine below_set ?_ GE397.out) | exact HB.out))⟩; clear BK397 HB hq_; have BK397 := n0_; have HB := n1_; clear n0_ n1_))) | ((with_reducible refine gate_callee (f := 21) rfl ?_); refine gL_ (some 17) Tryd.func21 #[.string t398, .string (⟨#[62]⟩ : ByteArray)] ?_; (with_reducible refine (strings_CutSuffix.calls t398 (⟨#[62]⟩ : ByteArray) t400 false _ A3.out).mono ?_); rintro e w' ⟨rfl, ⟨nd, rfl⟩⟩; refine ⟨_, rfl, ?_⟩; (try (rw [drewN_self w34]; generalize hq_ : World.drewN w34 _ = w34; have n0_ : Aside0 (w34.heap[gb397]? = some (.cells #[.slice none 0 0] 24 (0, 0))) := ⟨by rw [← hq_]; exact (be_ BK397.out)⟩; have n1_ : Aside0 (Below w.heap.size w w34) := ⟨by rw [← hq_]; exact (by repeat (first | (with_reducible first | exact HB.out | apply below_alloc | apply pw_below_drewN | apply below_drew1 | refine below_set ?_ GE397.out) | exact HB.out))⟩; clear BK397 HB hq_; have BK397 := n0_; have HB := n1_; clear n0_ n1_))) | ((with_reducible refine gate_callee (f := 22) rfl ?_); refine gL_ (some 22) Tryd.func22 #[.string t400] ?_; (with_reducible refine (impl_ParseList.calls k t400 t402 t403 _ A4.out).mono ?_); rintro e w35 ⟨v404, rfl, ho0, hb⟩; refine ⟨_, rfl, ?_⟩; have HO405 := Aside0.mk (Kd.R_lower ho0 (below_size (by repeat (first | (with_reducible first | exact HB.out | apply below_alloc | apply pw_below_drewN | apply below_drew1 | refine below_set ?_ GE397.out) | exact HB.out)))); replace BK397 := Aside0.mk (blk_below (be_ BK397.out) hb); replace HB := Aside0.mk (below_step (by repeat (first | (with_reducible first | exact HB.out | apply below_alloc | apply pw_below_drewN | apply below_drew1 | refine below_set ?_ GE397.out) | exact HB.out)) hb); (try clear hb); (try clear hb2); (try clear hk); (try clear hi); (try clear ho0); obtain ⟨Ao36, co36, eo36⟩ := Kd.R_slice HO405.out; subst eo36) | ((with_reducible refine gate_dst (N := 9) rfl ?_); refine box_event ?hg (N := 9) ?hd (cs := #[.slice none 0 0]) (t := 24) ?hr ?_; (case hd => rfl); (case hg => rfl); (case hr => first | (go_simp; done) | (go_simp; rfl)); intro gb406 hg w37 hbox hb; replace HO405 := Aside0.mk (Kd.R_below (re_ HO405.out) hb); have BK406 := Aside0.mk (hbox); have GW406 := Aside0.mk ((by rw [hg]; exact (below_size (by repeat (first | (with_reducible first | exact HB.out | apply below_alloc | apply pw_below_drewN | apply below_drew1 | refine below_set ?_ GE397.out) | exact HB.out))) : w.heap.size ≤ gb406)); have GE406 := Aside0.mk ((by rw [hg]; exact (below_size (by repeat (first | (with_reducible first | exact HB.out | apply below_alloc | apply pw_below_drewN | apply below_drew1 | refine below_set ?_ GE397.out) | exact HB.out))) : w.heap.size ≤ gb406)); replace HB := Aside0.mk (below_step (by repeat (first | (with_reducible first | exact HB.out | apply below_alloc | apply pw_below_drewN | apply below_drew1 | refine below_set ?_ GE397.out) | exact HB.out)) hb); have NB397_406 := Aside0.mk ((by rw [hg]; exact Nat.ne_of_lt (blk_lt (be_ BK397.out)) : gb397 ≠ gb406)); have NB406_397 := Aside0.mk ((by rw [hg]; exact Nat.ne_of_gt (blk_lt (be_ BK397.out)) : gb406 ≠ gb397)); replace BK397 := Aside0.mk (blk_below (be_ BK397.out) hb); clear hb hbox hg; have hnb38 := NB406_397.out; have hnc38 := NB397_406.out; have hcz39_0 : w37.cell? ⟨gb406, 0, none⟩ = some (.slice none 0 0) := (blk_cell BK406.out 0).trans rfl; have hfz39_0 := blk_frozen BK406.out 0; have hcz40_0 : w37.cell? ⟨gb397, 0, none⟩ = some (.slice none 0 0) := (blk_cell BK397.out 0).trans rfl; have hfz40_0 := blk_frozen BK397.out 0))
     refine bodyPost_ret (results_ct rfl _ _ gb397 24 #[.slice none 0 0] (0, 0) _ rfl (by (with_reducible repeat (first | refine blk_drewN ?_ _ | refine blk_drew ?_ | refine blk_alloc ?_ _)); refine blk_put (cs := #[.slice none 0 0]) ?_ 0 _ rfl; (with_reducible repeat (first | refine blk_drewN ?_ _ | refine blk_drew ?_ | refine blk_alloc ?_ _)); refine blk_far ?_ NB397_406.out _; (with_reducible repeat (first | refine blk_drewN ?_ _ | refine blk_drew ?_ | refine blk_alloc ?_ _)); exact BK397.out) Tryd.underlying24 rfl (by kernel_rfl)) rfl ?_
     exact ⟨_, by first | rfl | (simp [errW_none, errW_some] <;> rfl) | (simp [*, errW_none, errW_some] <;> rfl), by first | exact Kd.R_nil _ _ _ _ _ | exact Kd.N_nil _ _ _ _ _ | exact Kd.V_nil _ _ _ _ _ | exact Kd.Q_nil _ _ _ _ _ | exact Kd.S_nil _ _ _ _ _, by repeat (first | (with_reducible first | exact HB.out | apply below_alloc | apply pw_below_drewN | apply below_drew1 | refine below_set ?_ (Aside0.out (by assumption))) | exact HB.out)⟩
 · replace c5 := Bool.eq_false_iff.mpr c5
   subst c5
   have H1 : (some (([] : List Int), false)) = some (r1, r2) := by rw [if_neg (show ¬ (false = true) by decide)] at H; exact H
   clear H
   have H := H1
   clear H1
   simp only [Option.some.injEq, Prod.mk.injEq] at H
   obtain ⟨rfl, rfl⟩ := H
   go_enter Tryd.func12, Tryd.ntmps12
   go_wp2_with (first | ((with_reducible refine gate_dst (N := 2) rfl ?_); refine box_event ?hg (N := 2) ?hd (cs := #[.slice none 0 0]) (t := 24) ?hr ?_; (case hd => rfl); (case hg => rfl); (case hr => first | (go_simp; done) | (go_simp; rfl)); intro gb397 hg w41 hbox hb; have BK397 := Aside0.mk (hbox); have GW397 := Aside0.mk ((by rw [hg]; exact (below_size (bl_ HB.out)) : w.heap.size ≤ gb397)); have GE397 := Aside0.mk ((by rw [hg]; exact (below_size (bl_ HB.out)) : w.heap.size ≤ gb397)); replace HB := Aside0.mk (below_step (bl_ HB.out) hb); clear hb hbox hg) | ((with_reducible refine gate_callee (f := 20) rfl ?_); refine gL_ (some 12) Tryd.func20 #[.string a0, .string (⟨#[60]⟩ : ByteArray)] ?_; (with_reducible refine (strings_CutPrefix.calls a0 (⟨#[60]⟩ : ByteArray) t398 false _ A2.out).mono ?_); rintro e w' ⟨rfl, ⟨nd, rfl⟩⟩; refine ⟨_, rfl, ?_⟩; (try (rw [drewN_self w41]; generalize hq_ : World.drewN w41 _ = w41; have n0_ : Aside0 (w41.heap[gb397]? = some (.cells #[.slice none 0 0] 24 (0, 0))) := ⟨by rw [← hq_]; exact (be_ BK397.out)⟩; have n1_ : Aside0 (Below w.heap.size w w41) := ⟨by rw [← hq_]; exact (by repeat (first | (with_reducible first | exact HB.out | apply below_alloc | apply pw_below_drewN | apply below_drew1 | refine below_set ?_ GE397.out) | exact HB.out))⟩; clear BK397 HB hq_; have BK397 := n0_; have HB := n1_; clear n0_ n1_))) | ((with_reducible refine gate_callee (f := 21) rfl ?_); refine gL_ (some 17) Tryd.func21 #[.string t398, .string (⟨#[62]⟩ : ByteArray)] ?_; (with_reducible refine (strings_CutSuffix.calls t398 (⟨#[62]⟩ : ByteArray) t400 t401 _ A3.out).mono ?_); rintro e w' ⟨rfl, ⟨nd, rfl⟩⟩; refine ⟨_, rfl, ?_⟩; (try (rw [drewN_self w41]; generalize hq_ : World.drewN w41 _ = w41; have n0_ : Aside0 (w41.heap[gb397]? = some (.cells #[.slice none 0 0] 24 (0, 0))) := ⟨by rw [← hq_]; exact (be_ BK397.out)⟩; have n1_ : Aside0 (Below w.heap.size w w41) := ⟨by rw [← hq_]; exact (by repeat (first | (with_reducible first | exact HB.out | apply below_alloc | apply pw_below_drewN | apply below_drew1 | refine below_set ?_ GE397.out) | exact HB.out))⟩; clear BK397 HB hq_; have BK397 := n0_; have HB := n1_; clear n0_ n1_))) | ((with_reducible refine gate_callee (f := 22) rfl ?_); refine gL_ (some 22) Tryd.func22 #[.string t400] ?_; (with_reducible refine (impl_ParseList.calls k t400 t402 t403 _ A4.out).mono ?_); rintro e w42 ⟨v404, rfl, ho0, hb⟩; refine ⟨_, rfl, ?_⟩; have HO405 := Aside0.mk (Kd.R_lower ho0 (below_size (by repeat (first | (with_reducible first | exact HB.out | apply below_alloc | apply pw_below_drewN | apply below_drew1 | refine below_set ?_ GE397.out) | exact HB.out)))); replace BK397 := Aside0.mk (blk_below (be_ BK397.out) hb); replace HB := Aside0.mk (below_step (by repeat (first | (with_reducible first | exact HB.out | apply below_alloc | apply pw_below_drewN | apply below_drew1 | refine below_set ?_ GE397.out) | exact HB.out)) hb); (try clear hb); (try clear hb2); (try clear hk); (try clear hi); (try clear ho0); obtain ⟨Ao43, co43, eo43⟩ := Kd.R_slice HO405.out; subst eo43) | ((with_reducible refine gate_dst (N := 9) rfl ?_); refine box_event ?hg (N := 9) ?hd (cs := #[.slice none 0 0]) (t := 24) ?hr ?_; (case hd => rfl); (case hg => rfl); (case hr => first | (go_simp; done) | (go_simp; rfl)); intro gb406 hg w44 hbox hb; replace HO405 := Aside0.mk (Kd.R_below (re_ HO405.out) hb); have BK406 := Aside0.mk (hbox); have GW406 := Aside0.mk ((by rw [hg]; exact (below_size (by repeat (first | (with_reducible first | exact HB.out | apply below_alloc | apply pw_below_drewN | apply below_drew1 | refine below_set ?_ GE397.out) | exact HB.out))) : w.heap.size ≤ gb406)); have GE406 := Aside0.mk ((by rw [hg]; exact (below_size (by repeat (first | (with_reducible first | exact HB.out | apply below_alloc | apply pw_below_drewN | apply below_drew1 | refine below_set ?_ GE397.out) | exact HB.out))) : w.heap.size ≤ gb406)); replace HB := Aside0.mk (below_step (by repeat (first | (with_reducible first | exact HB.out | apply below_alloc | apply pw_below_drewN | apply below_drew1 | refine below_set ?_ GE397.out) | exact HB.out)) hb); have NB397_406 := Aside0.mk ((by rw [hg]; exact Nat.ne_of_lt (blk_lt (be_ BK397.out)) : gb397 ≠ gb406)); have NB406_397 := Aside0.mk ((by rw [hg]; exact Nat.ne_of_gt (blk_lt (be_ BK397.out)) : gb406 ≠ gb397)); replace BK397 := Aside0.mk (blk_below (be_ BK397.out) hb); clear hb hbox hg; have hnb45 := NB406_397.out; have hnc45 := NB397_406.out; have hcz46_0 : w44.cell? ⟨gb406, 0, none⟩ = some (.slice none 0 0) := (blk_cell BK406.out 0).trans rfl; have hfz46_0 := blk_frozen BK406.out 0; have hcz47_0 : w44.cell? ⟨gb397, 0, none⟩ = some (.slice none 0 0) := (blk_cell BK397.out 0).trans rfl; have hfz47_0 := blk_frozen BK397.out 0))
   refine bodyPost_ret (results_ct rfl _ _ gb397 24 #[.slice none 0 0] (0, 0) _ rfl (by (with_reducible repeat (first | refine blk_drewN ?_ _ | refine blk_drew ?_ | refine blk_alloc ?_ _)); refine blk_put (cs := #[.slice none 0 0]) ?_ 0 _ rfl; (with_reducible repeat (first | refine blk_drewN ?_ _ | refine blk_drew ?_ | refine blk_alloc ?_ _)); refine blk_far ?_ NB397_406.out _; (with_reducible repeat (first | refine blk_drewN ?_ _ | refine blk_drew ?_ | refine blk_alloc ?_ _)); exact BK397.out) Tryd.underlying24 rfl (by kernel_rfl)) rfl ?_
   exact ⟨_, by first | rfl | (simp [errW_none, errW_some] <;> rfl) | (simp [*, errW_none, errW_some] <;> rfl), by first | exact Kd.R_nil _ _ _ _ _ | exact Kd.N_nil _ _ _ _ _ | exact Kd.V_nil _ _ _ _ _ | exact Kd.Q_nil _ _ _ _ _ | exact Kd.S_nil _ _ _ _ _, by repeat (first | (with_reducible first | exact HB.out | apply below_alloc | apply pw_below_drewN | apply below_drew1 | refine below_set ?_ (Aside0.out (by assumption))) | exact HB.out)⟩
def impl_ExampleText.f (a0 : Int) : Option (ByteArray) := (some (([(⟨#[60, 51, 44, 53, 62]⟩ : ByteArray), (⟨#[60, 52, 44, 54, 44, 57, 62]⟩ : ByteArray), (⟨#[60, 54, 44, 57, 44, 50, 48, 62]⟩ : ByteArray), (⟨#[60, 51, 44, 52, 44, 53, 62]⟩ : ByteArray), (⟨#[60, 49, 62]⟩ : ByteArray), (⟨#[60, 53, 44, 55, 44, 57, 44, 49, 49, 62]⟩ : ByteArray)] : List ByteArray) : List ByteArray)).bind fun y408 => ((impl_within.f a0 1 (y408.length : Int)).bind fun t411 => (if t411 = true then (if 0 ≤ (wrap64 (a0 - 1)) then (if (wrap64 (a0 - 1)) < (y408.length : Int) then (some (rdOf ByteArray.empty y408 (wrap64 (a0 - 1)))) else (none)) else (none)) else (some (⟨#[]⟩ : ByteArray))))
set_option maxHeartbeats 8000000 in
set_option maxRecDepth 100000 in
theorem impl_ExampleText.calls (a0 : Int) (r : ByteArray) (w : World) (h : impl_ExampleText.f a0 = some r) :
 Calls Tryd.prog 13 #[.int .i64 a0] w fun e w' => e = .returned (.string r) ∧ Below w.heap.size w w' := by
 have HB := Aside0.mk (Below.refl w.heap.size w)
 have H : ((some (([(⟨#[60, 51, 44, 53, 62]⟩ : ByteArray), (⟨#[60, 52, 44, 54, 44, 57, 62]⟩ : ByteArray), (⟨#[60, 54, 44, 57, 44, 50, 48, 62]⟩ : ByteArray), (⟨#[60, 51, 44, 52, 44, 53, 62]⟩ : ByteArray), (⟨#[60, 49, 62]⟩ : ByteArray), (⟨#[60, 53, 44, 55, 44, 57, 44, 49, 49, 62]⟩ : ByteArray)] : List ByteArray) : List ByteArray)).bind fun y408 => ((impl_within.f a0 1 (y408.length : Int)).bind fun t411 => (if t411 = true then (if 0 ≤ (wrap64 (a0 - 1)) then (if (wrap64 (a0 - 1)) < (y408.length : Int) then (some (rdOf ByteArray.empty y408 (wrap64 (a0 - 1)))) else (none)) else (none)) else (some (⟨#[]⟩ : ByteArray))))) = some r := h
 clear h
 obtain ⟨y408, hy408⟩ : ∃ y_ : List ByteArray, y_ = (([(⟨#[60, 51, 44, 53, 62]⟩ : ByteArray), (⟨#[60, 52, 44, 54, 44, 57, 62]⟩ : ByteArray), (⟨#[60, 54, 44, 57, 44, 50, 48, 62]⟩ : ByteArray), (⟨#[60, 51, 44, 52, 44, 53, 62]⟩ : ByteArray), (⟨#[60, 49, 62]⟩ : ByteArray), (⟨#[60, 53, 44, 55, 44, 57, 44, 49, 49, 62]⟩ : ByteArray)] : List ByteArray)) := ⟨_, rfl⟩
 replace H : ((impl_within.f a0 1 (y408.length : Int)).bind fun t411 => (if t411 = true then (if 0 ≤ (wrap64 (a0 - 1)) then (if (wrap64 (a0 - 1)) < (y408.length : Int) then (some (rdOf ByteArray.empty y408 (wrap64 (a0 - 1)))) else (none)) else (none)) else (some (⟨#[]⟩ : ByteArray)))) = some r := by subst hy408; exact H
 have Ny408 := Aside0.mk hy408
 clear hy408
 replace H := Option.bind_eq_some_iff.mp H
 obtain ⟨t411, A20, H⟩ := H
 replace H : (if t411 = true then (if 0 ≤ (wrap64 (a0 - 1)) then (if (wrap64 (a0 - 1)) < (y408.length : Int) then (some (rdOf ByteArray.empty y408 (wrap64 (a0 - 1)))) else (none)) else (none)) else (some (⟨#[]⟩ : ByteArray))) = some r := H
 have A2 := Aside0.mk A20
 clear A20
 by_cases c3 : t411 = true
 · subst c3
   have H1 : (if 0 ≤ (wrap64 (a0 - 1)) then (if (wrap64 (a0 - 1)) < (y408.length : Int) then (some (rdOf ByteArray.empty y408 (wrap64 (a0 - 1)))) else (none)) else (none)) = some r := by rw [if_pos rfl] at H; exact H
   clear H
   have H := H1
   clear H1
   obtain ⟨ji4, hji4⟩ : ∃ j_ : Int, (wrap64 (a0 - 1)) = j_ := ⟨_, rfl⟩
   replace H : (if 0 ≤ (ji4) then (if (ji4) < (y408.length : Int) then (some (rdOf ByteArray.empty y408 (ji4))) else (none)) else (none)) = some r := by first | (rw [hji4] at H; exact H) | (simp only [hji4] at H ⊢; exact H)
   (try rw [hji4] at A2)
   have hji4w : (IntKind.i64.wrap (a0 - 1)) = ji4 := (i64_w _).trans hji4
   by_cases c5 : 0 ≤ (ji4)
   · rw [if_pos c5] at H
     have c5b0 : decide (0 ≤ (ji4)) = true := decide_eq_true c5
     clear c5
     by_cases c6 : (ji4) < (y408.length : Int)
     · rw [if_pos c6] at H
       have c6b0 : decide ((ji4) < (y408.length : Int)) = true := decide_eq_true c6
       clear c6
       obtain rfl := Option.some.inj H
       go_enter Tryd.func13, Tryd.ntmps13
       go_wp2_with (first | ((with_reducible refine gate_dst (N := 4) rfl ?_); refine Kd.R_lit Kd.string _ 9 ?hg (N := 4) ?hd (xs := ([(⟨#[60, 51, 44, 53, 62]⟩ : ByteArray), (⟨#[60, 52, 44, 54, 44, 57, 62]⟩ : ByteArray), (⟨#[60, 54, 44, 57, 44, 50, 48, 62]⟩ : ByteArray), (⟨#[60, 51, 44, 52, 44, 53, 62]⟩ : ByteArray), (⟨#[60, 49, 62]⟩ : ByteArray), (⟨#[60, 53, 44, 55, 44, 57, 44, 49, 49, 62]⟩ : ByteArray)] : List ByteArray)) (inner := [.string (⟨#[60, 51, 44, 53, 62]⟩ : ByteArray), .string (⟨#[60, 52, 44, 54, 44, 57, 62]⟩ : ByteArray), .string (⟨#[60, 54, 44, 57, 44, 50, 48, 62]⟩ : ByteArray), .string (⟨#[60, 51, 44, 52, 44, 53, 62]⟩ : ByteArray), .string (⟨#[60, 49, 62]⟩ : ByteArray), .string (⟨#[60, 53, 44, 55, 44, 57, 44, 49, 49, 62]⟩ : ByteArray)]) (ok := fun _ => True) (okp := fun _ => True) ?hr ?hp (fun _ hk => hk) trivial (Below.refl _ _) (Nat.le_refl _) (by simp) ?_; (case hd => rfl); (case hg => rfl); (case hr => first | (go_simp; done) | (go_simp; rfl)); (case hp => exact (Reps.one (show Kd.M Kd.string _ _ _ (⟨#[60, 51, 44, 53, 62]⟩ : ByteArray) [.string (⟨#[60, 51, 44, 53, 62]⟩ : ByteArray)] from rfl) (Reps.one (show Kd.M Kd.string _ _ _ (⟨#[60, 52, 44, 54, 44, 57, 62]⟩ : ByteArray) [.string (⟨#[60, 52, 44, 54, 44, 57, 62]⟩ : ByteArray)] from rfl) (Reps.one (show Kd.M Kd.string _ _ _ (⟨#[60, 54, 44, 57, 44, 50, 48, 62]⟩ : ByteArray) [.string (⟨#[60, 54, 44, 57, 44, 50, 48, 62]⟩ : ByteArray)] from rfl) (Reps.one (show Kd.M Kd.string _ _ _ (⟨#[60, 51, 44, 52, 44, 53, 62]⟩ : ByteArray) [.string (⟨#[60, 51, 44, 52, 44, 53, 62]⟩ : ByteArray)] from rfl) (Reps.one (show Kd.M Kd.string _ _ _ (⟨#[60, 49, 62]⟩ : ByteArray) [.string (⟨#[60, 49, 62]⟩ : ByteArray)] from rfl) (Reps.one (show Kd.M Kd.string _ _ _ (⟨#[60, 53, 44, 55, 44, 57, 44, 49, 49, 62]⟩ : ByteArray) [.string (⟨#[60, 53, 44, 55, 44, 57, 44, 49, 49, 62]⟩ : ByteArray)] from rfl) (Reps.none _ _)))))))); intro v409 w7 ho8 hb hg_ hnew_; clear hg_ hnew_; (first | rw [← Ny408.out] at ho8 | (simp only [Int.reduceToNat] at ho8; rw [← Ny408.out] at ho8)); have HO410 := Aside0.mk (Kd.R_lower ho8 (below_size (bl_ HB.out))); replace HB := Aside0.mk (below_step (bl_ HB.out) hb); clear hb ho8; obtain ⟨Ao9, co9, eo9⟩ := Kd.R_slice HO410.out; subst eo9) | ((with_reducible refine gate_callee (f := 24) rfl ?_); refine gL_ (some 8) Tryd.func24 #[.int .i64 a0, .int .i64 1, .int .i64 (y408.length : Int)] ?_; (with_reducible refine (impl_within.calls a0 1 (y408.length : Int) true _ A2.out).mono ?_); rintro e w' ⟨rfl, ⟨nd, rfl⟩⟩; refine ⟨_, rfl, ?_⟩; have p412 : 0 ≤ ((ji4) : Int) := od_; have q412 : (ji4) < (y408.length : Int) := od_; obtain ⟨ad412, e412, hx412_0⟩ := Kd.at_string (Kd.R_reads' HO410.out).2.2 (ji4) p412 q412; cases e412; replace p412 := eq_true p412; replace q412 := eq_true q412))
       go_ret
       exact ⟨by first | rfl | (simp [errW_none, errW_some] <;> rfl) | (simp only [← hji4]; first | rfl | (simp [errW_none, errW_some] <;> rfl)) | (simp [*, errW_none, errW_some] <;> rfl), bl_ HB.out⟩
     · rw [if_neg c6] at H
       exact absurd H (by simp)
   · rw [if_neg c5] at H
     exact absurd H (by simp)
 · replace c3 := Bool.eq_false_iff.mpr c3
   subst c3
   have H1 : (some (⟨#[]⟩ : ByteArray)) = some r := by rw [if_neg (show ¬ (false = true) by decide)] at H; exact H
   clear H
   have H := H1
   clear H1
   obtain rfl := Option.some.inj H
   go_enter Tryd.func13, Tryd.ntmps13
   go_wp2_with (first | ((with_reducible refine gate_dst (N := 4) rfl ?_); refine Kd.R_lit Kd.string _ 9 ?hg (N := 4) ?hd (xs := ([(⟨#[60, 51, 44, 53, 62]⟩ : ByteArray), (⟨#[60, 52, 44, 54, 44, 57, 62]⟩ : ByteArray), (⟨#[60, 54, 44, 57, 44, 50, 48, 62]⟩ : ByteArray), (⟨#[60, 51, 44, 52, 44, 53, 62]⟩ : ByteArray), (⟨#[60, 49, 62]⟩ : ByteArray), (⟨#[60, 53, 44, 55, 44, 57, 44, 49, 49, 62]⟩ : ByteArray)] : List ByteArray)) (inner := [.string (⟨#[60, 51, 44, 53, 62]⟩ : ByteArray), .string (⟨#[60, 52, 44, 54, 44, 57, 62]⟩ : ByteArray), .string (⟨#[60, 54, 44, 57, 44, 50, 48, 62]⟩ : ByteArray), .string (⟨#[60, 51, 44, 52, 44, 53, 62]⟩ : ByteArray), .string (⟨#[60, 49, 62]⟩ : ByteArray), .string (⟨#[60, 53, 44, 55, 44, 57, 44, 49, 49, 62]⟩ : ByteArray)]) (ok := fun _ => True) (okp := fun _ => True) ?hr ?hp (fun _ hk => hk) trivial (Below.refl _ _) (Nat.le_refl _) (by simp) ?_; (case hd => rfl); (case hg => rfl); (case hr => first | (go_simp; done) | (go_simp; rfl)); (case hp => exact (Reps.one (show Kd.M Kd.string _ _ _ (⟨#[60, 51, 44, 53, 62]⟩ : ByteArray) [.string (⟨#[60, 51, 44, 53, 62]⟩ : ByteArray)] from rfl) (Reps.one (show Kd.M Kd.string _ _ _ (⟨#[60, 52, 44, 54, 44, 57, 62]⟩ : ByteArray) [.string (⟨#[60, 52, 44, 54, 44, 57, 62]⟩ : ByteArray)] from rfl) (Reps.one (show Kd.M Kd.string _ _ _ (⟨#[60, 54, 44, 57, 44, 50, 48, 62]⟩ : ByteArray) [.string (⟨#[60, 54, 44, 57, 44, 50, 48, 62]⟩ : ByteArray)] from rfl) (Reps.one (show Kd.M Kd.string _ _ _ (⟨#[60, 51, 44, 52, 44, 53, 62]⟩ : ByteArray) [.string (⟨#[60, 51, 44, 52, 44, 53, 62]⟩ : ByteArray)] from rfl) (Reps.one (show Kd.M Kd.string _ _ _ (⟨#[60, 49, 62]⟩ : ByteArray) [.string (⟨#[60, 49, 62]⟩ : ByteArray)] from rfl) (Reps.one (show Kd.M Kd.string _ _ _ (⟨#[60, 53, 44, 55, 44, 57, 44, 49, 49, 62]⟩ : ByteArray) [.string (⟨#[60, 53, 44, 55, 44, 57, 44, 49, 49, 62]⟩ : ByteArray)] from rfl) (Reps.none _ _)))))))); intro v409 w10 ho11 hb hg_ hnew_; clear hg_ hnew_; (first | rw [← Ny408.out] at ho11 | (simp only [Int.reduceToNat] at ho11; rw [← Ny408.out] at ho11)); have HO410 := Aside0.mk (Kd.R_lower ho11 (below_size (bl_ HB.out))); replace HB := Aside0.mk (below_step (bl_ HB.out) hb); clear hb ho11; obtain ⟨Ao12, co12, eo12⟩ := Kd.R_slice HO410.out; subst eo12) | ((with_reducible refine gate_callee (f := 24) rfl ?_); refine gL_ (some 8) Tryd.func24 #[.int .i64 a0, .int .i64 1, .int .i64 (y408.length : Int)] ?_; (with_reducible refine (impl_within.calls a0 1 (y408.length : Int) false _ A2.out).mono ?_); rintro e w' ⟨rfl, ⟨nd, rfl⟩⟩; refine ⟨_, rfl, ?_⟩))
   go_ret
   exact ⟨by first | rfl | (simp [errW_none, errW_some] <;> rfl) | (simp [*, errW_none, errW_some] <;> rfl), bl_ HB.out⟩
end Go.Proofs.YteaiehpgigaoaaaDoor.PA
end
