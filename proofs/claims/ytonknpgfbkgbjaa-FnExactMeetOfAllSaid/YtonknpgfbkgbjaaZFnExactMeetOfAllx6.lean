-- Bundled by shake.py from this session's printed and written texts; Lean checks it.
import Derived.Test.YtonknpgfbkgbjaaZFnExactMeetOfAllx1
import Derived.Test.YtonknpgfbkgbjaaZFnExactMeetOfAllx5
section
namespace Go.Proofs.Ytonknpgfbkgbjaa.PA
open Go.RowKit Go.Proofs.YtonknpgfbkgbjaaW.PrintWords Go.Proofs.YtonknpgfbkgbjaaW.PrintLast Go.Proofs.YtonknpgfbkgbjaaW.PrintMore
attribute [local go_sem] max2_int min2_int max_two min_two max_three min_three max_four min_four
set_option linter.unusedVariables false
set_option linter.unusedSimpArgs false
set_option maxHeartbeats 8000000
set_option maxRecDepth 100000
def impl_Generates.f (k : Nat) (l0 : List Int) (a1 : Int) : Option (Bool) := (impl_usable.f k l0).bind fun t347 => (if t347 = true then ((impl_within.f a1 0 1000000).bind fun t348 => (if t348 = true then (if 0 < (l0.length : Int) then ((impl_leasts.f k l0 (rd l0 0)).bind fun t350 => (if (rd l0 0) = 0 then (none) else (if 0 ≤ (Int.tmod a1 (rd l0 0)) then (if (Int.tmod a1 (rd l0 0)) < (t350.length : Int) then (if (rd t350 (Int.tmod a1 (rd l0 0))) ≥ 0 then (some (decide ((rd t350 (Int.tmod a1 (rd l0 0))) ≤ a1))) else (some false)) else (none)) else (none)))) else (none)) else (some false))) else (some false))
def impl_Generates.T3 : Bool × List (List Nat × List Nat) := (true, [([], []), ([], []), ([1], [1]), ([2], [2]), ([0, 3], [0, 3]), ([], []), ([], []), ([6], [6]), ([7], [7]), ([5, 8], [5, 8]), ([4, 9], [4, 9]), ([10], [10]), ([11, 4, 0, 1, 2, 3, 4, 5, 6, 7, 8, 9, 10, 11], [11])])
def impl_Generates.B3 : List Nat := [0, 0, 2, 6, 15, 0, 0, 64, 192, 480, 1023, 2047, 4095]
theorem impl_Generates.tab3 : rtab .any (opsOf Try.f58 3) = impl_Generates.T3 := by kernel_rfl
theorem impl_Generates.bits3 : waitsOk impl_Generates.T3.2 impl_Generates.B3 = true := by kernel_rfl
theorem impl_Generates.calls (k : Nat) (A0 : Option Addr) (c0 : Nat) (l0 : List Int) (a1 : Int) (r : Bool) (w : World) (hr0 : Kd.C (Kd.int .i64) w A0 l0.length l0) (hc0 : l0.length ≤ c0) (h : impl_Generates.f k l0 a1 = some r) :
 Calls Try.prog 58 #[.slice A0 l0.length c0, .int .i64 a1] w fun e w' => e = .returned (.bool r) ∧ Below w.heap.size w w' := by
 have HR0 := Aside0.mk hr0
 have HC0 := Aside0.mk hc0
 clear hr0 hc0
 have HB := Aside0.mk (Below.refl w.heap.size w)
 have H := h
 clear h
 unfold impl_Generates.f at H
 obtain ⟨t347, A3, H⟩ := ob_ H
 by_cases c4 : t347 = true
 rotate_left
 · replace c4 := Bool.eq_false_iff.mpr c4
   subst c4
   rw [if_neg (show ¬ (false = true) by decide)] at H
   obtain rfl := Option.some.inj H
   go_enter Try.func58, Try.ntmps58
   go_wp2_with (first | ((with_reducible refine gate_callee (f := 86) rfl ?_); refine gL_ (some 7) Try.func86 #[.slice A0 l0.length c0] ?_; (with_reducible refine (impl_usable.calls k _ _ l0 false _ ?side1 ?side2 A3.out).mono ?_); (case side1 => exact ce_ (HR0.out)); (case side2 => exact HC0.out); rintro e w' ⟨rfl, ⟨nd, rfl⟩⟩; refine ⟨_, rfl, ?_⟩))
   go_ret
   exact ⟨rf_, bl_ HB.out⟩
 subst c4
 rw [if_pos rfl] at H
 obtain ⟨t348, A5, H⟩ := ob_ H
 by_cases c6 : t348 = true
 rotate_left
 · replace c6 := Bool.eq_false_iff.mpr c6
   subst c6
   rw [if_neg (show ¬ (false = true) by decide)] at H
   obtain rfl := Option.some.inj H
   go_enter Try.func58, Try.ntmps58
   go_wp2_with (first | ((with_reducible refine gate_callee (f := 86) rfl ?_); refine gL_ (some 7) Try.func86 #[.slice A0 l0.length c0] ?_; (with_reducible refine (impl_usable.calls k _ _ l0 true _ ?side1 ?side2 A3.out).mono ?_); (case side1 => exact ce_ (HR0.out)); (case side2 => exact HC0.out); rintro e w' ⟨rfl, ⟨nd, rfl⟩⟩; refine ⟨_, rfl, ?_⟩) | (go_at_call 40; (with_reducible refine (impl_within.calls a1 0 1000000 false _ A5.out).mono ?_); rintro e w' ⟨rfl, ⟨nd, rfl⟩⟩))
   go_ret
   exact ⟨rf_, bl_ HB.out⟩
 subst c6
 rw [if_pos rfl] at H
 obtain ⟨c7, H⟩ := ip_ H
 have c7b0 : decide (0 < (l0.length : Int)) = true := decide_eq_true c7
 have c7b1 : decide (0 < l0.length) = true := decide_eq_true (by omega)
 clear c7
 obtain ⟨t350, A8, H⟩ := ob_ H
 obtain ⟨c9, H⟩ := in_ H
 have c9b0 : ((rd l0 0) == 0) = false := beq_eq_false_iff_ne.mpr c9
 have c9b1 : ((rd l0 0) != 0) = true := bne_iff_ne.mpr c9
 obtain ⟨ji10, hji10⟩ : ∃ j_ : Int, (Int.tmod a1 (rd l0 0)) = j_ := ⟨_, rfl⟩
 replace H : (if 0 ≤ (ji10) then (if (ji10) < (t350.length : Int) then (if (rd t350 (ji10)) ≥ 0 then (some (decide ((rd t350 (ji10)) ≤ a1))) else (some false)) else (none)) else (none)) = some r := by first | (rw [hji10] at H; exact H) | (simp only [hji10] at H ⊢; exact H)
 (try rw [hji10] at A3)
 (try rw [hji10] at A5)
 (try rw [hji10] at A8)
 obtain ⟨c11b0, H⟩ := ipd_ H
 obtain ⟨c12b0, H⟩ := ipd_ H
 by_cases c13 : (rd t350 (ji10)) ≥ 0
 rotate_left
 · rw [if_neg c13] at H
   have c13b0 : decide (0 ≤ (rd t350 (ji10))) = false := decide_eq_false c13
   clear c13
   obtain rfl := Option.some.inj H
   go_enter Try.func58, Try.ntmps58
   try go_wp2_with (first | ((with_reducible refine gate_callee (f := 86) rfl ?_); refine gL_ (some 7) Try.func86 #[.slice A0 l0.length c0] ?_; (with_reducible refine (impl_usable.calls k _ _ l0 true _ ?side1 ?side2 A3.out).mono ?_); (case side1 => exact ce_ (HR0.out)); (case side2 => exact HC0.out); rintro e w' ⟨rfl, ⟨nd, rfl⟩⟩; refine ⟨_, rfl, ?_⟩) | (go_at_call 40; (with_reducible refine (impl_within.calls a1 0 1000000 true _ A5.out).mono ?_); rintro e w' ⟨rfl, ⟨nd, rfl⟩⟩))
   replace HB := Aside0.mk (below_drew1 HB.out)
   have p349 : 0 ≤ (0 : Int) := (by omega)
   have q349 : 0 < (l0.length : Int) := od_
   obtain ⟨ad349, e349, hx349_0⟩ := Kd.at_int HR0.out 0 p349 q349
   have hw349_0 := hx349_0
   (try rw [show ((0 : Int)).toNat = 0 from rfl] at hw349_0)
   (try rw [show 0 * 1 = 0 from rfl] at hw349_0)
   (try rw [Addr.add_zero'] at hw349_0)
   cases e349
   have qi349 : (0 < l0.length) = True := eq_true (by omega)
   (try rw [show ((0 : Int)).toNat = 0 from rfl] at hx349_0)
   (try rw [Addr.add_zero'] at hx349_0)
   (try replace hx349_0 := (HB.out.cell (World.block_lt_of_cell? w _ hx349_0)).trans hx349_0)
   replace p349 := eq_true p349
   replace q349 := eq_true q349
   have p353 : 0 ≤ (0 : Int) := (by omega)
   have q353 : 0 < (l0.length : Int) := od_
   obtain ⟨ad353, e353, hx353_0⟩ := Kd.at_int HR0.out 0 p353 q353
   have hw353_0 := hx353_0
   (try rw [show ((0 : Int)).toNat = 0 from rfl] at hw353_0)
   (try rw [show 0 * 1 = 0 from rfl] at hw353_0)
   (try rw [Addr.add_zero'] at hw353_0)
   obtain rfl : ad349 = ad353 := (by injection e353)
   have qi353 : (0 < l0.length) = True := eq_true (by omega)
   (try rw [show ((0 : Int)).toNat = 0 from rfl] at hx353_0)
   (try rw [Addr.add_zero'] at hx353_0)
   (try replace hx353_0 := (HB.out.cell (World.block_lt_of_cell? w _ hx353_0)).trans hx353_0)
   replace p353 := eq_true p353
   replace q353 := eq_true q353
   refine start_ (n := 13) (S := fun w' => w'.cell? ad349 = some (.int .i64 (rd l0 0)) ∧ w'.cell? ad349 = some (.int .i64 (rd l0 0)) ∧ True) (ds := []) (B_ 0 13) (by kernel_rfl) rfl rfl ⟨((HB.out.cell (World.block_lt_of_cell? w _ hw349_0)).trans hw349_0), ((HB.out.cell (World.block_lt_of_cell? w _ hw353_0)).trans hw353_0), trivial⟩ (fun hHeld => ?_); refine with_tabW impl_Generates.tab3 impl_Generates.bits3 (fun HT_ HW_ => ?_)
   (first | (generalize hq_ : World.drew (World.drewN w _) = w17 at hHeld ⊢; have HBq_ : Aside0 (Below w.heap.size w w17) := ⟨hq_ ▸ (below_drew1 (pw_below_drewN (Below.refl w.heap.size w) _))⟩; clear hq_ HB; have HB := HBq_; clear HBq_; replace hx349_0 := (HB.out.cell (World.block_lt_of_cell? w _ hw349_0)).trans hw349_0; replace hx353_0 := (HB.out.cell (World.block_lt_of_cell? w _ hw353_0)).trans hw353_0) | (generalize w.drew = w17 at HB hx349_0 hx353_0 hHeld ⊢))
   refine pu_ HT_ 0 14 (B_ 1 13) ?_
   refine pu_ HT_ 1 15 (B_ 3 13) ?_
   refine pu_ HT_ 2 16 (B_ 7 13) ?_
   refine pu_ HT_ 5 19 (B_ 39 13) ?_
   refine pu_ HT_ 6 20 (B_ 103 13) ?_
   refine pu_ HT_ 7 21 (B_ 231 13) ?_
   refine tk3_ HT_ HW_ hHeld 3 17 (B_ 239 13) ?_
   refine tk3_ HT_ HW_ hHeld 8 22 (B_ 495 13) ?_
   refine pu_ HT_ 9 23 (B_ 1007 13) ?_
   refine on_ HT_ 4 18 (B_ 1023 13) (fun K hK => ?_)
   refine goes_ Try.func59 (by kernel_rfl) rfl #[.slice (some ad349) l0.length c0, .int .i64 (rd l0 0)] (by rfl) rfl rfl (by (try simp only [List.map_toArray, List.map_cons, List.map_nil]); first | done | rfl | (simp only [List.length_drop, List.length_take]; rfl)) ?_
   with_reducible refine (impl_leasts.calls k _ _ l0 (rd l0 0) t350 _ ?side1 ?side2 A8.out).mono ?_
   (case side1 => exact ch_ HR0 HB)
   (case side2 => exact HC0.out)
   rintro e w18 ⟨v351, rfl, ho0, hb⟩
   refine ⟨_, rfl, ?_⟩
   have HO352 := Aside0.mk (Kd.R_lower ho0 (below_size (bl_ HB.out)))
   replace HB := bo_ HB hb
   (try clear hb)
   (try clear ho0)
   obtain ⟨Ao19, co19, eo19⟩ := Kd.R_slice HO352.out
   (first | subst eo19 | (injection eo19 with f1_ f2_ f3_; have f4_ := f1_.symm; have f5_ := f3_.symm; clear f1_ f2_ f3_; subst f4_; subst f5_))
   have p354 : 0 ≤ ((ji10) : Int) := od_
   have q354 : (ji10) < (t350.length : Int) := od_
   obtain ⟨ad354, e354, hx354_0⟩ := Kd.at_int (Kd.R_reads' HO352.out).2.2 (ji10) p354 q354
   cases e354
   replace p354 := eq_true p354
   replace q354 := eq_true q354
   refine hK.out _ _ ⟨((HB.out.cell (World.block_lt_of_cell? w _ hw349_0)).trans hw349_0), ((HB.out.cell (World.block_lt_of_cell? w _ hw353_0)).trans hw353_0), trivial⟩ (fun _ => ?_); refine restart_ (S' := fun w' => w'.cell? ad349 = some (.int .i64 (rd l0 0)) ∧ w'.cell? ad349 = some (.int .i64 (rd l0 0)) ∧ w'.cell? (ad354.add ((ji10)).toNat) = some (.int .i64 (rd t350 (ji10)))) (fun _ h => ⟨h.1, h.2.1, trivial⟩) ⟨((HB.out.cell (World.block_lt_of_cell? w _ hw349_0)).trans hw349_0), ((HB.out.cell (World.block_lt_of_cell? w _ hw353_0)).trans hw353_0), hx354_0⟩ (fun hHeld => ?_)
   clear hK K
   refine norm_ (a' := ?_) ?_ ?_
   rotate_left
   · show Act.put _ (some 18) _ = _
     simp only [Act.put, z1_, z2_, z3_, i64_w, i32_w]
     rfl
   refine pu_ HT_ 10 24 (B_ 2047 13) ?_
   refine tk3_ HT_ HW_ hHeld 11 25 (B_ 4095 13) ?_
   refine pu_ HT_ 12 5 (B_ 8191 13) ?_
   refine done_ (done_of HT_.out (by kernel_rfl)) ?_
   try go_wp2
   go_ret
   exact ⟨by first | rfl | (simp [errW_none, errW_some] <;> rfl) | (simp only [← hji10]; first | rfl | (simp [errW_none, errW_some] <;> rfl)) | (simp [*, errW_none, errW_some] <;> rfl), bl_ HB.out⟩
 rw [if_pos c13] at H
 have c13b0 : decide (0 ≤ (rd t350 (ji10))) = true := decide_eq_true c13
 clear c13
 obtain rfl := Option.some.inj H
 go_enter Try.func58, Try.ntmps58
 try go_wp2_with (first | ((with_reducible refine gate_callee (f := 86) rfl ?_); refine gL_ (some 7) Try.func86 #[.slice A0 l0.length c0] ?_; (with_reducible refine (impl_usable.calls k _ _ l0 true _ ?side1 ?side2 A3.out).mono ?_); (case side1 => exact ce_ (HR0.out)); (case side2 => exact HC0.out); rintro e w' ⟨rfl, ⟨nd, rfl⟩⟩; refine ⟨_, rfl, ?_⟩) | (go_at_call 40; (with_reducible refine (impl_within.calls a1 0 1000000 true _ A5.out).mono ?_); rintro e w' ⟨rfl, ⟨nd, rfl⟩⟩))
 replace HB := Aside0.mk (below_drew1 HB.out)
 have p349 : 0 ≤ (0 : Int) := (by omega)
 have q349 : 0 < (l0.length : Int) := od_
 obtain ⟨ad349, e349, hx349_0⟩ := Kd.at_int HR0.out 0 p349 q349
 have hw349_0 := hx349_0
 (try rw [show ((0 : Int)).toNat = 0 from rfl] at hw349_0)
 (try rw [show 0 * 1 = 0 from rfl] at hw349_0)
 (try rw [Addr.add_zero'] at hw349_0)
 cases e349
 have qi349 : (0 < l0.length) = True := eq_true (by omega)
 (try rw [show ((0 : Int)).toNat = 0 from rfl] at hx349_0)
 (try rw [Addr.add_zero'] at hx349_0)
 (try replace hx349_0 := (HB.out.cell (World.block_lt_of_cell? w _ hx349_0)).trans hx349_0)
 replace p349 := eq_true p349
 replace q349 := eq_true q349
 have p353 : 0 ≤ (0 : Int) := (by omega)
 have q353 : 0 < (l0.length : Int) := od_
 obtain ⟨ad353, e353, hx353_0⟩ := Kd.at_int HR0.out 0 p353 q353
 have hw353_0 := hx353_0
 (try rw [show ((0 : Int)).toNat = 0 from rfl] at hw353_0)
 (try rw [show 0 * 1 = 0 from rfl] at hw353_0)
 (try rw [Addr.add_zero'] at hw353_0)
 obtain rfl : ad349 = ad353 := (by injection e353)
 have qi353 : (0 < l0.length) = True := eq_true (by omega)
 (try rw [show ((0 : Int)).toNat = 0 from rfl] at hx353_0)
 (try rw [Addr.add_zero'] at hx353_0)
 (try replace hx353_0 := (HB.out.cell (World.block_lt_of_cell? w _ hx353_0)).trans hx353_0)
 replace p353 := eq_true p353
 replace q353 := eq_true q353
 refine start_ (n := 13) (S := fun w' => w'.cell? ad349 = some (.int .i64 (rd l0 0)) ∧ w'.cell? ad349 = some (.int .i64 (rd l0 0)) ∧ True) (ds := []) (B_ 0 13) (by kernel_rfl) rfl rfl ⟨((HB.out.cell (World.block_lt_of_cell? w _ hw349_0)).trans hw349_0), ((HB.out.cell (World.block_lt_of_cell? w _ hw353_0)).trans hw353_0), trivial⟩ (fun hHeld => ?_); refine with_tabW impl_Generates.tab3 impl_Generates.bits3 (fun HT_ HW_ => ?_)
 (first | (generalize hq_ : World.drew (World.drewN w _) = w14 at hHeld ⊢; have HBq_ : Aside0 (Below w.heap.size w w14) := ⟨hq_ ▸ (below_drew1 (pw_below_drewN (Below.refl w.heap.size w) _))⟩; clear hq_ HB; have HB := HBq_; clear HBq_; replace hx349_0 := (HB.out.cell (World.block_lt_of_cell? w _ hw349_0)).trans hw349_0; replace hx353_0 := (HB.out.cell (World.block_lt_of_cell? w _ hw353_0)).trans hw353_0) | (generalize w.drew = w14 at HB hx349_0 hx353_0 hHeld ⊢))
 refine pu_ HT_ 0 14 (B_ 1 13) ?_
 refine pu_ HT_ 1 15 (B_ 3 13) ?_
 refine pu_ HT_ 2 16 (B_ 7 13) ?_
 refine pu_ HT_ 5 19 (B_ 39 13) ?_
 refine pu_ HT_ 6 20 (B_ 103 13) ?_
 refine pu_ HT_ 7 21 (B_ 231 13) ?_
 refine tk3_ HT_ HW_ hHeld 3 17 (B_ 239 13) ?_
 refine tk3_ HT_ HW_ hHeld 8 22 (B_ 495 13) ?_
 refine pu_ HT_ 9 23 (B_ 1007 13) ?_
 refine on_ HT_ 4 18 (B_ 1023 13) (fun K hK => ?_)
 refine goes_ Try.func59 (by kernel_rfl) rfl #[.slice (some ad349) l0.length c0, .int .i64 (rd l0 0)] (by rfl) rfl rfl (by (try simp only [List.map_toArray, List.map_cons, List.map_nil]); first | done | rfl | (simp only [List.length_drop, List.length_take]; rfl)) ?_
 with_reducible refine (impl_leasts.calls k _ _ l0 (rd l0 0) t350 _ ?side1 ?side2 A8.out).mono ?_
 (case side1 => exact ch_ HR0 HB)
 (case side2 => exact HC0.out)
 rintro e w15 ⟨v351, rfl, ho0, hb⟩
 refine ⟨_, rfl, ?_⟩
 have HO352 := Aside0.mk (Kd.R_lower ho0 (below_size (bl_ HB.out)))
 replace HB := bo_ HB hb
 (try clear hb)
 (try clear ho0)
 obtain ⟨Ao16, co16, eo16⟩ := Kd.R_slice HO352.out
 (first | subst eo16 | (injection eo16 with f1_ f2_ f3_; have f4_ := f1_.symm; have f5_ := f3_.symm; clear f1_ f2_ f3_; subst f4_; subst f5_))
 have p354 : 0 ≤ ((ji10) : Int) := od_
 have q354 : (ji10) < (t350.length : Int) := od_
 obtain ⟨ad354, e354, hx354_0⟩ := Kd.at_int (Kd.R_reads' HO352.out).2.2 (ji10) p354 q354
 cases e354
 replace p354 := eq_true p354
 replace q354 := eq_true q354
 refine hK.out _ _ ⟨((HB.out.cell (World.block_lt_of_cell? w _ hw349_0)).trans hw349_0), ((HB.out.cell (World.block_lt_of_cell? w _ hw353_0)).trans hw353_0), trivial⟩ (fun _ => ?_); refine restart_ (S' := fun w' => w'.cell? ad349 = some (.int .i64 (rd l0 0)) ∧ w'.cell? ad349 = some (.int .i64 (rd l0 0)) ∧ w'.cell? (ad354.add ((ji10)).toNat) = some (.int .i64 (rd t350 (ji10)))) (fun _ h => ⟨h.1, h.2.1, trivial⟩) ⟨((HB.out.cell (World.block_lt_of_cell? w _ hw349_0)).trans hw349_0), ((HB.out.cell (World.block_lt_of_cell? w _ hw353_0)).trans hw353_0), hx354_0⟩ (fun hHeld => ?_)
 clear hK K
 refine norm_ (a' := ?_) ?_ ?_
 rotate_left
 · show Act.put _ (some 18) _ = _
   simp only [Act.put, z1_, z2_, z3_, i64_w, i32_w]
   rfl
 refine pu_ HT_ 10 24 (B_ 2047 13) ?_
 refine tk3_ HT_ HW_ hHeld 11 25 (B_ 4095 13) ?_
 refine pu_ HT_ 12 5 (B_ 8191 13) ?_
 refine done_ (done_of HT_.out (by kernel_rfl)) ?_
 try go_wp2
 go_ret
 exact ⟨by first | rfl | (simp [errW_none, errW_some] <;> rfl) | (simp only [← hji10]; first | rfl | (simp [errW_none, errW_some] <;> rfl)) | (simp [*, errW_none, errW_some] <;> rfl), bl_ HB.out⟩
mutual
def impl_IsSemigroup.j0 : Nat → List Int → Bool → Option (Bool)
 | 0, _, _ => none
 | k + 1, x3, x27 => if x27 = true then (some false) else (impl_IsSemigroup.l0 k x3 1)
def impl_IsSemigroup.l0 : Nat → List Int → Int → Option (Bool)
 | 0, _, _ => none
 | k + 1, x3, x4 => if x4 < (x3.length : Int) then (if 0 ≤ x4 then (if x4 ≤ (x3.length : Int) then ((impl_Generates.f k (x3.take (x4 : Int).toNat) (rd x3 x4)).bind fun t362 => (if t362 = true then (some false) else (impl_IsSemigroup.l0 k x3 (wrap64 (x4 + 1))))) else (none)) else (none)) else (if 0 < (x3.length : Int) then ((impl_leasts.f k x3 (rd x3 0)).bind fun t364 => (impl_IsSemigroup.l1 k x3 t364 (t364.length : Int) 0)) else (none))
def impl_IsSemigroup.l1 : Nat → List Int → List Int → Int → Int → Option (Bool)
 | 0, _, _, _, _ => none
 | k + 1, x3, x46, x47, x48 => if x48 < x47 then (if 0 ≤ x48 then (if x48 < (x46.length : Int) then (if 0 < (x3.length : Int) then (if (wrap64 ((rd x46 x48) - (rd x3 0))) ≥ 200 then (some false) else (impl_IsSemigroup.l1 k x3 x46 x47 (wrap64 (x48 + 1)))) else (none)) else (none)) else (none)) else (some true)
end
def impl_IsSemigroup.f (k : Nat) (l0_0 : List Int) : Option (Bool) := (impl_within.f (l0_0.length : Int) 1 12).bind fun t356 => (if t356 = true then ((impl_allWithin.f k l0_0 1 60).bind fun t357 => (if t357 = true then ((impl_IsAscending.f k l0_0).bind fun t358 => (if t358 = true then ((impl_GcdOfList.f k l0_0).bind fun t359 => (impl_IsSemigroup.j0 k l0_0 (t359 != 1))) else (impl_IsSemigroup.j0 k l0_0 true))) else (impl_IsSemigroup.j0 k l0_0 true))) else (impl_IsSemigroup.j0 k l0_0 true))
def impl_IsSemigroup.T7 : Bool × List (List Nat × List Nat) := (true, [([], []), ([], []), ([0, 1], [0, 1]), ([], []), ([], []), ([3, 4], [3, 4]), ([5], [5]), ([2, 6], [2, 6])])
def impl_IsSemigroup.B7 : List Nat := [0, 0, 3, 0, 0, 24, 56, 127]
theorem impl_IsSemigroup.tab7 : rtab .any (opsOf Try.f28 7) = impl_IsSemigroup.T7 := by kernel_rfl
theorem impl_IsSemigroup.bits7 : waitsOk impl_IsSemigroup.T7.2 impl_IsSemigroup.B7 = true := by kernel_rfl
theorem impl_IsSemigroup.calls (k : Nat) (A0_0 : Option Addr) (c0_0 : Nat) (l0_0 : List Int) (r : Bool) (w : World) (hr0_0 : Kd.C (Kd.int .i64) w A0_0 l0_0.length l0_0) (hc0_0 : l0_0.length ≤ c0_0) (h : impl_IsSemigroup.f k l0_0 = some r) :
 Calls Try.prog 28 #[.agg #[.slice A0_0 l0_0.length c0_0]] w fun e w' => e = .returned (.bool r) ∧ Below w.heap.size w w' := by
 have hu26 := Try.underlying26
 have HR0_0 := Aside0.mk hr0_0
 have HC0_0 := Aside0.mk hc0_0
 clear hr0_0 hc0_0
 have HB := Aside0.mk (Below.refl w.heap.size w)
 have H := h
 clear h
 unfold impl_IsSemigroup.f at H
 have HC2 := Aside0.mk H
 clear H
 go_enter Try.func28, Try.ntmps28
 go_upto_region 2 with (first | ((with_reducible refine gate_dst (N := 1) rfl ?_); refine bx_ 1 #[.slice A0_0 l0_0.length c0_0] 26 ?_; intro gb355 hg w3 hbox hb; have BK355 := Aside0.mk (hbox); have GW355 := gw_ hg HB; have GE355 := gw_ hg HB; replace HB := bo_ HB hb; clear hb hbox hg; have hcz4_0 := cz_ BK355; have hfz4_0 := blk_frozen BK355.out 0))
 (try simp only [Act.put, z1_, z2_, z3_])
 go_cut [27] (fun v27 wc => ∃ (kq : Nat) (x27_1 : Bool), v27 = .bool x27_1 ∧ Aside0 (impl_IsSemigroup.j0 kq l0_0 x27_1 = some r) ∧ Aside0 (kq ≤ k) ∧ Aside0 (wc.heap[gb355]? = some (.cells #[(.slice A0_0 l0_0.length c0_0)] 26 (0, 0))) ∧ Aside0 (Below w.heap.size w wc))
 case first =>
  have H := HC2.out
  clear HC2
  obtain ⟨t356, A5, H⟩ := ob_ H
  by_cases c6 : t356 = true
  rotate_left
  · replace c6 := Bool.eq_false_iff.mpr c6
    subst c6
    rw [if_neg (show ¬ (false = true) by decide)] at H
    have H' := Aside0.mk H
    clear H
    go_wp2_with (first | ((with_reducible refine gate_callee (f := 40) rfl ?_); refine gL_ (some 11) Try.func40 #[.int .i64 (l0_0.length : Int), .int .i64 1, .int .i64 12] ?_; (with_reducible refine (impl_within.calls (l0_0.length : Int) 1 12 false _ A5.out).mono ?_); rintro e w' ⟨rfl, ⟨nd, rfl⟩⟩; refine ⟨_, rfl, ?_⟩))
    go_meet
    case rel => exact ⟨_, (true), rs_, H', ⟨by first | omega | exact Nat.le_refl _⟩, ⟨be_ BK355.out⟩, ⟨bq_ HB⟩⟩
  subst c6
  rw [if_pos rfl] at H
  obtain ⟨t357, A7, H⟩ := ob_ H
  by_cases c8 : t357 = true
  rotate_left
  · replace c8 := Bool.eq_false_iff.mpr c8
    subst c8
    rw [if_neg (show ¬ (false = true) by decide)] at H
    have H' := Aside0.mk H
    clear H
    go_wp2_with (first | ((with_reducible refine gate_callee (f := 40) rfl ?_); refine gL_ (some 11) Try.func40 #[.int .i64 (l0_0.length : Int), .int .i64 1, .int .i64 12] ?_; (with_reducible refine (impl_within.calls (l0_0.length : Int) 1 12 true _ A5.out).mono ?_); rintro e w' ⟨rfl, ⟨nd, rfl⟩⟩; refine ⟨_, rfl, ?_⟩) | (go_at_call 55; (with_reducible refine (impl_allWithin.calls k _ _ l0_0 1 60 false _ ?side1 ?side2 A7.out).mono ?_); (case side1 => repeat (first | exact (Kd.C_below HR0_0.out (bq_ HB)) | (with_reducible refine Kd.C_alloc ?_ _) | (with_reducible refine Kd.C_drewN ?_ _) | (with_reducible refine Kd.C_drew ?_))); (case side2 => exact HC0_0.out); rintro e w' ⟨rfl, ⟨nd, rfl⟩⟩))
    go_meet
    case rel => exact ⟨_, (true), rs_, H', ⟨by first | omega | exact Nat.le_refl _⟩, ⟨be_ BK355.out⟩, ⟨bq_ HB⟩⟩
  subst c8
  rw [if_pos rfl] at H
  obtain ⟨t358, A9, H⟩ := ob_ H
  by_cases c10 : t358 = true
  rotate_left
  · replace c10 := Bool.eq_false_iff.mpr c10
    subst c10
    rw [if_neg (show ¬ (false = true) by decide)] at H
    have H' := Aside0.mk H
    clear H
    go_wp2_with (first | ((with_reducible refine gate_callee (f := 40) rfl ?_); refine gL_ (some 11) Try.func40 #[.int .i64 (l0_0.length : Int), .int .i64 1, .int .i64 12] ?_; (with_reducible refine (impl_within.calls (l0_0.length : Int) 1 12 true _ A5.out).mono ?_); rintro e w' ⟨rfl, ⟨nd, rfl⟩⟩; refine ⟨_, rfl, ?_⟩) | (go_at_call 55; (with_reducible refine (impl_allWithin.calls k _ _ l0_0 1 60 true _ ?side1 ?side2 A7.out).mono ?_); (case side1 => repeat (first | exact (Kd.C_below HR0_0.out (bq_ HB)) | (with_reducible refine Kd.C_alloc ?_ _) | (with_reducible refine Kd.C_drewN ?_ _) | (with_reducible refine Kd.C_drew ?_))); (case side2 => exact HC0_0.out); rintro e w' ⟨rfl, ⟨nd, rfl⟩⟩) | (go_at_call 56; (with_reducible refine (impl_IsAscending.calls k _ _ l0_0 false _ ?side1 ?side2 A9.out).mono ?_); (case side1 => repeat (first | exact (Kd.C_below HR0_0.out (bq_ HB)) | (with_reducible refine Kd.C_alloc ?_ _) | (with_reducible refine Kd.C_drewN ?_ _) | (with_reducible refine Kd.C_drew ?_))); (case side2 => exact HC0_0.out); rintro e w' ⟨rfl, ⟨nd, rfl⟩⟩))
    go_meet
    case rel => exact ⟨_, (true), rs_, H', ⟨by first | omega | exact Nat.le_refl _⟩, ⟨be_ BK355.out⟩, ⟨bq_ HB⟩⟩
  subst c10
  rw [if_pos rfl] at H
  obtain ⟨t359, A11, H⟩ := ob_ H
  have H' := Aside0.mk H
  clear H
  go_wp2_with (first | ((with_reducible refine gate_callee (f := 40) rfl ?_); refine gL_ (some 11) Try.func40 #[.int .i64 (l0_0.length : Int), .int .i64 1, .int .i64 12] ?_; (with_reducible refine (impl_within.calls (l0_0.length : Int) 1 12 true _ A5.out).mono ?_); rintro e w' ⟨rfl, ⟨nd, rfl⟩⟩; refine ⟨_, rfl, ?_⟩) | (go_at_call 55; (with_reducible refine (impl_allWithin.calls k _ _ l0_0 1 60 true _ ?side1 ?side2 A7.out).mono ?_); (case side1 => repeat (first | exact (Kd.C_below HR0_0.out (bq_ HB)) | (with_reducible refine Kd.C_alloc ?_ _) | (with_reducible refine Kd.C_drewN ?_ _) | (with_reducible refine Kd.C_drew ?_))); (case side2 => exact HC0_0.out); rintro e w' ⟨rfl, ⟨nd, rfl⟩⟩) | (go_at_call 56; (with_reducible refine (impl_IsAscending.calls k _ _ l0_0 true _ ?side1 ?side2 A9.out).mono ?_); (case side1 => repeat (first | exact (Kd.C_below HR0_0.out (bq_ HB)) | (with_reducible refine Kd.C_alloc ?_ _) | (with_reducible refine Kd.C_drewN ?_ _) | (with_reducible refine Kd.C_drew ?_))); (case side2 => exact HC0_0.out); rintro e w' ⟨rfl, ⟨nd, rfl⟩⟩) | (go_at_call 57; (with_reducible refine (impl_GcdOfList.calls k _ _ l0_0 t359 _ ?side1 ?side2 A11.out).mono ?_); (case side1 => repeat (first | exact (Kd.C_below HR0_0.out (bq_ HB)) | (with_reducible refine Kd.C_alloc ?_ _) | (with_reducible refine Kd.C_drewN ?_ _) | (with_reducible refine Kd.C_drew ?_))); (case side2 => exact HC0_0.out); rintro e w12 ⟨rfl, hb⟩; replace BK355 := bk_ BK355 hb; replace HB := bp_ HB hb; (try clear hb)))
  go_meet
  case rel => exact ⟨_, ((t359 != 1)), rs_, H', ⟨by first | omega | exact Nat.le_refl _⟩, ⟨be_ BK355.out⟩, ⟨bq_ HB⟩⟩
 case rest =>
  clear HC2
  try clear hcz4_0
  try clear hfz4_0
  obtain ⟨kq, x27_1, rfl, HA, HJ1, BK355, HB⟩ := hcut
  cases kq with
  | zero => exact absurd HA.out (by simp [impl_IsSemigroup.j0])
  | succ kj1 =>
   have H := HA.out
   clear HA
   simp only [impl_IsSemigroup.j0] at H
   by_cases c13 : x27_1 = true
   · subst c13
     rw [if_pos rfl] at H
     obtain rfl := Option.some.inj H
     go_wp2
     go_ret
     exact ⟨rf_, bq_ HB⟩
   replace c13 := Bool.eq_false_iff.mpr c13
   subst c13
   rw [if_neg (show ¬ (false = true) by decide)] at H
   have H' := Aside0.mk H
   clear H
   go_wp2
   go_loopg [4] kj1 (fun kq v4 w' => ∃ (x4_2 : Int), v4 = .int .i64 x4_2 ∧ Aside0 (impl_IsSemigroup.l0 kq l0_0 x4_2 = some r) ∧ Aside0 (kq ≤ kj1) ∧ Aside0 (w'.heap[gb355]? = some (.cells #[(.slice A0_0 l0_0.length c0_0)] 26 (0, 0))) ∧ Aside0 (Below w.heap.size w w'))
   case atStart => exact ⟨(1), rs_, H', ⟨Nat.le_refl _⟩, ⟨be_ BK355.out⟩, ⟨bq_ HB⟩⟩
   case round =>
    clear H'
    obtain ⟨x4_2, rfl, HA, HK2, BK355, HB⟩ := hrel
    cases gk with
    | zero => exact absurd HA.out (by simp [impl_IsSemigroup.l0])
    | succ k2 =>
     have H := HA.out
     clear HA
     simp only [impl_IsSemigroup.l0] at H
     by_cases c14 : x4_2 < (l0_0.length : Int)
     · rw [if_pos c14] at H
       have c14b0 : decide (x4_2 < (l0_0.length : Int)) = true := decide_eq_true c14
       clear c14
       obtain ⟨c15, H⟩ := ip_ H
       have c15b0 := eq_true c15
       have c15b1 : decide (0 ≤ x4_2) = true := decide_eq_true c15
       clear c15
       obtain ⟨c16, H⟩ := ip_ H
       have c16b0 := eq_true c16
       have c16b1 : decide (x4_2 ≤ (l0_0.length : Int)) = true := decide_eq_true c16
       clear c16
       obtain ⟨t362, A17, H⟩ := ob_ H
       by_cases c18 : t362 = true
       · subst c18
         rw [if_pos rfl] at H
         obtain rfl := Option.some.inj H
         try go_wp2
         replace BK355 := Aside0.mk (blk_drew BK355.out)
         replace HB := Aside0.mk (below_drew1 HB.out)
         obtain ⟨i020, hi020, _, hsz20, _⟩ := info_parts info3
         obtain ⟨hcut20, hA20, hC20⟩ := print_take_of (P := Try.prog) (Value.int .i64) 0 24 3 .i64 Try.underlying24 hi020 hsz20 A0_0 c0_0 l0_0 x4_2 (od_) (od_) HC0_0.out
         have HR360 := Aside0.mk (Kd.C_of_reads (h1 := fun _ => rfl) (hA20 _ (Kd.reads_of_C HR0_0.out)))
         have HC360 := Aside0.mk hC20
         clear hA20 hC20 hi020 hsz20
         have p361 : 0 ≤ (x4_2 : Int) := od_
         have q361 : x4_2 < (l0_0.length : Int) := od_
         obtain ⟨ad361, e361, hx361_0⟩ := Kd.at_int HR0_0.out x4_2 p361 q361
         have hw361_0 := hx361_0
         cases e361
         (try replace hx361_0 := (HB.out.cell (World.block_lt_of_cell? w _ hx361_0)).trans hx361_0)
         replace p361 := eq_true p361
         replace q361 := eq_true q361
         refine start_ (n := 8) (S := fun w' => w'.cell? (ad361.add (x4_2).toNat) = some (.int .i64 (rd l0_0 x4_2))) (ds := []) (B_ 0 8) (by kernel_rfl) rfl rfl (by first | exact hw361_0 | exact (HB.out.cell (World.block_lt_of_cell? w _ hw361_0)).trans hw361_0 | (obtain ⟨_, e_, h_⟩ := Kd.at_int HR0_0.out x4_2 (of_eq_true p361) (of_eq_true q361); cases e_; exact h_)) (fun hHeld => ?_); refine with_tabW impl_IsSemigroup.tab7 impl_IsSemigroup.bits7 (fun HT_ HW_ => ?_)
         generalize wr.drew = w19 at BK355 HB HR360 hx361_0 hHeld ⊢
         refine pu_ HT_ 0 34 (B_ 1 8) ?_
         refine pu_ HT_ 1 35 (B_ 3 8) ?_
         refine pu_ HT_ 2 36 (B_ 7 8) ?_
         refine pu_ HT_ 3 37 (B_ 15 8) ?_
         refine pu_ HT_ 4 38 (B_ 31 8) ?_
         refine pu_ HT_ 5 39 (B_ 63 8) ?_
         refine tk1_ HT_ HW_ hHeld 6 40 (B_ 127 8) ?_
         refine on_ HT_ 7 41 (B_ 255 8) (fun K hK => ?_)
         refine goes_ Try.func58 (by kernel_rfl) rfl #[.slice (some ad361) (l0_0.take (x4_2 : Int).toNat).length c0_0, .int .i64 (rd l0_0 x4_2)] (by rfl) rfl rfl (by (try simp only [List.map_toArray, List.map_cons, List.map_nil]); first | done | (rw [show (l0_0.take (x4_2 : Int).toNat).length = x4_2.toNat from (by rw [List.length_take]; have h_ : (x4_2 : Int) ≤ (l0_0.length : Int) := od_; omega)] <;> rfl) | rfl | (simp only [List.length_drop, List.length_take]; rfl)) ?_
         with_reducible refine (impl_Generates.calls k2 _ _ (l0_0.take (x4_2 : Int).toNat) (rd l0_0 x4_2) true _ ?side1 ?side2 A17.out).mono ?_
         (case side1 => exact ch_ HR360 HB)
         (case side2 => exact HC360.out)
         rintro e w21 ⟨rfl, hb⟩
         refine ⟨_, rfl, ?_⟩
         replace BK355 := bk_ BK355 hb
         replace HB := bp_ HB hb
         (try clear hb)
         refine hK.out _ _ (by first | exact hw361_0 | exact (HB.out.cell (World.block_lt_of_cell? w _ hw361_0)).trans hw361_0 | (obtain ⟨_, e_, h_⟩ := Kd.at_int HR0_0.out x4_2 (of_eq_true p361) (of_eq_true q361); cases e_; exact h_)) (fun hHeld => ?_)
         clear hK K
         refine norm_ (a' := ?_) ?_ ?_
         rotate_left
         · show Act.put _ (some 41) _ = _
           simp only [Act.put, z1_, z2_, z3_, i64_w, i32_w]
           rfl
         refine done_ (done_of HT_.out (by kernel_rfl)) ?_
         try go_wp2
         go_ret
         exact ⟨rf_, bq_ HB⟩
       replace c18 := Bool.eq_false_iff.mpr c18
       subst c18
       rw [if_neg (show ¬ (false = true) by decide)] at H
       have H' := Aside0.mk H
       clear H
       try go_wp2
       replace BK355 := Aside0.mk (blk_drew BK355.out)
       replace HB := Aside0.mk (below_drew1 HB.out)
       obtain ⟨i023, hi023, _, hsz23, _⟩ := info_parts info3
       obtain ⟨hcut23, hA23, hC23⟩ := print_take_of (P := Try.prog) (Value.int .i64) 0 24 3 .i64 Try.underlying24 hi023 hsz23 A0_0 c0_0 l0_0 x4_2 (od_) (od_) HC0_0.out
       have HR360 := Aside0.mk (Kd.C_of_reads (h1 := fun _ => rfl) (hA23 _ (Kd.reads_of_C HR0_0.out)))
       have HC360 := Aside0.mk hC23
       clear hA23 hC23 hi023 hsz23
       have p361 : 0 ≤ (x4_2 : Int) := od_
       have q361 : x4_2 < (l0_0.length : Int) := od_
       obtain ⟨ad361, e361, hx361_0⟩ := Kd.at_int HR0_0.out x4_2 p361 q361
       have hw361_0 := hx361_0
       cases e361
       (try replace hx361_0 := (HB.out.cell (World.block_lt_of_cell? w _ hx361_0)).trans hx361_0)
       replace p361 := eq_true p361
       replace q361 := eq_true q361
       refine start_ (n := 8) (S := fun w' => w'.cell? (ad361.add (x4_2).toNat) = some (.int .i64 (rd l0_0 x4_2))) (ds := []) (B_ 0 8) (by kernel_rfl) rfl rfl (by first | exact hw361_0 | exact (HB.out.cell (World.block_lt_of_cell? w _ hw361_0)).trans hw361_0 | (obtain ⟨_, e_, h_⟩ := Kd.at_int HR0_0.out x4_2 (of_eq_true p361) (of_eq_true q361); cases e_; exact h_)) (fun hHeld => ?_); refine with_tabW impl_IsSemigroup.tab7 impl_IsSemigroup.bits7 (fun HT_ HW_ => ?_)
       generalize wr.drew = w22 at BK355 HB HR360 hx361_0 hHeld ⊢
       refine pu_ HT_ 0 34 (B_ 1 8) ?_
       refine pu_ HT_ 1 35 (B_ 3 8) ?_
       refine pu_ HT_ 2 36 (B_ 7 8) ?_
       refine pu_ HT_ 3 37 (B_ 15 8) ?_
       refine pu_ HT_ 4 38 (B_ 31 8) ?_
       refine pu_ HT_ 5 39 (B_ 63 8) ?_
       refine tk1_ HT_ HW_ hHeld 6 40 (B_ 127 8) ?_
       refine on_ HT_ 7 41 (B_ 255 8) (fun K hK => ?_)
       refine goes_ Try.func58 (by kernel_rfl) rfl #[.slice (some ad361) (l0_0.take (x4_2 : Int).toNat).length c0_0, .int .i64 (rd l0_0 x4_2)] (by rfl) rfl rfl (by (try simp only [List.map_toArray, List.map_cons, List.map_nil]); first | done | (rw [show (l0_0.take (x4_2 : Int).toNat).length = x4_2.toNat from (by rw [List.length_take]; have h_ : (x4_2 : Int) ≤ (l0_0.length : Int) := od_; omega)] <;> rfl) | rfl | (simp only [List.length_drop, List.length_take]; rfl)) ?_
       with_reducible refine (impl_Generates.calls k2 _ _ (l0_0.take (x4_2 : Int).toNat) (rd l0_0 x4_2) false _ ?side1 ?side2 A17.out).mono ?_
       (case side1 => exact ch_ HR360 HB)
       (case side2 => exact HC360.out)
       rintro e w24 ⟨rfl, hb⟩
       refine ⟨_, rfl, ?_⟩
       replace BK355 := bk_ BK355 hb
       replace HB := bp_ HB hb
       (try clear hb)
       refine hK.out _ _ (by first | exact hw361_0 | exact (HB.out.cell (World.block_lt_of_cell? w _ hw361_0)).trans hw361_0 | (obtain ⟨_, e_, h_⟩ := Kd.at_int HR0_0.out x4_2 (of_eq_true p361) (of_eq_true q361); cases e_; exact h_)) (fun hHeld => ?_)
       clear hK K
       refine norm_ (a' := ?_) ?_ ?_
       rotate_left
       · show Act.put _ (some 41) _ = _
         simp only [Act.put, z1_, z2_, z3_, i64_w, i32_w]
         rfl
       refine done_ (done_of HT_.out (by kernel_rfl)) ?_
       try go_wp2
       go_roundg k2
       case measure => have := HJ1.out; have := HK2.out; omega
       case rel => exact ⟨(wrap64 (x4_2 + 1)), rs_, H', ⟨by have := HJ1.out; have := HK2.out; omega⟩, ⟨be_ BK355.out⟩, ⟨bq_ HB⟩⟩
     rw [if_neg c14] at H
     have c14b0 : decide (x4_2 < (l0_0.length : Int)) = false := decide_eq_false c14
     clear c14
     obtain ⟨c25, H⟩ := ip_ H
     have c25b0 : decide (0 < (l0_0.length : Int)) = true := decide_eq_true c25
     have c25b1 : decide (0 < l0_0.length) = true := decide_eq_true (by omega)
     clear c25
     obtain ⟨t364, A26, H⟩ := ob_ H
     have H' := Aside0.mk H
     clear H
     have p363 : 0 ≤ (0 : Int) := (by omega)
     have q363 : 0 < (l0_0.length : Int) := od_
     obtain ⟨ad363, e363, hx363_0⟩ := Kd.at_int HR0_0.out 0 p363 q363
     cases e363
     have qi363 : (0 < l0_0.length) = True := eq_true (by omega)
     (try rw [show ((0 : Int)).toNat = 0 from rfl] at hx363_0)
     (try rw [Addr.add_zero'] at hx363_0)
     (try replace hx363_0 := (HB.out.cell (World.block_lt_of_cell? w _ hx363_0)).trans hx363_0)
     replace p363 := eq_true p363
     replace q363 := eq_true q363
     go_wp2_with (first | ((with_reducible refine gate_callee (f := 59) rfl ?_); refine gL_ (some 46) Try.func59 #[.slice (some ad363) l0_0.length c0_0, .int .i64 (rd l0_0 0)] ?_; (with_reducible refine (impl_leasts.calls k2 _ _ l0_0 (rd l0_0 0) t364 _ ?side1 ?side2 A26.out).mono ?_); (case side1 => exact ch_ HR0_0 HB); (case side2 => exact HC0_0.out); rintro e w27 ⟨v365, rfl, ho0, hb⟩; refine ⟨_, rfl, ?_⟩; have HO366 := Aside0.mk (Kd.R_lower ho0 (below_size (bq_ HB))); replace BK355 := bk_ BK355 hb; replace HB := bp_ HB hb; (try clear hb); (try clear ho0); obtain ⟨Ao28, co28, eo28⟩ := Kd.R_slice HO366.out; subst eo28))
     go_loopg [48] k2 (fun kq v48 w' => ∃ (x48_3 : Int), v48 = .int .i64 x48_3 ∧ Aside0 (impl_IsSemigroup.l1 kq l0_0 t364 (t364.length : Int) x48_3 = some r) ∧ Aside0 (kq ≤ k2) ∧ Aside0 (Kd.R (Kd.int .i64) 3 w' w.heap.size (fun _ => True) (.slice Ao28 t364.length co28) t364) ∧ Aside0 (w'.heap[gb355]? = some (.cells #[(.slice (some ad363) l0_0.length c0_0)] 26 (0, 0))) ∧ Aside0 (Below w.heap.size w w'))
     case atStart => exact ⟨(0), rs_, H', ⟨Nat.le_refl _⟩, ⟨re_ HO366.out⟩, ⟨be_ BK355.out⟩, ⟨bq_ HB⟩⟩
     case round =>
      clear H'
      try clear c14b0
      try clear c25b0
      try clear c25b1
      try clear hx363_0
      try clear p363
      try clear q363
      obtain ⟨x48_3, rfl, HA, HK3, HO_46, BK355, HB⟩ := hrel
      cases gk with
      | zero => exact absurd HA.out (by simp [impl_IsSemigroup.l1])
      | succ k3 =>
       have H := HA.out
       clear HA
       simp only [impl_IsSemigroup.l1] at H
       by_cases c29 : x48_3 < (t364.length : Int)
       rotate_left
       · rw [if_neg c29] at H
         have c29b0 : decide (x48_3 < (t364.length : Int)) = false := decide_eq_false c29
         clear c29
         obtain rfl := Option.some.inj H
         go_wp2
         go_ret
         exact ⟨rf_, bq_ HB⟩
       rw [if_pos c29] at H
       have c29b0 : decide (x48_3 < (t364.length : Int)) = true := decide_eq_true c29
       clear c29
       obtain ⟨c30b0, H⟩ := ipd_ H
       obtain ⟨c31b0, H⟩ := ipd_ H
       obtain ⟨c32, H⟩ := ip_ H
       have c32b0 : decide (0 < (l0_0.length : Int)) = true := decide_eq_true c32
       have c32b1 : decide (0 < l0_0.length) = true := decide_eq_true (by omega)
       clear c32
       by_cases c33 : (wrap64 ((rd t364 x48_3) - (rd l0_0 0))) ≥ 200
       · rw [if_pos c33] at H
         have c33b0 : decide (200 ≤ (wrap64 ((rd t364 x48_3) - (rd l0_0 0)))) = true := decide_eq_true c33
         clear c33
         obtain rfl := Option.some.inj H
         have p367 : 0 ≤ (x48_3 : Int) := od_
         have q367 : x48_3 < (t364.length : Int) := od_
         obtain ⟨ad367, e367, hx367_0⟩ := Kd.at_int (Kd.R_reads' HO_46.out).2.2 x48_3 p367 q367
         cases e367
         replace p367 := eq_true p367
         replace q367 := eq_true q367
         have p368 : 0 ≤ (0 : Int) := (by omega)
         have q368 : 0 < (l0_0.length : Int) := od_
         obtain ⟨ad368, e368, hx368_0⟩ := Kd.at_int HR0_0.out 0 p368 q368
         obtain rfl : ad363 = ad368 := (by injection e368)
         have qi368 : (0 < l0_0.length) = True := eq_true (by omega)
         (try rw [show ((0 : Int)).toNat = 0 from rfl] at hx368_0)
         (try rw [Addr.add_zero'] at hx368_0)
         (try replace hx368_0 := (HB.out.cell (World.block_lt_of_cell? w _ hx368_0)).trans hx368_0)
         replace p368 := eq_true p368
         replace q368 := eq_true q368
         go_wp2
         go_ret
         exact ⟨rf_, bq_ HB⟩
       rw [if_neg c33] at H
       have c33b0 : decide (200 ≤ (wrap64 ((rd t364 x48_3) - (rd l0_0 0)))) = false := decide_eq_false c33
       clear c33
       have H' := Aside0.mk H
       clear H
       have p367 : 0 ≤ (x48_3 : Int) := od_
       have q367 : x48_3 < (t364.length : Int) := od_
       obtain ⟨ad367, e367, hx367_0⟩ := Kd.at_int (Kd.R_reads' HO_46.out).2.2 x48_3 p367 q367
       cases e367
       replace p367 := eq_true p367
       replace q367 := eq_true q367
       have p368 : 0 ≤ (0 : Int) := (by omega)
       have q368 : 0 < (l0_0.length : Int) := od_
       obtain ⟨ad368, e368, hx368_0⟩ := Kd.at_int HR0_0.out 0 p368 q368
       obtain rfl : ad363 = ad368 := (by injection e368)
       have qi368 : (0 < l0_0.length) = True := eq_true (by omega)
       (try rw [show ((0 : Int)).toNat = 0 from rfl] at hx368_0)
       (try rw [Addr.add_zero'] at hx368_0)
       (try replace hx368_0 := (HB.out.cell (World.block_lt_of_cell? w _ hx368_0)).trans hx368_0)
       replace p368 := eq_true p368
       replace q368 := eq_true q368
       go_wp2
       go_roundg k3
       case measure => have := HJ1.out; have := HK2.out; have := HK3.out; omega
       case rel => exact ⟨(wrap64 (x48_3 + 1)), rs_, H', ⟨by have := HJ1.out; have := HK2.out; have := HK3.out; omega⟩, ⟨re_ HO_46.out⟩, ⟨be_ BK355.out⟩, ⟨bq_ HB⟩⟩
def impl_table.l0 : Nat → List Int → List Bool → Int → Int → List Int → Option (List Bool)
 | 0, _, _, _, _, _ => none
 | k + 1, x5, x6, x19, x20, x370000 => if x20 < x19 then (if 0 < (x370000.length : Int) then (if (rd x370000 0) = 0 then (none) else (if 0 ≤ (Int.tmod x20 (rd x370000 0)) then (if (Int.tmod x20 (rd x370000 0)) < (x5.length : Int) then (if 0 ≤ x20 then (if x20 < (x6.length : Int) then (impl_table.l0 k x5 (x6.set (x20 : Int).toNat (decide ((rd x5 (Int.tmod x20 (rd x370000 0))) ≤ x20))) x19 (wrap64 (x20 + 1)) x370000) else (none)) else (none)) else (none)) else (none))) else (none)) else (some x6)
def impl_table.f (k : Nat) (l0_0 : List Int) (a1 : Int) : Option (List Bool) := if 0 < (l0_0.length : Int) then ((impl_leasts.f k l0_0 (rd l0_0 0)).bind fun t371 => (if 0 ≤ (wrap64 (a1 + 1)) then (if (wrap64 (a1 + 1) : Int).toNat ≤ 281474976710656 then ((some (List.replicate (wrap64 (a1 + 1) : Int).toNat false : List Bool)).bind fun y374 => (impl_table.l0 k t371 y374 (y374.length : Int) 0 l0_0)) else (none)) else (none))) else (none)
def impl_table.T1 : Bool × List (List Nat × List Nat) := (true, [([], []), ([0], [0]), ([], []), ([2], [2]), ([3], [3]), ([4], [4]), ([1, 5], [1, 5]), ([6, 6, 0, 1, 2, 3, 4, 5, 6], [6])])
def impl_table.B1 : List Nat := [0, 1, 0, 4, 12, 28, 63, 127]
theorem impl_table.tab1 : rtab .any (opsOf Try.f92 1) = impl_table.T1 := by kernel_rfl
theorem impl_table.bits1 : waitsOk impl_table.T1.2 impl_table.B1 = true := by kernel_rfl
theorem impl_table.calls (k : Nat) (A0_0 : Option Addr) (c0_0 : Nat) (l0_0 : List Int) (a1 : Int) (r : List Bool) (w : World) (hr0_0 : Kd.C (Kd.int .i64) w A0_0 l0_0.length l0_0) (hc0_0 : l0_0.length ≤ c0_0) (h : impl_table.f k l0_0 a1 = some r) :
 Calls Try.prog 92 #[.agg #[.slice A0_0 l0_0.length c0_0], .int .i64 a1] w fun e w' => ∃ v0_ : Value, e = .returned (v0_) ∧ Kd.R Kd.bool 4 w' w.heap.size (fun _ => True) v0_ r ∧ Below w.heap.size w w' := by
 have hu26 := Try.underlying26
 have HR0_0 := Aside0.mk hr0_0
 have HC0_0 := Aside0.mk hc0_0
 clear hr0_0 hc0_0
 have HB := Aside0.mk (Below.refl w.heap.size w)
 have H := h
 clear h
 unfold impl_table.f at H
 obtain ⟨c3, H⟩ := ip_ H
 have c3b0 : decide (0 < (l0_0.length : Int)) = true := decide_eq_true c3
 have c3b1 : decide (0 < l0_0.length) = true := decide_eq_true (by omega)
 clear c3
 obtain ⟨t371, A4, H⟩ := ob_ H
 obtain ⟨ji5, hji5⟩ : ∃ j_ : Int, (wrap64 (a1 + 1)) = j_ := ⟨_, rfl⟩
 replace H : (if 0 ≤ (ji5) then (if (ji5 : Int).toNat ≤ 281474976710656 then ((some (List.replicate (ji5 : Int).toNat false : List Bool)).bind fun y374 => (impl_table.l0 k t371 y374 (y374.length : Int) 0 l0_0)) else (none)) else (none)) = some r := by first | (rw [hji5] at H; exact H) | (simp only [hji5] at H ⊢; exact H)
 (try rw [hji5] at A4)
 have hji5w : (IntKind.i64.wrap (a1 + 1)) = ji5 := (i64_w _).trans hji5
 obtain ⟨c6, H⟩ := ip_ H
 have c6b0 := eq_true c6
 have c6b1 : decide (0 ≤ (ji5)) = true := decide_eq_true c6
 clear c6
 obtain ⟨c7, H⟩ := ip_ H
 have c7b0 := eq_true c7
 have c7b1 : decide ((ji5 : Int).toNat ≤ 281474976710656) = true := decide_eq_true c7
 clear c7
 obtain ⟨y374, hy374⟩ : ∃ y_ : List Bool, y_ = (List.replicate (ji5 : Int).toNat false) := ⟨_, rfl⟩
 replace H : (impl_table.l0 k t371 y374 (y374.length : Int) 0 l0_0) = some r := by subst hy374; exact H
 have Ny374 := Aside0.mk hy374
 clear hy374
 have H' := Aside0.mk H
 clear H
 go_enter Try.func92, Try.ntmps92
 try go_wp2_with (first | ((with_reducible refine gate_dst (N := 2) rfl ?_); refine bx_ 2 #[.slice A0_0 l0_0.length c0_0] 26 ?_; intro gb369 hg w8 hbox hb; have BK369 := Aside0.mk (hbox); have GW369 := gw_ hg HB; have GE369 := gw_ hg HB; replace HB := bo_ HB hb; clear hb hbox hg))
 replace BK369 := Aside0.mk (blk_drew BK369.out)
 replace HB := Aside0.mk (below_drew1 HB.out)
 have p370 : 0 ≤ (0 : Int) := (by omega)
 have q370 : 0 < (l0_0.length : Int) := od_
 obtain ⟨ad370, e370, hx370_0⟩ := Kd.at_int HR0_0.out 0 p370 q370
 have hw370_0 := hx370_0
 (try rw [show ((0 : Int)).toNat = 0 from rfl] at hw370_0)
 (try rw [show 0 * 1 = 0 from rfl] at hw370_0)
 (try rw [Addr.add_zero'] at hw370_0)
 cases e370
 have qi370 : (0 < l0_0.length) = True := eq_true (by omega)
 (try rw [show ((0 : Int)).toNat = 0 from rfl] at hx370_0)
 (try rw [Addr.add_zero'] at hx370_0)
 (try replace hx370_0 := (HB.out.cell (World.block_lt_of_cell? w _ hx370_0)).trans hx370_0)
 replace p370 := eq_true p370
 replace q370 := eq_true q370
 refine start_ (n := 8) (S := fun w' => w'.cell? ⟨gb369, 0, none⟩ = some (.slice (some ad370) l0_0.length c0_0) ∧ w'.cell? ad370 = some (.int .i64 (rd l0_0 0))) (ds := []) (B_ 0 8) (by kernel_rfl) rfl rfl ⟨(blk_cell BK369.out 0).trans rfl, ((HB.out.cell (World.block_lt_of_cell? w _ hw370_0)).trans hw370_0)⟩ (fun hHeld => ?_); refine with_tabW impl_table.tab1 impl_table.bits1 (fun HT_ HW_ => ?_)
 generalize w8.drew = w9 at BK369 HB hx370_0 hHeld ⊢
 refine pu_ HT_ 0 8 (B_ 1 8) ?_
 refine pu_ HT_ 2 10 (B_ 5 8) ?_
 refine tk2_ HT_ HW_ hHeld 1 9 (B_ 7 8) ?_
 refine tk2_ HT_ HW_ hHeld 3 11 (B_ 15 8) ?_
 refine pu_ HT_ 4 12 (B_ 31 8) ?_
 refine tk2_ HT_ HW_ hHeld 5 13 (B_ 63 8) ?_
 refine on_ HT_ 6 14 (B_ 127 8) (fun K hK => ?_)
 refine goes_ Try.func59 (by kernel_rfl) rfl #[.slice (some ad370) l0_0.length c0_0, .int .i64 (rd l0_0 0)] (by rfl) rfl rfl (by (try simp only [List.map_toArray, List.map_cons, List.map_nil]); first | done | rfl | (simp only [List.length_drop, List.length_take]; rfl)) ?_
 with_reducible refine (impl_leasts.calls k _ _ l0_0 (rd l0_0 0) t371 _ ?side1 ?side2 A4.out).mono ?_
 (case side1 => exact ch_ HR0_0 HB)
 (case side2 => exact HC0_0.out)
 rintro e w10 ⟨v372, rfl, ho0, hb⟩
 refine ⟨_, rfl, ?_⟩
 have HO373 := Aside0.mk (Kd.R_lower ho0 (below_size (bq_ HB)))
 replace BK369 := bk_ BK369 hb
 replace HB := bp_ HB hb
 (try clear hb)
 (try clear ho0)
 refine hK.out _ _ ⟨(blk_cell BK369.out 0).trans rfl, ((HB.out.cell (World.block_lt_of_cell? w _ hw370_0)).trans hw370_0)⟩ (fun hHeld => ?_)
 clear hK K
 refine norm_ (a' := ?_) ?_ ?_
 rotate_left
 · show Act.put _ (some 14) _ = _
   simp only [Act.put, z1_, z2_, z3_, i64_w, i32_w]
   rfl
 refine pu_ HT_ 7 5 (B_ 255 8) ?_
 refine done_ (done_of HT_.out (by kernel_rfl)) ?_
 try go_wp2_with (first | ((with_reducible refine gate_dst (N := 17) rfl ?_); refine Kd.R_make Kd.bool _ 4 rfl (N := 17) rfl 67 _ _ rfl ji5 rfl rfl Try.underlying67 (.bool false) 1 info4 rfl (by decide) (by omega) false (ok := fun _ => True) (okp := fun _ => True) rfl (fun _ hk => hk) trivial (od_) (Nat.le_trans (Nat.mul_le_mul_right _ (od_ : ji5.toNat ≤ 281474976710656)) (by omega)) (Below.refl _ _) (Nat.le_refl _) ?_; intro v375 w11 ho12 hb hg_ hnew_; clear hg_ hnew_; (first | rw [← Ny374.out] at ho12 | (simp only [Int.reduceToNat] at ho12; rw [← Ny374.out] at ho12)); replace HO373 := Aside0.mk (Kd.R_below (re_ HO373.out) hb); have HO376 := Aside0.mk (Kd.R_lower ho12 (below_size (bq_ HB))); replace BK369 := bk_ BK369 hb; replace HB := bp_ HB hb; clear hb ho12; obtain ⟨Ao13, co13, eo13⟩ := Kd.R_slice HO376.out; subst eo13))
 go_loopg [20] k (fun kq v20 w' => ∃ (x6_1 : List Bool) (x20_1 : Int), v20 = .int .i64 x20_1 ∧ Aside0 (impl_table.l0 kq t371 x6_1 (y374.length : Int) x20_1 l0_0 = some r) ∧ Aside0 (kq ≤ k) ∧ Aside0 (Kd.R (Kd.int .i64) 3 w' w.heap.size (fun _ => True) v372 t371) ∧ Aside0 (Kd.R Kd.bool 4 w' w.heap.size (fun _ => True) (.slice Ao13 y374.length co13) x6_1) ∧ Aside0 (w'.heap[gb369]? = some (.cells #[(.slice (some ad370) l0_0.length c0_0)] 26 (0, 0))) ∧ Aside0 (Below w.heap.size w w'))
 case atStart => exact ⟨(y374), (0), rs_, H', ⟨Nat.le_refl _⟩, ⟨re_ HO373.out⟩, ⟨re_ HO376.out⟩, ⟨be_ BK369.out⟩, ⟨bq_ HB⟩⟩
 case round =>
  clear H'
  try clear c3b0
  try clear c3b1
  try clear c6b0
  try clear c6b1
  try clear c7b0
  try clear c7b1
  try clear hx370_0
  try clear p370
  try clear q370
  obtain ⟨x6_1, x20_1, rfl, HA, HK1, HO_5, HO_6, BK369, HB⟩ := hrel
  have hl6_1 := (Kd.R_reads' HO_6.out).1
  rw [hl6_1] at HO_6
  (try simp only [hl6_1])
  (try simp only [hl6_1] at BK369)
  (try simp only [hl6_1] at HO_5)
  cases gk with
  | zero => exact absurd HA.out (by simp [impl_table.l0])
  | succ k1 =>
   have H := HA.out
   clear HA
   simp only [impl_table.l0] at H
   by_cases c14 : x20_1 < (y374.length : Int)
   rotate_left
   · rw [if_neg c14] at H
     have c14b0 : decide (x20_1 < (y374.length : Int)) = false := decide_eq_false c14
     (try (have c14h := c14b0; simp only [hl6_1] at c14h))
     clear c14
     obtain rfl := Option.some.inj H
     go_wp2
     go_ret
     exact ⟨_, by first | rfl | (simp [errW_none, errW_some] <;> rfl) | (simp only [← hji5]; first | rfl | (simp [errW_none, errW_some] <;> rfl)) | (simp [*, errW_none, errW_some] <;> rfl), re_ HO_6.out, bq_ HB⟩
   rw [if_pos c14] at H
   have c14b0 : decide (x20_1 < (y374.length : Int)) = true := decide_eq_true c14
   (try (have c14h := c14b0; simp only [hl6_1] at c14h))
   clear c14
   obtain ⟨c15, H⟩ := ip_ H
   have c15b0 : decide (0 < (l0_0.length : Int)) = true := decide_eq_true c15
   have c15b1 : decide (0 < l0_0.length) = true := decide_eq_true (by omega)
   (try (have c15h := c15b0; simp only [hl6_1] at c15h))
   clear c15
   obtain ⟨c16, H⟩ := in_ H
   have c16b0 : ((rd l0_0 0) == 0) = false := beq_eq_false_iff_ne.mpr c16
   have c16b1 : ((rd l0_0 0) != 0) = true := bne_iff_ne.mpr c16
   obtain ⟨ji17, hji17⟩ : ∃ j_ : Int, (Int.tmod x20_1 (rd l0_0 0)) = j_ := ⟨_, rfl⟩
   replace H : (if 0 ≤ (ji17) then (if (ji17) < (t371.length : Int) then (if 0 ≤ x20_1 then (if x20_1 < (x6_1.length : Int) then (impl_table.l0 k1 t371 (x6_1.set (x20_1 : Int).toNat (decide ((rd t371 (ji17)) ≤ x20_1))) (y374.length : Int) (wrap64 (x20_1 + 1)) l0_0) else (none)) else (none)) else (none)) else (none)) = some r := by first | (rw [hji17] at H; exact H) | (simp only [hji17] at H ⊢; exact H)
   obtain ⟨c18b0, H⟩ := ipd_ H
   obtain ⟨c19, H⟩ := ip_ H
   have c19b0 : decide ((ji17) < (t371.length : Int)) = true := decide_eq_true c19
   (try (have c19h := c19b0; simp only [hl6_1] at c19h))
   clear c19
   obtain ⟨c20b0, H⟩ := ipd_ H
   obtain ⟨c21, H⟩ := ip_ H
   have c21b0 : decide (x20_1 < (x6_1.length : Int)) = true := decide_eq_true c21
   (try (have c21h := c21b0; simp only [hl6_1] at c21h))
   clear c21
   obtain ⟨y379, hy379⟩ : ∃ y_ : List Bool, y_ = (x6_1.set (x20_1 : Int).toNat (decide ((rd t371 (ji17)) ≤ x20_1))) := ⟨_, rfl⟩
   replace H : (impl_table.l0 k1 t371 y379 (y374.length : Int) (wrap64 (x20_1 + 1)) l0_0) = some r := by subst hy379; exact H
   have Ny379 := Aside0.mk hy379
   clear hy379
   have H' := Aside0.mk H
   clear H
   have hcz23_0 := cz_ BK369
   have hfz23_0 := blk_frozen BK369.out 0
   have p377 : 0 ≤ (0 : Int) := (by omega)
   have q377 : 0 < (l0_0.length : Int) := od_
   obtain ⟨ad377, e377, hx377_0⟩ := Kd.at_int HR0_0.out 0 p377 q377
   obtain rfl : ad370 = ad377 := (by injection e377)
   have qi377 : (0 < l0_0.length) = True := eq_true (by omega)
   (try rw [show ((0 : Int)).toNat = 0 from rfl] at hx377_0)
   (try rw [Addr.add_zero'] at hx377_0)
   (try replace hx377_0 := (HB.out.cell (World.block_lt_of_cell? w _ hx377_0)).trans hx377_0)
   replace p377 := eq_true p377
   replace q377 := eq_true q377
   obtain ⟨Ao24, co24, eo24⟩ := Kd.R_slice HO_5.out
   subst eo24
   have p378 : 0 ≤ ((ji17) : Int) := od_
   have q378 : (ji17) < (t371.length : Int) := od_
   obtain ⟨ad378, e378, hx378_0⟩ := Kd.at_int (Kd.R_reads' HO_5.out).2.2 (ji17) p378 q378
   cases e378
   replace p378 := eq_true p378
   replace q378 := eq_true q378
   have p22 : 0 ≤ (x20_1 : Int) := od_
   have q22 : (x20_1 : Int) < ((x6_1.length : Int) : Int) := od_
   obtain ⟨go22, co22, eo22, gb22, gl22, cl22, HG22⟩ := Kd.R_form HO_6.out (by omega)
   (first | cases eo22 | (injection eo22 with ea_ en_ ec_; (first | subst ea_ | (injection ea_ with ea_; subst ea_)); subst ec_; clear en_))
   have GB22 := Aside0.mk gb22
   have GG22 := Aside0.mk HG22
   clear gb22 gl22 HG22
   obtain ⟨hx22_0, hf22_0⟩ := Kd.R_celln false HO_6.out (x20_1 : Int) p22 q22
   replace p22 := eq_true p22
   replace q22 := eq_true q22
   have HP25 := Kd.R_putg HO_6.out (x20_1 : Int) (decide ((rd t371 (ji17)) ≤ x20_1))
   go_wp2_with (first | ((with_reducible refine gate_store (t := 4) (p := 36) rfl ?_); refine store_event (t := 4) (p := 36) (v := ?vo_w26) (w1 := (wr.setCell ⟨go22, (x20_1 : Int).toNat, none⟩ (.bool (decide ((rd t371 (ji17)) ≤ x20_1))))) ?hg ?ho ?hn ?hr ?_; (case ho => rfl); (case hg => rfl); (case hn => rfl); (case hr => first | (go_simp; done) | (go_simp; rfl)); intro w26 hw; have hg : wr.grownBy w26 (some go22) := (by rw [hw]; exact HP25.2); have hp_ : Kd.R Kd.bool 4 w26 w.heap.size (fun _ => True) (.slice (some ⟨go22, 0, none⟩) x6_1.length co13) y379 := (by rw [hw, Ny379.out]; exact HP25.1); clear HP25; replace HO_5 := Aside0.mk (Kd.R_over' (v := (.slice (some ⟨go22, 0, none⟩) x6_1.length co13)) (re_ HO_5.out) (Kd.R_typed HO_6.out) (by decide) hg); replace BK369 := Aside0.mk (blk_grown (be_ BK369.out) hg (Kd.R_ne HO_6.out BK369.out (by decide))); replace HO_6 := Aside0.mk (hp_); replace HB := Aside0.mk ((by rw [hw]; exact below_set (HB.out) GB22.out : Below w.heap.size w w26)); clear hg hw hp_))
   (try simp only [← hl6_1])
   go_roundg k1
   case measure => have := HK1.out; omega
   case rel => exact ⟨(y379), (wrap64 (x20_1 + 1)), rs_, H', ⟨by have := HK1.out; omega⟩, ⟨by (try simp only [hl6_1]); (with_reducible repeat (first | apply Kd.R_alloc | apply Kd.R_drewN | apply Kd.R_drew)); exact HO_5.out⟩, ⟨by (try simp only [hl6_1]); (with_reducible repeat (first | apply Kd.R_alloc | apply Kd.R_drewN | apply Kd.R_drew)); exact HO_6.out⟩, ⟨by (try simp only [hl6_1]); exact ba_ BK369⟩, ⟨bq_ HB⟩⟩
def impl_Gaps.l0 : Nat → List Int → List Bool → Int → Int → Option (List Int)
 | 0, _, _, _, _ => none
 | k + 1, x3, x11, x12, x13 => if x13 < x12 then (if 0 ≤ x13 then (if x13 < (x11.length : Int) then (if rdOf false x11 x13 = true then (impl_Gaps.l0 k x3 x11 x12 (wrap64 (x13 + 1))) else (if x3.length < 17592186044416 then (impl_Gaps.l0 k (x3 ++ [x13]) x11 x12 (wrap64 (x13 + 1))) else (none))) else (none)) else (none)) else (some x3)
def impl_Gaps.f (k : Nat) (l0_0 : List Int) : Option (List Int) := (impl_IsSemigroup.f k l0_0).bind fun t381 => (if t381 = true then ((impl_table.f k l0_0 200).bind fun t385 => (impl_Gaps.l0 k (([] : List Int)) t385 (t385.length : Int) 0)) else (some ([] : List Int)))
theorem impl_Gaps.calls (k : Nat) (A0_0 : Option Addr) (c0_0 : Nat) (l0_0 : List Int) (r : List Int) (w : World) (hr0_0 : Kd.C (Kd.int .i64) w A0_0 l0_0.length l0_0) (hc0_0 : l0_0.length ≤ c0_0) (h : impl_Gaps.f k l0_0 = some r) :
 Calls Try.prog 62 #[.agg #[.slice A0_0 l0_0.length c0_0]] w fun e w' => ∃ v0_ : Value, e = .returned (v0_) ∧ Kd.R (Kd.int .i64) 3 w' w.heap.size (fun _ => True) v0_ r ∧ Below w.heap.size w w' := by
 have hu26 := Try.underlying26
 have HR0_0 := Aside0.mk hr0_0
 have HC0_0 := Aside0.mk hc0_0
 clear hr0_0 hc0_0
 have HB := Aside0.mk (Below.refl w.heap.size w)
 have H := h
 clear h
 unfold impl_Gaps.f at H
 obtain ⟨t381, A2, H⟩ := ob_ H
 by_cases c3 : t381 = true
 rotate_left
 · replace c3 := Bool.eq_false_iff.mpr c3
   subst c3
   rw [if_neg (show ¬ (false = true) by decide)] at H
   obtain rfl := Option.some.inj H
   go_enter Try.func62, Try.ntmps62
   go_wp2_with (first | ((with_reducible refine gate_dst (N := 1) rfl ?_); refine bx_ 1 #[.slice A0_0 l0_0.length c0_0] 26 ?_; intro gb380 hg w20 hbox hb; have BK380 := Aside0.mk (hbox); have GW380 := gw_ hg HB; have GE380 := gw_ hg HB; replace HB := bo_ HB hb; clear hb hbox hg; have hcz21_0 := cz_ BK380; have hfz21_0 := blk_frozen BK380.out 0) | ((with_reducible refine gate_callee (f := 28) rfl ?_); refine gL_ (some 7) Try.func28 #[.agg #[.slice A0_0 l0_0.length c0_0]] ?_; (with_reducible refine (impl_IsSemigroup.calls k _ _ l0_0 false _ ?side1 ?side2 A2.out).mono ?_); (case side1 => exact ch_ HR0_0 HB); (case side2 => exact HC0_0.out); rintro e w22 ⟨rfl, hb⟩; refine ⟨_, rfl, ?_⟩; replace BK380 := bk_ BK380 hb; replace HB := bp_ HB hb; (try clear hb)))
   go_ret
   exact ⟨_, rf_, by first | exact Kd.R_nil _ _ _ _ _ | exact Kd.N_nil _ _ _ _ _ | exact Kd.V_nil _ _ _ _ _ | exact Kd.Q_nil _ _ _ _ _ | exact Kd.S_nil _ _ _ _ _, bq_ HB⟩
 subst c3
 rw [if_pos rfl] at H
 obtain ⟨y382, hy382⟩ : ∃ y_ : List Int, y_ = (([] : List Int)) := ⟨_, rfl⟩
 replace H : ((impl_table.f k l0_0 200).bind fun t385 => (impl_Gaps.l0 k y382 t385 (t385.length : Int) 0)) = some r := by subst hy382; exact H
 have Ny382 := Aside0.mk hy382
 clear hy382
 obtain ⟨t385, A4, H⟩ := ob_ H
 have H' := Aside0.mk H
 clear H
 go_enter Try.func62, Try.ntmps62
 go_wp2_with (first | ((with_reducible refine gate_dst (N := 1) rfl ?_); refine bx_ 1 #[.slice A0_0 l0_0.length c0_0] 26 ?_; intro gb380 hg w5 hbox hb; have BK380 := Aside0.mk (hbox); have GW380 := gw_ hg HB; have GE380 := gw_ hg HB; replace HB := bo_ HB hb; clear hb hbox hg; have hcz6_0 := cz_ BK380; have hfz6_0 := blk_frozen BK380.out 0) | ((with_reducible refine gate_callee (f := 28) rfl ?_); refine gL_ (some 7) Try.func28 #[.agg #[.slice A0_0 l0_0.length c0_0]] ?_; (with_reducible refine (impl_IsSemigroup.calls k _ _ l0_0 true _ ?side1 ?side2 A2.out).mono ?_); (case side1 => exact ch_ HR0_0 HB); (case side2 => exact HC0_0.out); rintro e w7 ⟨rfl, hb⟩; refine ⟨_, rfl, ?_⟩; replace BK380 := bk_ BK380 hb; replace HB := bp_ HB hb; (try clear hb)) | ((with_reducible refine gate_dst (N := 9) rfl ?_); refine Kd.R_lit (Kd.int .i64) _ 3 ?hg (N := 9) ?hd (xs := ([] : List Int)) (inner := []) (ok := fun _ => True) (okp := fun _ => True) ?hr ?hp (fun _ hk => hk) trivial (Below.refl _ _) (Nat.le_refl _) (by simp) ?_; (case hd => rfl); (case hg => rfl); (case hr => first | (go_simp; done) | (go_simp; rfl)); (case hp => exact (Reps.none _ _)); intro v383 w8 ho9 hb hg_ hnew_; clear hg_ hnew_; (first | rw [← Ny382.out] at ho9 | (simp only [Int.reduceToNat] at ho9; rw [← Ny382.out] at ho9)); have HO384 := Aside0.mk (Kd.R_lower ho9 (below_size (bq_ HB))); replace BK380 := bk_ BK380 hb; replace HB := bp_ HB hb; clear hb ho9; have hcz10_0 := cz_ BK380; have hfz10_0 := blk_frozen BK380.out 0) | ((with_reducible refine gate_callee (f := 92) rfl ?_); refine gL_ (some 11) Try.func92 #[.agg #[.slice A0_0 l0_0.length c0_0], .int .i64 200] ?_; (with_reducible refine (impl_table.calls k _ _ l0_0 200 t385 _ ?side1 ?side2 A4.out).mono ?_); (case side1 => exact ch_ HR0_0 HB); (case side2 => exact HC0_0.out); rintro e w11 ⟨v386, rfl, ho0, hb⟩; refine ⟨_, rfl, ?_⟩; replace HO384 := Aside0.mk (Kd.R_below (re_ HO384.out) hb); have HO387 := Aside0.mk (Kd.R_lower ho0 (below_size (bq_ HB))); replace BK380 := bk_ BK380 hb; replace HB := bp_ HB hb; (try clear hb); (try clear ho0); obtain ⟨Ao12, co12, eo12⟩ := Kd.R_slice HO387.out; subst eo12))
 go_loopg [3, 13] k (fun kq v3 v13 w' => ∃ (x3_1 : List Int) (x13_1 : Int), v13 = .int .i64 x13_1 ∧ Aside0 (impl_Gaps.l0 kq x3_1 t385 (t385.length : Int) x13_1 = some r) ∧ Aside0 (kq ≤ k) ∧ Aside0 (Kd.R (Kd.int .i64) 3 w' w.heap.size (fun _ => True) v3 x3_1) ∧ Aside0 (Kd.R Kd.bool 4 w' w.heap.size (fun _ => True) (.slice Ao12 t385.length co12) t385) ∧ Aside0 (w'.heap[gb380]? = some (.cells #[(.slice A0_0 l0_0.length c0_0)] 26 (0, 0))) ∧ Aside0 (Below w.heap.size w w'))
 case atStart => exact ⟨(y382), (0), rs_, H', ⟨Nat.le_refl _⟩, ⟨re_ HO384.out⟩, ⟨re_ HO387.out⟩, ⟨be_ BK380.out⟩, ⟨bq_ HB⟩⟩
 case round =>
  clear H'
  try clear hcz10_0
  try clear hcz6_0
  try clear hfz10_0
  try clear hfz6_0
  obtain ⟨x3_1, x13_1, rfl, HA, HK1, HO_3, HO_11, BK380, HB⟩ := hrel
  cases gk with
  | zero => exact absurd HA.out (by simp [impl_Gaps.l0])
  | succ k1 =>
   have H := HA.out
   clear HA
   simp only [impl_Gaps.l0] at H
   by_cases c13 : x13_1 < (t385.length : Int)
   rotate_left
   · rw [if_neg c13] at H
     have c13b0 : decide (x13_1 < (t385.length : Int)) = false := decide_eq_false c13
     clear c13
     obtain rfl := Option.some.inj H
     go_wp2
     go_ret
     exact ⟨_, rf_, re_ HO_3.out, bq_ HB⟩
   rw [if_pos c13] at H
   have c13b0 : decide (x13_1 < (t385.length : Int)) = true := decide_eq_true c13
   clear c13
   obtain ⟨c14b0, H⟩ := ipd_ H
   obtain ⟨c15b0, H⟩ := ipd_ H
   obtain ⟨bq16, hbq16⟩ : ∃ b_ : Bool, b_ = (rdOf false t385 x13_1) := ⟨_, rfl⟩
   replace H : (if bq16 = true then (impl_Gaps.l0 k1 x3_1 t385 (t385.length : Int) (wrap64 (x13_1 + 1))) else (if x3_1.length < 17592186044416 then (impl_Gaps.l0 k1 (x3_1 ++ [x13_1]) t385 (t385.length : Int) (wrap64 (x13_1 + 1))) else (none))) = some r := by rw [← hbq16] at H; exact H
   have Nbq16 := Aside0.mk hbq16
   clear hbq16
   by_cases c17 : bq16 = true
   · subst c17
     rw [if_pos rfl] at H
     have H' := Aside0.mk H
     clear H
     have p388 : 0 ≤ (x13_1 : Int) := od_
     have q388 : x13_1 < (t385.length : Int) := od_
     obtain ⟨ad388, e388, hx388_0⟩ := Kd.at_bool (Kd.R_reads' HO_11.out).2.2 x13_1 p388 q388
     (try rw [← Nbq16.out] at hx388_0)
     cases e388
     replace p388 := eq_true p388
     replace q388 := eq_true q388
     go_wp2
     go_roundg k1
     case measure => have := HK1.out; omega
     case rel => exact ⟨(x3_1), (wrap64 (x13_1 + 1)), rs_, H', ⟨by have := HK1.out; omega⟩, ⟨re_ HO_3.out⟩, ⟨re_ HO_11.out⟩, ⟨be_ BK380.out⟩, ⟨bq_ HB⟩⟩
   replace c17 := Bool.eq_false_iff.mpr c17
   subst c17
   rw [if_neg (show ¬ (false = true) by decide)] at H
   obtain ⟨c18, H⟩ := ip_ H
   have LMc18 := Aside0.mk c18
   clear c18
   obtain ⟨y389, hy389⟩ : ∃ y_ : List Int, y_ = (x3_1 ++ [x13_1]) := ⟨_, rfl⟩
   replace H : (impl_Gaps.l0 k1 y389 t385 (t385.length : Int) (wrap64 (x13_1 + 1))) = some r := by subst hy389; exact H
   have Ny389 := Aside0.mk hy389
   clear hy389
   have H' := Aside0.mk H
   clear H
   have p388 : 0 ≤ (x13_1 : Int) := od_
   have q388 : x13_1 < (t385.length : Int) := od_
   obtain ⟨ad388, e388, hx388_0⟩ := Kd.at_bool (Kd.R_reads' HO_11.out).2.2 x13_1 p388 q388
   (try rw [← Nbq16.out] at hx388_0)
   cases e388
   replace p388 := eq_true p388
   replace q388 := eq_true q388
   go_wp2_with (first | ((with_reducible refine gate_builtin (b := .append) (xs := #[.tmp 20, .tmp 22]) rfl ?_); at_builtin; refine Kd.R_append (Kd.int .i64) (w0 := w) w.heap.size rfl (.tmp 20) (.tmp 22) 24 3 (.int .i64 0) 8 rfl Try.underlying24 info3 rfl (by decide) (by omega) u3 x3_1 x13_1 [.int .i64 x13_1] (fun _ => True) (fun _ => False) rfl rfl ?aP (fun _ hk => hk.elim) ?aF ?aO ?aB ?aS ?aL ?_; (case aP => exact rfl); (case aB => exact (bq_ HB)); (case aF => exact (fun _ _ => trivial)); (case aO => exact (re_ HO_3.out)); (case aS => exact (below_size (bq_ HB))); (case aL => have := LMc18.out; omega); intro v390 w19 ho hb hg hat; rw [← Ny389.out] at ho; replace HO_11 := Aside0.mk (Kd.R_over' (re_ HO_11.out) (Kd.R_typed (re_ HO_3.out)) (by decide) hg); replace BK380 := Aside0.mk (blk_grown (be_ BK380.out) hg (Kd.R_ne HO_3.out BK380.out (by decide))); replace HB := Aside0.mk (hb); have HO391 := Aside0.mk (ho); clear HO_3; clear ho hb hg hat))
   go_roundg k1
   case measure => have := HK1.out; omega
   case rel => exact ⟨(y389), (wrap64 (x13_1 + 1)), rs_, H', ⟨by have := HK1.out; omega⟩, ⟨re_ HO391.out⟩, ⟨re_ HO_11.out⟩, ⟨be_ BK380.out⟩, ⟨bq_ HB⟩⟩
def impl_gapList.f (k : Nat) (l0 : List Int) : Option (Bool) := (impl_IsAscending.f k l0).bind fun t392 => (if t392 = true then ((impl_allWithin.f k l0 1 199).bind fun t393 => (some t393)) else (some false))
theorem impl_gapList.calls (k : Nat) (A0 : Option Addr) (c0 : Nat) (l0 : List Int) (r : Bool) (w : World) (hr0 : Kd.C (Kd.int .i64) w A0 l0.length l0) (hc0 : l0.length ≤ c0) (h : impl_gapList.f k l0 = some r) :
 Calls Try.prog 88 #[.slice A0 l0.length c0] w fun e w' => e = .returned (.bool r) ∧ Drawn0 w w' := by
 have HR0 := Aside0.mk hr0
 have HC0 := Aside0.mk hc0
 clear hr0 hc0
 have H := h
 clear h
 unfold impl_gapList.f at H
 obtain ⟨t392, A2, H⟩ := ob_ H
 by_cases c3 : t392 = true
 rotate_left
 · replace c3 := Bool.eq_false_iff.mpr c3
   subst c3
   rw [if_neg (show ¬ (false = true) by decide)] at H
   obtain rfl := Option.some.inj H
   go_enter Try.func88, Try.ntmps88
   go_wp2_with (first | ((with_reducible refine gate_callee (f := 56) rfl ?_); refine gL_ (some 4) Try.func56 #[.slice A0 l0.length c0] ?_; (with_reducible refine (impl_IsAscending.calls k _ _ l0 false _ ?side1 ?side2 A2.out).mono ?_); (case side1 => exact ce_ (HR0.out)); (case side2 => exact HC0.out); rintro e w' ⟨rfl, ⟨nd, rfl⟩⟩; refine ⟨_, rfl, ?_⟩))
   go_ret
   exact ⟨by first | rfl | (simp; done) | (simp [*]; done), by repeat (first | exact Drawn0.refl _ | apply Drawn0.step)⟩
 subst c3
 rw [if_pos rfl] at H
 obtain ⟨t393, A4, H⟩ := ob_ H
 obtain rfl := Option.some.inj H
 go_enter Try.func88, Try.ntmps88
 go_wp2_with (first | ((with_reducible refine gate_callee (f := 56) rfl ?_); refine gL_ (some 4) Try.func56 #[.slice A0 l0.length c0] ?_; (with_reducible refine (impl_IsAscending.calls k _ _ l0 true _ ?side1 ?side2 A2.out).mono ?_); (case side1 => exact ce_ (HR0.out)); (case side2 => exact HC0.out); rintro e w' ⟨rfl, ⟨nd, rfl⟩⟩; refine ⟨_, rfl, ?_⟩) | (go_at_call 55; (with_reducible refine (impl_allWithin.calls k _ _ l0 1 199 t393 _ ?side1 ?side2 A4.out).mono ?_); (case side1 => exact ce_ (HR0.out)); (case side2 => exact HC0.out); rintro e w' ⟨rfl, ⟨nd, rfl⟩⟩))
 go_ret
 exact ⟨by first | rfl | (simp; done) | (simp [*]; done), by repeat (first | exact Drawn0.refl _ | apply Drawn0.step)⟩
mutual
def impl_GapClash.j0 : Nat → List Int → Bool → Option (Int × Int × Bool)
 | 0, _, _ => none
 | k + 1, x0, x17 => if x17 = true then (some (0, 0, false)) else (if 201 ≤ 281474976710656 then (impl_GapClash.l0 k x0 (List.replicate 201 false) x0 (x0.length : Int) 0) else (none))
def impl_GapClash.l0 : Nat → List Int → List Bool → List Int → Int → Int → Option (Int × Int × Bool)
 | 0, _, _, _, _, _ => none
 | k + 1, x0, x4, x20, x21, x22 => if x22 < x21 then (if 0 ≤ x22 then (if x22 < (x20.length : Int) then (if 0 ≤ (rd x20 x22) then (if (rd x20 x22) < (x4.length : Int) then (impl_GapClash.l0 k x0 (x4.set ((rd x20 x22) : Int).toNat true) x20 x21 (wrap64 (x22 + 1))) else (none)) else (none)) else (none)) else (none)) else (if 0 ≤ (wrap64 ((x0.length : Int) - 1)) then (if (wrap64 ((x0.length : Int) - 1)) < (x0.length : Int) then (impl_GapClash.l1 k x4 (rd x0 (wrap64 ((x0.length : Int) - 1))) 1) else (none)) else (none))
def impl_GapClash.l1 : Nat → List Bool → Int → Int → Option (Int × Int × Bool)
 | 0, _, _, _ => none
 | k + 1, x4, x7, x8 => if x8 ≤ x7 then (impl_GapClash.l2 k x4 x7 x8 x8) else (some (0, 0, false))
def impl_GapClash.l2 : Nat → List Bool → Int → Int → Int → Option (Int × Int × Bool)
 | 0, _, _, _, _ => none
 | k + 1, x4, x7, x8, x9 => if (wrap64 (x8 + x9)) ≤ x7 then (if 0 ≤ x8 then (if x8 < (x4.length : Int) then (if rdOf false x4 x8 = true then (impl_GapClash.l2 k x4 x7 x8 (wrap64 (x9 + 1))) else (if 0 ≤ x9 then (if x9 < (x4.length : Int) then (if rdOf false x4 x9 = true then (impl_GapClash.l2 k x4 x7 x8 (wrap64 (x9 + 1))) else (if 0 ≤ (wrap64 (x8 + x9)) then (if (wrap64 (x8 + x9)) < (x4.length : Int) then (if rdOf false x4 (wrap64 (x8 + x9)) = true then (some (x8, x9, true)) else (impl_GapClash.l2 k x4 x7 x8 (wrap64 (x9 + 1)))) else (none)) else (none))) else (none)) else (none))) else (none)) else (none)) else (impl_GapClash.l1 k x4 x7 (wrap64 (x8 + 1)))
end
def impl_GapClash.f (k : Nat) (l0 : List Int) : Option (Int × Int × Bool) := (impl_gapList.f k l0).bind fun t395 => (if t395 = true then (impl_GapClash.j0 k l0 ((l0.length : Int) == 0)) else (impl_GapClash.j0 k l0 true))
theorem impl_GapClash.calls (k : Nat) (A0 : Option Addr) (c0 : Nat) (l0 : List Int) (r1 : Int) (r2 : Int) (r3 : Bool) (w : World) (hr0 : Kd.C (Kd.int .i64) w A0 l0.length l0) (hc0 : l0.length ≤ c0) (h : impl_GapClash.f k l0 = some (r1, r2, r3)) :
 Calls Try.prog 87 #[.slice A0 l0.length c0] w fun e w' => e = .returned (.tuple #[.agg #[.int .i64 r1, .int .i64 r2], .bool r3]) ∧ Below w.heap.size w w' := by
 have hu70 := Try.underlying70
 have HR0 := Aside0.mk hr0
 have HC0 := Aside0.mk hc0
 clear hr0 hc0
 have HB := Aside0.mk (Below.refl w.heap.size w)
 have H := h
 clear h
 unfold impl_GapClash.f at H
 have HC2 := Aside0.mk H
 clear H
 go_enter Try.func87, Try.ntmps87
 go_upto_region 1 with (first | ((with_reducible refine gate_dst (N := 2) rfl ?_); (try (refine gate_guard (by rfl) ?_; dsimp only)); refine bx_ 2 #[.int .i64 0, .int .i64 0] 70 ?_; intro gb394 hg w3 hbox hb; have BK394 := Aside0.mk (hbox); have GW394 := gw_ hg HB; have GE394 := gw_ hg HB; replace HB := bo_ HB hb; clear hb hbox hg))
 (try simp only [Act.put, z1_, z2_, z3_])
 go_cut [17] (fun v17 wc => ∃ (kq : Nat) (x17_1 : Bool), v17 = .bool x17_1 ∧ Aside0 (impl_GapClash.j0 kq l0 x17_1 = some (r1, r2, r3)) ∧ Aside0 (kq ≤ k) ∧ Aside0 (wc.heap[gb394]? = some (.cells #[.int .i64 0, .int .i64 0] 70 (0, 0))) ∧ Aside0 (Below w.heap.size w wc))
 case first =>
  have H := HC2.out
  clear HC2
  obtain ⟨t395, A4, H⟩ := ob_ H
  by_cases c5 : t395 = true
  · subst c5
    rw [if_pos rfl] at H
    have H' := Aside0.mk H
    clear H
    go_wp2_with (first | ((with_reducible refine gate_callee (f := 88) rfl ?_); refine gL_ (some 11) Try.func88 #[.slice A0 l0.length c0] ?_; (with_reducible refine (impl_gapList.calls k _ _ l0 true _ ?side1 ?side2 A4.out).mono ?_); (case side1 => exact ch_ HR0 HB); (case side2 => exact HC0.out); rintro e w' ⟨rfl, ⟨nd, rfl⟩⟩; refine ⟨_, rfl, ?_⟩))
    go_meet
    case rel => exact ⟨_, (((l0.length : Int) == 0)), rs_, H', ⟨by first | omega | exact Nat.le_refl _⟩, ⟨be_ BK394.out⟩, ⟨bq_ HB⟩⟩
  replace c5 := Bool.eq_false_iff.mpr c5
  subst c5
  rw [if_neg (show ¬ (false = true) by decide)] at H
  have H' := Aside0.mk H
  clear H
  go_wp2_with (first | ((with_reducible refine gate_callee (f := 88) rfl ?_); refine gL_ (some 11) Try.func88 #[.slice A0 l0.length c0] ?_; (with_reducible refine (impl_gapList.calls k _ _ l0 false _ ?side1 ?side2 A4.out).mono ?_); (case side1 => exact ch_ HR0 HB); (case side2 => exact HC0.out); rintro e w' ⟨rfl, ⟨nd, rfl⟩⟩; refine ⟨_, rfl, ?_⟩))
  go_meet
  case rel => exact ⟨_, (true), rs_, H', ⟨by first | omega | exact Nat.le_refl _⟩, ⟨be_ BK394.out⟩, ⟨bq_ HB⟩⟩
 case rest =>
  clear HC2
  obtain ⟨kq, x17_1, rfl, HA, HJ1, BK394, HB⟩ := hcut
  cases kq with
  | zero => exact absurd HA.out (by simp [impl_GapClash.j0])
  | succ kj1 =>
   have H := HA.out
   clear HA
   simp only [impl_GapClash.j0] at H
   by_cases c6 : x17_1 = true
   · subst c6
     rw [if_pos rfl] at H
     simp only [Option.some.injEq, Prod.mk.injEq] at H
     obtain ⟨rfl, rfl, rfl⟩ := H
     have hcz7_0 : wc.cell? ⟨gb394, 0, none⟩ = some (.int .i64 0) := (blk_cell BK394.out 0).trans rfl
     have hcz7_1 : wc.cell? ⟨gb394, 1, none⟩ = some (.int .i64 0) := (blk_cell BK394.out 1).trans rfl
     have hfz7_0 := blk_frozen BK394.out 0
     have hfz7_1 := blk_frozen BK394.out 1
     go_wp2
     refine bodyPost_ret (results_ct rfl _ _ gb394 70 #[.int .i64 0, .int .i64 0] (0, 0) _ rfl (by (with_reducible repeat (first | refine blk_drewN ?_ _ | refine blk_drew ?_ | refine blk_alloc ?_ _)); refine blk_put (cs := #[.int .i64 0, .int .i64 0]) ?_ 1 _ rfl; (with_reducible repeat (first | refine blk_drewN ?_ _ | refine blk_drew ?_ | refine blk_alloc ?_ _)); refine blk_put (cs := #[.int .i64 0, .int .i64 0]) ?_ 0 _ rfl; (with_reducible repeat (first | refine blk_drewN ?_ _ | refine blk_drew ?_ | refine blk_alloc ?_ _)); exact BK394.out) Try.underlying70 rfl (by kernel_rfl)) rfl ?_
     exact ⟨rf_, bq_ HB⟩
   replace c6 := Bool.eq_false_iff.mpr c6
   subst c6
   rw [if_neg (show ¬ (false = true) by decide)] at H
   obtain ⟨c8, H⟩ := ip_ H
   have c8b0 := eq_true c8
   have c8b1 : decide (201 ≤ 281474976710656) = true := decide_eq_true c8
   clear c8
   obtain ⟨y396, hy396⟩ : ∃ y_ : List Bool, y_ = (List.replicate 201 false) := ⟨_, rfl⟩
   replace H : (impl_GapClash.l0 kj1 l0 y396 l0 (l0.length : Int) 0) = some (r1, r2, r3) := by subst hy396; exact H
   have Ny396 := Aside0.mk hy396
   clear hy396
   have H' := Aside0.mk H
   clear H
   go_wp2_with (first | ((with_reducible refine gate_dst (N := 19) rfl ?_); (try (refine gate_guard (by rfl) ?_; dsimp only)); refine Kd.R_make Kd.bool _ 4 rfl (N := 19) rfl 67 _ _ rfl 201 rfl rfl Try.underlying67 (.bool false) 1 info4 rfl (by decide) (by omega) false (ok := fun _ => True) (okp := fun _ => True) rfl (fun _ hk => hk) trivial (by omega) (by omega) (Below.refl _ _) (Nat.le_refl _) ?_; intro v397 w9 ho10 hb hg_ hnew_; clear hg_ hnew_; (first | rw [← Ny396.out] at ho10 | (simp only [Int.reduceToNat] at ho10; rw [← Ny396.out] at ho10)); have HO398 := Aside0.mk (Kd.R_lower ho10 (below_size (bq_ HB))); replace BK394 := bk_ BK394 hb; replace HB := bp_ HB hb; clear hb ho10))
   go_loopg [22] kj1 (fun kq v22 w' => ∃ (x4_2 : List Bool) (x22_2 : Int), v22 = .int .i64 x22_2 ∧ Aside0 (impl_GapClash.l0 kq l0 x4_2 l0 (l0.length : Int) x22_2 = some (r1, r2, r3)) ∧ Aside0 (kq ≤ kj1) ∧ Aside0 (Kd.R Kd.bool 4 w' w.heap.size (fun _ => True) v397 x4_2) ∧ Aside0 (w'.heap[gb394]? = some (.cells #[.int .i64 0, .int .i64 0] 70 (0, 0))) ∧ Aside0 (Below w.heap.size w w'))
   case atStart => exact ⟨(y396), (0), rs_, H', ⟨Nat.le_refl _⟩, ⟨re_ HO398.out⟩, ⟨be_ BK394.out⟩, ⟨bq_ HB⟩⟩
   case round =>
    clear H'
    try clear c8b0
    try clear c8b1
    obtain ⟨x4_2, x22_2, rfl, HA, HK2, HO_4, BK394, HB⟩ := hrel
    cases gk with
    | zero => exact absurd HA.out (by simp [impl_GapClash.l0])
    | succ k2 =>
     have H := HA.out
     clear HA
     simp only [impl_GapClash.l0] at H
     by_cases c11 : x22_2 < (l0.length : Int)
     · rw [if_pos c11] at H
       have c11b0 : decide (x22_2 < (l0.length : Int)) = true := decide_eq_true c11
       clear c11
       obtain ⟨c12b0, H⟩ := ipd_ H
       obtain ⟨c13b0, H⟩ := ipd_ H
       obtain ⟨c14b0, H⟩ := ipd_ H
       obtain ⟨c15b0, H⟩ := ipd_ H
       obtain ⟨y400, hy400⟩ : ∃ y_ : List Bool, y_ = (x4_2.set ((rd l0 x22_2) : Int).toNat true) := ⟨_, rfl⟩
       replace H : (impl_GapClash.l0 k2 l0 y400 l0 (l0.length : Int) (wrap64 (x22_2 + 1))) = some (r1, r2, r3) := by subst hy400; exact H
       have Ny400 := Aside0.mk hy400
       clear hy400
       have H' := Aside0.mk H
       clear H
       have p399 : 0 ≤ (x22_2 : Int) := od_
       have q399 : x22_2 < (l0.length : Int) := od_
       obtain ⟨ad399, e399, hx399_0⟩ := Kd.at_int HR0.out x22_2 p399 q399
       cases e399
       (try replace hx399_0 := (HB.out.cell (World.block_lt_of_cell? w _ hx399_0)).trans hx399_0)
       replace p399 := eq_true p399
       replace q399 := eq_true q399
       have p16 : 0 ≤ ((rd l0 x22_2) : Int) := od_
       have q16 : ((rd l0 x22_2) : Int) < ((x4_2.length : Int) : Int) := od_
       obtain ⟨go16, co16, eo16, gb16, gl16, cl16, HG16⟩ := Kd.R_form HO_4.out (by omega)
       (first | cases eo16 | (injection eo16 with ea_ en_ ec_; (first | subst ea_ | (injection ea_ with ea_; subst ea_)); subst ec_; clear en_))
       have GB16 := Aside0.mk gb16
       have GG16 := Aside0.mk HG16
       clear gb16 gl16 HG16
       obtain ⟨hx16_0, hf16_0⟩ := Kd.R_celln false HO_4.out ((rd l0 x22_2) : Int) p16 q16
       replace p16 := eq_true p16
       replace q16 := eq_true q16
       have HP17 := Kd.R_putg HO_4.out ((rd l0 x22_2) : Int) true
       go_wp2_with (first | ((with_reducible refine gate_store (t := 4) (p := 28) rfl ?_); refine store_event (t := 4) (p := 28) (v := ?vo_w18) (w1 := (wr.setCell ⟨go16, ((rd l0 x22_2) : Int).toNat, none⟩ (.bool true))) ?hg ?ho ?hn ?hr ?_; (case ho => rfl); (case hg => rfl); (case hn => rfl); (case hr => first | (go_simp; done) | (go_simp; rfl)); intro w18 hw; have hg : wr.grownBy w18 (some go16) := (by rw [hw]; exact HP17.2); have hp_ : Kd.R Kd.bool 4 w18 w.heap.size (fun _ => True) (.slice (some ⟨go16, 0, none⟩) x4_2.length co16) y400 := (by rw [hw, Ny400.out]; exact HP17.1); clear HP17; replace BK394 := Aside0.mk (blk_grown (be_ BK394.out) hg (Kd.R_ne HO_4.out BK394.out (by decide))); replace HO_4 := Aside0.mk (hp_); replace HB := Aside0.mk ((by rw [hw]; exact below_set (HB.out) GB16.out : Below w.heap.size w w18)); clear hg hw hp_))
       go_roundg k2
       case measure => have := HJ1.out; have := HK2.out; omega
       case rel => exact ⟨(y400), (wrap64 (x22_2 + 1)), rs_, H', ⟨by have := HJ1.out; have := HK2.out; omega⟩, ⟨re_ HO_4.out⟩, ⟨be_ BK394.out⟩, ⟨bq_ HB⟩⟩
     rw [if_neg c11] at H
     have c11b0 : decide (x22_2 < (l0.length : Int)) = false := decide_eq_false c11
     clear c11
     obtain ⟨ji19, hji19⟩ : ∃ j_ : Int, (wrap64 ((l0.length : Int) - 1)) = j_ := ⟨_, rfl⟩
     replace H : (if 0 ≤ (ji19) then (if (ji19) < (l0.length : Int) then (impl_GapClash.l1 k2 x4_2 (rd l0 (ji19)) 1) else (none)) else (none)) = some (r1, r2, r3) := by first | (rw [hji19] at H; exact H) | (simp only [hji19] at H ⊢; exact H)
     have hji19w : (IntKind.i64.wrap ((l0.length : Int) - 1)) = ji19 := (i64_w _).trans hji19
     obtain ⟨c20b0, H⟩ := ipd_ H
     obtain ⟨c21b0, H⟩ := ipd_ H
     have H' := Aside0.mk H
     clear H
     have p401 : 0 ≤ ((ji19) : Int) := od_
     have q401 : (ji19) < (l0.length : Int) := od_
     obtain ⟨ad401, e401, hx401_0⟩ := Kd.at_int HR0.out (ji19) p401 q401
     cases e401
     (try replace hx401_0 := (HB.out.cell (World.block_lt_of_cell? w _ hx401_0)).trans hx401_0)
     replace p401 := eq_true p401
     replace q401 := eq_true q401
     go_wp2
     go_loopg [8] k2 (fun kq v8 w' => ∃ (x8_3 : Int) (x395000_3 : Int) (x395001_3 : Int), v8 = .int .i64 x8_3 ∧ Aside0 (impl_GapClash.l1 kq x4_2 (rd l0 (ji19)) x8_3 = some (r1, r2, r3)) ∧ Aside0 (kq ≤ k2) ∧ Aside0 (Kd.R Kd.bool 4 w' w.heap.size (fun _ => True) v397 x4_2) ∧ Aside0 (w'.heap[gb394]? = some (.cells #[.int .i64 x395000_3, .int .i64 x395001_3] 70 (0, 0))) ∧ Aside0 (Below w.heap.size w w'))
     case atStart => exact ⟨(1), (0), (0), rs_, H', ⟨Nat.le_refl _⟩, ⟨re_ HO_4.out⟩, ⟨be_ BK394.out⟩, ⟨bq_ HB⟩⟩
     case round =>
      clear H'
      try clear c11b0
      try clear c20b0
      try clear c21b0
      try clear hx401_0
      try clear p401
      try clear q401
      obtain ⟨x8_3, x395000_3, x395001_3, rfl, HA, HK3, HO_4, BK394, HB⟩ := hrel
      cases gk with
      | zero => exact absurd HA.out (by simp [impl_GapClash.l1])
      | succ k3 =>
       have H := HA.out
       clear HA
       simp only [impl_GapClash.l1] at H
       by_cases c22 : x8_3 ≤ (rd l0 (ji19))
       rotate_left
       · rw [if_neg c22] at H
         have c22b0 : decide (x8_3 ≤ (rd l0 (ji19))) = false := decide_eq_false c22
         clear c22
         simp only [Option.some.injEq, Prod.mk.injEq] at H
         obtain ⟨rfl, rfl, rfl⟩ := H
         have hcz42_0 : wr.cell? ⟨gb394, 0, none⟩ = some (.int .i64 x395000_3) := (blk_cell BK394.out 0).trans rfl
         have hcz42_1 : wr.cell? ⟨gb394, 1, none⟩ = some (.int .i64 x395001_3) := (blk_cell BK394.out 1).trans rfl
         have hfz42_0 := blk_frozen BK394.out 0
         have hfz42_1 := blk_frozen BK394.out 1
         go_wp2
         refine bodyPost_ret (results_ct rfl _ _ gb394 70 #[.int .i64 0, .int .i64 0] (0, 0) _ rfl (by (with_reducible repeat (first | refine blk_drewN ?_ _ | refine blk_drew ?_ | refine blk_alloc ?_ _)); refine blk_put (cs := #[.int .i64 0, .int .i64 x395001_3]) ?_ 1 _ rfl; (with_reducible repeat (first | refine blk_drewN ?_ _ | refine blk_drew ?_ | refine blk_alloc ?_ _)); refine blk_put (cs := #[.int .i64 x395000_3, .int .i64 x395001_3]) ?_ 0 _ rfl; (with_reducible repeat (first | refine blk_drewN ?_ _ | refine blk_drew ?_ | refine blk_alloc ?_ _)); exact BK394.out) Try.underlying70 rfl (by kernel_rfl)) rfl ?_
         exact ⟨by first | rfl | (simp [errW_none, errW_some] <;> rfl) | (simp only [← hji19]; first | rfl | (simp [errW_none, errW_some] <;> rfl)) | (simp [*, errW_none, errW_some] <;> rfl), bq_ HB⟩
       rw [if_pos c22] at H
       have c22b0 : decide (x8_3 ≤ (rd l0 (ji19))) = true := decide_eq_true c22
       clear c22
       have H' := Aside0.mk H
       clear H
       go_wp2
       go_loopg [9] k3 (fun kq v9 w' => ∃ (x9_4 : Int) (x395000_4 : Int) (x395001_4 : Int), v9 = .int .i64 x9_4 ∧ Aside0 (impl_GapClash.l2 kq x4_2 (rd l0 (ji19)) x8_3 x9_4 = some (r1, r2, r3)) ∧ Aside0 (kq ≤ k3) ∧ Aside0 (Kd.R Kd.bool 4 w' w.heap.size (fun _ => True) v397 x4_2) ∧ Aside0 (w'.heap[gb394]? = some (.cells #[.int .i64 x395000_4, .int .i64 x395001_4] 70 (0, 0))) ∧ Aside0 (Below w.heap.size w w'))
       case atStart => exact ⟨(x8_3), (x395000_3), (x395001_3), rs_, H', ⟨Nat.le_refl _⟩, ⟨re_ HO_4.out⟩, ⟨be_ BK394.out⟩, ⟨bq_ HB⟩⟩
       case round =>
        clear H'
        try clear c22b0
        obtain ⟨x9_4, x395000_4, x395001_4, rfl, HA, HK4, HO_4, BK394, HB⟩ := hrel
        cases gk with
        | zero => exact absurd HA.out (by simp [impl_GapClash.l2])
        | succ k4 =>
         have H := HA.out
         clear HA
         simp only [impl_GapClash.l2] at H
         by_cases c23 : (wrap64 (x8_3 + x9_4)) ≤ (rd l0 (ji19))
         rotate_left
         · rw [if_neg c23] at H
           have c23b0 : decide ((wrap64 (x8_3 + x9_4)) ≤ (rd l0 (ji19))) = false := decide_eq_false c23
           clear c23
           have H' := Aside0.mk H
           clear H
           go_wp2
           go_roundg k4
           case measure => have := HJ1.out; have := HK2.out; have := HK3.out; have := HK4.out; omega
           case rel => exact ⟨(wrap64 (x8_3 + 1)), (x395000_4), (x395001_4), rs_, H', ⟨by have := HJ1.out; have := HK2.out; have := HK3.out; have := HK4.out; omega⟩, ⟨re_ HO_4.out⟩, ⟨be_ BK394.out⟩, ⟨bq_ HB⟩⟩
         rw [if_pos c23] at H
         have c23b0 : decide ((wrap64 (x8_3 + x9_4)) ≤ (rd l0 (ji19))) = true := decide_eq_true c23
         clear c23
         obtain ⟨c24b0, H⟩ := ipd_ H
         obtain ⟨c25b0, H⟩ := ipd_ H
         obtain ⟨bq26, hbq26⟩ : ∃ b_ : Bool, b_ = (rdOf false x4_2 x8_3) := ⟨_, rfl⟩
         replace H : (if bq26 = true then (impl_GapClash.l2 k4 x4_2 (rd l0 (ji19)) x8_3 (wrap64 (x9_4 + 1))) else (if 0 ≤ x9_4 then (if x9_4 < (x4_2.length : Int) then (if rdOf false x4_2 x9_4 = true then (impl_GapClash.l2 k4 x4_2 (rd l0 (ji19)) x8_3 (wrap64 (x9_4 + 1))) else (if 0 ≤ (wrap64 (x8_3 + x9_4)) then (if (wrap64 (x8_3 + x9_4)) < (x4_2.length : Int) then (if rdOf false x4_2 (wrap64 (x8_3 + x9_4)) = true then (some (x8_3, x9_4, true)) else (impl_GapClash.l2 k4 x4_2 (rd l0 (ji19)) x8_3 (wrap64 (x9_4 + 1)))) else (none)) else (none))) else (none)) else (none))) = some (r1, r2, r3) := by rw [← hbq26] at H; exact H
         have Nbq26 := Aside0.mk hbq26
         clear hbq26
         by_cases c27 : bq26 = true
         · subst c27
           rw [if_pos rfl] at H
           have H' := Aside0.mk H
           clear H
           obtain ⟨Ao28, co28, eo28⟩ := Kd.R_slice HO_4.out
           subst eo28
           have p402 : 0 ≤ (x8_3 : Int) := od_
           have q402 : x8_3 < (x4_2.length : Int) := od_
           obtain ⟨ad402, e402, hx402_0⟩ := Kd.at_bool (Kd.R_reads' HO_4.out).2.2 x8_3 p402 q402
           (try rw [← Nbq26.out] at hx402_0)
           cases e402
           replace p402 := eq_true p402
           replace q402 := eq_true q402
           go_wp2
           go_roundg k4
           case measure => have := HJ1.out; have := HK2.out; have := HK3.out; have := HK4.out; omega
           case rel => exact ⟨(wrap64 (x9_4 + 1)), (x395000_4), (x395001_4), rs_, H', ⟨by have := HJ1.out; have := HK2.out; have := HK3.out; have := HK4.out; omega⟩, ⟨re_ HO_4.out⟩, ⟨be_ BK394.out⟩, ⟨bq_ HB⟩⟩
         replace c27 := Bool.eq_false_iff.mpr c27
         subst c27
         rw [if_neg (show ¬ (false = true) by decide)] at H
         obtain ⟨c29b0, H⟩ := ipd_ H
         obtain ⟨c30b0, H⟩ := ipd_ H
         obtain ⟨bq31, hbq31⟩ : ∃ b_ : Bool, b_ = (rdOf false x4_2 x9_4) := ⟨_, rfl⟩
         replace H : (if bq31 = true then (impl_GapClash.l2 k4 x4_2 (rd l0 (ji19)) x8_3 (wrap64 (x9_4 + 1))) else (if 0 ≤ (wrap64 (x8_3 + x9_4)) then (if (wrap64 (x8_3 + x9_4)) < (x4_2.length : Int) then (if rdOf false x4_2 (wrap64 (x8_3 + x9_4)) = true then (some (x8_3, x9_4, true)) else (impl_GapClash.l2 k4 x4_2 (rd l0 (ji19)) x8_3 (wrap64 (x9_4 + 1)))) else (none)) else (none))) = some (r1, r2, r3) := by rw [← hbq31] at H; exact H
         have Nbq31 := Aside0.mk hbq31
         clear hbq31
         by_cases c32 : bq31 = true
         · subst c32
           rw [if_pos rfl] at H
           have H' := Aside0.mk H
           clear H
           obtain ⟨Ao33, co33, eo33⟩ := Kd.R_slice HO_4.out
           subst eo33
           have p402 : 0 ≤ (x8_3 : Int) := od_
           have q402 : x8_3 < (x4_2.length : Int) := od_
           obtain ⟨ad402, e402, hx402_0⟩ := Kd.at_bool (Kd.R_reads' HO_4.out).2.2 x8_3 p402 q402
           (try rw [← Nbq26.out] at hx402_0)
           (try rw [← Nbq31.out] at hx402_0)
           cases e402
           replace p402 := eq_true p402
           replace q402 := eq_true q402
           have p403 : 0 ≤ (x9_4 : Int) := od_
           have q403 : x9_4 < (x4_2.length : Int) := od_
           obtain ⟨ad403, e403, hx403_0⟩ := Kd.at_bool (Kd.R_reads' HO_4.out).2.2 x9_4 p403 q403
           (try rw [← Nbq26.out] at hx403_0)
           (try rw [← Nbq31.out] at hx403_0)
           obtain rfl : ad402 = ad403 := (by injection e403)
           replace p403 := eq_true p403
           replace q403 := eq_true q403
           go_wp2
           go_roundg k4
           case measure => have := HJ1.out; have := HK2.out; have := HK3.out; have := HK4.out; omega
           case rel => exact ⟨(wrap64 (x9_4 + 1)), (x395000_4), (x395001_4), rs_, H', ⟨by have := HJ1.out; have := HK2.out; have := HK3.out; have := HK4.out; omega⟩, ⟨re_ HO_4.out⟩, ⟨be_ BK394.out⟩, ⟨bq_ HB⟩⟩
         replace c32 := Bool.eq_false_iff.mpr c32
         subst c32
         rw [if_neg (show ¬ (false = true) by decide)] at H
         obtain ⟨ji34, hji34⟩ : ∃ j_ : Int, (wrap64 (x8_3 + x9_4)) = j_ := ⟨_, rfl⟩
         replace H : (if 0 ≤ (ji34) then (if (ji34) < (x4_2.length : Int) then (if rdOf false x4_2 (ji34) = true then (some (x8_3, x9_4, true)) else (impl_GapClash.l2 k4 x4_2 (rd l0 (ji19)) x8_3 (wrap64 (x9_4 + 1)))) else (none)) else (none)) = some (r1, r2, r3) := by first | (rw [hji34] at H; exact H) | (simp only [hji34] at H ⊢; exact H)
         (try rw [hji34] at c23b0)
         have hji34w : (IntKind.i64.wrap (x8_3 + x9_4)) = ji34 := (i64_w _).trans hji34
         obtain ⟨c35b0, H⟩ := ipd_ H
         obtain ⟨c36b0, H⟩ := ipd_ H
         obtain ⟨bq37, hbq37⟩ : ∃ b_ : Bool, b_ = (rdOf false x4_2 (ji34)) := ⟨_, rfl⟩
         replace H : (if bq37 = true then (some (x8_3, x9_4, true)) else (impl_GapClash.l2 k4 x4_2 (rd l0 (ji19)) x8_3 (wrap64 (x9_4 + 1)))) = some (r1, r2, r3) := by rw [← hbq37] at H; exact H
         have Nbq37 := Aside0.mk hbq37
         clear hbq37
         by_cases c38 : bq37 = true
         rotate_left
         · replace c38 := Bool.eq_false_iff.mpr c38
           subst c38
           rw [if_neg (show ¬ (false = true) by decide)] at H
           have H' := Aside0.mk H
           clear H
           obtain ⟨Ao41, co41, eo41⟩ := Kd.R_slice HO_4.out
           subst eo41
           have p402 : 0 ≤ (x8_3 : Int) := od_
           have q402 : x8_3 < (x4_2.length : Int) := od_
           obtain ⟨ad402, e402, hx402_0⟩ := Kd.at_bool (Kd.R_reads' HO_4.out).2.2 x8_3 p402 q402
           (try rw [← Nbq26.out] at hx402_0)
           (try rw [← Nbq31.out] at hx402_0)
           (try rw [← Nbq37.out] at hx402_0)
           cases e402
           replace p402 := eq_true p402
           replace q402 := eq_true q402
           have p403 : 0 ≤ (x9_4 : Int) := od_
           have q403 : x9_4 < (x4_2.length : Int) := od_
           obtain ⟨ad403, e403, hx403_0⟩ := Kd.at_bool (Kd.R_reads' HO_4.out).2.2 x9_4 p403 q403
           (try rw [← Nbq26.out] at hx403_0)
           (try rw [← Nbq31.out] at hx403_0)
           (try rw [← Nbq37.out] at hx403_0)
           obtain rfl : ad402 = ad403 := (by injection e403)
           replace p403 := eq_true p403
           replace q403 := eq_true q403
           have p404 : 0 ≤ ((ji34) : Int) := od_
           have q404 : (ji34) < (x4_2.length : Int) := od_
           obtain ⟨ad404, e404, hx404_0⟩ := Kd.at_bool (Kd.R_reads' HO_4.out).2.2 (ji34) p404 q404
           (try rw [← Nbq26.out] at hx404_0)
           (try rw [← Nbq31.out] at hx404_0)
           (try rw [← Nbq37.out] at hx404_0)
           obtain rfl : ad402 = ad404 := (by injection e404)
           replace p404 := eq_true p404
           replace q404 := eq_true q404
           go_wp2
           go_roundg k4
           case measure => have := HJ1.out; have := HK2.out; have := HK3.out; have := HK4.out; omega
           case rel => exact ⟨(wrap64 (x9_4 + 1)), (x395000_4), (x395001_4), rs_, H', ⟨by have := HJ1.out; have := HK2.out; have := HK3.out; have := HK4.out; omega⟩, ⟨re_ HO_4.out⟩, ⟨be_ BK394.out⟩, ⟨bq_ HB⟩⟩
         subst c38
         rw [if_pos rfl] at H
         simp only [Option.some.injEq, Prod.mk.injEq] at H
         obtain ⟨rfl, rfl, rfl⟩ := H
         obtain ⟨Ao39, co39, eo39⟩ := Kd.R_slice HO_4.out
         subst eo39
         have p402 : 0 ≤ (x8_3 : Int) := od_
         have q402 : x8_3 < (x4_2.length : Int) := od_
         obtain ⟨ad402, e402, hx402_0⟩ := Kd.at_bool (Kd.R_reads' HO_4.out).2.2 x8_3 p402 q402
         (try rw [← Nbq26.out] at hx402_0)
         (try rw [← Nbq31.out] at hx402_0)
         (try rw [← Nbq37.out] at hx402_0)
         cases e402
         replace p402 := eq_true p402
         replace q402 := eq_true q402
         have p403 : 0 ≤ (x9_4 : Int) := od_
         have q403 : x9_4 < (x4_2.length : Int) := od_
         obtain ⟨ad403, e403, hx403_0⟩ := Kd.at_bool (Kd.R_reads' HO_4.out).2.2 x9_4 p403 q403
         (try rw [← Nbq26.out] at hx403_0)
         (try rw [← Nbq31.out] at hx403_0)
         (try rw [← Nbq37.out] at hx403_0)
         obtain rfl : ad402 = ad403 := (by injection e403)
         replace p403 := eq_true p403
         replace q403 := eq_true q403
         have p404 : 0 ≤ ((ji34) : Int) := od_
         have q404 : (ji34) < (x4_2.length : Int) := od_
         obtain ⟨ad404, e404, hx404_0⟩ := Kd.at_bool (Kd.R_reads' HO_4.out).2.2 (ji34) p404 q404
         (try rw [← Nbq26.out] at hx404_0)
         (try rw [← Nbq31.out] at hx404_0)
         (try rw [← Nbq37.out] at hx404_0)
         obtain rfl : ad402 = ad404 := (by injection e404)
         replace p404 := eq_true p404
         replace q404 := eq_true q404
         have hcz40_0 : wr.cell? ⟨gb394, 0, none⟩ = some (.int .i64 x395000_4) := (blk_cell BK394.out 0).trans rfl
         have hcz40_1 : wr.cell? ⟨gb394, 1, none⟩ = some (.int .i64 x395001_4) := (blk_cell BK394.out 1).trans rfl
         have hfz40_0 := blk_frozen BK394.out 0
         have hfz40_1 := blk_frozen BK394.out 1
         go_wp2
         refine bodyPost_ret (results_ct rfl _ _ gb394 70 #[.int .i64 x8_3, .int .i64 x9_4] (0, 0) _ rfl (by (with_reducible repeat (first | refine blk_drewN ?_ _ | refine blk_drew ?_ | refine blk_alloc ?_ _)); refine blk_put (cs := #[.int .i64 x8_3, .int .i64 x395001_4]) ?_ 1 _ rfl; (with_reducible repeat (first | refine blk_drewN ?_ _ | refine blk_drew ?_ | refine blk_alloc ?_ _)); refine blk_put (cs := #[.int .i64 x395000_4, .int .i64 x395001_4]) ?_ 0 _ rfl; (with_reducible repeat (first | refine blk_drewN ?_ _ | refine blk_drew ?_ | refine blk_alloc ?_ _)); exact BK394.out) Try.underlying70 rfl (by kernel_rfl)) rfl ?_
         exact ⟨by first | rfl | (simp [errW_none, errW_some] <;> rfl) | (simp only [← hji19, ← hji34]; first | rfl | (simp [errW_none, errW_some] <;> rfl)) | (simp [*, errW_none, errW_some] <;> rfl), bq_ HB⟩
def slices_Equal_int_int.l0 : Nat → List Int → List Int → Int → Int → Option (Bool)
 | 0, _, _, _, _ => none
 | k + 1, x0, x1, x12, x13 => if x13 < x12 then (if 0 ≤ x13 then (if x13 < (x0.length : Int) then (if x13 < (x1.length : Int) then (if (rd x0 x13) = (rd x1 x13) then (slices_Equal_int_int.l0 k x0 x1 x12 (wrap64 (x13 + 1))) else (some false)) else (none)) else (none)) else (none)) else (some true)
def slices_Equal_int_int.f (k : Nat) (l0 : List Int) (l1 : List Int) : Option (Bool) := if (l0.length : Int) = (l1.length : Int) then (slices_Equal_int_int.l0 k l0 l1 (l0.length : Int) 0) else (some false)
theorem slices_Equal_int_int.calls (k : Nat) (A0 : Option Addr) (c0 : Nat) (l0 : List Int) (A1 : Option Addr) (c1 : Nat) (l1 : List Int) (r : Bool) (w : World) (hr0 : Kd.C (Kd.int .i64) w A0 l0.length l0) (hc0 : l0.length ≤ c0) (hr1 : Kd.C (Kd.int .i64) w A1 l1.length l1) (hc1 : l1.length ≤ c1) (h : slices_Equal_int_int.f k l0 l1 = some r) :
 Calls Try.prog 89 #[.slice A0 l0.length c0, .slice A1 l1.length c1] w fun e w' => e = .returned (.bool r) ∧ Drawn0 w w' := by
 have HR0 := Aside0.mk hr0
 have HC0 := Aside0.mk hc0
 clear hr0 hc0
 have HR1 := Aside0.mk hr1
 have HC1 := Aside0.mk hc1
 clear hr1 hc1
 have H := h
 clear h
 unfold slices_Equal_int_int.f at H
 by_cases c3 : (l0.length : Int) = (l1.length : Int)
 rotate_left
 · rw [if_neg c3] at H
   have c3b0 : ((l0.length : Int) == (l1.length : Int)) = false := beq_eq_false_iff_ne.mpr c3
   have c3b1 : ((l0.length : Int) != (l1.length : Int)) = true := bne_iff_ne.mpr c3
   have c3b2 : (l0.length == l1.length) = false := by first | simpa using c3 | (simp at c3 ⊢; omega)
   obtain rfl := Option.some.inj H
   go_enter Try.func89, Try.ntmps89
   go_wp2
   repeat (go_quiet (fail); try go_wp2)
   go_ret
   exact ⟨by first | rfl | (simp; done) | (simp [*]; done), by repeat (first | exact Drawn0.refl _ | apply Drawn0.step)⟩
 rw [if_pos c3] at H
 have c3b0 : ((l0.length : Int) == (l1.length : Int)) = true := beq_iff_eq.mpr c3
 have c3b1 : ((l0.length : Int) != (l1.length : Int)) = false := bne_eq_false_iff_eq.mpr c3
 have c3b2 : (l0.length == l1.length) = true := by first | simpa using c3 | (simp at c3 ⊢; omega)
 clear c3
 have H' := Aside0.mk H
 clear H
 go_enter Try.func89, Try.ntmps89
 go_wp2
 repeat (go_quiet (fail); try go_wp2)
 go_loopg [13] k (fun kq v13 w' => ∃ (x13_1 : Int), v13 = .int .i64 x13_1 ∧ Aside0 (slices_Equal_int_int.l0 kq l0 l1 (l0.length : Int) x13_1 = some r) ∧ Aside0 (kq ≤ k) ∧ Drawn0 w w')
 case atStart => exact ⟨(0), rs_, H', ⟨Nat.le_refl _⟩, by repeat (first | exact Drawn0.refl _ | apply Drawn0.step)⟩
 case round =>
  clear H'
  try clear c1
  try clear c3b0
  try clear c3b1
  try clear c3b2
  obtain ⟨x13_1, rfl, HA, HK1, ⟨m1, rfl⟩⟩ := hrel
  cases gk with
  | zero => exact absurd HA.out (by simp [slices_Equal_int_int.l0])
  | succ k1 =>
   have H := HA.out
   clear HA
   simp only [slices_Equal_int_int.l0] at H
   by_cases c4 : x13_1 < (l0.length : Int)
   rotate_left
   · rw [if_neg c4] at H
     have c4b0 : decide (x13_1 < (l0.length : Int)) = false := decide_eq_false c4
     clear c4
     obtain rfl := Option.some.inj H
     go_wp2
     repeat (go_quiet (fail); try go_wp2)
     go_ret
     exact ⟨by first | rfl | (simp; done) | (simp [*]; done), by repeat (first | exact Drawn0.refl _ | apply Drawn0.step)⟩
   rw [if_pos c4] at H
   have c4b0 : decide (x13_1 < (l0.length : Int)) = true := decide_eq_true c4
   clear c4
   obtain ⟨c5b0, H⟩ := ipd_ H
   obtain ⟨c6b0, H⟩ := ipd_ H
   obtain ⟨c7b0, H⟩ := ipd_ H
   by_cases c8 : (rd l0 x13_1) = (rd l1 x13_1)
   rotate_left
   · rw [if_neg c8] at H
     have c8b0 : ((rd l0 x13_1) == (rd l1 x13_1)) = false := beq_eq_false_iff_ne.mpr c8
     have c8b1 : ((rd l0 x13_1) != (rd l1 x13_1)) = true := bne_iff_ne.mpr c8
     obtain rfl := Option.some.inj H
     have p405 : 0 ≤ (x13_1 : Int) := od_
     have q405 : x13_1 < (l0.length : Int) := od_
     obtain ⟨ad405, e405, hx405_0⟩ := Kd.at_int HR0.out x13_1 p405 q405
     cases e405
     replace p405 := eq_true p405
     replace q405 := eq_true q405
     have p406 : 0 ≤ (x13_1 : Int) := od_
     have q406 : x13_1 < (l1.length : Int) := od_
     obtain ⟨ad406, e406, hx406_0⟩ := Kd.at_int HR1.out x13_1 p406 q406
     cases e406
     replace p406 := eq_true p406
     replace q406 := eq_true q406
     go_wp2
     repeat (go_quiet (fail); try go_wp2)
     go_ret
     exact ⟨by first | rfl | (simp; done) | (simp [*]; done), by repeat (first | exact Drawn0.refl _ | apply Drawn0.step)⟩
   rw [if_pos c8] at H
   have c8b0 : ((rd l0 x13_1) == (rd l1 x13_1)) = true := beq_iff_eq.mpr c8
   have c8b1 : ((rd l0 x13_1) != (rd l1 x13_1)) = false := bne_eq_false_iff_eq.mpr c8
   clear c8
   have H' := Aside0.mk H
   clear H
   have p405 : 0 ≤ (x13_1 : Int) := od_
   have q405 : x13_1 < (l0.length : Int) := od_
   obtain ⟨ad405, e405, hx405_0⟩ := Kd.at_int HR0.out x13_1 p405 q405
   cases e405
   replace p405 := eq_true p405
   replace q405 := eq_true q405
   have p406 : 0 ≤ (x13_1 : Int) := od_
   have q406 : x13_1 < (l1.length : Int) := od_
   obtain ⟨ad406, e406, hx406_0⟩ := Kd.at_int HR1.out x13_1 p406 q406
   cases e406
   replace p406 := eq_true p406
   replace q406 := eq_true q406
   go_wp2
   repeat (go_quiet (fail); try go_wp2)
   go_roundg k1
   case measure => have := HK1.out; omega
   case rel => exact ⟨(wrap64 (x13_1 + 1)), rs_, H', ⟨by have := HK1.out; omega⟩, by repeat (first | exact Drawn0.refl _ | apply Drawn0.step)⟩
end Go.Proofs.Ytonknpgfbkgbjaa.PA
end
