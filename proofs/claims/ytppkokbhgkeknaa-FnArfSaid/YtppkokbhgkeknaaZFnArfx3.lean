-- Bundled by shake.py from this session's printed and written texts; Lean checks it.
import Derived.Test.YtppkokbhgkeknaaZFnArfx1
import Derived.Test.YtppkokbhgkeknaaZFnArfx2
section
namespace Go.Proofs.Ytppkokbhgkeknaa.PA
open Go.RowKit Go.Proofs.YtppkokbhgkeknaaW.PrintWords Go.Proofs.YtppkokbhgkeknaaW.PrintLast Go.Proofs.YtppkokbhgkeknaaW.PrintMore
attribute [local go_sem] max2_int min2_int max_two min_two max_three min_three max_four min_four
set_option linter.unusedVariables false
set_option linter.unusedSimpArgs false
set_option maxHeartbeats 8000000
set_option maxRecDepth 100000
def spec_IsSemigroup.f (k : Nat) (l0_0 : List Int) : Option (Bool) := (spec_l3Gens.f k l0_0).bind fun t219 => (if t219 = true then (if (l0_0.length : Int) ≤ 12 then ((spec_IsAscending.f k l0_0).bind fun t220 => (if t220 = true then ((spec_GcdOfList.f k l0_0).bind fun t221 => (if t221 = 1 then ((spec_l3Minimal.f k l0_0).bind fun t222 => ((spec_l2Same.f k t222 l0_0).bind fun t225 => (if t225 = true then ((spec_l3Ends.f k l0_0).bind fun t226 => (some t226)) else (some false)))) else (some false))) else (some false))) else (some false)) else (some false))
theorem spec_IsSemigroup.mono : ∀ a0 k, LeO (spec_IsSemigroup.f k a0) (spec_IsSemigroup.f (k + 1) a0) := by
 intro a0 k
 unfold spec_IsSemigroup.f
 repeat' first
  | (with_reducible exact spec_GcdOfList.mono _ _)
  | (with_reducible exact spec_IsAscending.mono _ _)
  | (with_reducible exact spec_l2Same.mono _ _ _)
  | (with_reducible exact spec_l3Ends.mono _ _)
  | (with_reducible exact spec_l3Gens.mono _ _)
  | (with_reducible exact spec_l3Minimal.mono _ _)
  | (with_reducible exact LeO.refl _)
  | (with_reducible exact LeO.none _)
  | (with_reducible refine LeO.ite ?_ ?_)
  | (with_reducible refine LeO.bind ?_ (fun _ => ?_))
  | exact LeO.none _
  | refine LeO.ite ?_ ?_
  | refine LeO.bind ?_ (fun _ => ?_)
def spec_IsSemigroup.T1 : Bool × List (List Nat × List Nat) := (true, [([], []), ([0], [0]), ([1], [1]), ([2, 2], [2]), ([3], [3]), ([4, 3], [3, 4]), ([5, 3], [3, 5]), ([6, 3], [3, 6]), ([3, 7], [3, 7]), ([8, 3], [8]), ([9], [9]), ([10, 9], [9, 10]), ([11, 9, 9], [9, 11]), ([9, 12], [9, 12]), ([13, 12], [13]), ([14], [14]), ([15, 14], [14, 15]), ([16, 14, 14], [14, 16]), ([17, 14], [14, 17]), ([14, 18], [14, 18]), ([19, 17], [19]), ([20], [20]), ([21, 20], [20, 21]), ([22, 20, 20], [20, 22]), ([20], [20]), ([24, 20], [20, 24]), ([23, 25, 23, 20], [20, 23, 25]), ([20, 26], [20, 26]), ([27, 26], [27]), ([28], [28]), ([29, 28], [28, 29]), ([30, 28, 28], [28, 30]), ([28, 31], [28, 31]), ([32, 31, 0, 1, 2, 3, 4, 5, 6, 7, 8, 9, 10, 11, 12, 13, 14, 15, 16, 17, 18, 19, 20, 21, 22, 23, 24, 25, 26, 27, 28, 29, 30, 31, 32], [32])])
def spec_IsSemigroup.B1 : List Nat := [0, 1, 3, 7, 15, 31, 63, 127, 255, 511, 1023, 2047, 4095, 8191, 16383, 32767, 65535, 131071, 262143, 524287, 1048575, 2097151, 4194303, 8388607, 2097151, 18874367, 67108863, 134217727, 268435455, 536870911, 1073741823, 2147483647, 4294967295, 8589934591]
theorem spec_IsSemigroup.tab1 : rtab .any (opsOf Try.f27 1) = spec_IsSemigroup.T1 := by kernel_rfl
theorem spec_IsSemigroup.bits1 : waitsOk spec_IsSemigroup.T1.2 spec_IsSemigroup.B1 = true := by kernel_rfl
theorem spec_IsSemigroup.calls (k : Nat) (A0_0 : Option Addr) (c0_0 : Nat) (l0_0 : List Int) (r : Bool) (w : World) (hr0_0 : Kd.C (Kd.int .i64) w A0_0 l0_0.length l0_0) (hc0_0 : l0_0.length ≤ c0_0) (h : spec_IsSemigroup.f k l0_0 = some r) :
 Calls Try.prog 27 #[.agg #[.slice A0_0 l0_0.length c0_0]] w fun e w' => e = .returned (.bool r) ∧ Below w.heap.size w w' := by
 have hu26 := Try.underlying26
 have HR0_0 := Aside0.mk hr0_0
 have HC0_0 := Aside0.mk hc0_0
 clear hr0_0 hc0_0
 have HB := Aside0.mk (Below.refl w.heap.size w)
 have H := h
 clear h
 unfold spec_IsSemigroup.f at H
 obtain ⟨t219, A2, H⟩ := ob_ H
 by_cases c3 : t219 = true
 rotate_left
 · replace c3 := Bool.eq_false_iff.mpr c3
   subst c3
   rw [if_neg (show ¬ (false = true) by decide)] at H
   obtain rfl := Option.some.inj H
   go_enter Try.func27, Try.ntmps27
   try go_wp2_with (first | ((with_reducible refine gate_dst (N := 1) rfl ?_); (try (refine gate_guard (by rfl) ?_; dsimp only)); refine bx_ 1 #[.slice A0_0 l0_0.length c0_0] 26 ?_; intro gb218 hg w28 hbox hb; have BK218 := Aside0.mk (hbox); have GW218 := gw_ hg HB; have GE218 := gw_ hg HB; replace HB := bo_ HB hb; clear hb hbox hg))
   replace BK218 := Aside0.mk (blk_drew BK218.out)
   replace HB := Aside0.mk (below_drew1 HB.out)
   refine start_ (n := 34) (S := fun w' => w'.cell? ⟨gb218, 0, none⟩ = some (.slice A0_0 l0_0.length c0_0)) (ds := []) (B_ 0 34) (by kernel_rfl) rfl rfl ((blk_cell BK218.out 0).trans rfl) (fun hHeld => ?_); refine with_tabW spec_IsSemigroup.tab1 spec_IsSemigroup.bits1 (fun HT_ HW_ => ?_)
   generalize w28.drew = w29 at BK218 HB hHeld ⊢
   refine pu_ HT_ 0 3 (B_ 1 34) ?_
   refine tk1_ HT_ HW_ hHeld 1 4 (B_ 3 34) ?_
   refine on_ HT_ 2 5 (B_ 7 34) (fun K hK => ?_)
   refine goes_ Try.func55 (by kernel_rfl) rfl #[.slice A0_0 l0_0.length c0_0] (by rfl) rfl rfl (by (try simp only [List.map_toArray, List.map_cons, List.map_nil]); first | done | rfl | (simp only [List.length_drop, List.length_take]; rfl)) ?_
   with_reducible refine (spec_l3Gens.calls k _ _ l0_0 false _ ?side1 ?side2 A2.out).mono ?_
   (case side1 => exact ch_ HR0_0 HB)
   (case side2 => exact HC0_0.out)
   rintro e w' ⟨rfl, ⟨nd, rfl⟩⟩
   refine ⟨_, rfl, ?_⟩
   refine hK.out _ _ ((blk_cell BK218.out 0).trans rfl) (fun hHeld => ?_)
   clear hK K
   refine norm_ (a' := ?_) ?_ ?_
   rotate_left
   · show Act.put _ (some 5) _ = _
     simp only [Act.put, z1_, z2_, z3_, i64_w, i32_w]
     rfl
   refine pu_ HT_ 3 6 (B_ 15 34) ?_
   refine pn_ HT_ 4 7 (B_ 31 34) ?_
   refine pn_ HT_ 5 8 (B_ 63 34) ?_
   refine pn_ HT_ 6 9 (B_ 127 34) ?_
   refine pn_ HT_ 7 10 (B_ 255 34) ?_
   refine pu_ HT_ 8 11 (B_ 511 34) ?_
   refine pu_ HT_ 9 12 (B_ 1023 34) ?_
   refine pn_ HT_ 10 13 (B_ 2047 34) ?_
   refine pn_ HT_ 11 14 (B_ 4095 34) ?_
   refine pn_ HT_ 12 15 (B_ 8191 34) ?_
   refine pu_ HT_ 13 16 (B_ 16383 34) ?_
   refine pu_ HT_ 14 17 (B_ 32767 34) ?_
   refine pn_ HT_ 15 18 (B_ 65535 34) ?_
   refine pn_ HT_ 16 19 (B_ 131071 34) ?_
   refine pn_ HT_ 17 20 (B_ 262143 34) ?_
   refine pn_ HT_ 18 21 (B_ 524287 34) ?_
   refine pu_ HT_ 19 22 (B_ 1048575 34) ?_
   refine pu_ HT_ 20 23 (B_ 2097151 34) ?_
   refine pn_ HT_ 21 24 (B_ 4194303 34) ?_
   refine pn_ HT_ 22 25 (B_ 8388607 34) ?_
   refine pn_ HT_ 23 26 (B_ 16777215 34) ?_
   refine pn_ HT_ 24 27 (B_ 33554431 34) ?_
   refine pn_ HT_ 25 28 (B_ 67108863 34) ?_
   refine pn_ HT_ 26 29 (B_ 134217727 34) ?_
   refine pu_ HT_ 27 30 (B_ 268435455 34) ?_
   refine pu_ HT_ 28 31 (B_ 536870911 34) ?_
   refine pn_ HT_ 29 32 (B_ 1073741823 34) ?_
   refine pn_ HT_ 30 33 (B_ 2147483647 34) ?_
   refine pn_ HT_ 31 34 (B_ 4294967295 34) ?_
   refine pu_ HT_ 32 35 (B_ 8589934591 34) ?_
   refine pu_ HT_ 33 2 (B_ 17179869183 34) ?_
   refine done_ (done_of HT_.out (by kernel_rfl)) ?_
   try go_wp2
   go_ret
   exact ⟨rf_, bq_ HB⟩
 subst c3
 rw [if_pos rfl] at H
 by_cases c4 : (l0_0.length : Int) ≤ 12
 rotate_left
 · rw [if_neg c4] at H
   have c4b0 : decide ((l0_0.length : Int) ≤ 12) = false := decide_eq_false c4
   have c4b1 : decide (l0_0.length ≤ 12) = false := decide_eq_false (by omega)
   clear c4
   obtain rfl := Option.some.inj H
   go_enter Try.func27, Try.ntmps27
   try go_wp2_with (first | ((with_reducible refine gate_dst (N := 1) rfl ?_); (try (refine gate_guard (by rfl) ?_; dsimp only)); refine bx_ 1 #[.slice A0_0 l0_0.length c0_0] 26 ?_; intro gb218 hg w26 hbox hb; have BK218 := Aside0.mk (hbox); have GW218 := gw_ hg HB; have GE218 := gw_ hg HB; replace HB := bo_ HB hb; clear hb hbox hg))
   replace BK218 := Aside0.mk (blk_drew BK218.out)
   replace HB := Aside0.mk (below_drew1 HB.out)
   refine start_ (n := 34) (S := fun w' => w'.cell? ⟨gb218, 0, none⟩ = some (.slice A0_0 l0_0.length c0_0)) (ds := []) (B_ 0 34) (by kernel_rfl) rfl rfl ((blk_cell BK218.out 0).trans rfl) (fun hHeld => ?_); refine with_tabW spec_IsSemigroup.tab1 spec_IsSemigroup.bits1 (fun HT_ HW_ => ?_)
   generalize w26.drew = w27 at BK218 HB hHeld ⊢
   refine pu_ HT_ 0 3 (B_ 1 34) ?_
   refine tk1_ HT_ HW_ hHeld 1 4 (B_ 3 34) ?_
   refine on_ HT_ 2 5 (B_ 7 34) (fun K hK => ?_)
   refine goes_ Try.func55 (by kernel_rfl) rfl #[.slice A0_0 l0_0.length c0_0] (by rfl) rfl rfl (by (try simp only [List.map_toArray, List.map_cons, List.map_nil]); first | done | rfl | (simp only [List.length_drop, List.length_take]; rfl)) ?_
   with_reducible refine (spec_l3Gens.calls k _ _ l0_0 true _ ?side1 ?side2 A2.out).mono ?_
   (case side1 => exact ch_ HR0_0 HB)
   (case side2 => exact HC0_0.out)
   rintro e w' ⟨rfl, ⟨nd, rfl⟩⟩
   refine ⟨_, rfl, ?_⟩
   refine hK.out _ _ ((blk_cell BK218.out 0).trans rfl) (fun hHeld => ?_)
   clear hK K
   refine norm_ (a' := ?_) ?_ ?_
   rotate_left
   · show Act.put _ (some 5) _ = _
     simp only [Act.put, z1_, z2_, z3_, i64_w, i32_w]
     rfl
   refine pu_ HT_ 3 6 (B_ 15 34) ?_
   refine pu_ HT_ 4 7 (B_ 31 34) ?_
   refine tk1_ HT_ HW_ hHeld 5 8 (B_ 63 34) ?_
   refine pu_ HT_ 6 9 (B_ 127 34) ?_
   refine pu_ HT_ 7 10 (B_ 255 34) ?_
   refine pu_ HT_ 8 11 (B_ 511 34) ?_
   refine pu_ HT_ 9 12 (B_ 1023 34) ?_
   refine pn_ HT_ 10 13 (B_ 2047 34) ?_
   refine pn_ HT_ 11 14 (B_ 4095 34) ?_
   refine pn_ HT_ 12 15 (B_ 8191 34) ?_
   refine pu_ HT_ 13 16 (B_ 16383 34) ?_
   refine pu_ HT_ 14 17 (B_ 32767 34) ?_
   refine pn_ HT_ 15 18 (B_ 65535 34) ?_
   refine pn_ HT_ 16 19 (B_ 131071 34) ?_
   refine pn_ HT_ 17 20 (B_ 262143 34) ?_
   refine pn_ HT_ 18 21 (B_ 524287 34) ?_
   refine pu_ HT_ 19 22 (B_ 1048575 34) ?_
   refine pu_ HT_ 20 23 (B_ 2097151 34) ?_
   refine pn_ HT_ 21 24 (B_ 4194303 34) ?_
   refine pn_ HT_ 22 25 (B_ 8388607 34) ?_
   refine pn_ HT_ 23 26 (B_ 16777215 34) ?_
   refine pn_ HT_ 24 27 (B_ 33554431 34) ?_
   refine pn_ HT_ 25 28 (B_ 67108863 34) ?_
   refine pn_ HT_ 26 29 (B_ 134217727 34) ?_
   refine pu_ HT_ 27 30 (B_ 268435455 34) ?_
   refine pu_ HT_ 28 31 (B_ 536870911 34) ?_
   refine pn_ HT_ 29 32 (B_ 1073741823 34) ?_
   refine pn_ HT_ 30 33 (B_ 2147483647 34) ?_
   refine pn_ HT_ 31 34 (B_ 4294967295 34) ?_
   refine pu_ HT_ 32 35 (B_ 8589934591 34) ?_
   refine pu_ HT_ 33 2 (B_ 17179869183 34) ?_
   refine done_ (done_of HT_.out (by kernel_rfl)) ?_
   try go_wp2
   go_ret
   exact ⟨rf_, bq_ HB⟩
 rw [if_pos c4] at H
 have c4b0 : decide ((l0_0.length : Int) ≤ 12) = true := decide_eq_true c4
 have c4b1 : decide (l0_0.length ≤ 12) = true := decide_eq_true (by omega)
 clear c4
 obtain ⟨t220, A5, H⟩ := ob_ H
 by_cases c6 : t220 = true
 rotate_left
 · replace c6 := Bool.eq_false_iff.mpr c6
   subst c6
   rw [if_neg (show ¬ (false = true) by decide)] at H
   obtain rfl := Option.some.inj H
   go_enter Try.func27, Try.ntmps27
   try go_wp2_with (first | ((with_reducible refine gate_dst (N := 1) rfl ?_); (try (refine gate_guard (by rfl) ?_; dsimp only)); refine bx_ 1 #[.slice A0_0 l0_0.length c0_0] 26 ?_; intro gb218 hg w24 hbox hb; have BK218 := Aside0.mk (hbox); have GW218 := gw_ hg HB; have GE218 := gw_ hg HB; replace HB := bo_ HB hb; clear hb hbox hg))
   replace BK218 := Aside0.mk (blk_drew BK218.out)
   replace HB := Aside0.mk (below_drew1 HB.out)
   refine start_ (n := 34) (S := fun w' => w'.cell? ⟨gb218, 0, none⟩ = some (.slice A0_0 l0_0.length c0_0)) (ds := []) (B_ 0 34) (by kernel_rfl) rfl rfl ((blk_cell BK218.out 0).trans rfl) (fun hHeld => ?_); refine with_tabW spec_IsSemigroup.tab1 spec_IsSemigroup.bits1 (fun HT_ HW_ => ?_)
   generalize w24.drew = w25 at BK218 HB hHeld ⊢
   refine pu_ HT_ 0 3 (B_ 1 34) ?_
   refine tk1_ HT_ HW_ hHeld 1 4 (B_ 3 34) ?_
   refine on_ HT_ 2 5 (B_ 7 34) (fun K hK => ?_)
   refine goes_ Try.func55 (by kernel_rfl) rfl #[.slice A0_0 l0_0.length c0_0] (by rfl) rfl rfl (by (try simp only [List.map_toArray, List.map_cons, List.map_nil]); first | done | rfl | (simp only [List.length_drop, List.length_take]; rfl)) ?_
   with_reducible refine (spec_l3Gens.calls k _ _ l0_0 true _ ?side1 ?side2 A2.out).mono ?_
   (case side1 => exact ch_ HR0_0 HB)
   (case side2 => exact HC0_0.out)
   rintro e w' ⟨rfl, ⟨nd, rfl⟩⟩
   refine ⟨_, rfl, ?_⟩
   refine hK.out _ _ ((blk_cell BK218.out 0).trans rfl) (fun hHeld => ?_)
   clear hK K
   refine norm_ (a' := ?_) ?_ ?_
   rotate_left
   · show Act.put _ (some 5) _ = _
     simp only [Act.put, z1_, z2_, z3_, i64_w, i32_w]
     rfl
   refine pu_ HT_ 3 6 (B_ 15 34) ?_
   refine pu_ HT_ 4 7 (B_ 31 34) ?_
   refine tk1_ HT_ HW_ hHeld 5 8 (B_ 63 34) ?_
   refine pu_ HT_ 6 9 (B_ 127 34) ?_
   refine pu_ HT_ 7 10 (B_ 255 34) ?_
   refine pu_ HT_ 8 11 (B_ 511 34) ?_
   refine pu_ HT_ 9 12 (B_ 1023 34) ?_
   refine pu_ HT_ 10 13 (B_ 2047 34) ?_
   refine tk1_ HT_ HW_ hHeld 11 14 (B_ 4095 34) ?_
   refine on_ HT_ 12 15 (B_ 8191 34) (fun K hK => ?_)
   refine goes_ Try.func56 (by kernel_rfl) rfl #[.slice A0_0 l0_0.length c0_0] (by rfl) rfl rfl (by (try simp only [List.map_toArray, List.map_cons, List.map_nil]); first | done | rfl | (simp only [List.length_drop, List.length_take]; rfl)) ?_
   with_reducible refine (spec_IsAscending.calls k _ _ l0_0 false _ ?side1 ?side2 A5.out).mono ?_
   (case side1 => repeat (first | exact (Kd.C_below HR0_0.out (bq_ HB)) | (with_reducible refine Kd.C_alloc ?_ _) | (with_reducible refine Kd.C_drewN ?_ _) | (with_reducible refine Kd.C_drew ?_)))
   (case side2 => exact HC0_0.out)
   rintro e w' ⟨rfl, ⟨nd, rfl⟩⟩
   refine ⟨_, rfl, ?_⟩
   refine hK.out _ _ ((blk_cell BK218.out 0).trans rfl) (fun hHeld => ?_)
   clear hK K
   refine norm_ (a' := ?_) ?_ ?_
   rotate_left
   · show Act.put _ (some 15) _ = _
     simp only [Act.put, z1_, z2_, z3_, i64_w, i32_w]
     rfl
   refine pu_ HT_ 13 16 (B_ 16383 34) ?_
   refine pu_ HT_ 14 17 (B_ 32767 34) ?_
   refine pn_ HT_ 15 18 (B_ 65535 34) ?_
   refine pn_ HT_ 16 19 (B_ 131071 34) ?_
   refine pn_ HT_ 17 20 (B_ 262143 34) ?_
   refine pn_ HT_ 18 21 (B_ 524287 34) ?_
   refine pu_ HT_ 19 22 (B_ 1048575 34) ?_
   refine pu_ HT_ 20 23 (B_ 2097151 34) ?_
   refine pn_ HT_ 21 24 (B_ 4194303 34) ?_
   refine pn_ HT_ 22 25 (B_ 8388607 34) ?_
   refine pn_ HT_ 23 26 (B_ 16777215 34) ?_
   refine pn_ HT_ 24 27 (B_ 33554431 34) ?_
   refine pn_ HT_ 25 28 (B_ 67108863 34) ?_
   refine pn_ HT_ 26 29 (B_ 134217727 34) ?_
   refine pu_ HT_ 27 30 (B_ 268435455 34) ?_
   refine pu_ HT_ 28 31 (B_ 536870911 34) ?_
   refine pn_ HT_ 29 32 (B_ 1073741823 34) ?_
   refine pn_ HT_ 30 33 (B_ 2147483647 34) ?_
   refine pn_ HT_ 31 34 (B_ 4294967295 34) ?_
   refine pu_ HT_ 32 35 (B_ 8589934591 34) ?_
   refine pu_ HT_ 33 2 (B_ 17179869183 34) ?_
   refine done_ (done_of HT_.out (by kernel_rfl)) ?_
   try go_wp2
   go_ret
   exact ⟨rf_, bq_ HB⟩
 subst c6
 rw [if_pos rfl] at H
 obtain ⟨t221, A7, H⟩ := ob_ H
 by_cases c8 : t221 = 1
 rotate_left
 · rw [if_neg c8] at H
   have c8b0 : (t221 == 1) = false := beq_eq_false_iff_ne.mpr c8
   have c8b1 : (t221 != 1) = true := bne_iff_ne.mpr c8
   obtain rfl := Option.some.inj H
   go_enter Try.func27, Try.ntmps27
   try go_wp2_with (first | ((with_reducible refine gate_dst (N := 1) rfl ?_); (try (refine gate_guard (by rfl) ?_; dsimp only)); refine bx_ 1 #[.slice A0_0 l0_0.length c0_0] 26 ?_; intro gb218 hg w22 hbox hb; have BK218 := Aside0.mk (hbox); have GW218 := gw_ hg HB; have GE218 := gw_ hg HB; replace HB := bo_ HB hb; clear hb hbox hg))
   replace BK218 := Aside0.mk (blk_drew BK218.out)
   replace HB := Aside0.mk (below_drew1 HB.out)
   refine start_ (n := 34) (S := fun w' => w'.cell? ⟨gb218, 0, none⟩ = some (.slice A0_0 l0_0.length c0_0)) (ds := []) (B_ 0 34) (by kernel_rfl) rfl rfl ((blk_cell BK218.out 0).trans rfl) (fun hHeld => ?_); refine with_tabW spec_IsSemigroup.tab1 spec_IsSemigroup.bits1 (fun HT_ HW_ => ?_)
   generalize w22.drew = w23 at BK218 HB hHeld ⊢
   refine pu_ HT_ 0 3 (B_ 1 34) ?_
   refine tk1_ HT_ HW_ hHeld 1 4 (B_ 3 34) ?_
   refine on_ HT_ 2 5 (B_ 7 34) (fun K hK => ?_)
   refine goes_ Try.func55 (by kernel_rfl) rfl #[.slice A0_0 l0_0.length c0_0] (by rfl) rfl rfl (by (try simp only [List.map_toArray, List.map_cons, List.map_nil]); first | done | rfl | (simp only [List.length_drop, List.length_take]; rfl)) ?_
   with_reducible refine (spec_l3Gens.calls k _ _ l0_0 true _ ?side1 ?side2 A2.out).mono ?_
   (case side1 => exact ch_ HR0_0 HB)
   (case side2 => exact HC0_0.out)
   rintro e w' ⟨rfl, ⟨nd, rfl⟩⟩
   refine ⟨_, rfl, ?_⟩
   refine hK.out _ _ ((blk_cell BK218.out 0).trans rfl) (fun hHeld => ?_)
   clear hK K
   refine norm_ (a' := ?_) ?_ ?_
   rotate_left
   · show Act.put _ (some 5) _ = _
     simp only [Act.put, z1_, z2_, z3_, i64_w, i32_w]
     rfl
   refine pu_ HT_ 3 6 (B_ 15 34) ?_
   refine pu_ HT_ 4 7 (B_ 31 34) ?_
   refine tk1_ HT_ HW_ hHeld 5 8 (B_ 63 34) ?_
   refine pu_ HT_ 6 9 (B_ 127 34) ?_
   refine pu_ HT_ 7 10 (B_ 255 34) ?_
   refine pu_ HT_ 8 11 (B_ 511 34) ?_
   refine pu_ HT_ 9 12 (B_ 1023 34) ?_
   refine pu_ HT_ 10 13 (B_ 2047 34) ?_
   refine tk1_ HT_ HW_ hHeld 11 14 (B_ 4095 34) ?_
   refine on_ HT_ 12 15 (B_ 8191 34) (fun K hK => ?_)
   refine goes_ Try.func56 (by kernel_rfl) rfl #[.slice A0_0 l0_0.length c0_0] (by rfl) rfl rfl (by (try simp only [List.map_toArray, List.map_cons, List.map_nil]); first | done | rfl | (simp only [List.length_drop, List.length_take]; rfl)) ?_
   with_reducible refine (spec_IsAscending.calls k _ _ l0_0 true _ ?side1 ?side2 A5.out).mono ?_
   (case side1 => repeat (first | exact (Kd.C_below HR0_0.out (bq_ HB)) | (with_reducible refine Kd.C_alloc ?_ _) | (with_reducible refine Kd.C_drewN ?_ _) | (with_reducible refine Kd.C_drew ?_)))
   (case side2 => exact HC0_0.out)
   rintro e w' ⟨rfl, ⟨nd, rfl⟩⟩
   refine ⟨_, rfl, ?_⟩
   refine hK.out _ _ ((blk_cell BK218.out 0).trans rfl) (fun hHeld => ?_)
   clear hK K
   refine norm_ (a' := ?_) ?_ ?_
   rotate_left
   · show Act.put _ (some 15) _ = _
     simp only [Act.put, z1_, z2_, z3_, i64_w, i32_w]
     rfl
   refine pu_ HT_ 13 16 (B_ 16383 34) ?_
   refine pu_ HT_ 14 17 (B_ 32767 34) ?_
   refine pu_ HT_ 15 18 (B_ 65535 34) ?_
   refine tk1_ HT_ HW_ hHeld 16 19 (B_ 131071 34) ?_
   refine on_ HT_ 17 20 (B_ 262143 34) (fun K hK => ?_)
   refine goes_ Try.func57 (by kernel_rfl) rfl #[.slice A0_0 l0_0.length c0_0] (by rfl) rfl rfl (by (try simp only [List.map_toArray, List.map_cons, List.map_nil]); first | done | rfl | (simp only [List.length_drop, List.length_take]; rfl)) ?_
   with_reducible refine (spec_GcdOfList.calls k _ _ l0_0 t221 _ ?side1 ?side2 A7.out).mono ?_
   (case side1 => repeat (first | exact (Kd.C_below HR0_0.out (bq_ HB)) | (with_reducible refine Kd.C_alloc ?_ _) | (with_reducible refine Kd.C_drewN ?_ _) | (with_reducible refine Kd.C_drew ?_)))
   (case side2 => exact HC0_0.out)
   rintro e w' ⟨rfl, ⟨nd, rfl⟩⟩
   refine ⟨_, rfl, ?_⟩
   refine hK.out _ _ ((blk_cell BK218.out 0).trans rfl) (fun hHeld => ?_)
   clear hK K
   refine norm_ (a' := ?_) ?_ ?_
   rotate_left
   · show Act.put _ (some 20) _ = _
     simp only [Act.put, z1_, z2_, z3_, i64_w, i32_w]
     rfl
   refine pu_ HT_ 18 21 (B_ 524287 34) ?_
   refine pu_ HT_ 19 22 (B_ 1048575 34) ?_
   refine pu_ HT_ 20 23 (B_ 2097151 34) ?_
   refine pn_ HT_ 21 24 (B_ 4194303 34) ?_
   refine pn_ HT_ 22 25 (B_ 8388607 34) ?_
   refine pn_ HT_ 23 26 (B_ 16777215 34) ?_
   refine pn_ HT_ 24 27 (B_ 33554431 34) ?_
   refine pn_ HT_ 25 28 (B_ 67108863 34) ?_
   refine pn_ HT_ 26 29 (B_ 134217727 34) ?_
   refine pu_ HT_ 27 30 (B_ 268435455 34) ?_
   refine pu_ HT_ 28 31 (B_ 536870911 34) ?_
   refine pn_ HT_ 29 32 (B_ 1073741823 34) ?_
   refine pn_ HT_ 30 33 (B_ 2147483647 34) ?_
   refine pn_ HT_ 31 34 (B_ 4294967295 34) ?_
   refine pu_ HT_ 32 35 (B_ 8589934591 34) ?_
   refine pu_ HT_ 33 2 (B_ 17179869183 34) ?_
   refine done_ (done_of HT_.out (by kernel_rfl)) ?_
   try go_wp2
   go_ret
   exact ⟨rf_, bq_ HB⟩
 rw [if_pos c8] at H
 have c8b0 : (t221 == 1) = true := beq_iff_eq.mpr c8
 have c8b1 : (t221 != 1) = false := bne_eq_false_iff_eq.mpr c8
 clear c8
 obtain ⟨t222, A9, H⟩ := ob_ H
 obtain ⟨t225, A10, H⟩ := ob_ H
 by_cases c11 : t225 = true
 rotate_left
 · replace c11 := Bool.eq_false_iff.mpr c11
   subst c11
   rw [if_neg (show ¬ (false = true) by decide)] at H
   obtain rfl := Option.some.inj H
   go_enter Try.func27, Try.ntmps27
   try go_wp2_with (first | ((with_reducible refine gate_dst (N := 1) rfl ?_); (try (refine gate_guard (by rfl) ?_; dsimp only)); refine bx_ 1 #[.slice A0_0 l0_0.length c0_0] 26 ?_; intro gb218 hg w18 hbox hb; have BK218 := Aside0.mk (hbox); have GW218 := gw_ hg HB; have GE218 := gw_ hg HB; replace HB := bo_ HB hb; clear hb hbox hg))
   replace BK218 := Aside0.mk (blk_drew BK218.out)
   replace HB := Aside0.mk (below_drew1 HB.out)
   refine start_ (n := 34) (S := fun w' => w'.cell? ⟨gb218, 0, none⟩ = some (.slice A0_0 l0_0.length c0_0)) (ds := []) (B_ 0 34) (by kernel_rfl) rfl rfl ((blk_cell BK218.out 0).trans rfl) (fun hHeld => ?_); refine with_tabW spec_IsSemigroup.tab1 spec_IsSemigroup.bits1 (fun HT_ HW_ => ?_)
   generalize w18.drew = w19 at BK218 HB hHeld ⊢
   refine pu_ HT_ 0 3 (B_ 1 34) ?_
   refine tk1_ HT_ HW_ hHeld 1 4 (B_ 3 34) ?_
   refine on_ HT_ 2 5 (B_ 7 34) (fun K hK => ?_)
   refine goes_ Try.func55 (by kernel_rfl) rfl #[.slice A0_0 l0_0.length c0_0] (by rfl) rfl rfl (by (try simp only [List.map_toArray, List.map_cons, List.map_nil]); first | done | rfl | (simp only [List.length_drop, List.length_take]; rfl)) ?_
   with_reducible refine (spec_l3Gens.calls k _ _ l0_0 true _ ?side1 ?side2 A2.out).mono ?_
   (case side1 => exact ch_ HR0_0 HB)
   (case side2 => exact HC0_0.out)
   rintro e w' ⟨rfl, ⟨nd, rfl⟩⟩
   refine ⟨_, rfl, ?_⟩
   refine hK.out _ _ ((blk_cell BK218.out 0).trans rfl) (fun hHeld => ?_)
   clear hK K
   refine norm_ (a' := ?_) ?_ ?_
   rotate_left
   · show Act.put _ (some 5) _ = _
     simp only [Act.put, z1_, z2_, z3_, i64_w, i32_w]
     rfl
   refine pu_ HT_ 3 6 (B_ 15 34) ?_
   refine pu_ HT_ 4 7 (B_ 31 34) ?_
   refine tk1_ HT_ HW_ hHeld 5 8 (B_ 63 34) ?_
   refine pu_ HT_ 6 9 (B_ 127 34) ?_
   refine pu_ HT_ 7 10 (B_ 255 34) ?_
   refine pu_ HT_ 8 11 (B_ 511 34) ?_
   refine pu_ HT_ 9 12 (B_ 1023 34) ?_
   refine pu_ HT_ 10 13 (B_ 2047 34) ?_
   refine tk1_ HT_ HW_ hHeld 11 14 (B_ 4095 34) ?_
   refine on_ HT_ 12 15 (B_ 8191 34) (fun K hK => ?_)
   refine goes_ Try.func56 (by kernel_rfl) rfl #[.slice A0_0 l0_0.length c0_0] (by rfl) rfl rfl (by (try simp only [List.map_toArray, List.map_cons, List.map_nil]); first | done | rfl | (simp only [List.length_drop, List.length_take]; rfl)) ?_
   with_reducible refine (spec_IsAscending.calls k _ _ l0_0 true _ ?side1 ?side2 A5.out).mono ?_
   (case side1 => repeat (first | exact (Kd.C_below HR0_0.out (bq_ HB)) | (with_reducible refine Kd.C_alloc ?_ _) | (with_reducible refine Kd.C_drewN ?_ _) | (with_reducible refine Kd.C_drew ?_)))
   (case side2 => exact HC0_0.out)
   rintro e w' ⟨rfl, ⟨nd, rfl⟩⟩
   refine ⟨_, rfl, ?_⟩
   refine hK.out _ _ ((blk_cell BK218.out 0).trans rfl) (fun hHeld => ?_)
   clear hK K
   refine norm_ (a' := ?_) ?_ ?_
   rotate_left
   · show Act.put _ (some 15) _ = _
     simp only [Act.put, z1_, z2_, z3_, i64_w, i32_w]
     rfl
   refine pu_ HT_ 13 16 (B_ 16383 34) ?_
   refine pu_ HT_ 14 17 (B_ 32767 34) ?_
   refine pu_ HT_ 15 18 (B_ 65535 34) ?_
   refine tk1_ HT_ HW_ hHeld 16 19 (B_ 131071 34) ?_
   refine on_ HT_ 17 20 (B_ 262143 34) (fun K hK => ?_)
   refine goes_ Try.func57 (by kernel_rfl) rfl #[.slice A0_0 l0_0.length c0_0] (by rfl) rfl rfl (by (try simp only [List.map_toArray, List.map_cons, List.map_nil]); first | done | rfl | (simp only [List.length_drop, List.length_take]; rfl)) ?_
   with_reducible refine (spec_GcdOfList.calls k _ _ l0_0 t221 _ ?side1 ?side2 A7.out).mono ?_
   (case side1 => repeat (first | exact (Kd.C_below HR0_0.out (bq_ HB)) | (with_reducible refine Kd.C_alloc ?_ _) | (with_reducible refine Kd.C_drewN ?_ _) | (with_reducible refine Kd.C_drew ?_)))
   (case side2 => exact HC0_0.out)
   rintro e w' ⟨rfl, ⟨nd, rfl⟩⟩
   refine ⟨_, rfl, ?_⟩
   refine hK.out _ _ ((blk_cell BK218.out 0).trans rfl) (fun hHeld => ?_)
   clear hK K
   refine norm_ (a' := ?_) ?_ ?_
   rotate_left
   · show Act.put _ (some 20) _ = _
     simp only [Act.put, z1_, z2_, z3_, i64_w, i32_w]
     rfl
   refine pu_ HT_ 18 21 (B_ 524287 34) ?_
   refine pu_ HT_ 19 22 (B_ 1048575 34) ?_
   refine pu_ HT_ 20 23 (B_ 2097151 34) ?_
   refine pu_ HT_ 21 24 (B_ 4194303 34) ?_
   refine pu_ HT_ 24 27 (B_ 20971519 34) ?_
   refine tk1_ HT_ HW_ hHeld 22 25 (B_ 25165823 34) ?_
   refine tk1_ HT_ HW_ hHeld 25 28 (B_ 58720255 34) ?_
   refine on_ HT_ 23 26 (B_ 67108863 34) (fun K hK => ?_)
   refine goes_ Try.func58 (by kernel_rfl) rfl #[.slice A0_0 l0_0.length c0_0] (by rfl) rfl rfl (by (try simp only [List.map_toArray, List.map_cons, List.map_nil]); first | done | rfl | (simp only [List.length_drop, List.length_take]; rfl)) ?_
   with_reducible refine (spec_l3Minimal.calls k _ _ l0_0 t222 _ ?side1 ?side2 A9.out).mono ?_
   (case side1 => repeat (first | exact (Kd.C_below HR0_0.out (bq_ HB)) | (with_reducible refine Kd.C_alloc ?_ _) | (with_reducible refine Kd.C_drewN ?_ _) | (with_reducible refine Kd.C_drew ?_)))
   (case side2 => exact HC0_0.out)
   rintro e w20 ⟨v223, rfl, ho0, hb⟩
   refine ⟨_, rfl, ?_⟩
   have HO224 := Aside0.mk (Kd.R_lower ho0 (below_size (bq_ HB)))
   replace BK218 := bk_ BK218 hb
   replace HB := bp_ HB hb
   (try clear hb)
   (try clear ho0)
   obtain ⟨Ao21, co21, eo21⟩ := Kd.R_slice HO224.out
   (first | subst eo21 | (injection eo21 with f1_ f2_ f3_; have f4_ := f1_.symm; have f5_ := f3_.symm; clear f1_ f2_ f3_; subst f4_; subst f5_))
   refine hK.out _ _ ((blk_cell BK218.out 0).trans rfl) (fun hHeld => ?_)
   clear hK K
   refine norm_ (a' := ?_) ?_ ?_
   rotate_left
   · show Act.put _ (some 26) _ = _
     simp only [Act.put, z1_, z2_, z3_, i64_w, i32_w]
     rfl
   refine on_ HT_ 26 29 (B_ 134217727 34) (fun K hK => ?_)
   refine goes_ Try.func39 (by kernel_rfl) rfl #[.slice Ao21 t222.length co21, .slice A0_0 l0_0.length c0_0] (by rfl) rfl rfl (by (try simp only [List.map_toArray, List.map_cons, List.map_nil]); first | done | rfl | (simp only [List.length_drop, List.length_take]; rfl)) ?_
   with_reducible refine (spec_l2Same.calls k _ _ t222 _ _ l0_0 false _ ?side1 ?side2 ?side3 ?side4 A10.out).mono ?_
   (case side1 => exact ce_ ((Kd.R_reads' HO224.out).2.2))
   (case side2 => exact (Kd.R_reads' HO224.out).2.1)
   (case side3 => exact ch_ HR0_0 HB)
   (case side4 => exact HC0_0.out)
   rintro e w' ⟨rfl, ⟨nd, rfl⟩⟩
   refine ⟨_, rfl, ?_⟩
   refine hK.out _ _ ((blk_cell BK218.out 0).trans rfl) (fun hHeld => ?_)
   clear hK K
   refine norm_ (a' := ?_) ?_ ?_
   rotate_left
   · show Act.put _ (some 29) _ = _
     simp only [Act.put, z1_, z2_, z3_, i64_w, i32_w]
     rfl
   refine pu_ HT_ 27 30 (B_ 268435455 34) ?_
   refine pu_ HT_ 28 31 (B_ 536870911 34) ?_
   refine pn_ HT_ 29 32 (B_ 1073741823 34) ?_
   refine pn_ HT_ 30 33 (B_ 2147483647 34) ?_
   refine pn_ HT_ 31 34 (B_ 4294967295 34) ?_
   refine pu_ HT_ 32 35 (B_ 8589934591 34) ?_
   refine pu_ HT_ 33 2 (B_ 17179869183 34) ?_
   refine done_ (done_of HT_.out (by kernel_rfl)) ?_
   try go_wp2
   go_ret
   exact ⟨rf_, bq_ HB⟩
 subst c11
 rw [if_pos rfl] at H
 obtain ⟨t226, A12, H⟩ := ob_ H
 obtain rfl := Option.some.inj H
 go_enter Try.func27, Try.ntmps27
 try go_wp2_with (first | ((with_reducible refine gate_dst (N := 1) rfl ?_); (try (refine gate_guard (by rfl) ?_; dsimp only)); refine bx_ 1 #[.slice A0_0 l0_0.length c0_0] 26 ?_; intro gb218 hg w13 hbox hb; have BK218 := Aside0.mk (hbox); have GW218 := gw_ hg HB; have GE218 := gw_ hg HB; replace HB := bo_ HB hb; clear hb hbox hg))
 replace BK218 := Aside0.mk (blk_drew BK218.out)
 replace HB := Aside0.mk (below_drew1 HB.out)
 refine start_ (n := 34) (S := fun w' => w'.cell? ⟨gb218, 0, none⟩ = some (.slice A0_0 l0_0.length c0_0)) (ds := []) (B_ 0 34) (by kernel_rfl) rfl rfl ((blk_cell BK218.out 0).trans rfl) (fun hHeld => ?_); refine with_tabW spec_IsSemigroup.tab1 spec_IsSemigroup.bits1 (fun HT_ HW_ => ?_)
 generalize w13.drew = w14 at BK218 HB hHeld ⊢
 refine pu_ HT_ 0 3 (B_ 1 34) ?_
 refine tk1_ HT_ HW_ hHeld 1 4 (B_ 3 34) ?_
 refine on_ HT_ 2 5 (B_ 7 34) (fun K hK => ?_)
 refine goes_ Try.func55 (by kernel_rfl) rfl #[.slice A0_0 l0_0.length c0_0] (by rfl) rfl rfl (by (try simp only [List.map_toArray, List.map_cons, List.map_nil]); first | done | rfl | (simp only [List.length_drop, List.length_take]; rfl)) ?_
 with_reducible refine (spec_l3Gens.calls k _ _ l0_0 true _ ?side1 ?side2 A2.out).mono ?_
 (case side1 => exact ch_ HR0_0 HB)
 (case side2 => exact HC0_0.out)
 rintro e w' ⟨rfl, ⟨nd, rfl⟩⟩
 refine ⟨_, rfl, ?_⟩
 refine hK.out _ _ ((blk_cell BK218.out 0).trans rfl) (fun hHeld => ?_)
 clear hK K
 refine norm_ (a' := ?_) ?_ ?_
 rotate_left
 · show Act.put _ (some 5) _ = _
   simp only [Act.put, z1_, z2_, z3_, i64_w, i32_w]
   rfl
 refine pu_ HT_ 3 6 (B_ 15 34) ?_
 refine pu_ HT_ 4 7 (B_ 31 34) ?_
 refine tk1_ HT_ HW_ hHeld 5 8 (B_ 63 34) ?_
 refine pu_ HT_ 6 9 (B_ 127 34) ?_
 refine pu_ HT_ 7 10 (B_ 255 34) ?_
 refine pu_ HT_ 8 11 (B_ 511 34) ?_
 refine pu_ HT_ 9 12 (B_ 1023 34) ?_
 refine pu_ HT_ 10 13 (B_ 2047 34) ?_
 refine tk1_ HT_ HW_ hHeld 11 14 (B_ 4095 34) ?_
 refine on_ HT_ 12 15 (B_ 8191 34) (fun K hK => ?_)
 refine goes_ Try.func56 (by kernel_rfl) rfl #[.slice A0_0 l0_0.length c0_0] (by rfl) rfl rfl (by (try simp only [List.map_toArray, List.map_cons, List.map_nil]); first | done | rfl | (simp only [List.length_drop, List.length_take]; rfl)) ?_
 with_reducible refine (spec_IsAscending.calls k _ _ l0_0 true _ ?side1 ?side2 A5.out).mono ?_
 (case side1 => repeat (first | exact (Kd.C_below HR0_0.out (bq_ HB)) | (with_reducible refine Kd.C_alloc ?_ _) | (with_reducible refine Kd.C_drewN ?_ _) | (with_reducible refine Kd.C_drew ?_)))
 (case side2 => exact HC0_0.out)
 rintro e w' ⟨rfl, ⟨nd, rfl⟩⟩
 refine ⟨_, rfl, ?_⟩
 refine hK.out _ _ ((blk_cell BK218.out 0).trans rfl) (fun hHeld => ?_)
 clear hK K
 refine norm_ (a' := ?_) ?_ ?_
 rotate_left
 · show Act.put _ (some 15) _ = _
   simp only [Act.put, z1_, z2_, z3_, i64_w, i32_w]
   rfl
 refine pu_ HT_ 13 16 (B_ 16383 34) ?_
 refine pu_ HT_ 14 17 (B_ 32767 34) ?_
 refine pu_ HT_ 15 18 (B_ 65535 34) ?_
 refine tk1_ HT_ HW_ hHeld 16 19 (B_ 131071 34) ?_
 refine on_ HT_ 17 20 (B_ 262143 34) (fun K hK => ?_)
 refine goes_ Try.func57 (by kernel_rfl) rfl #[.slice A0_0 l0_0.length c0_0] (by rfl) rfl rfl (by (try simp only [List.map_toArray, List.map_cons, List.map_nil]); first | done | rfl | (simp only [List.length_drop, List.length_take]; rfl)) ?_
 with_reducible refine (spec_GcdOfList.calls k _ _ l0_0 t221 _ ?side1 ?side2 A7.out).mono ?_
 (case side1 => repeat (first | exact (Kd.C_below HR0_0.out (bq_ HB)) | (with_reducible refine Kd.C_alloc ?_ _) | (with_reducible refine Kd.C_drewN ?_ _) | (with_reducible refine Kd.C_drew ?_)))
 (case side2 => exact HC0_0.out)
 rintro e w' ⟨rfl, ⟨nd, rfl⟩⟩
 refine ⟨_, rfl, ?_⟩
 refine hK.out _ _ ((blk_cell BK218.out 0).trans rfl) (fun hHeld => ?_)
 clear hK K
 refine norm_ (a' := ?_) ?_ ?_
 rotate_left
 · show Act.put _ (some 20) _ = _
   simp only [Act.put, z1_, z2_, z3_, i64_w, i32_w]
   rfl
 refine pu_ HT_ 18 21 (B_ 524287 34) ?_
 refine pu_ HT_ 19 22 (B_ 1048575 34) ?_
 refine pu_ HT_ 20 23 (B_ 2097151 34) ?_
 refine pu_ HT_ 21 24 (B_ 4194303 34) ?_
 refine pu_ HT_ 24 27 (B_ 20971519 34) ?_
 refine tk1_ HT_ HW_ hHeld 22 25 (B_ 25165823 34) ?_
 refine tk1_ HT_ HW_ hHeld 25 28 (B_ 58720255 34) ?_
 refine on_ HT_ 23 26 (B_ 67108863 34) (fun K hK => ?_)
 refine goes_ Try.func58 (by kernel_rfl) rfl #[.slice A0_0 l0_0.length c0_0] (by rfl) rfl rfl (by (try simp only [List.map_toArray, List.map_cons, List.map_nil]); first | done | rfl | (simp only [List.length_drop, List.length_take]; rfl)) ?_
 with_reducible refine (spec_l3Minimal.calls k _ _ l0_0 t222 _ ?side1 ?side2 A9.out).mono ?_
 (case side1 => repeat (first | exact (Kd.C_below HR0_0.out (bq_ HB)) | (with_reducible refine Kd.C_alloc ?_ _) | (with_reducible refine Kd.C_drewN ?_ _) | (with_reducible refine Kd.C_drew ?_)))
 (case side2 => exact HC0_0.out)
 rintro e w15 ⟨v223, rfl, ho0, hb⟩
 refine ⟨_, rfl, ?_⟩
 have HO224 := Aside0.mk (Kd.R_lower ho0 (below_size (bq_ HB)))
 replace BK218 := bk_ BK218 hb
 replace HB := bp_ HB hb
 (try clear hb)
 (try clear ho0)
 obtain ⟨Ao16, co16, eo16⟩ := Kd.R_slice HO224.out
 (first | subst eo16 | (injection eo16 with f1_ f2_ f3_; have f4_ := f1_.symm; have f5_ := f3_.symm; clear f1_ f2_ f3_; subst f4_; subst f5_))
 refine hK.out _ _ ((blk_cell BK218.out 0).trans rfl) (fun hHeld => ?_)
 clear hK K
 refine norm_ (a' := ?_) ?_ ?_
 rotate_left
 · show Act.put _ (some 26) _ = _
   simp only [Act.put, z1_, z2_, z3_, i64_w, i32_w]
   rfl
 refine on_ HT_ 26 29 (B_ 134217727 34) (fun K hK => ?_)
 refine goes_ Try.func39 (by kernel_rfl) rfl #[.slice Ao16 t222.length co16, .slice A0_0 l0_0.length c0_0] (by rfl) rfl rfl (by (try simp only [List.map_toArray, List.map_cons, List.map_nil]); first | done | rfl | (simp only [List.length_drop, List.length_take]; rfl)) ?_
 with_reducible refine (spec_l2Same.calls k _ _ t222 _ _ l0_0 true _ ?side1 ?side2 ?side3 ?side4 A10.out).mono ?_
 (case side1 => exact ce_ ((Kd.R_reads' HO224.out).2.2))
 (case side2 => exact (Kd.R_reads' HO224.out).2.1)
 (case side3 => exact ch_ HR0_0 HB)
 (case side4 => exact HC0_0.out)
 rintro e w' ⟨rfl, ⟨nd, rfl⟩⟩
 refine ⟨_, rfl, ?_⟩
 refine hK.out _ _ ((blk_cell BK218.out 0).trans rfl) (fun hHeld => ?_)
 clear hK K
 refine norm_ (a' := ?_) ?_ ?_
 rotate_left
 · show Act.put _ (some 29) _ = _
   simp only [Act.put, z1_, z2_, z3_, i64_w, i32_w]
   rfl
 refine pu_ HT_ 27 30 (B_ 268435455 34) ?_
 refine pu_ HT_ 28 31 (B_ 536870911 34) ?_
 refine pu_ HT_ 29 32 (B_ 1073741823 34) ?_
 refine tk1_ HT_ HW_ hHeld 30 33 (B_ 2147483647 34) ?_
 refine on_ HT_ 31 34 (B_ 4294967295 34) (fun K hK => ?_)
 refine goes_ Try.func59 (by kernel_rfl) rfl #[.slice A0_0 l0_0.length c0_0] (by rfl) rfl rfl (by (try simp only [List.map_toArray, List.map_cons, List.map_nil]); first | done | rfl | (simp only [List.length_drop, List.length_take]; rfl)) ?_
 with_reducible refine (spec_l3Ends.calls k _ _ l0_0 t226 _ ?side1 ?side2 A12.out).mono ?_
 (case side1 => repeat (first | exact (Kd.C_below HR0_0.out (bq_ HB)) | (with_reducible refine Kd.C_alloc ?_ _) | (with_reducible refine Kd.C_drewN ?_ _) | (with_reducible refine Kd.C_drew ?_)))
 (case side2 => exact HC0_0.out)
 rintro e w17 ⟨rfl, hb⟩
 refine ⟨_, rfl, ?_⟩
 replace HO224 := Aside0.mk (Kd.R_below (re_ HO224.out) hb)
 replace BK218 := bk_ BK218 hb
 replace HB := bp_ HB hb
 (try clear hb)
 refine hK.out _ _ ((blk_cell BK218.out 0).trans rfl) (fun hHeld => ?_)
 clear hK K
 refine norm_ (a' := ?_) ?_ ?_
 rotate_left
 · show Act.put _ (some 34) _ = _
   simp only [Act.put, z1_, z2_, z3_, i64_w, i32_w]
   rfl
 refine pu_ HT_ 32 35 (B_ 8589934591 34) ?_
 refine pu_ HT_ 33 2 (B_ 17179869183 34) ?_
 refine done_ (done_of HT_.out (by kernel_rfl)) ?_
 try go_wp2
 go_ret
 exact ⟨rf_, bq_ HB⟩
def spec_FromGens.f (k : Nat) (l0 : List Int) : Option (List Int × Bool) := (spec_l3Gens.f k l0).bind fun t228 => (if t228 = true then ((spec_l3Minimal.f k l0).bind fun t229 => ((spec_IsSemigroup.f k t229).bind fun t233 => (if t233 = true then (some (t229, true)) else (some (([] : List Int), false))))) else (some (([] : List Int), false)))
theorem spec_FromGens.mono : ∀ a0 k, LeO (spec_FromGens.f k a0) (spec_FromGens.f (k + 1) a0) := by
 intro a0 k
 unfold spec_FromGens.f
 repeat' first
  | (with_reducible exact spec_IsSemigroup.mono _ _)
  | (with_reducible exact spec_l3Gens.mono _ _)
  | (with_reducible exact spec_l3Minimal.mono _ _)
  | (with_reducible exact LeO.refl _)
  | (with_reducible exact LeO.none _)
  | (with_reducible refine LeO.ite ?_ ?_)
  | (with_reducible refine LeO.bind ?_ (fun _ => ?_))
  | exact LeO.none _
  | refine LeO.ite ?_ ?_
  | refine LeO.bind ?_ (fun _ => ?_)
theorem spec_FromGens.calls (k : Nat) (A0 : Option Addr) (c0 : Nat) (l0 : List Int) (r1 : List Int) (r2 : Bool) (w : World) (hr0 : Kd.C (Kd.int .i64) w A0 l0.length l0) (hc0 : l0.length ≤ c0) (h : spec_FromGens.f k l0 = some (r1, r2)) :
 Calls Try.prog 38 #[.slice A0 l0.length c0] w fun e w' => ∃ v0_ : Value, e = .returned (.tuple #[.agg #[v0_], .bool r2]) ∧ Kd.R (Kd.int .i64) 3 w' w.heap.size (fun _ => True) v0_ r1 ∧ Below w.heap.size w w' := by
 have hu26 := Try.underlying26
 have HR0 := Aside0.mk hr0
 have HC0 := Aside0.mk hc0
 clear hr0 hc0
 have HB := Aside0.mk (Below.refl w.heap.size w)
 have H := h
 clear h
 unfold spec_FromGens.f at H
 obtain ⟨t228, A2, H⟩ := ob_ H
 by_cases c3 : t228 = true
 rotate_left
 · replace c3 := Bool.eq_false_iff.mpr c3
   subst c3
   rw [if_neg (show ¬ (false = true) by decide)] at H
   simp only [Option.some.injEq, Prod.mk.injEq] at H
   obtain ⟨rfl, rfl⟩ := H
   go_enter Try.func38, Try.ntmps38
   go_wp2_with (first | ((with_reducible refine gate_dst (N := 2) rfl ?_); refine bx_ 2 #[.slice none 0 0] 26 ?_; intro gb227 hg w24 hbox hb; have BK227 := Aside0.mk (hbox); have GW227 := gw_ hg HB; have GE227 := gw_ hg HB; replace HB := bo_ HB hb; clear hb hbox hg) | ((with_reducible refine gate_callee (f := 55) rfl ?_); refine gL_ (some 6) Try.func55 #[.slice A0 l0.length c0] ?_; (with_reducible refine (spec_l3Gens.calls k _ _ l0 false _ ?side1 ?side2 A2.out).mono ?_); (case side1 => exact ch_ HR0 HB); (case side2 => exact HC0.out); rintro e w' ⟨rfl, ⟨nd, rfl⟩⟩; refine ⟨_, rfl, ?_⟩; (try (rw [drewN_self w24]; generalize hq_ : World.drewN w24 _ = w24; have n0_ : Aside0 (w24.heap[gb227]? = some (.cells #[.slice none 0 0] 26 (0, 0))) := ⟨by rw [← hq_]; exact (be_ BK227.out)⟩; have n1_ : Aside0 (Below w.heap.size w w24) := ⟨by rw [← hq_]; exact (bq_ HB)⟩; clear BK227 HB hq_; have BK227 := n0_; have HB := n1_; clear n0_ n1_)); have hcz25_0 := cz_ BK227; have hfz25_0 := blk_frozen BK227.out 0))
   refine bodyPost_ret (results_ct rfl _ _ gb227 26 #[.slice none 0 0] (0, 0) _ rfl (bz_ BK227) Try.underlying26 rfl (by kernel_rfl)) rfl ?_
   exact ⟨_, rf_, by first | exact Kd.R_nil _ _ _ _ _ | exact Kd.N_nil _ _ _ _ _ | exact Kd.V_nil _ _ _ _ _ | exact Kd.Q_nil _ _ _ _ _ | exact Kd.S_nil _ _ _ _ _, bq_ HB⟩
 subst c3
 rw [if_pos rfl] at H
 obtain ⟨t229, A4, H⟩ := ob_ H
 obtain ⟨t233, A5, H⟩ := ob_ H
 by_cases c6 : t233 = true
 · subst c6
   rw [if_pos rfl] at H
   simp only [Option.some.injEq, Prod.mk.injEq] at H
   obtain ⟨rfl, rfl⟩ := H
   go_enter Try.func38, Try.ntmps38
   go_wp2_with (first | ((with_reducible refine gate_dst (N := 2) rfl ?_); refine bx_ 2 #[.slice none 0 0] 26 ?_; intro gb227 hg w7 hbox hb; have BK227 := Aside0.mk (hbox); have GW227 := gw_ hg HB; have GE227 := gw_ hg HB; replace HB := bo_ HB hb; clear hb hbox hg) | ((with_reducible refine gate_callee (f := 55) rfl ?_); refine gL_ (some 6) Try.func55 #[.slice A0 l0.length c0] ?_; (with_reducible refine (spec_l3Gens.calls k _ _ l0 true _ ?side1 ?side2 A2.out).mono ?_); (case side1 => exact ch_ HR0 HB); (case side2 => exact HC0.out); rintro e w' ⟨rfl, ⟨nd, rfl⟩⟩; refine ⟨_, rfl, ?_⟩; (try (rw [drewN_self w7]; generalize hq_ : World.drewN w7 _ = w7; have n0_ : Aside0 (w7.heap[gb227]? = some (.cells #[.slice none 0 0] 26 (0, 0))) := ⟨by rw [← hq_]; exact (be_ BK227.out)⟩; have n1_ : Aside0 (Below w.heap.size w w7) := ⟨by rw [← hq_]; exact (bq_ HB)⟩; clear BK227 HB hq_; have BK227 := n0_; have HB := n1_; clear n0_ n1_))) | ((with_reducible refine gate_callee (f := 58) rfl ?_); refine gL_ (some 10) Try.func58 #[.slice A0 l0.length c0] ?_; (with_reducible refine (spec_l3Minimal.calls k _ _ l0 t229 _ ?side1 ?side2 A4.out).mono ?_); (case side1 => exact ch_ HR0 HB); (case side2 => exact HC0.out); rintro e w8 ⟨v230, rfl, ho0, hb⟩; refine ⟨_, rfl, ?_⟩; have HO231 := Aside0.mk (Kd.R_lower ho0 (below_size (bq_ HB))); replace BK227 := bk_ BK227 hb; replace HB := bp_ HB hb; (try clear hb); (try clear ho0); obtain ⟨Ao9, co9, eo9⟩ := Kd.R_slice HO231.out; subst eo9) | ((with_reducible refine gate_dst (N := 4) rfl ?_); refine bx_ 4 #[.slice none 0 0] 26 ?_; intro gb232 hg w10 hbox hb; replace HO231 := Aside0.mk (Kd.R_below (re_ HO231.out) hb); have BK232 := Aside0.mk (hbox); have GW232 := gq_ hg (bq_ HB); have GE232 := gq_ hg (bq_ HB); replace HB := bp_ HB hb; have NB227_232 := nl_ hg BK227; have NB232_227 := ng_ hg BK227; replace BK227 := bk_ BK227 hb; clear hb hbox hg; have hnb11 := NB232_227.out; have hnc11 := NB227_232.out; have hcz12_0 := cz_ BK232; have hfz12_0 := blk_frozen BK232.out 0) | ((with_reducible refine gate_callee (f := 27) rfl ?_); refine gL_ (some 13) Try.func27 #[.agg #[.slice Ao9 t229.length co9]] ?_; (with_reducible refine (spec_IsSemigroup.calls k _ _ t229 true _ ?side1 ?side2 A5.out).mono ?_); (case side1 => refine (Kd.R_reads' (e := 3) (base := w.heap.size) (ok := fun k_ => True) (n := t229.length) (c := co9) ?_).2.2; exact (rf1_ HO231 BK232)); (case side2 => exact (Kd.R_reads' HO231.out).2.1); rintro e w13 ⟨rfl, hb⟩; refine ⟨_, rfl, ?_⟩; replace HO231 := Aside0.mk (Kd.R_below (rf1_ HO231 BK232) hb); replace BK227 := Aside0.mk (blk_below (g := gb227) (o := .cells #[.slice none 0 0] 26 (0, 0)) (ba_ BK227) hb); replace BK232 := Aside0.mk (blk_below (g := gb232) (o := .cells #[.slice Ao9 t229.length co9] 26 (0, 0)) (bz_ BK232) hb); replace HB := bp_ HB hb; (try clear hb); have hcz14_0 := cz_ BK232; have hfz14_0 := blk_frozen BK232.out 0; have hcz15_0 := cz_ BK227; have hfz15_0 := blk_frozen BK227.out 0))
   refine bodyPost_ret (results_ct rfl _ _ gb227 26 #[.slice Ao9 t229.length co9] (0, 0) _ rfl (bz_ BK227) Try.underlying26 rfl (by kernel_rfl)) rfl ?_
   exact ⟨_, rf_, by (with_reducible repeat (first | apply Kd.R_alloc | apply Kd.R_drewN | apply Kd.R_drew)); exact Kd.R_mono (Kd.R_far (p := ⟨gb227, 0, none⟩) (Kd.R_types HO231.out BK227.out (by decide)) (fun _ hk => hk.2) (.slice Ao9 t229.length co9)) (fun _ hk => trivial), bq_ HB⟩
 replace c6 := Bool.eq_false_iff.mpr c6
 subst c6
 rw [if_neg (show ¬ (false = true) by decide)] at H
 simp only [Option.some.injEq, Prod.mk.injEq] at H
 obtain ⟨rfl, rfl⟩ := H
 go_enter Try.func38, Try.ntmps38
 go_wp2_with (first | ((with_reducible refine gate_dst (N := 2) rfl ?_); refine bx_ 2 #[.slice none 0 0] 26 ?_; intro gb227 hg w16 hbox hb; have BK227 := Aside0.mk (hbox); have GW227 := gw_ hg HB; have GE227 := gw_ hg HB; replace HB := bo_ HB hb; clear hb hbox hg) | ((with_reducible refine gate_callee (f := 55) rfl ?_); refine gL_ (some 6) Try.func55 #[.slice A0 l0.length c0] ?_; (with_reducible refine (spec_l3Gens.calls k _ _ l0 true _ ?side1 ?side2 A2.out).mono ?_); (case side1 => exact ch_ HR0 HB); (case side2 => exact HC0.out); rintro e w' ⟨rfl, ⟨nd, rfl⟩⟩; refine ⟨_, rfl, ?_⟩; (try (rw [drewN_self w16]; generalize hq_ : World.drewN w16 _ = w16; have n0_ : Aside0 (w16.heap[gb227]? = some (.cells #[.slice none 0 0] 26 (0, 0))) := ⟨by rw [← hq_]; exact (be_ BK227.out)⟩; have n1_ : Aside0 (Below w.heap.size w w16) := ⟨by rw [← hq_]; exact (bq_ HB)⟩; clear BK227 HB hq_; have BK227 := n0_; have HB := n1_; clear n0_ n1_))) | ((with_reducible refine gate_callee (f := 58) rfl ?_); refine gL_ (some 10) Try.func58 #[.slice A0 l0.length c0] ?_; (with_reducible refine (spec_l3Minimal.calls k _ _ l0 t229 _ ?side1 ?side2 A4.out).mono ?_); (case side1 => exact ch_ HR0 HB); (case side2 => exact HC0.out); rintro e w17 ⟨v230, rfl, ho0, hb⟩; refine ⟨_, rfl, ?_⟩; have HO231 := Aside0.mk (Kd.R_lower ho0 (below_size (bq_ HB))); replace BK227 := bk_ BK227 hb; replace HB := bp_ HB hb; (try clear hb); (try clear ho0); obtain ⟨Ao18, co18, eo18⟩ := Kd.R_slice HO231.out; subst eo18) | ((with_reducible refine gate_dst (N := 4) rfl ?_); refine bx_ 4 #[.slice none 0 0] 26 ?_; intro gb232 hg w19 hbox hb; replace HO231 := Aside0.mk (Kd.R_below (re_ HO231.out) hb); have BK232 := Aside0.mk (hbox); have GW232 := gq_ hg (bq_ HB); have GE232 := gq_ hg (bq_ HB); replace HB := bp_ HB hb; have NB227_232 := nl_ hg BK227; have NB232_227 := ng_ hg BK227; replace BK227 := bk_ BK227 hb; clear hb hbox hg; have hnb20 := NB232_227.out; have hnc20 := NB227_232.out; have hcz21_0 := cz_ BK232; have hfz21_0 := blk_frozen BK232.out 0) | ((with_reducible refine gate_callee (f := 27) rfl ?_); refine gL_ (some 13) Try.func27 #[.agg #[.slice Ao18 t229.length co18]] ?_; (with_reducible refine (spec_IsSemigroup.calls k _ _ t229 false _ ?side1 ?side2 A5.out).mono ?_); (case side1 => refine (Kd.R_reads' (e := 3) (base := w.heap.size) (ok := fun k_ => True) (n := t229.length) (c := co18) ?_).2.2; exact (rf1_ HO231 BK232)); (case side2 => exact (Kd.R_reads' HO231.out).2.1); rintro e w22 ⟨rfl, hb⟩; refine ⟨_, rfl, ?_⟩; replace HO231 := Aside0.mk (Kd.R_below (rf1_ HO231 BK232) hb); replace BK227 := Aside0.mk (blk_below (g := gb227) (o := .cells #[.slice none 0 0] 26 (0, 0)) (ba_ BK227) hb); replace BK232 := Aside0.mk (blk_below (g := gb232) (o := .cells #[.slice Ao18 t229.length co18] 26 (0, 0)) (bz_ BK232) hb); replace HB := bp_ HB hb; (try clear hb); have hcz23_0 := cz_ BK227; have hfz23_0 := blk_frozen BK227.out 0))
 refine bodyPost_ret (results_ct rfl _ _ gb227 26 #[.slice none 0 0] (0, 0) _ rfl (bz_ BK227) Try.underlying26 rfl (by kernel_rfl)) rfl ?_
 exact ⟨_, rf_, by first | exact Kd.R_nil _ _ _ _ _ | exact Kd.N_nil _ _ _ _ _ | exact Kd.V_nil _ _ _ _ _ | exact Kd.Q_nil _ _ _ _ _ | exact Kd.S_nil _ _ _ _ _, bq_ HB⟩
def spec_l3List.f (s0_0 : List Int) (s0_1 : Int) (s0_2 : Int) : Option (List Int × Int × Int) := (spec_l1Below.f s0_0 s0_1 s0_2 8).bind fun bt234 => (if bt234.1 = 0 then (some ((([1] : List Int)), bt234.2.1, bt234.2.2)) else (if bt234.1 = 1 then (some ((([3, 5] : List Int)), bt234.2.1, bt234.2.2)) else (if bt234.1 = 2 then (some ((([4, 6, 9] : List Int)), bt234.2.1, bt234.2.2)) else (if bt234.1 = 3 then (some ((([3, 4, 5] : List Int)), bt234.2.1, bt234.2.2)) else (if bt234.1 = 4 then (some ((([6, 9, 20] : List Int)), bt234.2.1, bt234.2.2)) else (if bt234.1 = 5 then (some ((([5, 7, 9, 11] : List Int)), bt234.2.1, bt234.2.2)) else (if bt234.1 = 6 then (some ((([2, 3] : List Int)), bt234.2.1, bt234.2.2)) else (some ((([4, 5, 11] : List Int)), bt234.2.1, bt234.2.2)))))))))
theorem spec_l3List.calls (g : Nat) (s0_0 : List Int) (s0_1 : Int) (s0_2 : Int) (r1 : List Int) (r2 : Int) (r3 : Int) (w0 w : World) (hI : IsS55 w0 w g s0_0 s0_1 s0_2) (hB : Below w0.heap.size w0 w) (h : spec_l3List.f s0_0 s0_1 s0_2 = some (r1, r2, r3)) :
 Calls Try.prog 70 #[.pointer (some ⟨g, 0, none⟩)] w fun e w' => ∃ v0_ : Value, e = .returned (v0_) ∧ Kd.R (Kd.int .i64) 3 w' w.heap.size (fun _ => True) v0_ r1 ∧ IsS55 w0 w' g s0_0 r2 r3 ∧ Below w0.heap.size w0 w' ∧ KeepBut w w' g none := by
 have HI0 := Aside0.mk hI
 have HK := Aside0.mk (KeepBut.refl w g none)
 have HL := Aside0.mk hB.size
 clear hI
 have HW0 := Aside0.mk hB.size
 have HB := Aside0.mk hB
 clear hB
 have H := h
 clear h
 unfold spec_l3List.f at H
 obtain ⟨⟨t234, t235, t236⟩, A2, H⟩ := ob_ H
 (try dsimp only at H)
 by_cases c3 : t234 = 0
 · rw [if_pos c3] at H
   have c3b0 : (t234 == 0) = true := beq_iff_eq.mpr c3
   have c3b1 : (t234 != 0) = false := bne_eq_false_iff_eq.mpr c3
   clear c3
   obtain ⟨y237, hy237⟩ : ∃ y_ : List Int, y_ = (([1] : List Int)) := ⟨_, rfl⟩
   replace H : (some (y237, t235, t236)) = some (r1, r2, r3) := by subst hy237; exact H
   have Ny237 := Aside0.mk hy237
   clear hy237
   simp only [Option.some.injEq, Prod.mk.injEq] at H
   obtain ⟨rfl, rfl, rfl⟩ := H
   go_enter Try.func70, Try.ntmps70
   go_wp2_with (first | ((with_reducible refine gate_callee (f := 44) rfl ?_); refine gL_ (some 4) Try.func44 #[.pointer (some ⟨g, 0, none⟩), .int .i64 8] ?_; (with_reducible refine (spec_l1Below.calls g s0_0 s0_1 s0_2 8 t234 t235 t236 w0 _ ?side1 ?side2 A2.out).mono ?_); (case side1 => exact IsS55.q_ HI0); (case side2 => exact bi_ HB (IsS55.ge HI0.out)); rintro e w4 ⟨rfl, hi, hb, hk⟩; refine ⟨_, rfl, ?_⟩; replace HK := Aside0.mk (KeepBut.trans (kq_ HK) hk (.inl rfl)); replace HB := Aside0.mk (hb); replace HI0 := Aside0.mk (hi); (try clear hb); (try clear hk); (try clear hi)) | ((with_reducible refine gate_dst (N := 7) rfl ?_); refine Kd.R_lit (Kd.int .i64) _ 3 ?hg (N := 7) ?hd (xs := ([1] : List Int)) (inner := [.int .i64 1]) (ok := fun _ => True) (okp := fun _ => True) ?hr ?hp (fun _ hk => hk) trivial (Below.refl _ _) (Nat.le_refl _) (by simp) ?_; (case hd => rfl); (case hg => rfl); (case hr => first | (go_simp; done) | (go_simp; rfl)); (case hp => exact (Reps.one (show Kd.M (Kd.int .i64) _ _ _ 1 [.int .i64 1] from rfl) (Reps.none _ _))); intro v238 w5 ho6 hb hg_ hnew_; clear hg_ hnew_; (first | rw [← Ny237.out] at ho6 | (simp only [Int.reduceToNat] at ho6; rw [← Ny237.out] at ho6)); have HO239 := Aside0.mk (Kd.R_lower ho6 (keep_size (w := w) (g := g) (row := none) (kq_ HK))); replace HK := Aside0.mk (KeepBut.trans (kq_ HK) (KeepBut.of_below hb g none) (.inl rfl)); replace HB := Aside0.mk (below_step (bi_ HB (IsS55.ge HI0.out)) hb); replace HI0 := Aside0.mk (IsS55.below (IsS55.q_ HI0) hb); clear hb ho6))
   go_ret
   exact ⟨_, rf_, re_ HO239.out, IsS55.q_ HI0, bi_ HB (IsS55.ge HI0.out), kq_ HK⟩
 rw [if_neg c3] at H
 have c3b0 : (t234 == 0) = false := beq_eq_false_iff_ne.mpr c3
 have c3b1 : (t234 != 0) = true := bne_iff_ne.mpr c3
 by_cases c7 : t234 = 1
 · rw [if_pos c7] at H
   have c7b0 : (t234 == 1) = true := beq_iff_eq.mpr c7
   have c7b1 : (t234 != 1) = false := bne_eq_false_iff_eq.mpr c7
   clear c7
   obtain ⟨y240, hy240⟩ : ∃ y_ : List Int, y_ = (([3, 5] : List Int)) := ⟨_, rfl⟩
   replace H : (some (y240, t235, t236)) = some (r1, r2, r3) := by subst hy240; exact H
   have Ny240 := Aside0.mk hy240
   clear hy240
   simp only [Option.some.injEq, Prod.mk.injEq] at H
   obtain ⟨rfl, rfl, rfl⟩ := H
   go_enter Try.func70, Try.ntmps70
   go_wp2_with (first | ((with_reducible refine gate_callee (f := 44) rfl ?_); refine gL_ (some 4) Try.func44 #[.pointer (some ⟨g, 0, none⟩), .int .i64 8] ?_; (with_reducible refine (spec_l1Below.calls g s0_0 s0_1 s0_2 8 t234 t235 t236 w0 _ ?side1 ?side2 A2.out).mono ?_); (case side1 => exact IsS55.q_ HI0); (case side2 => exact bi_ HB (IsS55.ge HI0.out)); rintro e w8 ⟨rfl, hi, hb, hk⟩; refine ⟨_, rfl, ?_⟩; replace HK := Aside0.mk (KeepBut.trans (kq_ HK) hk (.inl rfl)); replace HB := Aside0.mk (hb); replace HI0 := Aside0.mk (hi); (try clear hb); (try clear hk); (try clear hi)) | ((with_reducible refine gate_dst (N := 10) rfl ?_); refine Kd.R_lit (Kd.int .i64) _ 3 ?hg (N := 10) ?hd (xs := ([3, 5] : List Int)) (inner := [.int .i64 3, .int .i64 5]) (ok := fun _ => True) (okp := fun _ => True) ?hr ?hp (fun _ hk => hk) trivial (Below.refl _ _) (Nat.le_refl _) (by simp) ?_; (case hd => rfl); (case hg => rfl); (case hr => first | (go_simp; done) | (go_simp; rfl)); (case hp => exact (Reps.one (show Kd.M (Kd.int .i64) _ _ _ 3 [.int .i64 3] from rfl) (Reps.one (show Kd.M (Kd.int .i64) _ _ _ 5 [.int .i64 5] from rfl) (Reps.none _ _)))); intro v241 w9 ho10 hb hg_ hnew_; clear hg_ hnew_; (first | rw [← Ny240.out] at ho10 | (simp only [Int.reduceToNat] at ho10; rw [← Ny240.out] at ho10)); have HO242 := Aside0.mk (Kd.R_lower ho10 (keep_size (w := w) (g := g) (row := none) (kq_ HK))); replace HK := Aside0.mk (KeepBut.trans (kq_ HK) (KeepBut.of_below hb g none) (.inl rfl)); replace HB := Aside0.mk (below_step (bi_ HB (IsS55.ge HI0.out)) hb); replace HI0 := Aside0.mk (IsS55.below (IsS55.q_ HI0) hb); clear hb ho10))
   go_ret
   exact ⟨_, rf_, re_ HO242.out, IsS55.q_ HI0, bi_ HB (IsS55.ge HI0.out), kq_ HK⟩
 rw [if_neg c7] at H
 have c7b0 : (t234 == 1) = false := beq_eq_false_iff_ne.mpr c7
 have c7b1 : (t234 != 1) = true := bne_iff_ne.mpr c7
 by_cases c11 : t234 = 2
 · rw [if_pos c11] at H
   have c11b0 : (t234 == 2) = true := beq_iff_eq.mpr c11
   have c11b1 : (t234 != 2) = false := bne_eq_false_iff_eq.mpr c11
   clear c11
   obtain ⟨y243, hy243⟩ : ∃ y_ : List Int, y_ = (([4, 6, 9] : List Int)) := ⟨_, rfl⟩
   replace H : (some (y243, t235, t236)) = some (r1, r2, r3) := by subst hy243; exact H
   have Ny243 := Aside0.mk hy243
   clear hy243
   simp only [Option.some.injEq, Prod.mk.injEq] at H
   obtain ⟨rfl, rfl, rfl⟩ := H
   go_enter Try.func70, Try.ntmps70
   go_wp2_with (first | ((with_reducible refine gate_callee (f := 44) rfl ?_); refine gL_ (some 4) Try.func44 #[.pointer (some ⟨g, 0, none⟩), .int .i64 8] ?_; (with_reducible refine (spec_l1Below.calls g s0_0 s0_1 s0_2 8 t234 t235 t236 w0 _ ?side1 ?side2 A2.out).mono ?_); (case side1 => exact IsS55.q_ HI0); (case side2 => exact bi_ HB (IsS55.ge HI0.out)); rintro e w12 ⟨rfl, hi, hb, hk⟩; refine ⟨_, rfl, ?_⟩; replace HK := Aside0.mk (KeepBut.trans (kq_ HK) hk (.inl rfl)); replace HB := Aside0.mk (hb); replace HI0 := Aside0.mk (hi); (try clear hb); (try clear hk); (try clear hi)) | ((with_reducible refine gate_dst (N := 13) rfl ?_); refine Kd.R_lit (Kd.int .i64) _ 3 ?hg (N := 13) ?hd (xs := ([4, 6, 9] : List Int)) (inner := [.int .i64 4, .int .i64 6, .int .i64 9]) (ok := fun _ => True) (okp := fun _ => True) ?hr ?hp (fun _ hk => hk) trivial (Below.refl _ _) (Nat.le_refl _) (by simp) ?_; (case hd => rfl); (case hg => rfl); (case hr => first | (go_simp; done) | (go_simp; rfl)); (case hp => exact (Reps.one (show Kd.M (Kd.int .i64) _ _ _ 4 [.int .i64 4] from rfl) (Reps.one (show Kd.M (Kd.int .i64) _ _ _ 6 [.int .i64 6] from rfl) (Reps.one (show Kd.M (Kd.int .i64) _ _ _ 9 [.int .i64 9] from rfl) (Reps.none _ _))))); intro v244 w13 ho14 hb hg_ hnew_; clear hg_ hnew_; (first | rw [← Ny243.out] at ho14 | (simp only [Int.reduceToNat] at ho14; rw [← Ny243.out] at ho14)); have HO245 := Aside0.mk (Kd.R_lower ho14 (keep_size (w := w) (g := g) (row := none) (kq_ HK))); replace HK := Aside0.mk (KeepBut.trans (kq_ HK) (KeepBut.of_below hb g none) (.inl rfl)); replace HB := Aside0.mk (below_step (bi_ HB (IsS55.ge HI0.out)) hb); replace HI0 := Aside0.mk (IsS55.below (IsS55.q_ HI0) hb); clear hb ho14))
   go_ret
   exact ⟨_, rf_, re_ HO245.out, IsS55.q_ HI0, bi_ HB (IsS55.ge HI0.out), kq_ HK⟩
 rw [if_neg c11] at H
 have c11b0 : (t234 == 2) = false := beq_eq_false_iff_ne.mpr c11
 have c11b1 : (t234 != 2) = true := bne_iff_ne.mpr c11
 by_cases c15 : t234 = 3
 · rw [if_pos c15] at H
   have c15b0 : (t234 == 3) = true := beq_iff_eq.mpr c15
   have c15b1 : (t234 != 3) = false := bne_eq_false_iff_eq.mpr c15
   clear c15
   obtain ⟨y246, hy246⟩ : ∃ y_ : List Int, y_ = (([3, 4, 5] : List Int)) := ⟨_, rfl⟩
   replace H : (some (y246, t235, t236)) = some (r1, r2, r3) := by subst hy246; exact H
   have Ny246 := Aside0.mk hy246
   clear hy246
   simp only [Option.some.injEq, Prod.mk.injEq] at H
   obtain ⟨rfl, rfl, rfl⟩ := H
   go_enter Try.func70, Try.ntmps70
   go_wp2_with (first | ((with_reducible refine gate_callee (f := 44) rfl ?_); refine gL_ (some 4) Try.func44 #[.pointer (some ⟨g, 0, none⟩), .int .i64 8] ?_; (with_reducible refine (spec_l1Below.calls g s0_0 s0_1 s0_2 8 t234 t235 t236 w0 _ ?side1 ?side2 A2.out).mono ?_); (case side1 => exact IsS55.q_ HI0); (case side2 => exact bi_ HB (IsS55.ge HI0.out)); rintro e w16 ⟨rfl, hi, hb, hk⟩; refine ⟨_, rfl, ?_⟩; replace HK := Aside0.mk (KeepBut.trans (kq_ HK) hk (.inl rfl)); replace HB := Aside0.mk (hb); replace HI0 := Aside0.mk (hi); (try clear hb); (try clear hk); (try clear hi)) | ((with_reducible refine gate_dst (N := 16) rfl ?_); refine Kd.R_lit (Kd.int .i64) _ 3 ?hg (N := 16) ?hd (xs := ([3, 4, 5] : List Int)) (inner := [.int .i64 3, .int .i64 4, .int .i64 5]) (ok := fun _ => True) (okp := fun _ => True) ?hr ?hp (fun _ hk => hk) trivial (Below.refl _ _) (Nat.le_refl _) (by simp) ?_; (case hd => rfl); (case hg => rfl); (case hr => first | (go_simp; done) | (go_simp; rfl)); (case hp => exact (Reps.one (show Kd.M (Kd.int .i64) _ _ _ 3 [.int .i64 3] from rfl) (Reps.one (show Kd.M (Kd.int .i64) _ _ _ 4 [.int .i64 4] from rfl) (Reps.one (show Kd.M (Kd.int .i64) _ _ _ 5 [.int .i64 5] from rfl) (Reps.none _ _))))); intro v247 w17 ho18 hb hg_ hnew_; clear hg_ hnew_; (first | rw [← Ny246.out] at ho18 | (simp only [Int.reduceToNat] at ho18; rw [← Ny246.out] at ho18)); have HO248 := Aside0.mk (Kd.R_lower ho18 (keep_size (w := w) (g := g) (row := none) (kq_ HK))); replace HK := Aside0.mk (KeepBut.trans (kq_ HK) (KeepBut.of_below hb g none) (.inl rfl)); replace HB := Aside0.mk (below_step (bi_ HB (IsS55.ge HI0.out)) hb); replace HI0 := Aside0.mk (IsS55.below (IsS55.q_ HI0) hb); clear hb ho18))
   go_ret
   exact ⟨_, rf_, re_ HO248.out, IsS55.q_ HI0, bi_ HB (IsS55.ge HI0.out), kq_ HK⟩
 rw [if_neg c15] at H
 have c15b0 : (t234 == 3) = false := beq_eq_false_iff_ne.mpr c15
 have c15b1 : (t234 != 3) = true := bne_iff_ne.mpr c15
 by_cases c19 : t234 = 4
 · rw [if_pos c19] at H
   have c19b0 : (t234 == 4) = true := beq_iff_eq.mpr c19
   have c19b1 : (t234 != 4) = false := bne_eq_false_iff_eq.mpr c19
   clear c19
   obtain ⟨y249, hy249⟩ : ∃ y_ : List Int, y_ = (([6, 9, 20] : List Int)) := ⟨_, rfl⟩
   replace H : (some (y249, t235, t236)) = some (r1, r2, r3) := by subst hy249; exact H
   have Ny249 := Aside0.mk hy249
   clear hy249
   simp only [Option.some.injEq, Prod.mk.injEq] at H
   obtain ⟨rfl, rfl, rfl⟩ := H
   go_enter Try.func70, Try.ntmps70
   go_wp2_with (first | ((with_reducible refine gate_callee (f := 44) rfl ?_); refine gL_ (some 4) Try.func44 #[.pointer (some ⟨g, 0, none⟩), .int .i64 8] ?_; (with_reducible refine (spec_l1Below.calls g s0_0 s0_1 s0_2 8 t234 t235 t236 w0 _ ?side1 ?side2 A2.out).mono ?_); (case side1 => exact IsS55.q_ HI0); (case side2 => exact bi_ HB (IsS55.ge HI0.out)); rintro e w20 ⟨rfl, hi, hb, hk⟩; refine ⟨_, rfl, ?_⟩; replace HK := Aside0.mk (KeepBut.trans (kq_ HK) hk (.inl rfl)); replace HB := Aside0.mk (hb); replace HI0 := Aside0.mk (hi); (try clear hb); (try clear hk); (try clear hi)) | ((with_reducible refine gate_dst (N := 19) rfl ?_); refine Kd.R_lit (Kd.int .i64) _ 3 ?hg (N := 19) ?hd (xs := ([6, 9, 20] : List Int)) (inner := [.int .i64 6, .int .i64 9, .int .i64 20]) (ok := fun _ => True) (okp := fun _ => True) ?hr ?hp (fun _ hk => hk) trivial (Below.refl _ _) (Nat.le_refl _) (by simp) ?_; (case hd => rfl); (case hg => rfl); (case hr => first | (go_simp; done) | (go_simp; rfl)); (case hp => exact (Reps.one (show Kd.M (Kd.int .i64) _ _ _ 6 [.int .i64 6] from rfl) (Reps.one (show Kd.M (Kd.int .i64) _ _ _ 9 [.int .i64 9] from rfl) (Reps.one (show Kd.M (Kd.int .i64) _ _ _ 20 [.int .i64 20] from rfl) (Reps.none _ _))))); intro v250 w21 ho22 hb hg_ hnew_; clear hg_ hnew_; (first | rw [← Ny249.out] at ho22 | (simp only [Int.reduceToNat] at ho22; rw [← Ny249.out] at ho22)); have HO251 := Aside0.mk (Kd.R_lower ho22 (keep_size (w := w) (g := g) (row := none) (kq_ HK))); replace HK := Aside0.mk (KeepBut.trans (kq_ HK) (KeepBut.of_below hb g none) (.inl rfl)); replace HB := Aside0.mk (below_step (bi_ HB (IsS55.ge HI0.out)) hb); replace HI0 := Aside0.mk (IsS55.below (IsS55.q_ HI0) hb); clear hb ho22))
   go_ret
   exact ⟨_, rf_, re_ HO251.out, IsS55.q_ HI0, bi_ HB (IsS55.ge HI0.out), kq_ HK⟩
 rw [if_neg c19] at H
 have c19b0 : (t234 == 4) = false := beq_eq_false_iff_ne.mpr c19
 have c19b1 : (t234 != 4) = true := bne_iff_ne.mpr c19
 by_cases c23 : t234 = 5
 · rw [if_pos c23] at H
   have c23b0 : (t234 == 5) = true := beq_iff_eq.mpr c23
   have c23b1 : (t234 != 5) = false := bne_eq_false_iff_eq.mpr c23
   clear c23
   obtain ⟨y252, hy252⟩ : ∃ y_ : List Int, y_ = (([5, 7, 9, 11] : List Int)) := ⟨_, rfl⟩
   replace H : (some (y252, t235, t236)) = some (r1, r2, r3) := by subst hy252; exact H
   have Ny252 := Aside0.mk hy252
   clear hy252
   simp only [Option.some.injEq, Prod.mk.injEq] at H
   obtain ⟨rfl, rfl, rfl⟩ := H
   go_enter Try.func70, Try.ntmps70
   go_wp2_with (first | ((with_reducible refine gate_callee (f := 44) rfl ?_); refine gL_ (some 4) Try.func44 #[.pointer (some ⟨g, 0, none⟩), .int .i64 8] ?_; (with_reducible refine (spec_l1Below.calls g s0_0 s0_1 s0_2 8 t234 t235 t236 w0 _ ?side1 ?side2 A2.out).mono ?_); (case side1 => exact IsS55.q_ HI0); (case side2 => exact bi_ HB (IsS55.ge HI0.out)); rintro e w24 ⟨rfl, hi, hb, hk⟩; refine ⟨_, rfl, ?_⟩; replace HK := Aside0.mk (KeepBut.trans (kq_ HK) hk (.inl rfl)); replace HB := Aside0.mk (hb); replace HI0 := Aside0.mk (hi); (try clear hb); (try clear hk); (try clear hi)) | ((with_reducible refine gate_dst (N := 22) rfl ?_); refine Kd.R_lit (Kd.int .i64) _ 3 ?hg (N := 22) ?hd (xs := ([5, 7, 9, 11] : List Int)) (inner := [.int .i64 5, .int .i64 7, .int .i64 9, .int .i64 11]) (ok := fun _ => True) (okp := fun _ => True) ?hr ?hp (fun _ hk => hk) trivial (Below.refl _ _) (Nat.le_refl _) (by simp) ?_; (case hd => rfl); (case hg => rfl); (case hr => first | (go_simp; done) | (go_simp; rfl)); (case hp => exact (Reps.one (show Kd.M (Kd.int .i64) _ _ _ 5 [.int .i64 5] from rfl) (Reps.one (show Kd.M (Kd.int .i64) _ _ _ 7 [.int .i64 7] from rfl) (Reps.one (show Kd.M (Kd.int .i64) _ _ _ 9 [.int .i64 9] from rfl) (Reps.one (show Kd.M (Kd.int .i64) _ _ _ 11 [.int .i64 11] from rfl) (Reps.none _ _)))))); intro v253 w25 ho26 hb hg_ hnew_; clear hg_ hnew_; (first | rw [← Ny252.out] at ho26 | (simp only [Int.reduceToNat] at ho26; rw [← Ny252.out] at ho26)); have HO254 := Aside0.mk (Kd.R_lower ho26 (keep_size (w := w) (g := g) (row := none) (kq_ HK))); replace HK := Aside0.mk (KeepBut.trans (kq_ HK) (KeepBut.of_below hb g none) (.inl rfl)); replace HB := Aside0.mk (below_step (bi_ HB (IsS55.ge HI0.out)) hb); replace HI0 := Aside0.mk (IsS55.below (IsS55.q_ HI0) hb); clear hb ho26))
   go_ret
   exact ⟨_, rf_, re_ HO254.out, IsS55.q_ HI0, bi_ HB (IsS55.ge HI0.out), kq_ HK⟩
 rw [if_neg c23] at H
 have c23b0 : (t234 == 5) = false := beq_eq_false_iff_ne.mpr c23
 have c23b1 : (t234 != 5) = true := bne_iff_ne.mpr c23
 by_cases c27 : t234 = 6
 rotate_left
 · rw [if_neg c27] at H
   have c27b0 : (t234 == 6) = false := beq_eq_false_iff_ne.mpr c27
   have c27b1 : (t234 != 6) = true := bne_iff_ne.mpr c27
   obtain ⟨y258, hy258⟩ : ∃ y_ : List Int, y_ = (([4, 5, 11] : List Int)) := ⟨_, rfl⟩
   replace H : (some (y258, t235, t236)) = some (r1, r2, r3) := by subst hy258; exact H
   have Ny258 := Aside0.mk hy258
   clear hy258
   simp only [Option.some.injEq, Prod.mk.injEq] at H
   obtain ⟨rfl, rfl, rfl⟩ := H
   go_enter Try.func70, Try.ntmps70
   go_wp2_with (first | ((with_reducible refine gate_callee (f := 44) rfl ?_); refine gL_ (some 4) Try.func44 #[.pointer (some ⟨g, 0, none⟩), .int .i64 8] ?_; (with_reducible refine (spec_l1Below.calls g s0_0 s0_1 s0_2 8 t234 t235 t236 w0 _ ?side1 ?side2 A2.out).mono ?_); (case side1 => exact IsS55.q_ HI0); (case side2 => exact bi_ HB (IsS55.ge HI0.out)); rintro e w31 ⟨rfl, hi, hb, hk⟩; refine ⟨_, rfl, ?_⟩; replace HK := Aside0.mk (KeepBut.trans (kq_ HK) hk (.inl rfl)); replace HB := Aside0.mk (hb); replace HI0 := Aside0.mk (hi); (try clear hb); (try clear hk); (try clear hi)) | ((with_reducible refine gate_dst (N := 26) rfl ?_); refine Kd.R_lit (Kd.int .i64) _ 3 ?hg (N := 26) ?hd (xs := ([4, 5, 11] : List Int)) (inner := [.int .i64 4, .int .i64 5, .int .i64 11]) (ok := fun _ => True) (okp := fun _ => True) ?hr ?hp (fun _ hk => hk) trivial (Below.refl _ _) (Nat.le_refl _) (by simp) ?_; (case hd => rfl); (case hg => rfl); (case hr => first | (go_simp; done) | (go_simp; rfl)); (case hp => exact (Reps.one (show Kd.M (Kd.int .i64) _ _ _ 4 [.int .i64 4] from rfl) (Reps.one (show Kd.M (Kd.int .i64) _ _ _ 5 [.int .i64 5] from rfl) (Reps.one (show Kd.M (Kd.int .i64) _ _ _ 11 [.int .i64 11] from rfl) (Reps.none _ _))))); intro v259 w32 ho33 hb hg_ hnew_; clear hg_ hnew_; (first | rw [← Ny258.out] at ho33 | (simp only [Int.reduceToNat] at ho33; rw [← Ny258.out] at ho33)); have HO260 := Aside0.mk (Kd.R_lower ho33 (keep_size (w := w) (g := g) (row := none) (kq_ HK))); replace HK := Aside0.mk (KeepBut.trans (kq_ HK) (KeepBut.of_below hb g none) (.inl rfl)); replace HB := Aside0.mk (below_step (bi_ HB (IsS55.ge HI0.out)) hb); replace HI0 := Aside0.mk (IsS55.below (IsS55.q_ HI0) hb); clear hb ho33))
   go_ret
   exact ⟨_, rf_, re_ HO260.out, IsS55.q_ HI0, bi_ HB (IsS55.ge HI0.out), kq_ HK⟩
 rw [if_pos c27] at H
 have c27b0 : (t234 == 6) = true := beq_iff_eq.mpr c27
 have c27b1 : (t234 != 6) = false := bne_eq_false_iff_eq.mpr c27
 clear c27
 obtain ⟨y255, hy255⟩ : ∃ y_ : List Int, y_ = (([2, 3] : List Int)) := ⟨_, rfl⟩
 replace H : (some (y255, t235, t236)) = some (r1, r2, r3) := by subst hy255; exact H
 have Ny255 := Aside0.mk hy255
 clear hy255
 simp only [Option.some.injEq, Prod.mk.injEq] at H
 obtain ⟨rfl, rfl, rfl⟩ := H
 go_enter Try.func70, Try.ntmps70
 go_wp2_with (first | ((with_reducible refine gate_callee (f := 44) rfl ?_); refine gL_ (some 4) Try.func44 #[.pointer (some ⟨g, 0, none⟩), .int .i64 8] ?_; (with_reducible refine (spec_l1Below.calls g s0_0 s0_1 s0_2 8 t234 t235 t236 w0 _ ?side1 ?side2 A2.out).mono ?_); (case side1 => exact IsS55.q_ HI0); (case side2 => exact bi_ HB (IsS55.ge HI0.out)); rintro e w28 ⟨rfl, hi, hb, hk⟩; refine ⟨_, rfl, ?_⟩; replace HK := Aside0.mk (KeepBut.trans (kq_ HK) hk (.inl rfl)); replace HB := Aside0.mk (hb); replace HI0 := Aside0.mk (hi); (try clear hb); (try clear hk); (try clear hi)) | ((with_reducible refine gate_dst (N := 25) rfl ?_); refine Kd.R_lit (Kd.int .i64) _ 3 ?hg (N := 25) ?hd (xs := ([2, 3] : List Int)) (inner := [.int .i64 2, .int .i64 3]) (ok := fun _ => True) (okp := fun _ => True) ?hr ?hp (fun _ hk => hk) trivial (Below.refl _ _) (Nat.le_refl _) (by simp) ?_; (case hd => rfl); (case hg => rfl); (case hr => first | (go_simp; done) | (go_simp; rfl)); (case hp => exact (Reps.one (show Kd.M (Kd.int .i64) _ _ _ 2 [.int .i64 2] from rfl) (Reps.one (show Kd.M (Kd.int .i64) _ _ _ 3 [.int .i64 3] from rfl) (Reps.none _ _)))); intro v256 w29 ho30 hb hg_ hnew_; clear hg_ hnew_; (first | rw [← Ny255.out] at ho30 | (simp only [Int.reduceToNat] at ho30; rw [← Ny255.out] at ho30)); have HO257 := Aside0.mk (Kd.R_lower ho30 (keep_size (w := w) (g := g) (row := none) (kq_ HK))); replace HK := Aside0.mk (KeepBut.trans (kq_ HK) (KeepBut.of_below hb g none) (.inl rfl)); replace HB := Aside0.mk (below_step (bi_ HB (IsS55.ge HI0.out)) hb); replace HI0 := Aside0.mk (IsS55.below (IsS55.q_ HI0) hb); clear hb ho30))
 go_ret
 exact ⟨_, rf_, re_ HO257.out, IsS55.q_ HI0, bi_ HB (IsS55.ge HI0.out), kq_ HK⟩
mutual
def spec_l3Draw.l0 : Nat → Int → List Int → Int → Int → Option (List Int × Int × Int)
 | 0, _, _, _, _ => none
 | k + 1, x5, x1000, x1001, x1002 => if x5 < 4 then ((spec_l1Below.f x1000 x1001 x1002 8).bind fun bt285 => ((spec_l1Below.f x1000 bt285.2.1 bt285.2.2 4).bind fun bt291 => (spec_l3Draw.l1 k x5 (([wrap64 (2 + bt285.1)] : List Int)) (wrap64 (1 + bt291.1)) 0 x1000 bt291.2.1 bt291.2.2))) else ((spec_l3List.f x1000 x1001 x1002).bind fun bt275 => ((spec_FromGens.f k bt275.1).bind fun bt280 => (some (bt280.1, bt275.2.1, bt275.2.2))))
def spec_l3Draw.l1 : Nat → Int → List Int → Int → Int → List Int → Int → Int → Option (List Int × Int × Int)
 | 0, _, _, _, _, _, _, _ => none
 | k + 1, x5, x6, x7, x8, x1000, x1001, x1002 => if x8 < x7 then (if 0 < (x6.length : Int) then ((spec_l1Below.f x1000 x1001 x1002 12).bind fun bt295 => (if x6.length < 17592186044416 then (spec_l3Draw.l1 k x5 (x6 ++ [wrap64 ((wrap64 ((rd x6 0) + 1)) + bt295.1)]) x7 (wrap64 (x8 + 1)) x1000 bt295.2.1 bt295.2.2) else (none))) else (none)) else ((spec_FromGens.f k x6).bind fun bt301 => (if bt301.2 = true then (some (bt301.1, x1001, x1002)) else (spec_l3Draw.l0 k (wrap64 (x5 + 1)) x1000 x1001 x1002)))
end
def spec_l3Draw.f (k : Nat) (s0_0 : List Int) (s0_1 : Int) (s0_2 : Int) : Option (List Int × Int × Int) := (spec_l1Once.f s0_0 s0_1 s0_2 4).bind fun bt262 => (if bt262.1 = true then ((spec_l3List.f s0_0 bt262.2.1 bt262.2.2).bind fun bt265 => ((spec_FromGens.f k bt265.1).bind fun bt270 => (some (bt270.1, bt265.2.1, bt265.2.2)))) else (spec_l3Draw.l0 k 0 s0_0 bt262.2.1 bt262.2.2))
def spec_l3Draw.T12 : Bool × List (List Nat × List Nat) := (true, [([], []), ([], []), ([1], [1]), ([2], [2]), ([3], [3]), ([], []), ([5], [5]), ([4, 6], [4, 6]), ([7], [7]), ([0, 8, 6], [0, 8]), ([9, 9, 0, 1, 2, 3, 4, 5, 6, 7, 8, 9], [0, 1, 9])])
def spec_l3Draw.B12 : List Nat := [0, 0, 2, 6, 14, 0, 32, 126, 254, 511, 1023]
theorem spec_l3Draw.tab12 : rtab .any (opsOf Try.f43 12) = spec_l3Draw.T12 := by kernel_rfl
theorem spec_l3Draw.bits12 : waitsOk spec_l3Draw.T12.2 spec_l3Draw.B12 = true := by kernel_rfl
theorem spec_l3Draw.calls (k : Nat) (g : Nat) (s0_0 : List Int) (s0_1 : Int) (s0_2 : Int) (r1 : List Int) (r2 : Int) (r3 : Int) (w0 w : World) (hI : IsS55 w0 w g s0_0 s0_1 s0_2) (hB : Below w0.heap.size w0 w) (h : spec_l3Draw.f k s0_0 s0_1 s0_2 = some (r1, r2, r3)) :
 Calls Try.prog 43 #[.pointer (some ⟨g, 0, none⟩)] w fun e w' => ∃ v0_ : Value, e = .returned (.agg #[v0_]) ∧ Kd.R (Kd.int .i64) 3 w' w.heap.size (fun _ => True) v0_ r1 ∧ IsS55 w0 w' g s0_0 r2 r3 ∧ Below w0.heap.size w0 w' ∧ KeepBut w w' g none := by
 have hu26 := Try.underlying26
 have HI0 := Aside0.mk hI
 have HK := Aside0.mk (KeepBut.refl w g none)
 have HL := Aside0.mk hB.size
 clear hI
 have HW0 := Aside0.mk hB.size
 have HB := Aside0.mk hB
 clear hB
 have H := h
 clear h
 unfold spec_l3Draw.f at H
 obtain ⟨⟨t262, t263, t264⟩, A2, H⟩ := ob_ H
 (try dsimp only at H)
 by_cases c3 : t262 = true
 · subst c3
   rw [if_pos rfl] at H
   obtain ⟨⟨t265, t268, t269⟩, A4, H⟩ := ob_ H
   (try dsimp only at H)
   obtain ⟨⟨t270, t273⟩, A5, H⟩ := ob_ H
   (try dsimp only at H)
   simp only [Option.some.injEq, Prod.mk.injEq] at H
   obtain ⟨rfl, rfl, rfl⟩ := H
   go_enter Try.func43, Try.ntmps43
   go_wp2_with (first | ((with_reducible refine gate_dst (N := 2) rfl ?_); refine bx_ 2 #[.slice none 0 0] 26 ?_; intro gb261 hg w6 hbox hb; replace HB := Aside0.mk (below_step (bi_ HB (IsS55.ge HI0.out)) hb); have BK261 := Aside0.mk (hbox); have GW261 := Aside0.mk ((by rw [hg]; exact (keep_size (w := w) (g := g) (row := none) (kq_ HK)) : w.heap.size ≤ gb261)); have GE261 := Aside0.mk ((Nat.le_trans HW0.out (by rw [hg]; exact (keep_size (w := w) (g := g) (row := none) (kq_ HK)) : w.heap.size ≤ gb261) : w0.heap.size ≤ gb261)); replace HK := Aside0.mk (KeepBut.trans (kq_ HK) (KeepBut.of_below hb g none) (.inl rfl)); have NB0_261 := Aside0.mk ((by rw [hg]; exact Nat.ne_of_lt (IsS55.lt (show IsS55 w0 _ g s0_0 s0_1 s0_2 from IsS55.q_ HI0)) : g ≠ gb261)); have NB261_0 := Aside0.mk ((by rw [hg]; exact Nat.ne_of_gt (IsS55.lt (show IsS55 w0 _ g s0_0 s0_1 s0_2 from IsS55.q_ HI0)) : gb261 ≠ g)); replace HI0 := Aside0.mk (IsS55.below (IsS55.q_ HI0) hb); clear hb hbox hg) | ((with_reducible refine gate_callee (f := 32) rfl ?_); refine gL_ (some 14) Try.func32 #[.pointer (some ⟨g, 0, none⟩), .int .i64 4] ?_; (with_reducible refine (spec_l1Once.calls g s0_0 s0_1 s0_2 4 true t263 t264 w0 _ ?side1 ?side2 A2.out).mono ?_); (case side1 => exact IsS55.q_ HI0); (case side2 => exact bi_ HB (IsS55.ge HI0.out)); rintro e w7 ⟨rfl, hi, hb, hk⟩; refine ⟨_, rfl, ?_⟩; replace BK261 := Aside0.mk (KeepBut.blk hk (g' := gb261) (o := .cells #[.slice none 0 0] 26 (0, 0)) (be_ BK261.out) NB261_0.out (by simp)); replace HK := Aside0.mk (KeepBut.trans (kq_ HK) hk (.inl rfl)); replace HB := Aside0.mk (hb); replace HI0 := Aside0.mk (hi); (try clear hb); (try clear hk); (try clear hi)) | ((with_reducible refine gate_callee (f := 70) rfl ?_); refine gL_ (some 17) Try.func70 #[.pointer (some ⟨g, 0, none⟩)] ?_; (with_reducible refine (spec_l3List.calls g s0_0 t263 t264 t265 t268 t269 w0 _ ?side1 ?side2 A4.out).mono ?_); (case side1 => exact IsS55.q_ HI0); (case side2 => exact bi_ HB (IsS55.ge HI0.out)); rintro e w8 ⟨v266, rfl, ho0, hi, hb, hk⟩; refine ⟨_, rfl, ?_⟩; replace BK261 := Aside0.mk (KeepBut.blk hk (g' := gb261) (o := .cells #[.slice none 0 0] 26 (0, 0)) (be_ BK261.out) NB261_0.out (by simp)); have HO267 := Aside0.mk (Kd.R_lower ho0 (keep_size (w := w) (g := g) (row := none) (kq_ HK))); replace HK := Aside0.mk (KeepBut.trans (kq_ HK) hk (.inl rfl)); replace HB := Aside0.mk (hb); replace HI0 := Aside0.mk (hi); (try clear hb); (try clear hk); (try clear hi); (try clear ho0); obtain ⟨Ao9, co9, eo9⟩ := Kd.R_slice HO267.out; subst eo9) | ((with_reducible refine gate_callee (f := 38) rfl ?_); refine gL_ (some 18) Try.func38 #[.slice Ao9 t265.length co9] ?_; (with_reducible refine (spec_FromGens.calls k _ _ t265 t270 t273 _ ?side1 ?side2 A5.out).mono ?_); (case side1 => exact ce_ ((Kd.R_reads' HO267.out).2.2)); (case side2 => exact (Kd.R_reads' HO267.out).2.1); rintro e w10 ⟨v271, rfl, ho0, hb⟩; refine ⟨_, rfl, ?_⟩; have HO272 := Aside0.mk (Kd.R_lower (Kd.R_new' ho0 (Kd.R_lt (re_ HO267.out))) (keep_size (w := w) (g := g) (row := none) (kq_ HK))); replace HO267 := Aside0.mk (Kd.R_elder' (re_ HO267.out) (Kd.R_base ho0) hb); replace BK261 := bk_ BK261 hb; replace HK := Aside0.mk (KeepBut.trans (kq_ HK) (KeepBut.of_below hb g none) (.inl rfl)); replace HB := Aside0.mk (below_step (bi_ HB (IsS55.ge HI0.out)) hb); replace HI0 := Aside0.mk (IsS55.below (IsS55.q_ HI0) hb); (try clear hb); (try clear ho0)) | ((with_reducible refine gate_dst (N := 3) rfl ?_); refine bx_ 3 #[.slice none 0 0] 26 ?_; intro gb274 hg w11 hbox hb; replace HO267 := Aside0.mk (Kd.R_below (re_ HO267.out) hb); replace HO272 := Aside0.mk (Kd.R_below (re_ HO272.out) hb); replace HB := Aside0.mk (below_step (bi_ HB (IsS55.ge HI0.out)) hb); have BK274 := Aside0.mk (hbox); have GW274 := Aside0.mk ((by rw [hg]; exact (keep_size (w := w) (g := g) (row := none) (kq_ HK)) : w.heap.size ≤ gb274)); have GE274 := Aside0.mk ((Nat.le_trans HW0.out (by rw [hg]; exact (keep_size (w := w) (g := g) (row := none) (kq_ HK)) : w.heap.size ≤ gb274) : w0.heap.size ≤ gb274)); replace HK := Aside0.mk (KeepBut.trans (kq_ HK) (KeepBut.of_below hb g none) (.inl rfl)); have NB261_274 := nl_ hg BK261; have NB274_261 := ng_ hg BK261; replace BK261 := bk_ BK261 hb; have NB0_274 := Aside0.mk ((by rw [hg]; exact Nat.ne_of_lt (IsS55.lt (show IsS55 w0 _ g s0_0 t268 t269 from IsS55.q_ HI0)) : g ≠ gb274)); have NB274_0 := Aside0.mk ((by rw [hg]; exact Nat.ne_of_gt (IsS55.lt (show IsS55 w0 _ g s0_0 t268 t269 from IsS55.q_ HI0)) : gb274 ≠ g)); replace HI0 := Aside0.mk (IsS55.below (IsS55.q_ HI0) hb); clear hb hbox hg; obtain ⟨Ao12, co12, eo12⟩ := Kd.R_slice HO272.out; subst eo12; have hnb13 := NB274_261.out; have hnc13 := NB261_274.out; have hnb14 := NB274_0.out; have hnc14 := NB0_274.out; have hcz15_0 := cz_ BK274; have hfz15_0 := blk_frozen BK274.out 0; have hnb16 := NB261_0.out; have hnc16 := NB0_261.out; have hcz17_0 := cz_ BK261; have hfz17_0 := blk_frozen BK261.out 0))
   refine bodyPost_ret (results_cell_row rfl _ _ gb261 26 #[.slice Ao12 t270.length co12] (0, 0) _ rfl (bz_ BK261) Try.underlying26 rfl (by kernel_rfl)) rfl ?_
   exact ⟨_, rf_, by (with_reducible repeat (first | apply Kd.R_alloc | apply Kd.R_drewN | apply Kd.R_drew)); exact Kd.R_mono (Kd.R_far (p := ⟨gb261, 0, none⟩) (Kd.R_far (p := ⟨gb274, 0, none⟩) (Kd.R_types (Kd.R_types HO272.out BK274.out (by decide)) BK261.out (by decide)) (fun _ hk => hk.1.2) (.slice Ao12 t270.length co12)) (fun _ hk => hk.2) (.slice Ao12 t270.length co12)) (fun _ hk => trivial), IsS55.q_ HI0, bi_ HB (IsS55.ge HI0.out), kq_ HK⟩
 replace c3 := Bool.eq_false_iff.mpr c3
 subst c3
 rw [if_neg (show ¬ (false = true) by decide)] at H
 have H' := Aside0.mk H
 clear H
 go_enter Try.func43, Try.ntmps43
 go_wp2_with (first | ((with_reducible refine gate_dst (N := 2) rfl ?_); refine bx_ 2 #[.slice none 0 0] 26 ?_; intro gb261 hg w18 hbox hb; replace HB := Aside0.mk (below_step (bi_ HB (IsS55.ge HI0.out)) hb); have BK261 := Aside0.mk (hbox); have GW261 := Aside0.mk ((by rw [hg]; exact (keep_size (w := w) (g := g) (row := none) (kq_ HK)) : w.heap.size ≤ gb261)); have GE261 := Aside0.mk ((Nat.le_trans HW0.out (by rw [hg]; exact (keep_size (w := w) (g := g) (row := none) (kq_ HK)) : w.heap.size ≤ gb261) : w0.heap.size ≤ gb261)); replace HK := Aside0.mk (KeepBut.trans (kq_ HK) (KeepBut.of_below hb g none) (.inl rfl)); have NB0_261 := Aside0.mk ((by rw [hg]; exact Nat.ne_of_lt (IsS55.lt (show IsS55 w0 _ g s0_0 s0_1 s0_2 from IsS55.q_ HI0)) : g ≠ gb261)); have NB261_0 := Aside0.mk ((by rw [hg]; exact Nat.ne_of_gt (IsS55.lt (show IsS55 w0 _ g s0_0 s0_1 s0_2 from IsS55.q_ HI0)) : gb261 ≠ g)); replace HI0 := Aside0.mk (IsS55.below (IsS55.q_ HI0) hb); clear hb hbox hg) | ((with_reducible refine gate_callee (f := 32) rfl ?_); refine gL_ (some 14) Try.func32 #[.pointer (some ⟨g, 0, none⟩), .int .i64 4] ?_; (with_reducible refine (spec_l1Once.calls g s0_0 s0_1 s0_2 4 false t263 t264 w0 _ ?side1 ?side2 A2.out).mono ?_); (case side1 => exact IsS55.q_ HI0); (case side2 => exact bi_ HB (IsS55.ge HI0.out)); rintro e w19 ⟨rfl, hi, hb, hk⟩; refine ⟨_, rfl, ?_⟩; replace BK261 := Aside0.mk (KeepBut.blk hk (g' := gb261) (o := .cells #[.slice none 0 0] 26 (0, 0)) (be_ BK261.out) NB261_0.out (by simp)); replace HK := Aside0.mk (KeepBut.trans (kq_ HK) hk (.inl rfl)); replace HB := Aside0.mk (hb); replace HI0 := Aside0.mk (hi); (try clear hb); (try clear hk); (try clear hi)))
 go_loopg [5] k (fun kq v5 w' => ∃ (x5_1 : Int) (x1001_1 : Int) (x1002_1 : Int), v5 = .int .i64 x5_1 ∧ Aside0 (spec_l3Draw.l0 kq x5_1 s0_0 x1001_1 x1002_1 = some (r1, r2, r3)) ∧ Aside0 (kq ≤ k) ∧ Aside0 (w'.heap[gb261]? = some (.cells #[(.slice none 0 0)] 26 (0, 0))) ∧ Aside0 (IsS55 w0 w' g s0_0 x1001_1 x1002_1) ∧ Aside0 (KeepBut w w' g none) ∧ Aside0 (Below w0.heap.size w0 w'))
 case atStart => exact ⟨(0), (t263), (t264), rs_, H', ⟨Nat.le_refl _⟩, ⟨be_ BK261.out⟩, ⟨IsS55.q_ HI0⟩, ⟨kq_ HK⟩, ⟨bi_ HB (IsS55.ge HI0.out)⟩⟩
 case round =>
  clear H'
  obtain ⟨x5_1, x1001_1, x1002_1, rfl, HA, HK1, BK261, HI0, HK, HB⟩ := hrel
  cases gk with
  | zero => exact absurd HA.out (by simp [spec_l3Draw.l0])
  | succ k1 =>
   have H := HA.out
   clear HA
   simp only [spec_l3Draw.l0] at H
   by_cases c20 : x5_1 < 4
   rotate_left
   · rw [if_neg c20] at H
     have c20b0 : decide (x5_1 < 4) = false := decide_eq_false c20
     clear c20
     obtain ⟨⟨t275, t278, t279⟩, A53, H⟩ := ob_ H
     (try dsimp only at H)
     obtain ⟨⟨t280, t283⟩, A54, H⟩ := ob_ H
     (try dsimp only at H)
     simp only [Option.some.injEq, Prod.mk.injEq] at H
     obtain ⟨rfl, rfl, rfl⟩ := H
     go_wp2_with (first | ((with_reducible refine gate_callee (f := 70) rfl ?_); refine gL_ (some 57) Try.func70 #[.pointer (some ⟨g, 0, none⟩)] ?_; (with_reducible refine (spec_l3List.calls g s0_0 x1001_1 x1002_1 t275 t278 t279 w0 _ ?side1 ?side2 A53.out).mono ?_); (case side1 => exact IsS55.q_ HI0); (case side2 => exact bi_ HB (IsS55.ge HI0.out)); rintro e w55 ⟨v276, rfl, ho0, hi, hb, hk⟩; refine ⟨_, rfl, ?_⟩; replace BK261 := Aside0.mk (KeepBut.blk hk (g' := gb261) (o := .cells #[.slice none 0 0] 26 (0, 0)) (be_ BK261.out) NB261_0.out (by simp)); have HO277 := Aside0.mk (Kd.R_lower ho0 (keep_size (w := w) (g := g) (row := none) (kq_ HK))); replace HK := Aside0.mk (KeepBut.trans (kq_ HK) hk (.inl rfl)); replace HB := Aside0.mk (hb); replace HI0 := Aside0.mk (hi); (try clear hb); (try clear hk); (try clear hi); (try clear ho0); obtain ⟨Ao56, co56, eo56⟩ := Kd.R_slice HO277.out; subst eo56) | ((with_reducible refine gate_callee (f := 38) rfl ?_); refine gL_ (some 58) Try.func38 #[.slice Ao56 t275.length co56] ?_; (with_reducible refine (spec_FromGens.calls k1 _ _ t275 t280 t283 _ ?side1 ?side2 A54.out).mono ?_); (case side1 => exact ce_ ((Kd.R_reads' HO277.out).2.2)); (case side2 => exact (Kd.R_reads' HO277.out).2.1); rintro e w57 ⟨v281, rfl, ho0, hb⟩; refine ⟨_, rfl, ?_⟩; have HO282 := Aside0.mk (Kd.R_lower (Kd.R_new' ho0 (Kd.R_lt (re_ HO277.out))) (keep_size (w := w) (g := g) (row := none) (kq_ HK))); replace HO277 := Aside0.mk (Kd.R_elder' (re_ HO277.out) (Kd.R_base ho0) hb); replace BK261 := bk_ BK261 hb; replace HK := Aside0.mk (KeepBut.trans (kq_ HK) (KeepBut.of_below hb g none) (.inl rfl)); replace HB := Aside0.mk (below_step (bi_ HB (IsS55.ge HI0.out)) hb); replace HI0 := Aside0.mk (IsS55.below (IsS55.q_ HI0) hb); (try clear hb); (try clear ho0)) | ((with_reducible refine gate_dst (N := 11) rfl ?_); refine bx_ 11 #[.slice none 0 0] 26 ?_; intro gb284 hg w58 hbox hb; replace HO277 := Aside0.mk (Kd.R_below (re_ HO277.out) hb); replace HO282 := Aside0.mk (Kd.R_below (re_ HO282.out) hb); replace HB := Aside0.mk (below_step (bi_ HB (IsS55.ge HI0.out)) hb); have BK284 := Aside0.mk (hbox); have GW284 := Aside0.mk ((by rw [hg]; exact (keep_size (w := w) (g := g) (row := none) (kq_ HK)) : w.heap.size ≤ gb284)); have GE284 := Aside0.mk ((Nat.le_trans HW0.out (by rw [hg]; exact (keep_size (w := w) (g := g) (row := none) (kq_ HK)) : w.heap.size ≤ gb284) : w0.heap.size ≤ gb284)); replace HK := Aside0.mk (KeepBut.trans (kq_ HK) (KeepBut.of_below hb g none) (.inl rfl)); have NB261_284 := nl_ hg BK261; have NB284_261 := ng_ hg BK261; replace BK261 := bk_ BK261 hb; have NB0_284 := Aside0.mk ((by rw [hg]; exact Nat.ne_of_lt (IsS55.lt (show IsS55 w0 _ g s0_0 t278 t279 from IsS55.q_ HI0)) : g ≠ gb284)); have NB284_0 := Aside0.mk ((by rw [hg]; exact Nat.ne_of_gt (IsS55.lt (show IsS55 w0 _ g s0_0 t278 t279 from IsS55.q_ HI0)) : gb284 ≠ g)); replace HI0 := Aside0.mk (IsS55.below (IsS55.q_ HI0) hb); clear hb hbox hg; obtain ⟨Ao59, co59, eo59⟩ := Kd.R_slice HO282.out; subst eo59; have hnb60 := NB284_261.out; have hnc60 := NB261_284.out; have hnb61 := NB284_0.out; have hnc61 := NB0_284.out; have hcz62_0 := cz_ BK284; have hfz62_0 := blk_frozen BK284.out 0; have hnb63 := NB261_0.out; have hnc63 := NB0_261.out; have hcz64_0 := cz_ BK261; have hfz64_0 := blk_frozen BK261.out 0))
     refine bodyPost_ret (results_cell_row rfl _ _ gb261 26 #[.slice Ao59 t280.length co59] (0, 0) _ rfl (bz_ BK261) Try.underlying26 rfl (by kernel_rfl)) rfl ?_
     exact ⟨_, rf_, by (with_reducible repeat (first | apply Kd.R_alloc | apply Kd.R_drewN | apply Kd.R_drew)); exact Kd.R_mono (Kd.R_far (p := ⟨gb261, 0, none⟩) (Kd.R_far (p := ⟨gb284, 0, none⟩) (Kd.R_types (Kd.R_types HO282.out BK284.out (by decide)) BK261.out (by decide)) (fun _ hk => hk.1.2) (.slice Ao59 t280.length co59)) (fun _ hk => hk.2) (.slice Ao59 t280.length co59)) (fun _ hk => trivial), IsS55.q_ HI0, bi_ HB (IsS55.ge HI0.out), kq_ HK⟩
   rw [if_pos c20] at H
   have c20b0 : decide (x5_1 < 4) = true := decide_eq_true c20
   clear c20
   obtain ⟨⟨t285, t286, t287⟩, A21, H⟩ := ob_ H
   (try dsimp only at H)
   obtain ⟨y288, hy288⟩ : ∃ y_ : List Int, y_ = (([wrap64 (2 + t285)] : List Int)) := ⟨_, rfl⟩
   replace H : ((spec_l1Below.f s0_0 t286 t287 4).bind fun bt291 => (spec_l3Draw.l1 k1 x5_1 y288 (wrap64 (1 + bt291.1)) 0 s0_0 bt291.2.1 bt291.2.2)) = some (r1, r2, r3) := by subst hy288; exact H
   have Ny288 := Aside0.mk hy288
   clear hy288
   obtain ⟨⟨t291, t292, t293⟩, A22, H⟩ := ob_ H
   (try dsimp only at H)
   have H' := Aside0.mk H
   clear H
   go_wp2_with (first | ((with_reducible refine gate_callee (f := 44) rfl ?_); refine gL_ (some 27) Try.func44 #[.pointer (some ⟨g, 0, none⟩), .int .i64 8] ?_; (with_reducible refine (spec_l1Below.calls g s0_0 x1001_1 x1002_1 8 t285 t286 t287 w0 _ ?side1 ?side2 A21.out).mono ?_); (case side1 => exact IsS55.q_ HI0); (case side2 => exact bi_ HB (IsS55.ge HI0.out)); rintro e w23 ⟨rfl, hi, hb, hk⟩; refine ⟨_, rfl, ?_⟩; replace BK261 := Aside0.mk (KeepBut.blk hk (g' := gb261) (o := .cells #[.slice none 0 0] 26 (0, 0)) (be_ BK261.out) NB261_0.out (by simp)); replace HK := Aside0.mk (KeepBut.trans (kq_ HK) hk (.inl rfl)); replace HB := Aside0.mk (hb); replace HI0 := Aside0.mk (hi); (try clear hb); (try clear hk); (try clear hi)) | ((with_reducible refine gate_dst (N := 29) rfl ?_); refine Kd.R_lit (Kd.int .i64) _ 3 ?hg (N := 29) ?hd (xs := ([wrap64 (2 + t285)] : List Int)) (inner := [.int .i64 (wrap64 (2 + t285))]) (ok := fun _ => True) (okp := fun _ => True) ?hr ?hp (fun _ hk => hk) trivial (Below.refl _ _) (Nat.le_refl _) (by simp) ?_; (case hd => rfl); (case hg => rfl); (case hr => first | (go_simp; done) | (go_simp; rfl)); (case hp => exact (Reps.one (show Kd.M (Kd.int .i64) _ _ _ (wrap64 (2 + t285)) [.int .i64 (wrap64 (2 + t285))] from rfl) (Reps.none _ _))); intro v289 w24 ho25 hb hg_ hnew_; clear hg_ hnew_; (first | rw [← Ny288.out] at ho25 | (simp only [Int.reduceToNat] at ho25; rw [← Ny288.out] at ho25)); have HO290 := Aside0.mk (Kd.R_lower ho25 (keep_size (w := w) (g := g) (row := none) (kq_ HK))); replace BK261 := bk_ BK261 hb; replace HK := Aside0.mk (KeepBut.trans (kq_ HK) (KeepBut.of_below hb g none) (.inl rfl)); replace HB := Aside0.mk (below_step (bi_ HB (IsS55.ge HI0.out)) hb); replace HI0 := Aside0.mk (IsS55.below (IsS55.q_ HI0) hb); clear hb ho25) | ((with_reducible refine gate_callee (f := 44) rfl ?_); refine gL_ (some 31) Try.func44 #[.pointer (some ⟨g, 0, none⟩), .int .i64 4] ?_; (with_reducible refine (spec_l1Below.calls g s0_0 t286 t287 4 t291 t292 t293 w0 _ ?side1 ?side2 A22.out).mono ?_); (case side1 => exact IsS55.q_ HI0); (case side2 => exact bi_ HB (IsS55.ge HI0.out)); rintro e w26 ⟨rfl, hi, hb, hk⟩; refine ⟨_, rfl, ?_⟩; replace BK261 := Aside0.mk (KeepBut.blk hk (g' := gb261) (o := .cells #[.slice none 0 0] 26 (0, 0)) (be_ BK261.out) NB261_0.out (by simp)); replace HO290 := Aside0.mk (Kd.R_mono (Kd.R_keep (IsS55.apart (show IsS55 w0 _ g s0_0 t286 t287 from IsS55.q_ HI0) (re_ HO290.out) (by decide)) hk (fun _ h => h.2)) (fun _ h => h.1)); replace HK := Aside0.mk (KeepBut.trans (kq_ HK) hk (.inl rfl)); replace HB := Aside0.mk (hb); replace HI0 := Aside0.mk (hi); (try clear hb); (try clear hk); (try clear hi)))
   go_loopg [6, 8] k1 (fun kq v6 v8 w' => ∃ (x6_2 : List Int) (x8_2 : Int) (x1001_2 : Int) (x1002_2 : Int), v8 = .int .i64 x8_2 ∧ Aside0 (spec_l3Draw.l1 kq x5_1 x6_2 (wrap64 (1 + t291)) x8_2 s0_0 x1001_2 x1002_2 = some (r1, r2, r3)) ∧ Aside0 (kq ≤ k1) ∧ Aside0 (Kd.R (Kd.int .i64) 3 w' w.heap.size (fun _ => True) v6 x6_2) ∧ Aside0 (w'.heap[gb261]? = some (.cells #[(.slice none 0 0)] 26 (0, 0))) ∧ Aside0 (IsS55 w0 w' g s0_0 x1001_2 x1002_2) ∧ Aside0 (KeepBut w w' g none) ∧ Aside0 (Below w0.heap.size w0 w'))
   case atStart => exact ⟨(y288), (0), (t292), (t293), rs_, H', ⟨Nat.le_refl _⟩, ⟨re_ HO290.out⟩, ⟨be_ BK261.out⟩, ⟨IsS55.q_ HI0⟩, ⟨kq_ HK⟩, ⟨bi_ HB (IsS55.ge HI0.out)⟩⟩
   case round =>
    clear H'
    try clear c20b0
    obtain ⟨x6_2, x8_2, x1001_2, x1002_2, rfl, HA, HK2, HO_6, BK261, HI0, HK, HB⟩ := hrel
    cases gk with
    | zero => exact absurd HA.out (by simp [spec_l3Draw.l1])
    | succ k2 =>
     have H := HA.out
     clear HA
     simp only [spec_l3Draw.l1] at H
     by_cases c27 : x8_2 < (wrap64 (1 + t291))
     rotate_left
     · rw [if_neg c27] at H
       have c27b0 : decide (x8_2 < (wrap64 (1 + t291))) = false := decide_eq_false c27
       clear c27
       obtain ⟨⟨t301, t304⟩, A35, H⟩ := ob_ H
       (try dsimp only at H)
       by_cases c36 : t304 = true
       · subst c36
         rw [if_pos rfl] at H
         simp only [Option.some.injEq, Prod.mk.injEq] at H
         obtain ⟨rfl, rfl, rfl⟩ := H
         obtain ⟨Ao37, co37, eo37⟩ := Kd.R_slice HO_6.out
         subst eo37
         go_wp2_with (first | ((with_reducible refine gate_callee (f := 38) rfl ?_); refine gL_ (some 50) Try.func38 #[.slice Ao37 x6_2.length co37] ?_; (with_reducible refine (spec_FromGens.calls k2 _ _ x6_2 t301 true _ ?side1 ?side2 A35.out).mono ?_); (case side1 => exact ce_ ((Kd.R_reads' HO_6.out).2.2)); (case side2 => exact (Kd.R_reads' HO_6.out).2.1); rintro e w38 ⟨v302, rfl, ho0, hb⟩; refine ⟨_, rfl, ?_⟩; have HO303 := Aside0.mk (Kd.R_lower (Kd.R_new' ho0 (Kd.R_lt (re_ HO_6.out))) (keep_size (w := w) (g := g) (row := none) (kq_ HK))); replace HO_6 := Aside0.mk (Kd.R_elder' (re_ HO_6.out) (Kd.R_base ho0) hb); replace BK261 := bk_ BK261 hb; replace HK := Aside0.mk (KeepBut.trans (kq_ HK) (KeepBut.of_below hb g none) (.inl rfl)); replace HB := Aside0.mk (below_step (bi_ HB (IsS55.ge HI0.out)) hb); replace HI0 := Aside0.mk (IsS55.below (IsS55.q_ HI0) hb); (try clear hb); (try clear ho0)) | ((with_reducible refine gate_dst (N := 9) rfl ?_); refine bx_ 9 #[.slice none 0 0] 26 ?_; intro gb305 hg w39 hbox hb; replace HO_6 := Aside0.mk (Kd.R_below (re_ HO_6.out) hb); replace HO303 := Aside0.mk (Kd.R_below (re_ HO303.out) hb); replace HB := Aside0.mk (below_step (bi_ HB (IsS55.ge HI0.out)) hb); have BK305 := Aside0.mk (hbox); have GW305 := Aside0.mk ((by rw [hg]; exact (keep_size (w := w) (g := g) (row := none) (kq_ HK)) : w.heap.size ≤ gb305)); have GE305 := Aside0.mk ((Nat.le_trans HW0.out (by rw [hg]; exact (keep_size (w := w) (g := g) (row := none) (kq_ HK)) : w.heap.size ≤ gb305) : w0.heap.size ≤ gb305)); replace HK := Aside0.mk (KeepBut.trans (kq_ HK) (KeepBut.of_below hb g none) (.inl rfl)); have NB261_305 := nl_ hg BK261; have NB305_261 := ng_ hg BK261; replace BK261 := bk_ BK261 hb; have NB0_305 := Aside0.mk ((by rw [hg]; exact Nat.ne_of_lt (IsS55.lt (show IsS55 w0 _ g s0_0 x1001_2 x1002_2 from IsS55.q_ HI0)) : g ≠ gb305)); have NB305_0 := Aside0.mk ((by rw [hg]; exact Nat.ne_of_gt (IsS55.lt (show IsS55 w0 _ g s0_0 x1001_2 x1002_2 from IsS55.q_ HI0)) : gb305 ≠ g)); replace HI0 := Aside0.mk (IsS55.below (IsS55.q_ HI0) hb); clear hb hbox hg; obtain ⟨Ao40, co40, eo40⟩ := Kd.R_slice HO303.out; subst eo40; have hnb41 := NB305_261.out; have hnc41 := NB261_305.out; have hnb42 := NB305_0.out; have hnc42 := NB0_305.out; have hcz43_0 := cz_ BK305; have hfz43_0 := blk_frozen BK305.out 0; have hnb44 := NB261_0.out; have hnc44 := NB0_261.out; have hcz45_0 := cz_ BK261; have hfz45_0 := blk_frozen BK261.out 0))
         refine bodyPost_ret (results_cell_row rfl _ _ gb261 26 #[.slice Ao40 t301.length co40] (0, 0) _ rfl (bz_ BK261) Try.underlying26 rfl (by kernel_rfl)) rfl ?_
         exact ⟨_, rf_, by (with_reducible repeat (first | apply Kd.R_alloc | apply Kd.R_drewN | apply Kd.R_drew)); exact Kd.R_mono (Kd.R_far (p := ⟨gb261, 0, none⟩) (Kd.R_far (p := ⟨gb305, 0, none⟩) (Kd.R_types (Kd.R_types HO303.out BK305.out (by decide)) BK261.out (by decide)) (fun _ hk => hk.1.2) (.slice Ao40 t301.length co40)) (fun _ hk => hk.2) (.slice Ao40 t301.length co40)) (fun _ hk => trivial), IsS55.q_ HI0, bi_ HB (IsS55.ge HI0.out), kq_ HK⟩
       replace c36 := Bool.eq_false_iff.mpr c36
       subst c36
       rw [if_neg (show ¬ (false = true) by decide)] at H
       have H' := Aside0.mk H
       clear H
       obtain ⟨Ao46, co46, eo46⟩ := Kd.R_slice HO_6.out
       subst eo46
       go_wp2_with (first | ((with_reducible refine gate_callee (f := 38) rfl ?_); refine gL_ (some 50) Try.func38 #[.slice Ao46 x6_2.length co46] ?_; (with_reducible refine (spec_FromGens.calls k2 _ _ x6_2 t301 false _ ?side1 ?side2 A35.out).mono ?_); (case side1 => exact ce_ ((Kd.R_reads' HO_6.out).2.2)); (case side2 => exact (Kd.R_reads' HO_6.out).2.1); rintro e w47 ⟨v302, rfl, ho0, hb⟩; refine ⟨_, rfl, ?_⟩; have HO303 := Aside0.mk (Kd.R_lower (Kd.R_new' ho0 (Kd.R_lt (re_ HO_6.out))) (keep_size (w := w) (g := g) (row := none) (kq_ HK))); replace HO_6 := Aside0.mk (Kd.R_elder' (re_ HO_6.out) (Kd.R_base ho0) hb); replace BK261 := bk_ BK261 hb; replace HK := Aside0.mk (KeepBut.trans (kq_ HK) (KeepBut.of_below hb g none) (.inl rfl)); replace HB := Aside0.mk (below_step (bi_ HB (IsS55.ge HI0.out)) hb); replace HI0 := Aside0.mk (IsS55.below (IsS55.q_ HI0) hb); (try clear hb); (try clear ho0)) | ((with_reducible refine gate_dst (N := 9) rfl ?_); refine bx_ 9 #[.slice none 0 0] 26 ?_; intro gb305 hg w48 hbox hb; replace HO_6 := Aside0.mk (Kd.R_below (re_ HO_6.out) hb); replace HO303 := Aside0.mk (Kd.R_below (re_ HO303.out) hb); replace HB := Aside0.mk (below_step (bi_ HB (IsS55.ge HI0.out)) hb); have BK305 := Aside0.mk (hbox); have GW305 := Aside0.mk ((by rw [hg]; exact (keep_size (w := w) (g := g) (row := none) (kq_ HK)) : w.heap.size ≤ gb305)); have GE305 := Aside0.mk ((Nat.le_trans HW0.out (by rw [hg]; exact (keep_size (w := w) (g := g) (row := none) (kq_ HK)) : w.heap.size ≤ gb305) : w0.heap.size ≤ gb305)); replace HK := Aside0.mk (KeepBut.trans (kq_ HK) (KeepBut.of_below hb g none) (.inl rfl)); have NB261_305 := nl_ hg BK261; have NB305_261 := ng_ hg BK261; replace BK261 := bk_ BK261 hb; have NB0_305 := Aside0.mk ((by rw [hg]; exact Nat.ne_of_lt (IsS55.lt (show IsS55 w0 _ g s0_0 x1001_2 x1002_2 from IsS55.q_ HI0)) : g ≠ gb305)); have NB305_0 := Aside0.mk ((by rw [hg]; exact Nat.ne_of_gt (IsS55.lt (show IsS55 w0 _ g s0_0 x1001_2 x1002_2 from IsS55.q_ HI0)) : gb305 ≠ g)); replace HI0 := Aside0.mk (IsS55.below (IsS55.q_ HI0) hb); clear hb hbox hg; obtain ⟨Ao49, co49, eo49⟩ := Kd.R_slice HO303.out; subst eo49; have hnb50 := NB305_261.out; have hnc50 := NB261_305.out; have hnb51 := NB305_0.out; have hnc51 := NB0_305.out; have hcz52_0 := cz_ BK305; have hfz52_0 := blk_frozen BK305.out 0))
       go_roundg k2
       case measure => have := HK1.out; have := HK2.out; omega
       case rel => exact ⟨(wrap64 (x5_1 + 1)), (x1001_2), (x1002_2), rs_, H', ⟨by have := HK1.out; have := HK2.out; omega⟩, ⟨ba_ BK261⟩, ⟨IsS55.q_ HI0⟩, ⟨kq_ HK⟩, ⟨bi_ HB (IsS55.ge HI0.out)⟩⟩
     rw [if_pos c27] at H
     have c27b0 : decide (x8_2 < (wrap64 (1 + t291))) = true := decide_eq_true c27
     clear c27
     obtain ⟨c28, H⟩ := ip_ H
     have c28b0 : decide (0 < (x6_2.length : Int)) = true := decide_eq_true c28
     have c28b1 : decide (0 < x6_2.length) = true := decide_eq_true (by omega)
     clear c28
     obtain ⟨⟨t295, t296, t297⟩, A29, H⟩ := ob_ H
     (try dsimp only at H)
     obtain ⟨c30, H⟩ := ip_ H
     have LMc30 := Aside0.mk c30
     clear c30
     obtain ⟨y298, hy298⟩ : ∃ y_ : List Int, y_ = (x6_2 ++ [wrap64 ((wrap64 ((rd x6_2 0) + 1)) + t295)]) := ⟨_, rfl⟩
     replace H : (spec_l3Draw.l1 k2 x5_1 y298 (wrap64 (1 + t291)) (wrap64 (x8_2 + 1)) s0_0 t296 t297) = some (r1, r2, r3) := by subst hy298; exact H
     have Ny298 := Aside0.mk hy298
     clear hy298
     have H' := Aside0.mk H
     clear H
     try go_wp2
     replace HO_6 := Aside0.mk (Kd.R_drew HO_6.out)
     replace BK261 := Aside0.mk (blk_drew BK261.out)
     replace HI0 := Aside0.mk (IsS55.drew HI0.out)
     replace HK := Aside0.mk (keep_drew HK.out)
     replace HB := Aside0.mk (below_drew1 HB.out)
     obtain ⟨Ao32, co32, eo32⟩ := Kd.R_slice HO_6.out
     (first | subst eo32 | (injection eo32 with f1_ f2_ f3_; have f4_ := f1_.symm; have f5_ := f3_.symm; clear f1_ f2_ f3_; subst f4_; subst f5_))
     have p294 : 0 ≤ (0 : Int) := (by omega)
     have q294 : 0 < (x6_2.length : Int) := od_
     obtain ⟨ad294, e294, hx294_0⟩ := Kd.at_int (Kd.R_reads' HO_6.out).2.2 0 p294 q294
     cases e294
     have qi294 : (0 < x6_2.length) = True := eq_true (by omega)
     (try rw [show ((0 : Int)).toNat = 0 from rfl] at hx294_0)
     (try rw [Addr.add_zero'] at hx294_0)
     replace p294 := eq_true p294
     replace q294 := eq_true q294
     refine start_ (n := 11) (S := fun w' => w'.cell? ad294 = some (.int .i64 (rd x6_2 0))) (ds := [8, 9]) (B_ 0 11) (by kernel_rfl) rfl rfl (hx294_0) (fun hHeld => ?_); refine with_tabW spec_l3Draw.tab12 spec_l3Draw.bits12 (fun HT_ HW_ => ?_)
     generalize wr.drew = w31 at HO_6 BK261 HI0 HK HB hx294_0 hHeld ⊢
     refine pu_ HT_ 0 38 (B_ 1 11) ?_
     refine pu_ HT_ 1 39 (B_ 3 11) ?_
     refine pu_ HT_ 2 40 (B_ 7 11) ?_
     refine pu_ HT_ 5 43 (B_ 39 11) ?_
     refine tk1_ HT_ HW_ hHeld 3 41 (B_ 47 11) ?_
     refine pu_ HT_ 4 42 (B_ 63 11) ?_
     refine on_ HT_ 6 44 (B_ 127 11) (fun K hK => ?_)
     refine goes_ Try.func44 (by kernel_rfl) rfl #[.pointer (some ⟨g, 0, none⟩), .int .i64 12] (by rfl) rfl rfl (by (try simp only [List.map_toArray, List.map_cons, List.map_nil]); first | done | rfl | (simp only [List.length_drop, List.length_take]; rfl)) ?_
     with_reducible refine (spec_l1Below.calls g s0_0 x1001_2 x1002_2 12 t295 t296 t297 w0 _ ?side1 ?side2 A29.out).mono ?_
     (case side1 => exact IsS55.q_ HI0)
     (case side2 => exact bi_ HB (IsS55.ge HI0.out))
     rintro e w33 ⟨rfl, hi, hb, hk⟩
     have HS0_ := keep_cell hk (hHeld) (by first | (rw [add_block]; exact Kd.own_blk (IsS55.own_ne HI0.out HO_6.out (by decide))) | (show (Addr.add _ _).block ≠ _; rw [add_block]; exact Kd.own_blk (IsS55.own_ne HI0.out HO_6.out (by decide))) | exact Kd.own_blk (IsS55.own_ne HI0.out HO_6.out (by decide)))
     refine ⟨_, rfl, ?_⟩
     replace HO_6 := Aside0.mk (Kd.R_mono (Kd.R_keep (IsS55.apart (show IsS55 w0 _ g s0_0 x1001_2 x1002_2 from IsS55.q_ HI0) (re_ HO_6.out) (by decide)) hk (fun _ h => h.2)) (fun _ h => h.1))
     replace BK261 := Aside0.mk (KeepBut.blk hk (g' := gb261) (o := .cells #[.slice none 0 0] 26 (0, 0)) (be_ BK261.out) NB261_0.out (by simp))
     replace HK := Aside0.mk (KeepBut.trans (kq_ HK) hk (.inl rfl))
     replace HB := Aside0.mk (hb)
     replace HI0 := Aside0.mk (hi)
     (try clear hb)
     (try clear hk)
     (try clear hi)
     refine hK.out _ _ (HS0_) (fun hHeld => ?_)
     clear hK K
     refine norm_ (a' := ?_) ?_ ?_
     rotate_left
     · show Act.put _ (some 44) _ = _
       simp only [Act.put, z1_, z2_, z3_, i64_w, i32_w]
       rfl
     refine pu_ HT_ 7 45 (B_ 255 11) ?_
     refine last_ (i := 8) (N := some 46) (B_ 511 11) rfl rfl (one_of HT_.out (by kernel_rfl)) (by decide) (fun K hK => ?_)
     refine value_ (w1 := ?_) (v := ?_) (by rfl) rfl ?_ ?_
     rotate_left 2
     · go_simp
       constructor
       · rfl
       · rfl
     refine hK.out _ _ ?_
     clear hK K
     refine norm_ (a' := ?_) ?_ ?_
     rotate_left
     · show Act.put _ (some 46) _ = _
       simp only [Act.put, z1_, z2_, z3_, i64_w, i32_w]
       rfl
     refine last_ (i := 9) (N := some 47) (B_ 1023 11) rfl rfl (one_of HT_.out (by kernel_rfl)) (by decide) (fun K hK => ?_)
     refine Kd.R_append_step (Kd.int .i64) w.heap.size (by rfl) (.tmp 38) (.tmp 46) 24 3 (.int .i64 0) 8 rfl Try.underlying24 info3 rfl (by decide) (by omega) (.slice (some ad294) x6_2.length co32) x6_2 (wrap64 ((wrap64 ((rd x6_2 0) + 1)) + t295)) [.int .i64 (wrap64 ((wrap64 ((rd x6_2 0) + 1)) + t295))] (fun _ => True) (fun _ => False) rfl rfl ?aP (fun _ hk => hk.elim) ?aF ?aO (Below.refl _ _) ?aS ?aL ?_
     (case aP => exact rfl)
     (case aF => exact (fun _ _ => trivial))
     (case aO => exact (re_ HO_6.out))
     (case aS => exact (keep_size (w := w) (g := g) (row := none) (kq_ HK)))
     (case aL => have := LMc30.out; omega)
     intro v299 w34 ho hb hg hat
     rw [← Ny298.out] at ho
     replace BK261 := Aside0.mk (blk_grown (be_ BK261.out) hg (Kd.R_ne HO_6.out BK261.out (by decide)))
     replace HB := Aside0.mk (below_weaken (bi_ HB (IsS55.ge HI0.out)) HL.out hb)
     replace HI0 := Aside0.mk (IsS55.grown (IsS55.q_ HI0) hg (IsS55.own_ne HI0.out HO_6.out (by decide)))
     replace HK := Aside0.mk (KeepBut.trans (kq_ HK) (KeepBut.of_grown hg g) (Kd.R_base2 HO_6.out))
     have HO300 := Aside0.mk (ho)
     clear HO_6
     clear ho hb hg hat
     refine hK.out _ _ ?_
     clear hK K
     refine norm_ (a' := ?_) ?_ ?_
     rotate_left
     · show Act.put _ (some 47) _ = _
       simp only [Act.put, z1_, z2_, z3_, i64_w, i32_w]
       rfl
     refine pu_ HT_ 10 6 (B_ 2047 11) ?_
     refine done_ (done_of HT_.out (by kernel_rfl)) ?_
     try go_wp2
     go_roundg k2
     case measure => have := HK1.out; have := HK2.out; omega
     case rel => exact ⟨(y298), (wrap64 (x8_2 + 1)), (t296), (t297), rs_, H', ⟨by have := HK1.out; have := HK2.out; omega⟩, ⟨re_ HO300.out⟩, ⟨be_ BK261.out⟩, ⟨IsS55.q_ HI0⟩, ⟨kq_ HK⟩, ⟨bi_ HB (IsS55.ge HI0.out)⟩⟩
def spec_l1PickInt.f (s0_0 : List Int) (s0_1 : Int) (s0_2 : Int) (l1 : List Int) : Option (Int × Int × Int) := (spec_l1Below.f s0_0 s0_1 s0_2 (l1.length : Int)).bind fun bt306 => (if 0 ≤ bt306.1 then (if bt306.1 < (l1.length : Int) then (some (rd l1 bt306.1, bt306.2.1, bt306.2.2)) else (none)) else (none))
theorem spec_l1PickInt.calls (g : Nat) (s0_0 : List Int) (s0_1 : Int) (s0_2 : Int) (A1 : Option Addr) (c1 : Nat) (l1 : List Int) (r1 : Int) (r2 : Int) (r3 : Int) (w0 w : World) (hI : IsS55 w0 w g s0_0 s0_1 s0_2) (hB : Below w0.heap.size w0 w) (hr1 : Kd.C (Kd.int .i64) w A1 l1.length l1) (hc1 : l1.length ≤ c1) (hf1 : ∀ ad, A1 = some ad → 0 < l1.length → ad.block ≠ g) (h : spec_l1PickInt.f s0_0 s0_1 s0_2 l1 = some (r1, r2, r3)) :
 Calls Try.prog 45 #[.pointer (some ⟨g, 0, none⟩), .slice A1 l1.length c1] w fun e w' => e = .returned (.int .i64 r1) ∧ IsS55 w0 w' g s0_0 r2 r3 ∧ Below w0.heap.size w0 w' ∧ KeepBut w w' g none := by
 have HR1 := Aside0.mk hr1
 have HC1 := Aside0.mk hc1
 clear hr1 hc1
 have HI0 := Aside0.mk hI
 have HK := Aside0.mk (KeepBut.refl w g none)
 have HL := Aside0.mk hB.size
 clear hI
 have HW0 := Aside0.mk hB.size
 have HB := Aside0.mk hB
 clear hB
 have H := h
 clear h
 unfold spec_l1PickInt.f at H
 obtain ⟨⟨t306, t307, t308⟩, A3, H⟩ := ob_ H
 (try dsimp only at H)
 obtain ⟨c4b0, H⟩ := ipd_ H
 obtain ⟨c5b0, H⟩ := ipd_ H
 simp only [Option.some.injEq, Prod.mk.injEq] at H
 obtain ⟨rfl, rfl, rfl⟩ := H
 go_enter Try.func45, Try.ntmps45
 go_wp2_with (first | ((with_reducible refine gate_callee (f := 44) rfl ?_); refine gL_ (some 9) Try.func44 #[.pointer (some ⟨g, 0, none⟩), .int .i64 (l1.length : Int)] ?_; (with_reducible refine (spec_l1Below.calls g s0_0 s0_1 s0_2 (l1.length : Int) t306 t307 t308 w0 _ ?side1 ?side2 A3.out).mono ?_); (case side1 => exact IsS55.q_ HI0); (case side2 => exact bi_ HB (IsS55.ge HI0.out)); rintro e w6 ⟨rfl, hi, hb, hk⟩; refine ⟨_, rfl, ?_⟩; replace HK := Aside0.mk (KeepBut.trans (kq_ HK) hk (.inl rfl)); replace HB := Aside0.mk (hb); replace HI0 := Aside0.mk (hi); (try clear hb); (try clear hk); (try clear hi); have p309 : 0 ≤ (t306 : Int) := od_; have q309 : t306 < (l1.length : Int) := od_; obtain ⟨ad309, e309, hx309_0⟩ := Kd.at_int HR1.out t306 p309 q309; cases e309; replace hx309_0 := keep_cell HK.out hx309_0 (by first | (rw [add_block]; exact hf1 _ rfl (by omega)) | exact hf1 _ rfl (by omega) | exact hf1 ad309 rfl (by omega)); replace p309 := eq_true p309; replace q309 := eq_true q309))
 go_ret
 exact ⟨rf_, IsS55.q_ HI0, bi_ HB (IsS55.ge HI0.out), kq_ HK⟩
end Go.Proofs.Ytppkokbhgkeknaa.PA
end
