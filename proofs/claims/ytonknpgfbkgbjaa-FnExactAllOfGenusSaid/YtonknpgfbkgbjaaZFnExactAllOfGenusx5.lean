-- Bundled by shake.py from this session's printed and written texts; Lean checks it.
import Derived.Test.YtonknpgfbkgbjaaZFnExactAllOfGenusx1
import Derived.Test.YtonknpgfbkgbjaaZFnExactAllOfGenusx3
import Derived.Test.YtonknpgfbkgbjaaZFnExactAllOfGenusx4
section
namespace Go.Proofs.Ytonknpgfbkgbjaa.PC
open Go.RowKit Go.Proofs.YtonknpgfbkgbjaaW.PrintWords Go.Proofs.YtonknpgfbkgbjaaW.PrintLast Go.Proofs.YtonknpgfbkgbjaaW.PrintMore
attribute [local go_sem] max2_int min2_int max_two min_two max_three min_three max_four min_four
set_option linter.unusedVariables false
set_option linter.unusedSimpArgs false
set_option maxHeartbeats 8000000
set_option maxRecDepth 100000
def spec_IsSemigroup.f (k : Nat) (l0_0 : List Int) : Option (Bool) := (spec_l3Gens.f k l0_0).bind fun t302 => (if t302 = true then (if (l0_0.length : Int) ≤ 12 then ((spec_IsAscending.f k l0_0).bind fun t303 => (if t303 = true then ((spec_GcdOfList.f k l0_0).bind fun t304 => (if t304 = 1 then ((spec_l3Minimal.f k l0_0).bind fun t305 => ((spec_l2Same.f k t305 l0_0).bind fun t308 => (if t308 = true then ((spec_l3Ends.f k l0_0).bind fun t309 => (some t309)) else (some false)))) else (some false))) else (some false))) else (some false)) else (some false))
theorem spec_IsSemigroup.mono : ∀ a0 k, LeO (spec_IsSemigroup.f k a0) (spec_IsSemigroup.f (k + 1) a0) := by
 intro a0 k
 unfold spec_IsSemigroup.f
 repeat' first
  | (with_reducible exact spec_GcdOfList.mono _ _)
  | (with_reducible exact spec_IsAscending.mono _ _)
  | (with_reducible exact spec_l2Same.mono _ _ _)
  | (with_reducible exact spec_l3Ends.mono _ _)
  | (with_reducible exact spec_l3Gens.mono _ _)
  | (with_reducible exact spec_l3Minimal.mono _ _)
  | (with_reducible exact LeO.refl _)
  | (with_reducible exact LeO.none _)
  | (with_reducible refine LeO.ite ?_ ?_)
  | (with_reducible refine LeO.bind ?_ (fun _ => ?_))
  | exact LeO.none _
  | refine LeO.ite ?_ ?_
  | refine LeO.bind ?_ (fun _ => ?_)
def spec_IsSemigroup.T1 : Bool × List (List Nat × List Nat) := (true, [([], []), ([0], [0]), ([1], [1]), ([2, 2], [2]), ([3], [3]), ([4, 3], [3, 4]), ([5, 3], [3, 5]), ([6, 3], [3, 6]), ([3, 7], [3, 7]), ([8, 3], [8]), ([9], [9]), ([10, 9], [9, 10]), ([11, 9, 9], [9, 11]), ([9, 12], [9, 12]), ([13, 12], [13]), ([14], [14]), ([15, 14], [14, 15]), ([16, 14, 14], [14, 16]), ([17, 14], [14, 17]), ([14, 18], [14, 18]), ([19, 17], [19]), ([20], [20]), ([21, 20], [20, 21]), ([22, 20, 20], [20, 22]), ([20], [20]), ([24, 20], [20, 24]), ([23, 25, 23, 20], [20, 23, 25]), ([20, 26], [20, 26]), ([27, 26], [27]), ([28], [28]), ([29, 28], [28, 29]), ([30, 28, 28], [28, 30]), ([28, 31], [28, 31]), ([32, 31, 0, 1, 2, 3, 4, 5, 6, 7, 8, 9, 10, 11, 12, 13, 14, 15, 16, 17, 18, 19, 20, 21, 22, 23, 24, 25, 26, 27, 28, 29, 30, 31, 32], [32])])
def spec_IsSemigroup.B1 : List Nat := [0, 1, 3, 7, 15, 31, 63, 127, 255, 511, 1023, 2047, 4095, 8191, 16383, 32767, 65535, 131071, 262143, 524287, 1048575, 2097151, 4194303, 8388607, 2097151, 18874367, 67108863, 134217727, 268435455, 536870911, 1073741823, 2147483647, 4294967295, 8589934591]
theorem spec_IsSemigroup.tab1 : rtab .any (opsOf Try.f25 1) = spec_IsSemigroup.T1 := by kernel_rfl
theorem spec_IsSemigroup.bits1 : waitsOk spec_IsSemigroup.T1.2 spec_IsSemigroup.B1 = true := by kernel_rfl
theorem spec_IsSemigroup.calls (k : Nat) (A0_0 : Option Addr) (c0_0 : Nat) (l0_0 : List Int) (r : Bool) (w : World) (hr0_0 : Kd.C (Kd.int .i64) w A0_0 l0_0.length l0_0) (hc0_0 : l0_0.length ≤ c0_0) (h : spec_IsSemigroup.f k l0_0 = some r) :
 Calls Try.prog 25 #[.agg #[.slice A0_0 l0_0.length c0_0]] w fun e w' => e = .returned (.bool r) ∧ Below w.heap.size w w' := by
 have hu26 := Try.underlying26
 have HR0_0 := Aside0.mk hr0_0
 have HC0_0 := Aside0.mk hc0_0
 clear hr0_0 hc0_0
 have HB := Aside0.mk (Below.refl w.heap.size w)
 have H := h
 clear h
 unfold spec_IsSemigroup.f at H
 obtain ⟨t302, A2, H⟩ := ob_ H
 by_cases c3 : t302 = true
 rotate_left
 · replace c3 := Bool.eq_false_iff.mpr c3
   subst c3
   rw [if_neg (show ¬ (false = true) by decide)] at H
   obtain rfl := Option.some.inj H
   go_enter Try.func25, Try.ntmps25
   try go_wp2_with (first | ((with_reducible refine gate_dst (N := 1) rfl ?_); (try (refine gate_guard (by rfl) ?_; dsimp only)); refine bx_ 1 #[.slice A0_0 l0_0.length c0_0] 26 ?_; intro gb301 hg w28 hbox hb; have BK301 := Aside0.mk (hbox); have GW301 := gw_ hg HB; have GE301 := gw_ hg HB; replace HB := bo_ HB hb; clear hb hbox hg))
   replace BK301 := Aside0.mk (blk_drew BK301.out)
   replace HB := Aside0.mk (below_drew1 HB.out)
   refine start_ (n := 34) (S := fun w' => w'.cell? ⟨gb301, 0, none⟩ = some (.slice A0_0 l0_0.length c0_0)) (ds := []) (B_ 0 34) (by kernel_rfl) rfl rfl ((blk_cell BK301.out 0).trans rfl) (fun hHeld => ?_); refine with_tabW spec_IsSemigroup.tab1 spec_IsSemigroup.bits1 (fun HT_ HW_ => ?_)
   generalize w28.drew = w29 at BK301 HB hHeld ⊢
   refine pu_ HT_ 0 3 (B_ 1 34) ?_
   refine tk1_ HT_ HW_ hHeld 1 4 (B_ 3 34) ?_
   refine on_ HT_ 2 5 (B_ 7 34) (fun K hK => ?_)
   refine goes_ Try.func46 (by kernel_rfl) rfl #[.slice A0_0 l0_0.length c0_0] (by rfl) rfl rfl (by (try simp only [List.map_toArray, List.map_cons, List.map_nil]); first | done | rfl | (simp only [List.length_drop, List.length_take]; rfl)) ?_
   with_reducible refine (spec_l3Gens.calls k _ _ l0_0 false _ ?side1 ?side2 A2.out).mono ?_
   (case side1 => exact ch_ HR0_0 HB)
   (case side2 => exact HC0_0.out)
   rintro e w' ⟨rfl, ⟨nd, rfl⟩⟩
   refine ⟨_, rfl, ?_⟩
   refine hK.out _ _ ((blk_cell BK301.out 0).trans rfl) (fun hHeld => ?_)
   clear hK K
   refine norm_ (a' := ?_) ?_ ?_
   rotate_left
   · show Act.put _ (some 5) _ = _
     simp only [Act.put, z1_, z2_, z3_, i64_w, i32_w]
     rfl
   refine pu_ HT_ 3 6 (B_ 15 34) ?_
   refine pn_ HT_ 4 7 (B_ 31 34) ?_
   refine pn_ HT_ 5 8 (B_ 63 34) ?_
   refine pn_ HT_ 6 9 (B_ 127 34) ?_
   refine pn_ HT_ 7 10 (B_ 255 34) ?_
   refine pu_ HT_ 8 11 (B_ 511 34) ?_
   refine pu_ HT_ 9 12 (B_ 1023 34) ?_
   refine pn_ HT_ 10 13 (B_ 2047 34) ?_
   refine pn_ HT_ 11 14 (B_ 4095 34) ?_
   refine pn_ HT_ 12 15 (B_ 8191 34) ?_
   refine pu_ HT_ 13 16 (B_ 16383 34) ?_
   refine pu_ HT_ 14 17 (B_ 32767 34) ?_
   refine pn_ HT_ 15 18 (B_ 65535 34) ?_
   refine pn_ HT_ 16 19 (B_ 131071 34) ?_
   refine pn_ HT_ 17 20 (B_ 262143 34) ?_
   refine pn_ HT_ 18 21 (B_ 524287 34) ?_
   refine pu_ HT_ 19 22 (B_ 1048575 34) ?_
   refine pu_ HT_ 20 23 (B_ 2097151 34) ?_
   refine pn_ HT_ 21 24 (B_ 4194303 34) ?_
   refine pn_ HT_ 22 25 (B_ 8388607 34) ?_
   refine pn_ HT_ 23 26 (B_ 16777215 34) ?_
   refine pn_ HT_ 24 27 (B_ 33554431 34) ?_
   refine pn_ HT_ 25 28 (B_ 67108863 34) ?_
   refine pn_ HT_ 26 29 (B_ 134217727 34) ?_
   refine pu_ HT_ 27 30 (B_ 268435455 34) ?_
   refine pu_ HT_ 28 31 (B_ 536870911 34) ?_
   refine pn_ HT_ 29 32 (B_ 1073741823 34) ?_
   refine pn_ HT_ 30 33 (B_ 2147483647 34) ?_
   refine pn_ HT_ 31 34 (B_ 4294967295 34) ?_
   refine pu_ HT_ 32 35 (B_ 8589934591 34) ?_
   refine pu_ HT_ 33 2 (B_ 17179869183 34) ?_
   refine done_ (done_of HT_.out (by kernel_rfl)) ?_
   try go_wp2
   go_ret
   exact ⟨rf_, bq_ HB⟩
 subst c3
 rw [if_pos rfl] at H
 by_cases c4 : (l0_0.length : Int) ≤ 12
 rotate_left
 · rw [if_neg c4] at H
   have c4b0 : decide ((l0_0.length : Int) ≤ 12) = false := decide_eq_false c4
   have c4b1 : decide (l0_0.length ≤ 12) = false := decide_eq_false (by omega)
   clear c4
   obtain rfl := Option.some.inj H
   go_enter Try.func25, Try.ntmps25
   try go_wp2_with (first | ((with_reducible refine gate_dst (N := 1) rfl ?_); (try (refine gate_guard (by rfl) ?_; dsimp only)); refine bx_ 1 #[.slice A0_0 l0_0.length c0_0] 26 ?_; intro gb301 hg w26 hbox hb; have BK301 := Aside0.mk (hbox); have GW301 := gw_ hg HB; have GE301 := gw_ hg HB; replace HB := bo_ HB hb; clear hb hbox hg))
   replace BK301 := Aside0.mk (blk_drew BK301.out)
   replace HB := Aside0.mk (below_drew1 HB.out)
   refine start_ (n := 34) (S := fun w' => w'.cell? ⟨gb301, 0, none⟩ = some (.slice A0_0 l0_0.length c0_0)) (ds := []) (B_ 0 34) (by kernel_rfl) rfl rfl ((blk_cell BK301.out 0).trans rfl) (fun hHeld => ?_); refine with_tabW spec_IsSemigroup.tab1 spec_IsSemigroup.bits1 (fun HT_ HW_ => ?_)
   generalize w26.drew = w27 at BK301 HB hHeld ⊢
   refine pu_ HT_ 0 3 (B_ 1 34) ?_
   refine tk1_ HT_ HW_ hHeld 1 4 (B_ 3 34) ?_
   refine on_ HT_ 2 5 (B_ 7 34) (fun K hK => ?_)
   refine goes_ Try.func46 (by kernel_rfl) rfl #[.slice A0_0 l0_0.length c0_0] (by rfl) rfl rfl (by (try simp only [List.map_toArray, List.map_cons, List.map_nil]); first | done | rfl | (simp only [List.length_drop, List.length_take]; rfl)) ?_
   with_reducible refine (spec_l3Gens.calls k _ _ l0_0 true _ ?side1 ?side2 A2.out).mono ?_
   (case side1 => exact ch_ HR0_0 HB)
   (case side2 => exact HC0_0.out)
   rintro e w' ⟨rfl, ⟨nd, rfl⟩⟩
   refine ⟨_, rfl, ?_⟩
   refine hK.out _ _ ((blk_cell BK301.out 0).trans rfl) (fun hHeld => ?_)
   clear hK K
   refine norm_ (a' := ?_) ?_ ?_
   rotate_left
   · show Act.put _ (some 5) _ = _
     simp only [Act.put, z1_, z2_, z3_, i64_w, i32_w]
     rfl
   refine pu_ HT_ 3 6 (B_ 15 34) ?_
   refine pu_ HT_ 4 7 (B_ 31 34) ?_
   refine tk1_ HT_ HW_ hHeld 5 8 (B_ 63 34) ?_
   refine pu_ HT_ 6 9 (B_ 127 34) ?_
   refine pu_ HT_ 7 10 (B_ 255 34) ?_
   refine pu_ HT_ 8 11 (B_ 511 34) ?_
   refine pu_ HT_ 9 12 (B_ 1023 34) ?_
   refine pn_ HT_ 10 13 (B_ 2047 34) ?_
   refine pn_ HT_ 11 14 (B_ 4095 34) ?_
   refine pn_ HT_ 12 15 (B_ 8191 34) ?_
   refine pu_ HT_ 13 16 (B_ 16383 34) ?_
   refine pu_ HT_ 14 17 (B_ 32767 34) ?_
   refine pn_ HT_ 15 18 (B_ 65535 34) ?_
   refine pn_ HT_ 16 19 (B_ 131071 34) ?_
   refine pn_ HT_ 17 20 (B_ 262143 34) ?_
   refine pn_ HT_ 18 21 (B_ 524287 34) ?_
   refine pu_ HT_ 19 22 (B_ 1048575 34) ?_
   refine pu_ HT_ 20 23 (B_ 2097151 34) ?_
   refine pn_ HT_ 21 24 (B_ 4194303 34) ?_
   refine pn_ HT_ 22 25 (B_ 8388607 34) ?_
   refine pn_ HT_ 23 26 (B_ 16777215 34) ?_
   refine pn_ HT_ 24 27 (B_ 33554431 34) ?_
   refine pn_ HT_ 25 28 (B_ 67108863 34) ?_
   refine pn_ HT_ 26 29 (B_ 134217727 34) ?_
   refine pu_ HT_ 27 30 (B_ 268435455 34) ?_
   refine pu_ HT_ 28 31 (B_ 536870911 34) ?_
   refine pn_ HT_ 29 32 (B_ 1073741823 34) ?_
   refine pn_ HT_ 30 33 (B_ 2147483647 34) ?_
   refine pn_ HT_ 31 34 (B_ 4294967295 34) ?_
   refine pu_ HT_ 32 35 (B_ 8589934591 34) ?_
   refine pu_ HT_ 33 2 (B_ 17179869183 34) ?_
   refine done_ (done_of HT_.out (by kernel_rfl)) ?_
   try go_wp2
   go_ret
   exact ⟨rf_, bq_ HB⟩
 rw [if_pos c4] at H
 have c4b0 : decide ((l0_0.length : Int) ≤ 12) = true := decide_eq_true c4
 have c4b1 : decide (l0_0.length ≤ 12) = true := decide_eq_true (by omega)
 clear c4
 obtain ⟨t303, A5, H⟩ := ob_ H
 by_cases c6 : t303 = true
 rotate_left
 · replace c6 := Bool.eq_false_iff.mpr c6
   subst c6
   rw [if_neg (show ¬ (false = true) by decide)] at H
   obtain rfl := Option.some.inj H
   go_enter Try.func25, Try.ntmps25
   try go_wp2_with (first | ((with_reducible refine gate_dst (N := 1) rfl ?_); (try (refine gate_guard (by rfl) ?_; dsimp only)); refine bx_ 1 #[.slice A0_0 l0_0.length c0_0] 26 ?_; intro gb301 hg w24 hbox hb; have BK301 := Aside0.mk (hbox); have GW301 := gw_ hg HB; have GE301 := gw_ hg HB; replace HB := bo_ HB hb; clear hb hbox hg))
   replace BK301 := Aside0.mk (blk_drew BK301.out)
   replace HB := Aside0.mk (below_drew1 HB.out)
   refine start_ (n := 34) (S := fun w' => w'.cell? ⟨gb301, 0, none⟩ = some (.slice A0_0 l0_0.length c0_0)) (ds := []) (B_ 0 34) (by kernel_rfl) rfl rfl ((blk_cell BK301.out 0).trans rfl) (fun hHeld => ?_); refine with_tabW spec_IsSemigroup.tab1 spec_IsSemigroup.bits1 (fun HT_ HW_ => ?_)
   generalize w24.drew = w25 at BK301 HB hHeld ⊢
   refine pu_ HT_ 0 3 (B_ 1 34) ?_
   refine tk1_ HT_ HW_ hHeld 1 4 (B_ 3 34) ?_
   refine on_ HT_ 2 5 (B_ 7 34) (fun K hK => ?_)
   refine goes_ Try.func46 (by kernel_rfl) rfl #[.slice A0_0 l0_0.length c0_0] (by rfl) rfl rfl (by (try simp only [List.map_toArray, List.map_cons, List.map_nil]); first | done | rfl | (simp only [List.length_drop, List.length_take]; rfl)) ?_
   with_reducible refine (spec_l3Gens.calls k _ _ l0_0 true _ ?side1 ?side2 A2.out).mono ?_
   (case side1 => exact ch_ HR0_0 HB)
   (case side2 => exact HC0_0.out)
   rintro e w' ⟨rfl, ⟨nd, rfl⟩⟩
   refine ⟨_, rfl, ?_⟩
   refine hK.out _ _ ((blk_cell BK301.out 0).trans rfl) (fun hHeld => ?_)
   clear hK K
   refine norm_ (a' := ?_) ?_ ?_
   rotate_left
   · show Act.put _ (some 5) _ = _
     simp only [Act.put, z1_, z2_, z3_, i64_w, i32_w]
     rfl
   refine pu_ HT_ 3 6 (B_ 15 34) ?_
   refine pu_ HT_ 4 7 (B_ 31 34) ?_
   refine tk1_ HT_ HW_ hHeld 5 8 (B_ 63 34) ?_
   refine pu_ HT_ 6 9 (B_ 127 34) ?_
   refine pu_ HT_ 7 10 (B_ 255 34) ?_
   refine pu_ HT_ 8 11 (B_ 511 34) ?_
   refine pu_ HT_ 9 12 (B_ 1023 34) ?_
   refine pu_ HT_ 10 13 (B_ 2047 34) ?_
   refine tk1_ HT_ HW_ hHeld 11 14 (B_ 4095 34) ?_
   refine on_ HT_ 12 15 (B_ 8191 34) (fun K hK => ?_)
   refine goes_ Try.func47 (by kernel_rfl) rfl #[.slice A0_0 l0_0.length c0_0] (by rfl) rfl rfl (by (try simp only [List.map_toArray, List.map_cons, List.map_nil]); first | done | rfl | (simp only [List.length_drop, List.length_take]; rfl)) ?_
   with_reducible refine (spec_IsAscending.calls k _ _ l0_0 false _ ?side1 ?side2 A5.out).mono ?_
   (case side1 => repeat (first | exact (Kd.C_below HR0_0.out (bq_ HB)) | (with_reducible refine Kd.C_alloc ?_ _) | (with_reducible refine Kd.C_drewN ?_ _) | (with_reducible refine Kd.C_drew ?_)))
   (case side2 => exact HC0_0.out)
   rintro e w' ⟨rfl, ⟨nd, rfl⟩⟩
   refine ⟨_, rfl, ?_⟩
   refine hK.out _ _ ((blk_cell BK301.out 0).trans rfl) (fun hHeld => ?_)
   clear hK K
   refine norm_ (a' := ?_) ?_ ?_
   rotate_left
   · show Act.put _ (some 15) _ = _
     simp only [Act.put, z1_, z2_, z3_, i64_w, i32_w]
     rfl
   refine pu_ HT_ 13 16 (B_ 16383 34) ?_
   refine pu_ HT_ 14 17 (B_ 32767 34) ?_
   refine pn_ HT_ 15 18 (B_ 65535 34) ?_
   refine pn_ HT_ 16 19 (B_ 131071 34) ?_
   refine pn_ HT_ 17 20 (B_ 262143 34) ?_
   refine pn_ HT_ 18 21 (B_ 524287 34) ?_
   refine pu_ HT_ 19 22 (B_ 1048575 34) ?_
   refine pu_ HT_ 20 23 (B_ 2097151 34) ?_
   refine pn_ HT_ 21 24 (B_ 4194303 34) ?_
   refine pn_ HT_ 22 25 (B_ 8388607 34) ?_
   refine pn_ HT_ 23 26 (B_ 16777215 34) ?_
   refine pn_ HT_ 24 27 (B_ 33554431 34) ?_
   refine pn_ HT_ 25 28 (B_ 67108863 34) ?_
   refine pn_ HT_ 26 29 (B_ 134217727 34) ?_
   refine pu_ HT_ 27 30 (B_ 268435455 34) ?_
   refine pu_ HT_ 28 31 (B_ 536870911 34) ?_
   refine pn_ HT_ 29 32 (B_ 1073741823 34) ?_
   refine pn_ HT_ 30 33 (B_ 2147483647 34) ?_
   refine pn_ HT_ 31 34 (B_ 4294967295 34) ?_
   refine pu_ HT_ 32 35 (B_ 8589934591 34) ?_
   refine pu_ HT_ 33 2 (B_ 17179869183 34) ?_
   refine done_ (done_of HT_.out (by kernel_rfl)) ?_
   try go_wp2
   go_ret
   exact ⟨rf_, bq_ HB⟩
 subst c6
 rw [if_pos rfl] at H
 obtain ⟨t304, A7, H⟩ := ob_ H
 by_cases c8 : t304 = 1
 rotate_left
 · rw [if_neg c8] at H
   have c8b0 : (t304 == 1) = false := beq_eq_false_iff_ne.mpr c8
   have c8b1 : (t304 != 1) = true := bne_iff_ne.mpr c8
   obtain rfl := Option.some.inj H
   go_enter Try.func25, Try.ntmps25
   try go_wp2_with (first | ((with_reducible refine gate_dst (N := 1) rfl ?_); (try (refine gate_guard (by rfl) ?_; dsimp only)); refine bx_ 1 #[.slice A0_0 l0_0.length c0_0] 26 ?_; intro gb301 hg w22 hbox hb; have BK301 := Aside0.mk (hbox); have GW301 := gw_ hg HB; have GE301 := gw_ hg HB; replace HB := bo_ HB hb; clear hb hbox hg))
   replace BK301 := Aside0.mk (blk_drew BK301.out)
   replace HB := Aside0.mk (below_drew1 HB.out)
   refine start_ (n := 34) (S := fun w' => w'.cell? ⟨gb301, 0, none⟩ = some (.slice A0_0 l0_0.length c0_0)) (ds := []) (B_ 0 34) (by kernel_rfl) rfl rfl ((blk_cell BK301.out 0).trans rfl) (fun hHeld => ?_); refine with_tabW spec_IsSemigroup.tab1 spec_IsSemigroup.bits1 (fun HT_ HW_ => ?_)
   generalize w22.drew = w23 at BK301 HB hHeld ⊢
   refine pu_ HT_ 0 3 (B_ 1 34) ?_
   refine tk1_ HT_ HW_ hHeld 1 4 (B_ 3 34) ?_
   refine on_ HT_ 2 5 (B_ 7 34) (fun K hK => ?_)
   refine goes_ Try.func46 (by kernel_rfl) rfl #[.slice A0_0 l0_0.length c0_0] (by rfl) rfl rfl (by (try simp only [List.map_toArray, List.map_cons, List.map_nil]); first | done | rfl | (simp only [List.length_drop, List.length_take]; rfl)) ?_
   with_reducible refine (spec_l3Gens.calls k _ _ l0_0 true _ ?side1 ?side2 A2.out).mono ?_
   (case side1 => exact ch_ HR0_0 HB)
   (case side2 => exact HC0_0.out)
   rintro e w' ⟨rfl, ⟨nd, rfl⟩⟩
   refine ⟨_, rfl, ?_⟩
   refine hK.out _ _ ((blk_cell BK301.out 0).trans rfl) (fun hHeld => ?_)
   clear hK K
   refine norm_ (a' := ?_) ?_ ?_
   rotate_left
   · show Act.put _ (some 5) _ = _
     simp only [Act.put, z1_, z2_, z3_, i64_w, i32_w]
     rfl
   refine pu_ HT_ 3 6 (B_ 15 34) ?_
   refine pu_ HT_ 4 7 (B_ 31 34) ?_
   refine tk1_ HT_ HW_ hHeld 5 8 (B_ 63 34) ?_
   refine pu_ HT_ 6 9 (B_ 127 34) ?_
   refine pu_ HT_ 7 10 (B_ 255 34) ?_
   refine pu_ HT_ 8 11 (B_ 511 34) ?_
   refine pu_ HT_ 9 12 (B_ 1023 34) ?_
   refine pu_ HT_ 10 13 (B_ 2047 34) ?_
   refine tk1_ HT_ HW_ hHeld 11 14 (B_ 4095 34) ?_
   refine on_ HT_ 12 15 (B_ 8191 34) (fun K hK => ?_)
   refine goes_ Try.func47 (by kernel_rfl) rfl #[.slice A0_0 l0_0.length c0_0] (by rfl) rfl rfl (by (try simp only [List.map_toArray, List.map_cons, List.map_nil]); first | done | rfl | (simp only [List.length_drop, List.length_take]; rfl)) ?_
   with_reducible refine (spec_IsAscending.calls k _ _ l0_0 true _ ?side1 ?side2 A5.out).mono ?_
   (case side1 => repeat (first | exact (Kd.C_below HR0_0.out (bq_ HB)) | (with_reducible refine Kd.C_alloc ?_ _) | (with_reducible refine Kd.C_drewN ?_ _) | (with_reducible refine Kd.C_drew ?_)))
   (case side2 => exact HC0_0.out)
   rintro e w' ⟨rfl, ⟨nd, rfl⟩⟩
   refine ⟨_, rfl, ?_⟩
   refine hK.out _ _ ((blk_cell BK301.out 0).trans rfl) (fun hHeld => ?_)
   clear hK K
   refine norm_ (a' := ?_) ?_ ?_
   rotate_left
   · show Act.put _ (some 15) _ = _
     simp only [Act.put, z1_, z2_, z3_, i64_w, i32_w]
     rfl
   refine pu_ HT_ 13 16 (B_ 16383 34) ?_
   refine pu_ HT_ 14 17 (B_ 32767 34) ?_
   refine pu_ HT_ 15 18 (B_ 65535 34) ?_
   refine tk1_ HT_ HW_ hHeld 16 19 (B_ 131071 34) ?_
   refine on_ HT_ 17 20 (B_ 262143 34) (fun K hK => ?_)
   refine goes_ Try.func48 (by kernel_rfl) rfl #[.slice A0_0 l0_0.length c0_0] (by rfl) rfl rfl (by (try simp only [List.map_toArray, List.map_cons, List.map_nil]); first | done | rfl | (simp only [List.length_drop, List.length_take]; rfl)) ?_
   with_reducible refine (spec_GcdOfList.calls k _ _ l0_0 t304 _ ?side1 ?side2 A7.out).mono ?_
   (case side1 => repeat (first | exact (Kd.C_below HR0_0.out (bq_ HB)) | (with_reducible refine Kd.C_alloc ?_ _) | (with_reducible refine Kd.C_drewN ?_ _) | (with_reducible refine Kd.C_drew ?_)))
   (case side2 => exact HC0_0.out)
   rintro e w' ⟨rfl, ⟨nd, rfl⟩⟩
   refine ⟨_, rfl, ?_⟩
   refine hK.out _ _ ((blk_cell BK301.out 0).trans rfl) (fun hHeld => ?_)
   clear hK K
   refine norm_ (a' := ?_) ?_ ?_
   rotate_left
   · show Act.put _ (some 20) _ = _
     simp only [Act.put, z1_, z2_, z3_, i64_w, i32_w]
     rfl
   refine pu_ HT_ 18 21 (B_ 524287 34) ?_
   refine pu_ HT_ 19 22 (B_ 1048575 34) ?_
   refine pu_ HT_ 20 23 (B_ 2097151 34) ?_
   refine pn_ HT_ 21 24 (B_ 4194303 34) ?_
   refine pn_ HT_ 22 25 (B_ 8388607 34) ?_
   refine pn_ HT_ 23 26 (B_ 16777215 34) ?_
   refine pn_ HT_ 24 27 (B_ 33554431 34) ?_
   refine pn_ HT_ 25 28 (B_ 67108863 34) ?_
   refine pn_ HT_ 26 29 (B_ 134217727 34) ?_
   refine pu_ HT_ 27 30 (B_ 268435455 34) ?_
   refine pu_ HT_ 28 31 (B_ 536870911 34) ?_
   refine pn_ HT_ 29 32 (B_ 1073741823 34) ?_
   refine pn_ HT_ 30 33 (B_ 2147483647 34) ?_
   refine pn_ HT_ 31 34 (B_ 4294967295 34) ?_
   refine pu_ HT_ 32 35 (B_ 8589934591 34) ?_
   refine pu_ HT_ 33 2 (B_ 17179869183 34) ?_
   refine done_ (done_of HT_.out (by kernel_rfl)) ?_
   try go_wp2
   go_ret
   exact ⟨rf_, bq_ HB⟩
 rw [if_pos c8] at H
 have c8b0 : (t304 == 1) = true := beq_iff_eq.mpr c8
 have c8b1 : (t304 != 1) = false := bne_eq_false_iff_eq.mpr c8
 clear c8
 obtain ⟨t305, A9, H⟩ := ob_ H
 obtain ⟨t308, A10, H⟩ := ob_ H
 by_cases c11 : t308 = true
 rotate_left
 · replace c11 := Bool.eq_false_iff.mpr c11
   subst c11
   rw [if_neg (show ¬ (false = true) by decide)] at H
   obtain rfl := Option.some.inj H
   go_enter Try.func25, Try.ntmps25
   try go_wp2_with (first | ((with_reducible refine gate_dst (N := 1) rfl ?_); (try (refine gate_guard (by rfl) ?_; dsimp only)); refine bx_ 1 #[.slice A0_0 l0_0.length c0_0] 26 ?_; intro gb301 hg w18 hbox hb; have BK301 := Aside0.mk (hbox); have GW301 := gw_ hg HB; have GE301 := gw_ hg HB; replace HB := bo_ HB hb; clear hb hbox hg))
   replace BK301 := Aside0.mk (blk_drew BK301.out)
   replace HB := Aside0.mk (below_drew1 HB.out)
   refine start_ (n := 34) (S := fun w' => w'.cell? ⟨gb301, 0, none⟩ = some (.slice A0_0 l0_0.length c0_0)) (ds := []) (B_ 0 34) (by kernel_rfl) rfl rfl ((blk_cell BK301.out 0).trans rfl) (fun hHeld => ?_); refine with_tabW spec_IsSemigroup.tab1 spec_IsSemigroup.bits1 (fun HT_ HW_ => ?_)
   generalize w18.drew = w19 at BK301 HB hHeld ⊢
   refine pu_ HT_ 0 3 (B_ 1 34) ?_
   refine tk1_ HT_ HW_ hHeld 1 4 (B_ 3 34) ?_
   refine on_ HT_ 2 5 (B_ 7 34) (fun K hK => ?_)
   refine goes_ Try.func46 (by kernel_rfl) rfl #[.slice A0_0 l0_0.length c0_0] (by rfl) rfl rfl (by (try simp only [List.map_toArray, List.map_cons, List.map_nil]); first | done | rfl | (simp only [List.length_drop, List.length_take]; rfl)) ?_
   with_reducible refine (spec_l3Gens.calls k _ _ l0_0 true _ ?side1 ?side2 A2.out).mono ?_
   (case side1 => exact ch_ HR0_0 HB)
   (case side2 => exact HC0_0.out)
   rintro e w' ⟨rfl, ⟨nd, rfl⟩⟩
   refine ⟨_, rfl, ?_⟩
   refine hK.out _ _ ((blk_cell BK301.out 0).trans rfl) (fun hHeld => ?_)
   clear hK K
   refine norm_ (a' := ?_) ?_ ?_
   rotate_left
   · show Act.put _ (some 5) _ = _
     simp only [Act.put, z1_, z2_, z3_, i64_w, i32_w]
     rfl
   refine pu_ HT_ 3 6 (B_ 15 34) ?_
   refine pu_ HT_ 4 7 (B_ 31 34) ?_
   refine tk1_ HT_ HW_ hHeld 5 8 (B_ 63 34) ?_
   refine pu_ HT_ 6 9 (B_ 127 34) ?_
   refine pu_ HT_ 7 10 (B_ 255 34) ?_
   refine pu_ HT_ 8 11 (B_ 511 34) ?_
   refine pu_ HT_ 9 12 (B_ 1023 34) ?_
   refine pu_ HT_ 10 13 (B_ 2047 34) ?_
   refine tk1_ HT_ HW_ hHeld 11 14 (B_ 4095 34) ?_
   refine on_ HT_ 12 15 (B_ 8191 34) (fun K hK => ?_)
   refine goes_ Try.func47 (by kernel_rfl) rfl #[.slice A0_0 l0_0.length c0_0] (by rfl) rfl rfl (by (try simp only [List.map_toArray, List.map_cons, List.map_nil]); first | done | rfl | (simp only [List.length_drop, List.length_take]; rfl)) ?_
   with_reducible refine (spec_IsAscending.calls k _ _ l0_0 true _ ?side1 ?side2 A5.out).mono ?_
   (case side1 => repeat (first | exact (Kd.C_below HR0_0.out (bq_ HB)) | (with_reducible refine Kd.C_alloc ?_ _) | (with_reducible refine Kd.C_drewN ?_ _) | (with_reducible refine Kd.C_drew ?_)))
   (case side2 => exact HC0_0.out)
   rintro e w' ⟨rfl, ⟨nd, rfl⟩⟩
   refine ⟨_, rfl, ?_⟩
   refine hK.out _ _ ((blk_cell BK301.out 0).trans rfl) (fun hHeld => ?_)
   clear hK K
   refine norm_ (a' := ?_) ?_ ?_
   rotate_left
   · show Act.put _ (some 15) _ = _
     simp only [Act.put, z1_, z2_, z3_, i64_w, i32_w]
     rfl
   refine pu_ HT_ 13 16 (B_ 16383 34) ?_
   refine pu_ HT_ 14 17 (B_ 32767 34) ?_
   refine pu_ HT_ 15 18 (B_ 65535 34) ?_
   refine tk1_ HT_ HW_ hHeld 16 19 (B_ 131071 34) ?_
   refine on_ HT_ 17 20 (B_ 262143 34) (fun K hK => ?_)
   refine goes_ Try.func48 (by kernel_rfl) rfl #[.slice A0_0 l0_0.length c0_0] (by rfl) rfl rfl (by (try simp only [List.map_toArray, List.map_cons, List.map_nil]); first | done | rfl | (simp only [List.length_drop, List.length_take]; rfl)) ?_
   with_reducible refine (spec_GcdOfList.calls k _ _ l0_0 t304 _ ?side1 ?side2 A7.out).mono ?_
   (case side1 => repeat (first | exact (Kd.C_below HR0_0.out (bq_ HB)) | (with_reducible refine Kd.C_alloc ?_ _) | (with_reducible refine Kd.C_drewN ?_ _) | (with_reducible refine Kd.C_drew ?_)))
   (case side2 => exact HC0_0.out)
   rintro e w' ⟨rfl, ⟨nd, rfl⟩⟩
   refine ⟨_, rfl, ?_⟩
   refine hK.out _ _ ((blk_cell BK301.out 0).trans rfl) (fun hHeld => ?_)
   clear hK K
   refine norm_ (a' := ?_) ?_ ?_
   rotate_left
   · show Act.put _ (some 20) _ = _
     simp only [Act.put, z1_, z2_, z3_, i64_w, i32_w]
     rfl
   refine pu_ HT_ 18 21 (B_ 524287 34) ?_
   refine pu_ HT_ 19 22 (B_ 1048575 34) ?_
   refine pu_ HT_ 20 23 (B_ 2097151 34) ?_
   refine pu_ HT_ 21 24 (B_ 4194303 34) ?_
   refine pu_ HT_ 24 27 (B_ 20971519 34) ?_
   refine tk1_ HT_ HW_ hHeld 22 25 (B_ 25165823 34) ?_
   refine tk1_ HT_ HW_ hHeld 25 28 (B_ 58720255 34) ?_
   refine on_ HT_ 23 26 (B_ 67108863 34) (fun K hK => ?_)
   refine goes_ Try.func50 (by kernel_rfl) rfl #[.slice A0_0 l0_0.length c0_0] (by rfl) rfl rfl (by (try simp only [List.map_toArray, List.map_cons, List.map_nil]); first | done | rfl | (simp only [List.length_drop, List.length_take]; rfl)) ?_
   with_reducible refine (spec_l3Minimal.calls k _ _ l0_0 t305 _ ?side1 ?side2 A9.out).mono ?_
   (case side1 => repeat (first | exact (Kd.C_below HR0_0.out (bq_ HB)) | (with_reducible refine Kd.C_alloc ?_ _) | (with_reducible refine Kd.C_drewN ?_ _) | (with_reducible refine Kd.C_drew ?_)))
   (case side2 => exact HC0_0.out)
   rintro e w20 ⟨v306, rfl, ho0, hb⟩
   refine ⟨_, rfl, ?_⟩
   have HO307 := Aside0.mk (Kd.R_lower ho0 (below_size (bq_ HB)))
   replace BK301 := bk_ BK301 hb
   replace HB := bp_ HB hb
   (try clear hb)
   (try clear ho0)
   obtain ⟨Ao21, co21, eo21⟩ := Kd.R_slice HO307.out
   (first | subst eo21 | (injection eo21 with f1_ f2_ f3_; have f4_ := f1_.symm; have f5_ := f3_.symm; clear f1_ f2_ f3_; subst f4_; subst f5_))
   refine hK.out _ _ ((blk_cell BK301.out 0).trans rfl) (fun hHeld => ?_)
   clear hK K
   refine norm_ (a' := ?_) ?_ ?_
   rotate_left
   · show Act.put _ (some 26) _ = _
     simp only [Act.put, z1_, z2_, z3_, i64_w, i32_w]
     rfl
   refine on_ HT_ 26 29 (B_ 134217727 34) (fun K hK => ?_)
   refine goes_ Try.func49 (by kernel_rfl) rfl #[.slice Ao21 t305.length co21, .slice A0_0 l0_0.length c0_0] (by rfl) rfl rfl (by (try simp only [List.map_toArray, List.map_cons, List.map_nil]); first | done | rfl | (simp only [List.length_drop, List.length_take]; rfl)) ?_
   with_reducible refine (spec_l2Same.calls k _ _ t305 _ _ l0_0 false _ ?side1 ?side2 ?side3 ?side4 A10.out).mono ?_
   (case side1 => exact ce_ ((Kd.R_reads' HO307.out).2.2))
   (case side2 => exact (Kd.R_reads' HO307.out).2.1)
   (case side3 => exact ch_ HR0_0 HB)
   (case side4 => exact HC0_0.out)
   rintro e w' ⟨rfl, ⟨nd, rfl⟩⟩
   refine ⟨_, rfl, ?_⟩
   refine hK.out _ _ ((blk_cell BK301.out 0).trans rfl) (fun hHeld => ?_)
   clear hK K
   refine norm_ (a' := ?_) ?_ ?_
   rotate_left
   · show Act.put _ (some 29) _ = _
     simp only [Act.put, z1_, z2_, z3_, i64_w, i32_w]
     rfl
   refine pu_ HT_ 27 30 (B_ 268435455 34) ?_
   refine pu_ HT_ 28 31 (B_ 536870911 34) ?_
   refine pn_ HT_ 29 32 (B_ 1073741823 34) ?_
   refine pn_ HT_ 30 33 (B_ 2147483647 34) ?_
   refine pn_ HT_ 31 34 (B_ 4294967295 34) ?_
   refine pu_ HT_ 32 35 (B_ 8589934591 34) ?_
   refine pu_ HT_ 33 2 (B_ 17179869183 34) ?_
   refine done_ (done_of HT_.out (by kernel_rfl)) ?_
   try go_wp2
   go_ret
   exact ⟨rf_, bq_ HB⟩
 subst c11
 rw [if_pos rfl] at H
 obtain ⟨t309, A12, H⟩ := ob_ H
 obtain rfl := Option.some.inj H
 go_enter Try.func25, Try.ntmps25
 try go_wp2_with (first | ((with_reducible refine gate_dst (N := 1) rfl ?_); (try (refine gate_guard (by rfl) ?_; dsimp only)); refine bx_ 1 #[.slice A0_0 l0_0.length c0_0] 26 ?_; intro gb301 hg w13 hbox hb; have BK301 := Aside0.mk (hbox); have GW301 := gw_ hg HB; have GE301 := gw_ hg HB; replace HB := bo_ HB hb; clear hb hbox hg))
 replace BK301 := Aside0.mk (blk_drew BK301.out)
 replace HB := Aside0.mk (below_drew1 HB.out)
 refine start_ (n := 34) (S := fun w' => w'.cell? ⟨gb301, 0, none⟩ = some (.slice A0_0 l0_0.length c0_0)) (ds := []) (B_ 0 34) (by kernel_rfl) rfl rfl ((blk_cell BK301.out 0).trans rfl) (fun hHeld => ?_); refine with_tabW spec_IsSemigroup.tab1 spec_IsSemigroup.bits1 (fun HT_ HW_ => ?_)
 generalize w13.drew = w14 at BK301 HB hHeld ⊢
 refine pu_ HT_ 0 3 (B_ 1 34) ?_
 refine tk1_ HT_ HW_ hHeld 1 4 (B_ 3 34) ?_
 refine on_ HT_ 2 5 (B_ 7 34) (fun K hK => ?_)
 refine goes_ Try.func46 (by kernel_rfl) rfl #[.slice A0_0 l0_0.length c0_0] (by rfl) rfl rfl (by (try simp only [List.map_toArray, List.map_cons, List.map_nil]); first | done | rfl | (simp only [List.length_drop, List.length_take]; rfl)) ?_
 with_reducible refine (spec_l3Gens.calls k _ _ l0_0 true _ ?side1 ?side2 A2.out).mono ?_
 (case side1 => exact ch_ HR0_0 HB)
 (case side2 => exact HC0_0.out)
 rintro e w' ⟨rfl, ⟨nd, rfl⟩⟩
 refine ⟨_, rfl, ?_⟩
 refine hK.out _ _ ((blk_cell BK301.out 0).trans rfl) (fun hHeld => ?_)
 clear hK K
 refine norm_ (a' := ?_) ?_ ?_
 rotate_left
 · show Act.put _ (some 5) _ = _
   simp only [Act.put, z1_, z2_, z3_, i64_w, i32_w]
   rfl
 refine pu_ HT_ 3 6 (B_ 15 34) ?_
 refine pu_ HT_ 4 7 (B_ 31 34) ?_
 refine tk1_ HT_ HW_ hHeld 5 8 (B_ 63 34) ?_
 refine pu_ HT_ 6 9 (B_ 127 34) ?_
 refine pu_ HT_ 7 10 (B_ 255 34) ?_
 refine pu_ HT_ 8 11 (B_ 511 34) ?_
 refine pu_ HT_ 9 12 (B_ 1023 34) ?_
 refine pu_ HT_ 10 13 (B_ 2047 34) ?_
 refine tk1_ HT_ HW_ hHeld 11 14 (B_ 4095 34) ?_
 refine on_ HT_ 12 15 (B_ 8191 34) (fun K hK => ?_)
 refine goes_ Try.func47 (by kernel_rfl) rfl #[.slice A0_0 l0_0.length c0_0] (by rfl) rfl rfl (by (try simp only [List.map_toArray, List.map_cons, List.map_nil]); first | done | rfl | (simp only [List.length_drop, List.length_take]; rfl)) ?_
 with_reducible refine (spec_IsAscending.calls k _ _ l0_0 true _ ?side1 ?side2 A5.out).mono ?_
 (case side1 => repeat (first | exact (Kd.C_below HR0_0.out (bq_ HB)) | (with_reducible refine Kd.C_alloc ?_ _) | (with_reducible refine Kd.C_drewN ?_ _) | (with_reducible refine Kd.C_drew ?_)))
 (case side2 => exact HC0_0.out)
 rintro e w' ⟨rfl, ⟨nd, rfl⟩⟩
 refine ⟨_, rfl, ?_⟩
 refine hK.out _ _ ((blk_cell BK301.out 0).trans rfl) (fun hHeld => ?_)
 clear hK K
 refine norm_ (a' := ?_) ?_ ?_
 rotate_left
 · show Act.put _ (some 15) _ = _
   simp only [Act.put, z1_, z2_, z3_, i64_w, i32_w]
   rfl
 refine pu_ HT_ 13 16 (B_ 16383 34) ?_
 refine pu_ HT_ 14 17 (B_ 32767 34) ?_
 refine pu_ HT_ 15 18 (B_ 65535 34) ?_
 refine tk1_ HT_ HW_ hHeld 16 19 (B_ 131071 34) ?_
 refine on_ HT_ 17 20 (B_ 262143 34) (fun K hK => ?_)
 refine goes_ Try.func48 (by kernel_rfl) rfl #[.slice A0_0 l0_0.length c0_0] (by rfl) rfl rfl (by (try simp only [List.map_toArray, List.map_cons, List.map_nil]); first | done | rfl | (simp only [List.length_drop, List.length_take]; rfl)) ?_
 with_reducible refine (spec_GcdOfList.calls k _ _ l0_0 t304 _ ?side1 ?side2 A7.out).mono ?_
 (case side1 => repeat (first | exact (Kd.C_below HR0_0.out (bq_ HB)) | (with_reducible refine Kd.C_alloc ?_ _) | (with_reducible refine Kd.C_drewN ?_ _) | (with_reducible refine Kd.C_drew ?_)))
 (case side2 => exact HC0_0.out)
 rintro e w' ⟨rfl, ⟨nd, rfl⟩⟩
 refine ⟨_, rfl, ?_⟩
 refine hK.out _ _ ((blk_cell BK301.out 0).trans rfl) (fun hHeld => ?_)
 clear hK K
 refine norm_ (a' := ?_) ?_ ?_
 rotate_left
 · show Act.put _ (some 20) _ = _
   simp only [Act.put, z1_, z2_, z3_, i64_w, i32_w]
   rfl
 refine pu_ HT_ 18 21 (B_ 524287 34) ?_
 refine pu_ HT_ 19 22 (B_ 1048575 34) ?_
 refine pu_ HT_ 20 23 (B_ 2097151 34) ?_
 refine pu_ HT_ 21 24 (B_ 4194303 34) ?_
 refine pu_ HT_ 24 27 (B_ 20971519 34) ?_
 refine tk1_ HT_ HW_ hHeld 22 25 (B_ 25165823 34) ?_
 refine tk1_ HT_ HW_ hHeld 25 28 (B_ 58720255 34) ?_
 refine on_ HT_ 23 26 (B_ 67108863 34) (fun K hK => ?_)
 refine goes_ Try.func50 (by kernel_rfl) rfl #[.slice A0_0 l0_0.length c0_0] (by rfl) rfl rfl (by (try simp only [List.map_toArray, List.map_cons, List.map_nil]); first | done | rfl | (simp only [List.length_drop, List.length_take]; rfl)) ?_
 with_reducible refine (spec_l3Minimal.calls k _ _ l0_0 t305 _ ?side1 ?side2 A9.out).mono ?_
 (case side1 => repeat (first | exact (Kd.C_below HR0_0.out (bq_ HB)) | (with_reducible refine Kd.C_alloc ?_ _) | (with_reducible refine Kd.C_drewN ?_ _) | (with_reducible refine Kd.C_drew ?_)))
 (case side2 => exact HC0_0.out)
 rintro e w15 ⟨v306, rfl, ho0, hb⟩
 refine ⟨_, rfl, ?_⟩
 have HO307 := Aside0.mk (Kd.R_lower ho0 (below_size (bq_ HB)))
 replace BK301 := bk_ BK301 hb
 replace HB := bp_ HB hb
 (try clear hb)
 (try clear ho0)
 obtain ⟨Ao16, co16, eo16⟩ := Kd.R_slice HO307.out
 (first | subst eo16 | (injection eo16 with f1_ f2_ f3_; have f4_ := f1_.symm; have f5_ := f3_.symm; clear f1_ f2_ f3_; subst f4_; subst f5_))
 refine hK.out _ _ ((blk_cell BK301.out 0).trans rfl) (fun hHeld => ?_)
 clear hK K
 refine norm_ (a' := ?_) ?_ ?_
 rotate_left
 · show Act.put _ (some 26) _ = _
   simp only [Act.put, z1_, z2_, z3_, i64_w, i32_w]
   rfl
 refine on_ HT_ 26 29 (B_ 134217727 34) (fun K hK => ?_)
 refine goes_ Try.func49 (by kernel_rfl) rfl #[.slice Ao16 t305.length co16, .slice A0_0 l0_0.length c0_0] (by rfl) rfl rfl (by (try simp only [List.map_toArray, List.map_cons, List.map_nil]); first | done | rfl | (simp only [List.length_drop, List.length_take]; rfl)) ?_
 with_reducible refine (spec_l2Same.calls k _ _ t305 _ _ l0_0 true _ ?side1 ?side2 ?side3 ?side4 A10.out).mono ?_
 (case side1 => exact ce_ ((Kd.R_reads' HO307.out).2.2))
 (case side2 => exact (Kd.R_reads' HO307.out).2.1)
 (case side3 => exact ch_ HR0_0 HB)
 (case side4 => exact HC0_0.out)
 rintro e w' ⟨rfl, ⟨nd, rfl⟩⟩
 refine ⟨_, rfl, ?_⟩
 refine hK.out _ _ ((blk_cell BK301.out 0).trans rfl) (fun hHeld => ?_)
 clear hK K
 refine norm_ (a' := ?_) ?_ ?_
 rotate_left
 · show Act.put _ (some 29) _ = _
   simp only [Act.put, z1_, z2_, z3_, i64_w, i32_w]
   rfl
 refine pu_ HT_ 27 30 (B_ 268435455 34) ?_
 refine pu_ HT_ 28 31 (B_ 536870911 34) ?_
 refine pu_ HT_ 29 32 (B_ 1073741823 34) ?_
 refine tk1_ HT_ HW_ hHeld 30 33 (B_ 2147483647 34) ?_
 refine on_ HT_ 31 34 (B_ 4294967295 34) (fun K hK => ?_)
 refine goes_ Try.func51 (by kernel_rfl) rfl #[.slice A0_0 l0_0.length c0_0] (by rfl) rfl rfl (by (try simp only [List.map_toArray, List.map_cons, List.map_nil]); first | done | rfl | (simp only [List.length_drop, List.length_take]; rfl)) ?_
 with_reducible refine (spec_l3Ends.calls k _ _ l0_0 t309 _ ?side1 ?side2 A12.out).mono ?_
 (case side1 => repeat (first | exact (Kd.C_below HR0_0.out (bq_ HB)) | (with_reducible refine Kd.C_alloc ?_ _) | (with_reducible refine Kd.C_drewN ?_ _) | (with_reducible refine Kd.C_drew ?_)))
 (case side2 => exact HC0_0.out)
 rintro e w17 ⟨rfl, hb⟩
 refine ⟨_, rfl, ?_⟩
 replace HO307 := Aside0.mk (Kd.R_below (re_ HO307.out) hb)
 replace BK301 := bk_ BK301 hb
 replace HB := bp_ HB hb
 (try clear hb)
 refine hK.out _ _ ((blk_cell BK301.out 0).trans rfl) (fun hHeld => ?_)
 clear hK K
 refine norm_ (a' := ?_) ?_ ?_
 rotate_left
 · show Act.put _ (some 34) _ = _
   simp only [Act.put, z1_, z2_, z3_, i64_w, i32_w]
   rfl
 refine pu_ HT_ 32 35 (B_ 8589934591 34) ?_
 refine pu_ HT_ 33 2 (B_ 17179869183 34) ?_
 refine done_ (done_of HT_.out (by kernel_rfl)) ?_
 try go_wp2
 go_ret
 exact ⟨rf_, bq_ HB⟩
def spec_FromGens.f (k : Nat) (l0 : List Int) : Option (List Int × Bool) := (spec_l3Gens.f k l0).bind fun t311 => (if t311 = true then ((spec_l3Minimal.f k l0).bind fun t312 => ((spec_IsSemigroup.f k t312).bind fun t316 => (if t316 = true then (some (t312, true)) else (some (([] : List Int), false))))) else (some (([] : List Int), false)))
theorem spec_FromGens.mono : ∀ a0 k, LeO (spec_FromGens.f k a0) (spec_FromGens.f (k + 1) a0) := by
 intro a0 k
 unfold spec_FromGens.f
 repeat' first
  | (with_reducible exact spec_IsSemigroup.mono _ _)
  | (with_reducible exact spec_l3Gens.mono _ _)
  | (with_reducible exact spec_l3Minimal.mono _ _)
  | (with_reducible exact LeO.refl _)
  | (with_reducible exact LeO.none _)
  | (with_reducible refine LeO.ite ?_ ?_)
  | (with_reducible refine LeO.bind ?_ (fun _ => ?_))
  | exact LeO.none _
  | refine LeO.ite ?_ ?_
  | refine LeO.bind ?_ (fun _ => ?_)
theorem spec_FromGens.calls (k : Nat) (A0 : Option Addr) (c0 : Nat) (l0 : List Int) (r1 : List Int) (r2 : Bool) (w : World) (hr0 : Kd.C (Kd.int .i64) w A0 l0.length l0) (hc0 : l0.length ≤ c0) (h : spec_FromGens.f k l0 = some (r1, r2)) :
 Calls Try.prog 41 #[.slice A0 l0.length c0] w fun e w' => ∃ v0_ : Value, e = .returned (.tuple #[.agg #[v0_], .bool r2]) ∧ Kd.R (Kd.int .i64) 3 w' w.heap.size (fun _ => True) v0_ r1 ∧ Below w.heap.size w w' := by
 have hu26 := Try.underlying26
 have HR0 := Aside0.mk hr0
 have HC0 := Aside0.mk hc0
 clear hr0 hc0
 have HB := Aside0.mk (Below.refl w.heap.size w)
 have H := h
 clear h
 unfold spec_FromGens.f at H
 obtain ⟨t311, A2, H⟩ := ob_ H
 by_cases c3 : t311 = true
 rotate_left
 · replace c3 := Bool.eq_false_iff.mpr c3
   subst c3
   rw [if_neg (show ¬ (false = true) by decide)] at H
   simp only [Option.some.injEq, Prod.mk.injEq] at H
   obtain ⟨rfl, rfl⟩ := H
   go_enter Try.func41, Try.ntmps41
   go_wp2_with (first | ((with_reducible refine gate_dst (N := 2) rfl ?_); refine bx_ 2 #[.slice none 0 0] 26 ?_; intro gb310 hg w24 hbox hb; have BK310 := Aside0.mk (hbox); have GW310 := gw_ hg HB; have GE310 := gw_ hg HB; replace HB := bo_ HB hb; clear hb hbox hg) | ((with_reducible refine gate_callee (f := 46) rfl ?_); refine gL_ (some 6) Try.func46 #[.slice A0 l0.length c0] ?_; (with_reducible refine (spec_l3Gens.calls k _ _ l0 false _ ?side1 ?side2 A2.out).mono ?_); (case side1 => exact ch_ HR0 HB); (case side2 => exact HC0.out); rintro e w' ⟨rfl, ⟨nd, rfl⟩⟩; refine ⟨_, rfl, ?_⟩; (try (rw [drewN_self w24]; generalize hq_ : World.drewN w24 _ = w24; have n0_ : Aside0 (w24.heap[gb310]? = some (.cells #[.slice none 0 0] 26 (0, 0))) := ⟨by rw [← hq_]; exact (be_ BK310.out)⟩; have n1_ : Aside0 (Below w.heap.size w w24) := ⟨by rw [← hq_]; exact (bq_ HB)⟩; clear BK310 HB hq_; have BK310 := n0_; have HB := n1_; clear n0_ n1_)); have hcz25_0 := cz_ BK310; have hfz25_0 := blk_frozen BK310.out 0))
   refine bodyPost_ret (results_ct rfl _ _ gb310 26 #[.slice none 0 0] (0, 0) _ rfl (bz_ BK310) Try.underlying26 rfl (by kernel_rfl)) rfl ?_
   exact ⟨_, rf_, by first | exact Kd.R_nil _ _ _ _ _ | exact Kd.N_nil _ _ _ _ _ | exact Kd.V_nil _ _ _ _ _ | exact Kd.Q_nil _ _ _ _ _ | exact Kd.S_nil _ _ _ _ _, bq_ HB⟩
 subst c3
 rw [if_pos rfl] at H
 obtain ⟨t312, A4, H⟩ := ob_ H
 obtain ⟨t316, A5, H⟩ := ob_ H
 by_cases c6 : t316 = true
 · subst c6
   rw [if_pos rfl] at H
   simp only [Option.some.injEq, Prod.mk.injEq] at H
   obtain ⟨rfl, rfl⟩ := H
   go_enter Try.func41, Try.ntmps41
   go_wp2_with (first | ((with_reducible refine gate_dst (N := 2) rfl ?_); refine bx_ 2 #[.slice none 0 0] 26 ?_; intro gb310 hg w7 hbox hb; have BK310 := Aside0.mk (hbox); have GW310 := gw_ hg HB; have GE310 := gw_ hg HB; replace HB := bo_ HB hb; clear hb hbox hg) | ((with_reducible refine gate_callee (f := 46) rfl ?_); refine gL_ (some 6) Try.func46 #[.slice A0 l0.length c0] ?_; (with_reducible refine (spec_l3Gens.calls k _ _ l0 true _ ?side1 ?side2 A2.out).mono ?_); (case side1 => exact ch_ HR0 HB); (case side2 => exact HC0.out); rintro e w' ⟨rfl, ⟨nd, rfl⟩⟩; refine ⟨_, rfl, ?_⟩; (try (rw [drewN_self w7]; generalize hq_ : World.drewN w7 _ = w7; have n0_ : Aside0 (w7.heap[gb310]? = some (.cells #[.slice none 0 0] 26 (0, 0))) := ⟨by rw [← hq_]; exact (be_ BK310.out)⟩; have n1_ : Aside0 (Below w.heap.size w w7) := ⟨by rw [← hq_]; exact (bq_ HB)⟩; clear BK310 HB hq_; have BK310 := n0_; have HB := n1_; clear n0_ n1_))) | ((with_reducible refine gate_callee (f := 50) rfl ?_); refine gL_ (some 10) Try.func50 #[.slice A0 l0.length c0] ?_; (with_reducible refine (spec_l3Minimal.calls k _ _ l0 t312 _ ?side1 ?side2 A4.out).mono ?_); (case side1 => exact ch_ HR0 HB); (case side2 => exact HC0.out); rintro e w8 ⟨v313, rfl, ho0, hb⟩; refine ⟨_, rfl, ?_⟩; have HO314 := Aside0.mk (Kd.R_lower ho0 (below_size (bq_ HB))); replace BK310 := bk_ BK310 hb; replace HB := bp_ HB hb; (try clear hb); (try clear ho0); obtain ⟨Ao9, co9, eo9⟩ := Kd.R_slice HO314.out; subst eo9) | ((with_reducible refine gate_dst (N := 4) rfl ?_); refine bx_ 4 #[.slice none 0 0] 26 ?_; intro gb315 hg w10 hbox hb; replace HO314 := Aside0.mk (Kd.R_below (re_ HO314.out) hb); have BK315 := Aside0.mk (hbox); have GW315 := gq_ hg (bq_ HB); have GE315 := gq_ hg (bq_ HB); replace HB := bp_ HB hb; have NB310_315 := nl_ hg BK310; have NB315_310 := ng_ hg BK310; replace BK310 := bk_ BK310 hb; clear hb hbox hg; have hnb11 := NB315_310.out; have hnc11 := NB310_315.out; have hcz12_0 := cz_ BK315; have hfz12_0 := blk_frozen BK315.out 0) | ((with_reducible refine gate_callee (f := 25) rfl ?_); refine gL_ (some 13) Try.func25 #[.agg #[.slice Ao9 t312.length co9]] ?_; (with_reducible refine (spec_IsSemigroup.calls k _ _ t312 true _ ?side1 ?side2 A5.out).mono ?_); (case side1 => refine (Kd.R_reads' (e := 3) (base := w.heap.size) (ok := fun k_ => True) (n := t312.length) (c := co9) ?_).2.2; exact (rf1_ HO314 BK315)); (case side2 => exact (Kd.R_reads' HO314.out).2.1); rintro e w13 ⟨rfl, hb⟩; refine ⟨_, rfl, ?_⟩; replace HO314 := Aside0.mk (Kd.R_below (rf1_ HO314 BK315) hb); replace BK310 := Aside0.mk (blk_below (g := gb310) (o := .cells #[.slice none 0 0] 26 (0, 0)) (ba_ BK310) hb); replace BK315 := Aside0.mk (blk_below (g := gb315) (o := .cells #[.slice Ao9 t312.length co9] 26 (0, 0)) (bz_ BK315) hb); replace HB := bp_ HB hb; (try clear hb); have hcz14_0 := cz_ BK315; have hfz14_0 := blk_frozen BK315.out 0; have hcz15_0 := cz_ BK310; have hfz15_0 := blk_frozen BK310.out 0))
   refine bodyPost_ret (results_ct rfl _ _ gb310 26 #[.slice Ao9 t312.length co9] (0, 0) _ rfl (bz_ BK310) Try.underlying26 rfl (by kernel_rfl)) rfl ?_
   exact ⟨_, rf_, by (with_reducible repeat (first | apply Kd.R_alloc | apply Kd.R_drewN | apply Kd.R_drew)); exact Kd.R_mono (Kd.R_far (p := ⟨gb310, 0, none⟩) (Kd.R_types HO314.out BK310.out (by decide)) (fun _ hk => hk.2) (.slice Ao9 t312.length co9)) (fun _ hk => trivial), bq_ HB⟩
 replace c6 := Bool.eq_false_iff.mpr c6
 subst c6
 rw [if_neg (show ¬ (false = true) by decide)] at H
 simp only [Option.some.injEq, Prod.mk.injEq] at H
 obtain ⟨rfl, rfl⟩ := H
 go_enter Try.func41, Try.ntmps41
 go_wp2_with (first | ((with_reducible refine gate_dst (N := 2) rfl ?_); refine bx_ 2 #[.slice none 0 0] 26 ?_; intro gb310 hg w16 hbox hb; have BK310 := Aside0.mk (hbox); have GW310 := gw_ hg HB; have GE310 := gw_ hg HB; replace HB := bo_ HB hb; clear hb hbox hg) | ((with_reducible refine gate_callee (f := 46) rfl ?_); refine gL_ (some 6) Try.func46 #[.slice A0 l0.length c0] ?_; (with_reducible refine (spec_l3Gens.calls k _ _ l0 true _ ?side1 ?side2 A2.out).mono ?_); (case side1 => exact ch_ HR0 HB); (case side2 => exact HC0.out); rintro e w' ⟨rfl, ⟨nd, rfl⟩⟩; refine ⟨_, rfl, ?_⟩; (try (rw [drewN_self w16]; generalize hq_ : World.drewN w16 _ = w16; have n0_ : Aside0 (w16.heap[gb310]? = some (.cells #[.slice none 0 0] 26 (0, 0))) := ⟨by rw [← hq_]; exact (be_ BK310.out)⟩; have n1_ : Aside0 (Below w.heap.size w w16) := ⟨by rw [← hq_]; exact (bq_ HB)⟩; clear BK310 HB hq_; have BK310 := n0_; have HB := n1_; clear n0_ n1_))) | ((with_reducible refine gate_callee (f := 50) rfl ?_); refine gL_ (some 10) Try.func50 #[.slice A0 l0.length c0] ?_; (with_reducible refine (spec_l3Minimal.calls k _ _ l0 t312 _ ?side1 ?side2 A4.out).mono ?_); (case side1 => exact ch_ HR0 HB); (case side2 => exact HC0.out); rintro e w17 ⟨v313, rfl, ho0, hb⟩; refine ⟨_, rfl, ?_⟩; have HO314 := Aside0.mk (Kd.R_lower ho0 (below_size (bq_ HB))); replace BK310 := bk_ BK310 hb; replace HB := bp_ HB hb; (try clear hb); (try clear ho0); obtain ⟨Ao18, co18, eo18⟩ := Kd.R_slice HO314.out; subst eo18) | ((with_reducible refine gate_dst (N := 4) rfl ?_); refine bx_ 4 #[.slice none 0 0] 26 ?_; intro gb315 hg w19 hbox hb; replace HO314 := Aside0.mk (Kd.R_below (re_ HO314.out) hb); have BK315 := Aside0.mk (hbox); have GW315 := gq_ hg (bq_ HB); have GE315 := gq_ hg (bq_ HB); replace HB := bp_ HB hb; have NB310_315 := nl_ hg BK310; have NB315_310 := ng_ hg BK310; replace BK310 := bk_ BK310 hb; clear hb hbox hg; have hnb20 := NB315_310.out; have hnc20 := NB310_315.out; have hcz21_0 := cz_ BK315; have hfz21_0 := blk_frozen BK315.out 0) | ((with_reducible refine gate_callee (f := 25) rfl ?_); refine gL_ (some 13) Try.func25 #[.agg #[.slice Ao18 t312.length co18]] ?_; (with_reducible refine (spec_IsSemigroup.calls k _ _ t312 false _ ?side1 ?side2 A5.out).mono ?_); (case side1 => refine (Kd.R_reads' (e := 3) (base := w.heap.size) (ok := fun k_ => True) (n := t312.length) (c := co18) ?_).2.2; exact (rf1_ HO314 BK315)); (case side2 => exact (Kd.R_reads' HO314.out).2.1); rintro e w22 ⟨rfl, hb⟩; refine ⟨_, rfl, ?_⟩; replace HO314 := Aside0.mk (Kd.R_below (rf1_ HO314 BK315) hb); replace BK310 := Aside0.mk (blk_below (g := gb310) (o := .cells #[.slice none 0 0] 26 (0, 0)) (ba_ BK310) hb); replace BK315 := Aside0.mk (blk_below (g := gb315) (o := .cells #[.slice Ao18 t312.length co18] 26 (0, 0)) (bz_ BK315) hb); replace HB := bp_ HB hb; (try clear hb); have hcz23_0 := cz_ BK310; have hfz23_0 := blk_frozen BK310.out 0))
 refine bodyPost_ret (results_ct rfl _ _ gb310 26 #[.slice none 0 0] (0, 0) _ rfl (bz_ BK310) Try.underlying26 rfl (by kernel_rfl)) rfl ?_
 exact ⟨_, rf_, by first | exact Kd.R_nil _ _ _ _ _ | exact Kd.N_nil _ _ _ _ _ | exact Kd.V_nil _ _ _ _ _ | exact Kd.Q_nil _ _ _ _ _ | exact Kd.S_nil _ _ _ _ _, bq_ HB⟩
def spec_l4Gaps.l0 : Nat → List Int → List Bool → Int → Option (List Int)
 | 0, _, _, _ => none
 | k + 1, x3, x4, x5 => if x5 < 200 then (if 0 ≤ x5 then (if x5 < (x4.length : Int) then (if rdOf false x4 x5 = true then (spec_l4Gaps.l0 k x3 x4 (wrap64 (x5 + 1))) else (if x3.length < 17592186044416 then (spec_l4Gaps.l0 k (x3 ++ [x5]) x4 (wrap64 (x5 + 1))) else (none))) else (none)) else (none)) else (some x3)
def spec_l4Gaps.f (k : Nat) (l0_0 : List Int) : Option (List Int) := (spec_l3Table.f k l0_0 200).bind fun t321 => (spec_l4Gaps.l0 k (([] : List Int)) t321 1)
theorem spec_l4Gaps.mono_l : ∀ k, (∀ y0 y1 y2, LeO (spec_l4Gaps.l0 k y0 y1 y2) (spec_l4Gaps.l0 (k + 1) y0 y1 y2))
 | 0 => fun _ _ _ r h => by simp [spec_l4Gaps.l0] at h
 | k + 1 => by
  have ih0 := spec_l4Gaps.mono_l k
  · intro y0 y1 y2
    unfold spec_l4Gaps.l0
    repeat' first
    | (with_reducible exact ih0 _ _ _)
    | (with_reducible exact spec_l3Table.mono _ _ _)
    | (with_reducible exact LeO.refl _)
    | (with_reducible exact LeO.none _)
    | (with_reducible refine LeO.ite ?_ ?_)
    | (with_reducible refine LeO.bind ?_ (fun _ => ?_))
    | exact ih0 _ _ _
    | exact LeO.none _
    | refine LeO.ite ?_ ?_
    | refine LeO.bind ?_ (fun _ => ?_)
theorem spec_l4Gaps.mono : ∀ a0 k, LeO (spec_l4Gaps.f k a0) (spec_l4Gaps.f (k + 1) a0) := by
 intro a0 k
 have ih0 := spec_l4Gaps.mono_l k
 unfold spec_l4Gaps.f
 repeat' first
  | (with_reducible exact ih0 _ _ _)
  | (with_reducible exact spec_l3Table.mono _ _ _)
  | (with_reducible exact LeO.refl _)
  | (with_reducible exact LeO.none _)
  | (with_reducible refine LeO.ite ?_ ?_)
  | (with_reducible refine LeO.bind ?_ (fun _ => ?_))
  | exact ih0 _ _ _
  | exact LeO.none _
  | refine LeO.ite ?_ ?_
  | refine LeO.bind ?_ (fun _ => ?_)
theorem spec_l4Gaps.calls (k : Nat) (A0_0 : Option Addr) (c0_0 : Nat) (l0_0 : List Int) (r : List Int) (w : World) (hr0_0 : Kd.C (Kd.int .i64) w A0_0 l0_0.length l0_0) (hc0_0 : l0_0.length ≤ c0_0) (h : spec_l4Gaps.f k l0_0 = some r) :
 Calls Try.prog 54 #[.agg #[.slice A0_0 l0_0.length c0_0]] w fun e w' => ∃ v0_ : Value, e = .returned (v0_) ∧ Kd.R (Kd.int .i64) 3 w' w.heap.size (fun _ => True) v0_ r ∧ Below w.heap.size w w' := by
 have hu26 := Try.underlying26
 have HR0_0 := Aside0.mk hr0_0
 have HC0_0 := Aside0.mk hc0_0
 clear hr0_0 hc0_0
 have HB := Aside0.mk (Below.refl w.heap.size w)
 have H := h
 clear h
 unfold spec_l4Gaps.f at H
 obtain ⟨y318, hy318⟩ : ∃ y_ : List Int, y_ = (([] : List Int)) := ⟨_, rfl⟩
 replace H : ((spec_l3Table.f k l0_0 200).bind fun t321 => (spec_l4Gaps.l0 k y318 t321 1)) = some r := by subst hy318; exact H
 have Ny318 := Aside0.mk hy318
 clear hy318
 obtain ⟨t321, A2, H⟩ := ob_ H
 have H' := Aside0.mk H
 clear H
 go_enter Try.func54, Try.ntmps54
 go_wp2_with (first | ((with_reducible refine gate_dst (N := 1) rfl ?_); refine bx_ 1 #[.slice A0_0 l0_0.length c0_0] 26 ?_; intro gb317 hg w3 hbox hb; have BK317 := Aside0.mk (hbox); have GW317 := gw_ hg HB; have GE317 := gw_ hg HB; replace HB := bo_ HB hb; clear hb hbox hg) | ((with_reducible refine gate_dst (N := 6) rfl ?_); refine Kd.R_lit (Kd.int .i64) _ 3 ?hg (N := 6) ?hd (xs := ([] : List Int)) (inner := []) (ok := fun _ => True) (okp := fun _ => True) ?hr ?hp (fun _ hk => hk) trivial (Below.refl _ _) (Nat.le_refl _) (by simp) ?_; (case hd => rfl); (case hg => rfl); (case hr => first | (go_simp; done) | (go_simp; rfl)); (case hp => exact (Reps.none _ _)); intro v319 w4 ho5 hb hg_ hnew_; clear hg_ hnew_; (first | rw [← Ny318.out] at ho5 | (simp only [Int.reduceToNat] at ho5; rw [← Ny318.out] at ho5)); have HO320 := Aside0.mk (Kd.R_lower ho5 (below_size (bq_ HB))); replace BK317 := bk_ BK317 hb; replace HB := bp_ HB hb; clear hb ho5; have hcz6_0 := cz_ BK317; have hfz6_0 := blk_frozen BK317.out 0) | ((with_reducible refine gate_callee (f := 81) rfl ?_); refine gL_ (some 9) Try.func81 #[.slice A0_0 l0_0.length c0_0, .int .i64 200] ?_; (with_reducible refine (spec_l3Table.calls k _ _ l0_0 200 t321 _ ?side1 ?side2 A2.out).mono ?_); (case side1 => exact ch_ HR0_0 HB); (case side2 => exact HC0_0.out); rintro e w7 ⟨v322, rfl, ho0, hb⟩; refine ⟨_, rfl, ?_⟩; replace HO320 := Aside0.mk (Kd.R_below (re_ HO320.out) hb); have HO323 := Aside0.mk (Kd.R_lower ho0 (below_size (bq_ HB))); replace BK317 := bk_ BK317 hb; replace HB := bp_ HB hb; (try clear hb); (try clear ho0)))
 go_loopg [3, 5] k (fun kq v3 v5 w' => ∃ (x3_1 : List Int) (x5_1 : Int), v5 = .int .i64 x5_1 ∧ Aside0 (spec_l4Gaps.l0 kq x3_1 t321 x5_1 = some r) ∧ Aside0 (kq ≤ k) ∧ Aside0 (Kd.R (Kd.int .i64) 3 w' w.heap.size (fun _ => True) v3 x3_1) ∧ Aside0 (Kd.R Kd.bool 4 w' w.heap.size (fun _ => True) v322 t321) ∧ Aside0 (w'.heap[gb317]? = some (.cells #[(.slice A0_0 l0_0.length c0_0)] 26 (0, 0))) ∧ Aside0 (Below w.heap.size w w'))
 case atStart => exact ⟨(y318), (1), rs_, H', ⟨Nat.le_refl _⟩, ⟨re_ HO320.out⟩, ⟨re_ HO323.out⟩, ⟨be_ BK317.out⟩, ⟨bq_ HB⟩⟩
 case round =>
  clear H'
  try clear hcz6_0
  try clear hfz6_0
  obtain ⟨x3_1, x5_1, rfl, HA, HK1, HO_3, HO_4, BK317, HB⟩ := hrel
  cases gk with
  | zero => exact absurd HA.out (by simp [spec_l4Gaps.l0])
  | succ k1 =>
   have H := HA.out
   clear HA
   simp only [spec_l4Gaps.l0] at H
   by_cases c8 : x5_1 < 200
   rotate_left
   · rw [if_neg c8] at H
     have c8b0 : decide (x5_1 < 200) = false := decide_eq_false c8
     clear c8
     obtain rfl := Option.some.inj H
     go_wp2
     go_ret
     exact ⟨_, rf_, re_ HO_3.out, bq_ HB⟩
   rw [if_pos c8] at H
   have c8b0 : decide (x5_1 < 200) = true := decide_eq_true c8
   clear c8
   obtain ⟨c9b0, H⟩ := ipd_ H
   obtain ⟨c10b0, H⟩ := ipd_ H
   obtain ⟨bq11, hbq11⟩ : ∃ b_ : Bool, b_ = (rdOf false t321 x5_1) := ⟨_, rfl⟩
   replace H : (if bq11 = true then (spec_l4Gaps.l0 k1 x3_1 t321 (wrap64 (x5_1 + 1))) else (if x3_1.length < 17592186044416 then (spec_l4Gaps.l0 k1 (x3_1 ++ [x5_1]) t321 (wrap64 (x5_1 + 1))) else (none))) = some r := by rw [← hbq11] at H; exact H
   have Nbq11 := Aside0.mk hbq11
   clear hbq11
   by_cases c12 : bq11 = true
   · subst c12
     rw [if_pos rfl] at H
     have H' := Aside0.mk H
     clear H
     obtain ⟨Ao13, co13, eo13⟩ := Kd.R_slice HO_4.out
     subst eo13
     have p324 : 0 ≤ (x5_1 : Int) := od_
     have q324 : x5_1 < (t321.length : Int) := od_
     obtain ⟨ad324, e324, hx324_0⟩ := Kd.at_bool (Kd.R_reads' HO_4.out).2.2 x5_1 p324 q324
     (try rw [← Nbq11.out] at hx324_0)
     cases e324
     replace p324 := eq_true p324
     replace q324 := eq_true q324
     go_wp2
     go_roundg k1
     case measure => have := HK1.out; omega
     case rel => exact ⟨(x3_1), (wrap64 (x5_1 + 1)), rs_, H', ⟨by have := HK1.out; omega⟩, ⟨re_ HO_3.out⟩, ⟨re_ HO_4.out⟩, ⟨be_ BK317.out⟩, ⟨bq_ HB⟩⟩
   replace c12 := Bool.eq_false_iff.mpr c12
   subst c12
   rw [if_neg (show ¬ (false = true) by decide)] at H
   obtain ⟨c14, H⟩ := ip_ H
   have LMc14 := Aside0.mk c14
   clear c14
   obtain ⟨y325, hy325⟩ : ∃ y_ : List Int, y_ = (x3_1 ++ [x5_1]) := ⟨_, rfl⟩
   replace H : (spec_l4Gaps.l0 k1 y325 t321 (wrap64 (x5_1 + 1))) = some r := by subst hy325; exact H
   have Ny325 := Aside0.mk hy325
   clear hy325
   have H' := Aside0.mk H
   clear H
   obtain ⟨Ao15, co15, eo15⟩ := Kd.R_slice HO_4.out
   subst eo15
   have p324 : 0 ≤ (x5_1 : Int) := od_
   have q324 : x5_1 < (t321.length : Int) := od_
   obtain ⟨ad324, e324, hx324_0⟩ := Kd.at_bool (Kd.R_reads' HO_4.out).2.2 x5_1 p324 q324
   (try rw [← Nbq11.out] at hx324_0)
   cases e324
   replace p324 := eq_true p324
   replace q324 := eq_true q324
   go_wp2_with (first | ((with_reducible refine gate_builtin (b := .append) (xs := #[.tmp 19, .tmp 21]) rfl ?_); at_builtin; refine Kd.R_append (Kd.int .i64) (w0 := w) w.heap.size rfl (.tmp 19) (.tmp 21) 24 3 (.int .i64 0) 8 rfl Try.underlying24 info3 rfl (by decide) (by omega) u3 x3_1 x5_1 [.int .i64 x5_1] (fun _ => True) (fun _ => False) rfl rfl ?aP (fun _ hk => hk.elim) ?aF ?aO ?aB ?aS ?aL ?_; (case aP => exact rfl); (case aB => exact (bq_ HB)); (case aF => exact (fun _ _ => trivial)); (case aO => exact (re_ HO_3.out)); (case aS => exact (below_size (bq_ HB))); (case aL => have := LMc14.out; omega); intro v326 w16 ho hb hg hat; rw [← Ny325.out] at ho; replace HO_4 := Aside0.mk (Kd.R_over' (re_ HO_4.out) (Kd.R_typed (re_ HO_3.out)) (by decide) hg); replace BK317 := Aside0.mk (blk_grown (be_ BK317.out) hg (Kd.R_ne HO_3.out BK317.out (by decide))); replace HB := Aside0.mk (hb); have HO327 := Aside0.mk (ho); clear HO_3; clear ho hb hg hat))
   go_roundg k1
   case measure => have := HK1.out; omega
   case rel => exact ⟨(y325), (wrap64 (x5_1 + 1)), rs_, H', ⟨by have := HK1.out; omega⟩, ⟨re_ HO327.out⟩, ⟨re_ HO_4.out⟩, ⟨be_ BK317.out⟩, ⟨bq_ HB⟩⟩
def spec_Gaps.f (k : Nat) (l0_0 : List Int) : Option (List Int) := (spec_IsSemigroup.f k l0_0).bind fun t329 => (if t329 = true then ((spec_l4Gaps.f k l0_0).bind fun t330 => (some t330)) else (some (([] : List Int))))
theorem spec_Gaps.calls (k : Nat) (A0_0 : Option Addr) (c0_0 : Nat) (l0_0 : List Int) (r : List Int) (w : World) (hr0_0 : Kd.C (Kd.int .i64) w A0_0 l0_0.length l0_0) (hc0_0 : l0_0.length ≤ c0_0) (h : spec_Gaps.f k l0_0 = some r) :
 Calls Try.prog 98 #[.agg #[.slice A0_0 l0_0.length c0_0]] w fun e w' => ∃ v0_ : Value, e = .returned (v0_) ∧ Kd.R (Kd.int .i64) 3 w' w.heap.size (fun _ => True) v0_ r ∧ Below w.heap.size w w' := by
 have hu26 := Try.underlying26
 have HR0_0 := Aside0.mk hr0_0
 have HC0_0 := Aside0.mk hc0_0
 clear hr0_0 hc0_0
 have HB := Aside0.mk (Below.refl w.heap.size w)
 have H := h
 clear h
 unfold spec_Gaps.f at H
 obtain ⟨t329, A2, H⟩ := ob_ H
 by_cases c3 : t329 = true
 · subst c3
   rw [if_pos rfl] at H
   obtain ⟨t330, A4, H⟩ := ob_ H
   obtain rfl := Option.some.inj H
   go_enter Try.func98, Try.ntmps98
   go_wp2_with (first | ((with_reducible refine gate_dst (N := 1) rfl ?_); refine bx_ 1 #[.slice A0_0 l0_0.length c0_0] 26 ?_; intro gb328 hg w5 hbox hb; have BK328 := Aside0.mk (hbox); have GW328 := gw_ hg HB; have GE328 := gw_ hg HB; replace HB := bo_ HB hb; clear hb hbox hg; have hcz6_0 := cz_ BK328; have hfz6_0 := blk_frozen BK328.out 0) | ((with_reducible refine gate_callee (f := 25) rfl ?_); refine gL_ (some 4) Try.func25 #[.agg #[.slice A0_0 l0_0.length c0_0]] ?_; (with_reducible refine (spec_IsSemigroup.calls k _ _ l0_0 true _ ?side1 ?side2 A2.out).mono ?_); (case side1 => exact ch_ HR0_0 HB); (case side2 => exact HC0_0.out); rintro e w7 ⟨rfl, hb⟩; refine ⟨_, rfl, ?_⟩; replace BK328 := bk_ BK328 hb; replace HB := bp_ HB hb; (try clear hb); have hcz8_0 := cz_ BK328; have hfz8_0 := blk_frozen BK328.out 0) | ((with_reducible refine gate_callee (f := 54) rfl ?_); refine gL_ (some 8) Try.func54 #[.agg #[.slice A0_0 l0_0.length c0_0]] ?_; (with_reducible refine (spec_l4Gaps.calls k _ _ l0_0 t330 _ ?side1 ?side2 A4.out).mono ?_); (case side1 => exact ch_ HR0_0 HB); (case side2 => exact HC0_0.out); rintro e w9 ⟨v331, rfl, ho0, hb⟩; refine ⟨_, rfl, ?_⟩; have HO332 := Aside0.mk (Kd.R_lower ho0 (below_size (bq_ HB))); replace BK328 := bk_ BK328 hb; replace HB := bp_ HB hb; (try clear hb); (try clear ho0)))
   go_ret
   exact ⟨_, rf_, re_ HO332.out, bq_ HB⟩
 replace c3 := Bool.eq_false_iff.mpr c3
 subst c3
 rw [if_neg (show ¬ (false = true) by decide)] at H
 obtain ⟨y333, hy333⟩ : ∃ y_ : List Int, y_ = (([] : List Int)) := ⟨_, rfl⟩
 replace H : (some y333) = some r := by subst hy333; exact H
 have Ny333 := Aside0.mk hy333
 clear hy333
 obtain rfl := Option.some.inj H
 go_enter Try.func98, Try.ntmps98
 go_wp2_with (first | ((with_reducible refine gate_dst (N := 1) rfl ?_); refine bx_ 1 #[.slice A0_0 l0_0.length c0_0] 26 ?_; intro gb328 hg w10 hbox hb; have BK328 := Aside0.mk (hbox); have GW328 := gw_ hg HB; have GE328 := gw_ hg HB; replace HB := bo_ HB hb; clear hb hbox hg; have hcz11_0 := cz_ BK328; have hfz11_0 := blk_frozen BK328.out 0) | ((with_reducible refine gate_callee (f := 25) rfl ?_); refine gL_ (some 4) Try.func25 #[.agg #[.slice A0_0 l0_0.length c0_0]] ?_; (with_reducible refine (spec_IsSemigroup.calls k _ _ l0_0 false _ ?side1 ?side2 A2.out).mono ?_); (case side1 => exact ch_ HR0_0 HB); (case side2 => exact HC0_0.out); rintro e w12 ⟨rfl, hb⟩; refine ⟨_, rfl, ?_⟩; replace BK328 := bk_ BK328 hb; replace HB := bp_ HB hb; (try clear hb)) | ((with_reducible refine gate_dst (N := 6) rfl ?_); refine Kd.R_lit (Kd.int .i64) _ 3 ?hg (N := 6) ?hd (xs := ([] : List Int)) (inner := []) (ok := fun _ => True) (okp := fun _ => True) ?hr ?hp (fun _ hk => hk) trivial (Below.refl _ _) (Nat.le_refl _) (by simp) ?_; (case hd => rfl); (case hg => rfl); (case hr => first | (go_simp; done) | (go_simp; rfl)); (case hp => exact (Reps.none _ _)); intro v334 w13 ho14 hb hg_ hnew_; clear hg_ hnew_; (first | rw [← Ny333.out] at ho14 | (simp only [Int.reduceToNat] at ho14; rw [← Ny333.out] at ho14)); have HO335 := Aside0.mk (Kd.R_lower ho14 (below_size (bq_ HB))); replace BK328 := bk_ BK328 hb; replace HB := bp_ HB hb; clear hb ho14))
 go_ret
 exact ⟨_, rf_, re_ HO335.out, bq_ HB⟩
def spec_FrobeniusOf.f (k : Nat) (l0_0 : List Int) : Option (Int) := (spec_Gaps.f k l0_0).bind fun t337 => (if (t337.length : Int) = 0 then (some (-1)) else (if 0 ≤ (wrap64 ((t337.length : Int) - 1)) then (if (wrap64 ((t337.length : Int) - 1)) < (t337.length : Int) then (some (rd t337 (wrap64 ((t337.length : Int) - 1)))) else (none)) else (none)))
theorem spec_FrobeniusOf.calls (k : Nat) (A0_0 : Option Addr) (c0_0 : Nat) (l0_0 : List Int) (r : Int) (w : World) (hr0_0 : Kd.C (Kd.int .i64) w A0_0 l0_0.length l0_0) (hc0_0 : l0_0.length ≤ c0_0) (h : spec_FrobeniusOf.f k l0_0 = some r) :
 Calls Try.prog 71 #[.agg #[.slice A0_0 l0_0.length c0_0]] w fun e w' => e = .returned (.int .i64 r) ∧ Below w.heap.size w w' := by
 have hu26 := Try.underlying26
 have HR0_0 := Aside0.mk hr0_0
 have HC0_0 := Aside0.mk hc0_0
 clear hr0_0 hc0_0
 have HB := Aside0.mk (Below.refl w.heap.size w)
 have H := h
 clear h
 unfold spec_FrobeniusOf.f at H
 obtain ⟨t337, A2, H⟩ := ob_ H
 by_cases c3 : (t337.length : Int) = 0
 · rw [if_pos c3] at H
   have c3b0 : ((t337.length : Int) == 0) = true := beq_iff_eq.mpr c3
   have c3b1 : ((t337.length : Int) != 0) = false := bne_eq_false_iff_eq.mpr c3
   clear c3
   obtain rfl := Option.some.inj H
   go_enter Try.func71, Try.ntmps71
   go_wp2_with (first | ((with_reducible refine gate_dst (N := 1) rfl ?_); refine bx_ 1 #[.slice A0_0 l0_0.length c0_0] 26 ?_; intro gb336 hg w4 hbox hb; have BK336 := Aside0.mk (hbox); have GW336 := gw_ hg HB; have GE336 := gw_ hg HB; replace HB := bo_ HB hb; clear hb hbox hg; have hcz5_0 := cz_ BK336; have hfz5_0 := blk_frozen BK336.out 0) | ((with_reducible refine gate_callee (f := 98) rfl ?_); refine gL_ (some 5) Try.func98 #[.agg #[.slice A0_0 l0_0.length c0_0]] ?_; (with_reducible refine (spec_Gaps.calls k _ _ l0_0 t337 _ ?side1 ?side2 A2.out).mono ?_); (case side1 => exact ch_ HR0_0 HB); (case side2 => exact HC0_0.out); rintro e w6 ⟨v338, rfl, ho0, hb⟩; refine ⟨_, rfl, ?_⟩; have HO339 := Aside0.mk (Kd.R_lower ho0 (below_size (bq_ HB))); replace BK336 := bk_ BK336 hb; replace HB := bp_ HB hb; (try clear hb); (try clear ho0); obtain ⟨Ao7, co7, eo7⟩ := Kd.R_slice HO339.out; subst eo7))
   go_ret
   exact ⟨rf_, bq_ HB⟩
 rw [if_neg c3] at H
 have c3b0 : ((t337.length : Int) == 0) = false := beq_eq_false_iff_ne.mpr c3
 have c3b1 : ((t337.length : Int) != 0) = true := bne_iff_ne.mpr c3
 have c3b2 : ¬ (t337 = []) := fun h_ => c3 (by rw [h_]; rfl)
 obtain ⟨ji8, hji8⟩ : ∃ j_ : Int, (wrap64 ((t337.length : Int) - 1)) = j_ := ⟨_, rfl⟩
 replace H : (if 0 ≤ (ji8) then (if (ji8) < (t337.length : Int) then (some (rd t337 (ji8))) else (none)) else (none)) = some r := by first | (rw [hji8] at H; exact H) | (simp only [hji8] at H ⊢; exact H)
 (try rw [hji8] at A2)
 have hji8w : (IntKind.i64.wrap ((t337.length : Int) - 1)) = ji8 := (i64_w _).trans hji8
 obtain ⟨c9b0, H⟩ := ipd_ H
 obtain ⟨c10b0, H⟩ := ipd_ H
 obtain rfl := Option.some.inj H
 go_enter Try.func71, Try.ntmps71
 go_wp2_with (first | ((with_reducible refine gate_dst (N := 1) rfl ?_); refine bx_ 1 #[.slice A0_0 l0_0.length c0_0] 26 ?_; intro gb336 hg w11 hbox hb; have BK336 := Aside0.mk (hbox); have GW336 := gw_ hg HB; have GE336 := gw_ hg HB; replace HB := bo_ HB hb; clear hb hbox hg; have hcz12_0 := cz_ BK336; have hfz12_0 := blk_frozen BK336.out 0) | ((with_reducible refine gate_callee (f := 98) rfl ?_); refine gL_ (some 5) Try.func98 #[.agg #[.slice A0_0 l0_0.length c0_0]] ?_; (with_reducible refine (spec_Gaps.calls k _ _ l0_0 t337 _ ?side1 ?side2 A2.out).mono ?_); (case side1 => exact ch_ HR0_0 HB); (case side2 => exact HC0_0.out); rintro e w13 ⟨v338, rfl, ho0, hb⟩; refine ⟨_, rfl, ?_⟩; have HO339 := Aside0.mk (Kd.R_lower ho0 (below_size (bq_ HB))); replace BK336 := bk_ BK336 hb; replace HB := bp_ HB hb; (try clear hb); (try clear ho0); obtain ⟨Ao14, co14, eo14⟩ := Kd.R_slice HO339.out; subst eo14; have p340 : 0 ≤ ((ji8) : Int) := od_; have q340 : (ji8) < (t337.length : Int) := od_; obtain ⟨ad340, e340, hx340_0⟩ := Kd.at_int (Kd.R_reads' HO339.out).2.2 (ji8) p340 q340; cases e340; replace p340 := eq_true p340; replace q340 := eq_true q340))
 go_ret
 exact ⟨by first | rfl | (simp [errW_none, errW_some] <;> rfl) | (simp only [← hji8]; first | rfl | (simp [errW_none, errW_some] <;> rfl)) | (simp [*, errW_none, errW_some] <;> rfl), bq_ HB⟩
def spec_l8Gaps.l0 : Nat → List Int → Int → Option (Bool)
 | 0, _, _ => none
 | k + 1, x0, x3 => if x3 < (x0.length : Int) then (if 0 ≤ x3 then ((spec_l1In.f (rd x0 x3) 1 199).bind fun t342 => (if t342 = true then (spec_l8Gaps.l0 k x0 (wrap64 (x3 + 1))) else (some false))) else (none)) else ((spec_IsAscending.f k x0).bind fun t343 => (some t343))
def spec_l8Gaps.f (k : Nat) (l0 : List Int) : Option (Bool) := spec_l8Gaps.l0 k l0 0
theorem spec_l8Gaps.calls (k : Nat) (A0 : Option Addr) (c0 : Nat) (l0 : List Int) (r : Bool) (w : World) (hr0 : Kd.C (Kd.int .i64) w A0 l0.length l0) (hc0 : l0.length ≤ c0) (h : spec_l8Gaps.f k l0 = some r) :
 Calls Try.prog 83 #[.slice A0 l0.length c0] w fun e w' => e = .returned (.bool r) ∧ Drawn0 w w' := by
 have HR0 := Aside0.mk hr0
 have HC0 := Aside0.mk hc0
 clear hr0 hc0
 have H := h
 clear h
 unfold spec_l8Gaps.f at H
 have H' := Aside0.mk H
 clear H
 go_enter Try.func83, Try.ntmps83
 go_wp2
 go_loopg [3] k (fun kq v3 w' => ∃ (x3_1 : Int), v3 = .int .i64 x3_1 ∧ Aside0 (spec_l8Gaps.l0 kq l0 x3_1 = some r) ∧ Aside0 (kq ≤ k) ∧ Drawn0 w w')
 case atStart => exact ⟨(0), rs_, H', ⟨Nat.le_refl _⟩, by repeat (first | exact Drawn0.refl _ | apply Drawn0.step)⟩
 case round =>
  clear H'
  obtain ⟨x3_1, rfl, HA, HK1, ⟨m1, rfl⟩⟩ := hrel
  cases gk with
  | zero => exact absurd HA.out (by simp [spec_l8Gaps.l0])
  | succ k1 =>
   have H := HA.out
   clear HA
   simp only [spec_l8Gaps.l0] at H
   by_cases c2 : x3_1 < (l0.length : Int)
   rotate_left
   · rw [if_neg c2] at H
     have c2b0 : decide (x3_1 < (l0.length : Int)) = false := decide_eq_false c2
     clear c2
     obtain ⟨t343, A6, H⟩ := ob_ H
     obtain rfl := Option.some.inj H
     go_wp2_with (first | ((with_reducible refine gate_callee (f := 47) rfl ?_); refine gL_ (some 17) Try.func47 #[.slice A0 l0.length c0] ?_; (with_reducible refine (spec_IsAscending.calls k1 _ _ l0 t343 _ ?side1 ?side2 A6.out).mono ?_); (case side1 => exact ce_ (HR0.out)); (case side2 => exact HC0.out); rintro e w' ⟨rfl, ⟨nd, rfl⟩⟩; refine ⟨_, rfl, ?_⟩))
     go_ret
     exact ⟨by first | rfl | (simp; done) | (simp [*]; done), by repeat (first | exact Drawn0.refl _ | apply Drawn0.step)⟩
   rw [if_pos c2] at H
   have c2b0 : decide (x3_1 < (l0.length : Int)) = true := decide_eq_true c2
   clear c2
   obtain ⟨c3b0, H⟩ := ipd_ H
   obtain ⟨t342, A4, H⟩ := ob_ H
   by_cases c5 : t342 = true
   rotate_left
   · replace c5 := Bool.eq_false_iff.mpr c5
     subst c5
     rw [if_neg (show ¬ (false = true) by decide)] at H
     obtain rfl := Option.some.inj H
     have p341 : 0 ≤ (x3_1 : Int) := od_
     have q341 : x3_1 < (l0.length : Int) := od_
     obtain ⟨ad341, e341, hx341_0⟩ := Kd.at_int HR0.out x3_1 p341 q341
     cases e341
     replace p341 := eq_true p341
     replace q341 := eq_true q341
     go_wp2_with (first | ((with_reducible refine gate_callee (f := 39) rfl ?_); refine gL_ (some 14) Try.func39 #[.int .i64 (rd l0 x3_1), .int .i64 1, .int .i64 199] ?_; (with_reducible refine (spec_l1In.calls (rd l0 x3_1) 1 199 false _ A4.out).mono ?_); rintro e w' ⟨rfl, ⟨nd, rfl⟩⟩; refine ⟨_, rfl, ?_⟩))
     go_ret
     exact ⟨by first | rfl | (simp; done) | (simp [*]; done), by repeat (first | exact Drawn0.refl _ | apply Drawn0.step)⟩
   subst c5
   rw [if_pos rfl] at H
   have H' := Aside0.mk H
   clear H
   have p341 : 0 ≤ (x3_1 : Int) := od_
   have q341 : x3_1 < (l0.length : Int) := od_
   obtain ⟨ad341, e341, hx341_0⟩ := Kd.at_int HR0.out x3_1 p341 q341
   cases e341
   replace p341 := eq_true p341
   replace q341 := eq_true q341
   go_wp2_with (first | ((with_reducible refine gate_callee (f := 39) rfl ?_); refine gL_ (some 14) Try.func39 #[.int .i64 (rd l0 x3_1), .int .i64 1, .int .i64 199] ?_; (with_reducible refine (spec_l1In.calls (rd l0 x3_1) 1 199 true _ A4.out).mono ?_); rintro e w' ⟨rfl, ⟨nd, rfl⟩⟩; refine ⟨_, rfl, ?_⟩))
   go_roundg k1
   case measure => have := HK1.out; omega
   case rel => exact ⟨(wrap64 (x3_1 + 1)), rs_, H', ⟨by have := HK1.out; omega⟩, by repeat (first | exact Drawn0.refl _ | apply Drawn0.step)⟩
mutual
def spec_GapClash.j0 : Nat → List Int → Bool → Option (Int × Int × Bool)
 | 0, _, _ => none
 | k + 1, x0, x16 => if x16 = true then (some (0, 0, false)) else (if 0 ≤ (wrap64 ((x0.length : Int) - 1)) then (if (wrap64 ((x0.length : Int) - 1)) < (x0.length : Int) then (if 0 ≤ (wrap64 ((wrap64 (2 * (rd x0 (wrap64 ((x0.length : Int) - 1))))) + 1)) then (if (wrap64 ((wrap64 (2 * (rd x0 (wrap64 ((x0.length : Int) - 1))))) + 1) : Int).toNat ≤ 281474976710656 then (spec_GapClash.l0 k x0 (rd x0 (wrap64 ((x0.length : Int) - 1))) (List.replicate (wrap64 ((wrap64 (2 * (rd x0 (wrap64 ((x0.length : Int) - 1))))) + 1) : Int).toNat false) 0) else (none)) else (none)) else (none)) else (none))
def spec_GapClash.l0 : Nat → List Int → Int → List Bool → Int → Option (Int × Int × Bool)
 | 0, _, _, _, _ => none
 | k + 1, x0, x4, x5, x6 => if x6 < (x0.length : Int) then (if 0 ≤ x6 then (if 0 ≤ (rd x0 x6) then (if (rd x0 x6) < (x5.length : Int) then (spec_GapClash.l0 k x0 x4 (x5.set ((rd x0 x6) : Int).toNat true) (wrap64 (x6 + 1))) else (none)) else (none)) else (none)) else (spec_GapClash.l1 k x4 x5 1)
def spec_GapClash.l1 : Nat → Int → List Bool → Int → Option (Int × Int × Bool)
 | 0, _, _, _ => none
 | k + 1, x4, x5, x7 => if x7 ≤ x4 then (spec_GapClash.l2 k x4 x5 x7 x7) else (some (0, 0, false))
def spec_GapClash.l2 : Nat → Int → List Bool → Int → Int → Option (Int × Int × Bool)
 | 0, _, _, _, _ => none
 | k + 1, x4, x5, x7, x8 => if (wrap64 (x7 + x8)) ≤ x4 then (if 0 ≤ x7 then (if x7 < (x5.length : Int) then (spec_GapClash.j4 k x4 x5 x7 x8 (!(rdOf false x5 x7))) else (none)) else (none)) else (spec_GapClash.j4 k x4 x5 x7 x8 false)
def spec_GapClash.j4 : Nat → Int → List Bool → Int → Int → Bool → Option (Int × Int × Bool)
 | 0, _, _, _, _, _ => none
 | k + 1, x4, x5, x7, x8, x57 => if x57 = true then (if 0 ≤ x8 then (if x8 < (x5.length : Int) then (if rdOf false x5 x8 = true then (spec_GapClash.l2 k x4 x5 x7 (wrap64 (x8 + 1))) else (if 0 ≤ (wrap64 (x7 + x8)) then (if (wrap64 (x7 + x8)) < (x5.length : Int) then (if rdOf false x5 (wrap64 (x7 + x8)) = true then (some (x7, x8, true)) else (spec_GapClash.l2 k x4 x5 x7 (wrap64 (x8 + 1)))) else (none)) else (none))) else (none)) else (none)) else (spec_GapClash.l1 k x4 x5 (wrap64 (x7 + 1)))
end
def spec_GapClash.f (k : Nat) (l0 : List Int) : Option (Int × Int × Bool) := (spec_l8Gaps.f k l0).bind fun t345 => (if t345 = true then (spec_GapClash.j0 k l0 ((l0.length : Int) == 0)) else (spec_GapClash.j0 k l0 true))
theorem spec_GapClash.calls (k : Nat) (A0 : Option Addr) (c0 : Nat) (l0 : List Int) (r1 : Int) (r2 : Int) (r3 : Bool) (w : World) (hr0 : Kd.C (Kd.int .i64) w A0 l0.length l0) (hc0 : l0.length ≤ c0) (h : spec_GapClash.f k l0 = some (r1, r2, r3)) :
 Calls Try.prog 82 #[.slice A0 l0.length c0] w fun e w' => e = .returned (.tuple #[.agg #[.int .i64 r1, .int .i64 r2], .bool r3]) ∧ Below w.heap.size w w' := by
 have hu70 := Try.underlying70
 have HR0 := Aside0.mk hr0
 have HC0 := Aside0.mk hc0
 clear hr0 hc0
 have HB := Aside0.mk (Below.refl w.heap.size w)
 have H := h
 clear h
 unfold spec_GapClash.f at H
 have HC2 := Aside0.mk H
 clear H
 go_enter Try.func82, Try.ntmps82
 go_upto_region 1 with (first | ((with_reducible refine gate_dst (N := 2) rfl ?_); (try (refine gate_guard (by rfl) ?_; dsimp only)); refine bx_ 2 #[.int .i64 0, .int .i64 0] 70 ?_; intro gb344 hg w3 hbox hb; have BK344 := Aside0.mk (hbox); have GW344 := gw_ hg HB; have GE344 := gw_ hg HB; replace HB := bo_ HB hb; clear hb hbox hg))
 (try simp only [Act.put, z1_, z2_, z3_])
 go_cut [16] (fun v16 wc => ∃ (kq : Nat) (x16_1 : Bool), v16 = .bool x16_1 ∧ Aside0 (spec_GapClash.j0 kq l0 x16_1 = some (r1, r2, r3)) ∧ Aside0 (kq ≤ k) ∧ Aside0 (wc.heap[gb344]? = some (.cells #[.int .i64 0, .int .i64 0] 70 (0, 0))) ∧ Aside0 (Below w.heap.size w wc))
 case first =>
  have H := HC2.out
  clear HC2
  obtain ⟨t345, A4, H⟩ := ob_ H
  by_cases c5 : t345 = true
  · subst c5
    rw [if_pos rfl] at H
    have H' := Aside0.mk H
    clear H
    go_wp2_with (first | ((with_reducible refine gate_callee (f := 83) rfl ?_); refine gL_ (some 10) Try.func83 #[.slice A0 l0.length c0] ?_; (with_reducible refine (spec_l8Gaps.calls k _ _ l0 true _ ?side1 ?side2 A4.out).mono ?_); (case side1 => exact ch_ HR0 HB); (case side2 => exact HC0.out); rintro e w' ⟨rfl, ⟨nd, rfl⟩⟩; refine ⟨_, rfl, ?_⟩))
    go_meet
    case rel => exact ⟨_, (((l0.length : Int) == 0)), rs_, H', ⟨by first | omega | exact Nat.le_refl _⟩, ⟨be_ BK344.out⟩, ⟨bq_ HB⟩⟩
  replace c5 := Bool.eq_false_iff.mpr c5
  subst c5
  rw [if_neg (show ¬ (false = true) by decide)] at H
  have H' := Aside0.mk H
  clear H
  go_wp2_with (first | ((with_reducible refine gate_callee (f := 83) rfl ?_); refine gL_ (some 10) Try.func83 #[.slice A0 l0.length c0] ?_; (with_reducible refine (spec_l8Gaps.calls k _ _ l0 false _ ?side1 ?side2 A4.out).mono ?_); (case side1 => exact ch_ HR0 HB); (case side2 => exact HC0.out); rintro e w' ⟨rfl, ⟨nd, rfl⟩⟩; refine ⟨_, rfl, ?_⟩))
  go_meet
  case rel => exact ⟨_, (true), rs_, H', ⟨by first | omega | exact Nat.le_refl _⟩, ⟨be_ BK344.out⟩, ⟨bq_ HB⟩⟩
 case rest =>
  clear HC2
  obtain ⟨kq, x16_1, rfl, HA, HJ1, BK344, HB⟩ := hcut
  cases kq with
  | zero => exact absurd HA.out (by simp [spec_GapClash.j0])
  | succ kj1 =>
   have H := HA.out
   clear HA
   simp only [spec_GapClash.j0] at H
   by_cases c6 : x16_1 = true
   · subst c6
     rw [if_pos rfl] at H
     simp only [Option.some.injEq, Prod.mk.injEq] at H
     obtain ⟨rfl, rfl, rfl⟩ := H
     have hcz7_0 : wc.cell? ⟨gb344, 0, none⟩ = some (.int .i64 0) := (blk_cell BK344.out 0).trans rfl
     have hcz7_1 : wc.cell? ⟨gb344, 1, none⟩ = some (.int .i64 0) := (blk_cell BK344.out 1).trans rfl
     have hfz7_0 := blk_frozen BK344.out 0
     have hfz7_1 := blk_frozen BK344.out 1
     go_wp2
     refine bodyPost_ret (results_ct rfl _ _ gb344 70 #[.int .i64 0, .int .i64 0] (0, 0) _ rfl (by (with_reducible repeat (first | refine blk_drewN ?_ _ | refine blk_drew ?_ | refine blk_alloc ?_ _)); refine blk_put (cs := #[.int .i64 0, .int .i64 0]) ?_ 1 _ rfl; (with_reducible repeat (first | refine blk_drewN ?_ _ | refine blk_drew ?_ | refine blk_alloc ?_ _)); refine blk_put (cs := #[.int .i64 0, .int .i64 0]) ?_ 0 _ rfl; (with_reducible repeat (first | refine blk_drewN ?_ _ | refine blk_drew ?_ | refine blk_alloc ?_ _)); exact BK344.out) Try.underlying70 rfl (by kernel_rfl)) rfl ?_
     exact ⟨rf_, bq_ HB⟩
   replace c6 := Bool.eq_false_iff.mpr c6
   subst c6
   rw [if_neg (show ¬ (false = true) by decide)] at H
   obtain ⟨ji8, hji8⟩ : ∃ j_ : Int, (wrap64 ((l0.length : Int) - 1)) = j_ := ⟨_, rfl⟩
   replace H : (if 0 ≤ (ji8) then (if (ji8) < (l0.length : Int) then (if 0 ≤ (wrap64 ((wrap64 (2 * (rd l0 (ji8)))) + 1)) then (if (wrap64 ((wrap64 (2 * (rd l0 (ji8)))) + 1) : Int).toNat ≤ 281474976710656 then (spec_GapClash.l0 kj1 l0 (rd l0 (ji8)) (List.replicate (wrap64 ((wrap64 (2 * (rd l0 (ji8)))) + 1) : Int).toNat false) 0) else (none)) else (none)) else (none)) else (none)) = some (r1, r2, r3) := by first | (rw [hji8] at H; exact H) | (simp only [hji8] at H ⊢; exact H)
   have hji8w : (IntKind.i64.wrap ((l0.length : Int) - 1)) = ji8 := (i64_w _).trans hji8
   obtain ⟨c9b0, H⟩ := ipd_ H
   obtain ⟨c10b0, H⟩ := ipd_ H
   obtain ⟨ji11, hji11⟩ : ∃ j_ : Int, (wrap64 ((wrap64 (2 * (rd l0 (ji8)))) + 1)) = j_ := ⟨_, rfl⟩
   replace H : (if 0 ≤ (ji11) then (if (ji11 : Int).toNat ≤ 281474976710656 then (spec_GapClash.l0 kj1 l0 (rd l0 (ji8)) (List.replicate (ji11 : Int).toNat false) 0) else (none)) else (none)) = some (r1, r2, r3) := by first | (rw [hji11] at H; exact H) | (simp only [hji11] at H ⊢; exact H)
   have hji11w : (IntKind.i64.wrap ((wrap64 (2 * (rd l0 (ji8)))) + 1)) = ji11 := (i64_w _).trans hji11
   obtain ⟨c12, H⟩ := ip_ H
   have c12b0 := eq_true c12
   have c12b1 : decide (0 ≤ (ji11)) = true := decide_eq_true c12
   clear c12
   obtain ⟨c13, H⟩ := ip_ H
   have c13b0 := eq_true c13
   have c13b1 : decide ((ji11 : Int).toNat ≤ 281474976710656) = true := decide_eq_true c13
   clear c13
   obtain ⟨y347, hy347⟩ : ∃ y_ : List Bool, y_ = (List.replicate (ji11 : Int).toNat false) := ⟨_, rfl⟩
   replace H : (spec_GapClash.l0 kj1 l0 (rd l0 (ji8)) y347 0) = some (r1, r2, r3) := by subst hy347; exact H
   have Ny347 := Aside0.mk hy347
   clear hy347
   have H' := Aside0.mk H
   clear H
   have p346 : 0 ≤ ((ji8) : Int) := od_
   have q346 : (ji8) < (l0.length : Int) := od_
   obtain ⟨ad346, e346, hx346_0⟩ := Kd.at_int HR0.out (ji8) p346 q346
   cases e346
   (try replace hx346_0 := (HB.out.cell (World.block_lt_of_cell? w _ hx346_0)).trans hx346_0)
   replace p346 := eq_true p346
   replace q346 := eq_true q346
   go_wp2_with (first | ((with_reducible refine gate_dst (N := 27) rfl ?_); (try (refine gate_guard (by rfl) ?_; dsimp only)); refine Kd.R_make Kd.bool _ 4 rfl (N := 27) rfl 67 _ _ rfl ji11 rfl rfl Try.underlying67 (.bool false) 1 info4 rfl (by decide) (by omega) false (ok := fun _ => True) (okp := fun _ => True) rfl (fun _ hk => hk) trivial (od_) (Nat.le_trans (Nat.mul_le_mul_right _ (od_ : ji11.toNat ≤ 281474976710656)) (by omega)) (Below.refl _ _) (Nat.le_refl _) ?_; intro v348 w14 ho15 hb hg_ hnew_; clear hg_ hnew_; (first | rw [← Ny347.out] at ho15 | (simp only [Int.reduceToNat] at ho15; rw [← Ny347.out] at ho15)); have HO349 := Aside0.mk (Kd.R_lower ho15 (below_size (bq_ HB))); replace BK344 := bk_ BK344 hb; replace HB := bp_ HB hb; clear hb ho15))
   go_loopg [6] kj1 (fun kq v6 w' => ∃ (x5_2 : List Bool) (x6_2 : Int), v6 = .int .i64 x6_2 ∧ Aside0 (spec_GapClash.l0 kq l0 (rd l0 (ji8)) x5_2 x6_2 = some (r1, r2, r3)) ∧ Aside0 (kq ≤ kj1) ∧ Aside0 (Kd.R Kd.bool 4 w' w.heap.size (fun _ => True) v348 x5_2) ∧ Aside0 (w'.heap[gb344]? = some (.cells #[.int .i64 0, .int .i64 0] 70 (0, 0))) ∧ Aside0 (Below w.heap.size w w'))
   case atStart => exact ⟨(y347), (0), rs_, H', ⟨Nat.le_refl _⟩, ⟨re_ HO349.out⟩, ⟨be_ BK344.out⟩, ⟨bq_ HB⟩⟩
   case round =>
    clear H'
    try clear c9b0
    try clear c10b0
    try clear c12b0
    try clear c12b1
    try clear c13b0
    try clear c13b1
    try clear hx346_0
    try clear p346
    try clear q346
    obtain ⟨x5_2, x6_2, rfl, HA, HK2, HO_5, BK344, HB⟩ := hrel
    cases gk with
    | zero => exact absurd HA.out (by simp [spec_GapClash.l0])
    | succ k2 =>
     have H := HA.out
     clear HA
     simp only [spec_GapClash.l0] at H
     by_cases c16 : x6_2 < (l0.length : Int)
     · rw [if_pos c16] at H
       have c16b0 : decide (x6_2 < (l0.length : Int)) = true := decide_eq_true c16
       clear c16
       obtain ⟨c17b0, H⟩ := ipd_ H
       obtain ⟨c18b0, H⟩ := ipd_ H
       obtain ⟨c19b0, H⟩ := ipd_ H
       obtain ⟨y351, hy351⟩ : ∃ y_ : List Bool, y_ = (x5_2.set ((rd l0 x6_2) : Int).toNat true) := ⟨_, rfl⟩
       replace H : (spec_GapClash.l0 k2 l0 (rd l0 (ji8)) y351 (wrap64 (x6_2 + 1))) = some (r1, r2, r3) := by subst hy351; exact H
       have Ny351 := Aside0.mk hy351
       clear hy351
       have H' := Aside0.mk H
       clear H
       have p350 : 0 ≤ (x6_2 : Int) := od_
       have q350 : x6_2 < (l0.length : Int) := od_
       obtain ⟨ad350, e350, hx350_0⟩ := Kd.at_int HR0.out x6_2 p350 q350
       obtain rfl : ad346 = ad350 := (by injection e350)
       (try replace hx350_0 := (HB.out.cell (World.block_lt_of_cell? w _ hx350_0)).trans hx350_0)
       replace p350 := eq_true p350
       replace q350 := eq_true q350
       have p20 : 0 ≤ ((rd l0 x6_2) : Int) := od_
       have q20 : ((rd l0 x6_2) : Int) < ((x5_2.length : Int) : Int) := od_
       obtain ⟨go20, co20, eo20, gb20, gl20, cl20, HG20⟩ := Kd.R_form HO_5.out (by omega)
       (first | cases eo20 | (injection eo20 with ea_ en_ ec_; (first | subst ea_ | (injection ea_ with ea_; subst ea_)); subst ec_; clear en_))
       have GB20 := Aside0.mk gb20
       have GG20 := Aside0.mk HG20
       clear gb20 gl20 HG20
       obtain ⟨hx20_0, hf20_0⟩ := Kd.R_celln false HO_5.out ((rd l0 x6_2) : Int) p20 q20
       replace p20 := eq_true p20
       replace q20 := eq_true q20
       have HP21 := Kd.R_putg HO_5.out ((rd l0 x6_2) : Int) true
       go_wp2_with (first | ((with_reducible refine gate_store (t := 4) (p := 39) rfl ?_); refine store_event (t := 4) (p := 39) (v := ?vo_w22) (w1 := (wr.setCell ⟨go20, ((rd l0 x6_2) : Int).toNat, none⟩ (.bool true))) ?hg ?ho ?hn ?hr ?_; (case ho => rfl); (case hg => rfl); (case hn => rfl); (case hr => first | (go_simp; done) | (go_simp; rfl)); intro w22 hw; have hg : wr.grownBy w22 (some go20) := (by rw [hw]; exact HP21.2); have hp_ : Kd.R Kd.bool 4 w22 w.heap.size (fun _ => True) (.slice (some ⟨go20, 0, none⟩) x5_2.length co20) y351 := (by rw [hw, Ny351.out]; exact HP21.1); clear HP21; replace BK344 := Aside0.mk (blk_grown (be_ BK344.out) hg (Kd.R_ne HO_5.out BK344.out (by decide))); replace HO_5 := Aside0.mk (hp_); replace HB := Aside0.mk ((by rw [hw]; exact below_set (HB.out) GB20.out : Below w.heap.size w w22)); clear hg hw hp_))
       go_roundg k2
       case measure => have := HJ1.out; have := HK2.out; omega
       case rel => exact ⟨(y351), (wrap64 (x6_2 + 1)), rs_, H', ⟨by have := HJ1.out; have := HK2.out; omega⟩, ⟨re_ HO_5.out⟩, ⟨be_ BK344.out⟩, ⟨bq_ HB⟩⟩
     rw [if_neg c16] at H
     have c16b0 : decide (x6_2 < (l0.length : Int)) = false := decide_eq_false c16
     clear c16
     have H' := Aside0.mk H
     clear H
     go_wp2
     go_loopg [7] k2 (fun kq v7 w' => ∃ (x7_3 : Int) (x345000_3 : Int) (x345001_3 : Int), v7 = .int .i64 x7_3 ∧ Aside0 (spec_GapClash.l1 kq (rd l0 (ji8)) x5_2 x7_3 = some (r1, r2, r3)) ∧ Aside0 (kq ≤ k2) ∧ Aside0 (Kd.R Kd.bool 4 w' w.heap.size (fun _ => True) v348 x5_2) ∧ Aside0 (w'.heap[gb344]? = some (.cells #[.int .i64 x345000_3, .int .i64 x345001_3] 70 (0, 0))) ∧ Aside0 (Below w.heap.size w w'))
     case atStart => exact ⟨(1), (0), (0), rs_, H', ⟨Nat.le_refl _⟩, ⟨re_ HO_5.out⟩, ⟨be_ BK344.out⟩, ⟨bq_ HB⟩⟩
     case round =>
      clear H'
      try clear c16b0
      obtain ⟨x7_3, x345000_3, x345001_3, rfl, HA, HK3, HO_5, BK344, HB⟩ := hrel
      cases gk with
      | zero => exact absurd HA.out (by simp [spec_GapClash.l1])
      | succ k3 =>
       have H := HA.out
       clear HA
       simp only [spec_GapClash.l1] at H
       by_cases c23 : x7_3 ≤ (rd l0 (ji8))
       rotate_left
       · rw [if_neg c23] at H
         have c23b0 : decide (x7_3 ≤ (rd l0 (ji8))) = false := decide_eq_false c23
         clear c23
         simp only [Option.some.injEq, Prod.mk.injEq] at H
         obtain ⟨rfl, rfl, rfl⟩ := H
         have hcz43_0 : wr.cell? ⟨gb344, 0, none⟩ = some (.int .i64 x345000_3) := (blk_cell BK344.out 0).trans rfl
         have hcz43_1 : wr.cell? ⟨gb344, 1, none⟩ = some (.int .i64 x345001_3) := (blk_cell BK344.out 1).trans rfl
         have hfz43_0 := blk_frozen BK344.out 0
         have hfz43_1 := blk_frozen BK344.out 1
         go_wp2
         refine bodyPost_ret (results_ct rfl _ _ gb344 70 #[.int .i64 0, .int .i64 0] (0, 0) _ rfl (by (with_reducible repeat (first | refine blk_drewN ?_ _ | refine blk_drew ?_ | refine blk_alloc ?_ _)); refine blk_put (cs := #[.int .i64 0, .int .i64 x345001_3]) ?_ 1 _ rfl; (with_reducible repeat (first | refine blk_drewN ?_ _ | refine blk_drew ?_ | refine blk_alloc ?_ _)); refine blk_put (cs := #[.int .i64 x345000_3, .int .i64 x345001_3]) ?_ 0 _ rfl; (with_reducible repeat (first | refine blk_drewN ?_ _ | refine blk_drew ?_ | refine blk_alloc ?_ _)); exact BK344.out) Try.underlying70 rfl (by kernel_rfl)) rfl ?_
         exact ⟨by first | rfl | (simp [errW_none, errW_some] <;> rfl) | (simp only [← hji8, ← hji11]; first | rfl | (simp [errW_none, errW_some] <;> rfl)) | (simp [*, errW_none, errW_some] <;> rfl), bq_ HB⟩
       rw [if_pos c23] at H
       have c23b0 : decide (x7_3 ≤ (rd l0 (ji8))) = true := decide_eq_true c23
       clear c23
       have H' := Aside0.mk H
       clear H
       go_wp2
       go_loopg [8] k3 (fun kq v8 w' => ∃ (x8_4 : Int) (x345000_4 : Int) (x345001_4 : Int), v8 = .int .i64 x8_4 ∧ Aside0 (spec_GapClash.l2 kq (rd l0 (ji8)) x5_2 x7_3 x8_4 = some (r1, r2, r3)) ∧ Aside0 (kq ≤ k3) ∧ Aside0 (Kd.R Kd.bool 4 w' w.heap.size (fun _ => True) v348 x5_2) ∧ Aside0 (w'.heap[gb344]? = some (.cells #[.int .i64 x345000_4, .int .i64 x345001_4] 70 (0, 0))) ∧ Aside0 (Below w.heap.size w w'))
       case atStart => exact ⟨(x7_3), (x345000_3), (x345001_3), rs_, H', ⟨Nat.le_refl _⟩, ⟨re_ HO_5.out⟩, ⟨be_ BK344.out⟩, ⟨bq_ HB⟩⟩
       case round =>
        clear H'
        try clear c23b0
        obtain ⟨x8_4, x345000_4, x345001_4, rfl, HA, HK4, HO_5, BK344, HB⟩ := hrel
        cases gk with
        | zero => exact absurd HA.out (by simp [spec_GapClash.l2])
        | succ k4 =>
         have H := HA.out
         clear HA
         simp only [spec_GapClash.l2] at H
         have HC24 := Aside0.mk H
         clear H
         go_upto_region 13 with (fail)
         go_cut [57] (fun v57 wc => ∃ (kq : Nat) (x57_23 : Bool), v57 = .bool x57_23 ∧ Aside0 (spec_GapClash.j4 kq (rd l0 (ji8)) x5_2 x7_3 x8_4 x57_23 = some (r1, r2, r3)) ∧ Aside0 (kq ≤ k4) ∧ Aside0 (Kd.R Kd.bool 4 wc w.heap.size (fun _ => True) v348 x5_2) ∧ Aside0 (wc.heap[gb344]? = some (.cells #[.int .i64 x345000_4, .int .i64 x345001_4] 70 (0, 0))) ∧ Aside0 (Below w.heap.size w wc))
         case first =>
          have H := HC24.out
          clear HC24
          by_cases c25 : (wrap64 (x7_3 + x8_4)) ≤ (rd l0 (ji8))
          rotate_left
          · rw [if_neg c25] at H
            have c25b0 : decide ((wrap64 (x7_3 + x8_4)) ≤ (rd l0 (ji8))) = false := decide_eq_false c25
            clear c25
            (first | rw [c25b0] | (simp only [i64_w, i32_w]; rw [c25b0]) | skip)
            have H' := Aside0.mk H
            clear H
            go_wp2
            go_meet
            case rel => exact ⟨_, (false), rs_, H', ⟨by have := HJ1.out; have := HK2.out; have := HK3.out; have := HK4.out; first | omega | exact Nat.le_refl _⟩, ⟨re_ HO_5.out⟩, ⟨be_ BK344.out⟩, ⟨bq_ HB⟩⟩
          rw [if_pos c25] at H
          have c25b0 : decide ((wrap64 (x7_3 + x8_4)) ≤ (rd l0 (ji8))) = true := decide_eq_true c25
          clear c25
          (first | rw [c25b0] | (simp only [i64_w, i32_w]; rw [c25b0]) | skip)
          obtain ⟨c26b0, H⟩ := ipd_ H
          obtain ⟨c27b0, H⟩ := ipd_ H
          have H' := Aside0.mk H
          clear H
          obtain ⟨Ao28, co28, eo28⟩ := Kd.R_slice HO_5.out
          subst eo28
          have p352 : 0 ≤ (x7_3 : Int) := od_
          have q352 : x7_3 < (x5_2.length : Int) := od_
          obtain ⟨ad352, e352, hx352_0⟩ := Kd.at_bool (Kd.R_reads' HO_5.out).2.2 x7_3 p352 q352
          cases e352
          replace p352 := eq_true p352
          replace q352 := eq_true q352
          go_wp2
          go_meet
          case rel => exact ⟨_, (!(rdOf false x5_2 x7_3)), rs_, H', ⟨by have := HJ1.out; have := HK2.out; have := HK3.out; have := HK4.out; first | omega | exact Nat.le_refl _⟩, ⟨re_ HO_5.out⟩, ⟨be_ BK344.out⟩, ⟨bq_ HB⟩⟩
         case rest =>
          clear HC24
          obtain ⟨kq, x57_23, rfl, HA, HJ23, HO_5, BK344, HB⟩ := hcut
          cases kq with
          | zero => exact absurd HA.out (by simp [spec_GapClash.j4])
          | succ kj23 =>
           have H := HA.out
           clear HA
           simp only [spec_GapClash.j4] at H
           by_cases c29 : x57_23 = true
           rotate_left
           · replace c29 := Bool.eq_false_iff.mpr c29
             subst c29
             rw [if_neg (show ¬ (false = true) by decide)] at H
             have H' := Aside0.mk H
             clear H
             go_wp2
             go_roundg kj23
             case measure => have := HJ1.out; have := HK2.out; have := HK3.out; have := HK4.out; have := HJ23.out; omega
             case rel => exact ⟨(wrap64 (x7_3 + 1)), (x345000_4), (x345001_4), rs_, H', ⟨by have := HJ1.out; have := HK2.out; have := HK3.out; have := HK4.out; have := HJ23.out; omega⟩, ⟨re_ HO_5.out⟩, ⟨be_ BK344.out⟩, ⟨bq_ HB⟩⟩
           subst c29
           rw [if_pos rfl] at H
           obtain ⟨c30b0, H⟩ := ipd_ H
           obtain ⟨c31b0, H⟩ := ipd_ H
           obtain ⟨bq32, hbq32⟩ : ∃ b_ : Bool, b_ = (rdOf false x5_2 x8_4) := ⟨_, rfl⟩
           replace H : (if bq32 = true then (spec_GapClash.l2 kj23 (rd l0 (ji8)) x5_2 x7_3 (wrap64 (x8_4 + 1))) else (if 0 ≤ (wrap64 (x7_3 + x8_4)) then (if (wrap64 (x7_3 + x8_4)) < (x5_2.length : Int) then (if rdOf false x5_2 (wrap64 (x7_3 + x8_4)) = true then (some (x7_3, x8_4, true)) else (spec_GapClash.l2 kj23 (rd l0 (ji8)) x5_2 x7_3 (wrap64 (x8_4 + 1)))) else (none)) else (none))) = some (r1, r2, r3) := by rw [← hbq32] at H; exact H
           have Nbq32 := Aside0.mk hbq32
           clear hbq32
           by_cases c33 : bq32 = true
           · subst c33
             rw [if_pos rfl] at H
             have H' := Aside0.mk H
             clear H
             obtain ⟨Ao34, co34, eo34⟩ := Kd.R_slice HO_5.out
             subst eo34
             have p353 : 0 ≤ (x8_4 : Int) := od_
             have q353 : x8_4 < (x5_2.length : Int) := od_
             obtain ⟨ad353, e353, hx353_0⟩ := Kd.at_bool (Kd.R_reads' HO_5.out).2.2 x8_4 p353 q353
             (try rw [← Nbq32.out] at hx353_0)
             cases e353
             replace p353 := eq_true p353
             replace q353 := eq_true q353
             go_wp2
             go_roundg kj23
             case measure => have := HJ1.out; have := HK2.out; have := HK3.out; have := HK4.out; have := HJ23.out; omega
             case rel => exact ⟨(wrap64 (x8_4 + 1)), (x345000_4), (x345001_4), rs_, H', ⟨by have := HJ1.out; have := HK2.out; have := HK3.out; have := HK4.out; have := HJ23.out; omega⟩, ⟨re_ HO_5.out⟩, ⟨be_ BK344.out⟩, ⟨bq_ HB⟩⟩
           replace c33 := Bool.eq_false_iff.mpr c33
           subst c33
           rw [if_neg (show ¬ (false = true) by decide)] at H
           obtain ⟨ji35, hji35⟩ : ∃ j_ : Int, (wrap64 (x7_3 + x8_4)) = j_ := ⟨_, rfl⟩
           replace H : (if 0 ≤ (ji35) then (if (ji35) < (x5_2.length : Int) then (if rdOf false x5_2 (ji35) = true then (some (x7_3, x8_4, true)) else (spec_GapClash.l2 kj23 (rd l0 (ji8)) x5_2 x7_3 (wrap64 (x8_4 + 1)))) else (none)) else (none)) = some (r1, r2, r3) := by first | (rw [hji35] at H; exact H) | (simp only [hji35] at H ⊢; exact H)
           have hji35w : (IntKind.i64.wrap (x7_3 + x8_4)) = ji35 := (i64_w _).trans hji35
           obtain ⟨c36b0, H⟩ := ipd_ H
           obtain ⟨c37b0, H⟩ := ipd_ H
           obtain ⟨bq38, hbq38⟩ : ∃ b_ : Bool, b_ = (rdOf false x5_2 (ji35)) := ⟨_, rfl⟩
           replace H : (if bq38 = true then (some (x7_3, x8_4, true)) else (spec_GapClash.l2 kj23 (rd l0 (ji8)) x5_2 x7_3 (wrap64 (x8_4 + 1)))) = some (r1, r2, r3) := by rw [← hbq38] at H; exact H
           have Nbq38 := Aside0.mk hbq38
           clear hbq38
           by_cases c39 : bq38 = true
           rotate_left
           · replace c39 := Bool.eq_false_iff.mpr c39
             subst c39
             rw [if_neg (show ¬ (false = true) by decide)] at H
             have H' := Aside0.mk H
             clear H
             obtain ⟨Ao42, co42, eo42⟩ := Kd.R_slice HO_5.out
             subst eo42
             have p353 : 0 ≤ (x8_4 : Int) := od_
             have q353 : x8_4 < (x5_2.length : Int) := od_
             obtain ⟨ad353, e353, hx353_0⟩ := Kd.at_bool (Kd.R_reads' HO_5.out).2.2 x8_4 p353 q353
             (try rw [← Nbq32.out] at hx353_0)
             (try rw [← Nbq38.out] at hx353_0)
             cases e353
             replace p353 := eq_true p353
             replace q353 := eq_true q353
             have p354 : 0 ≤ ((ji35) : Int) := od_
             have q354 : (ji35) < (x5_2.length : Int) := od_
             obtain ⟨ad354, e354, hx354_0⟩ := Kd.at_bool (Kd.R_reads' HO_5.out).2.2 (ji35) p354 q354
             (try rw [← Nbq32.out] at hx354_0)
             (try rw [← Nbq38.out] at hx354_0)
             obtain rfl : ad353 = ad354 := (by injection e354)
             replace p354 := eq_true p354
             replace q354 := eq_true q354
             go_wp2
             go_roundg kj23
             case measure => have := HJ1.out; have := HK2.out; have := HK3.out; have := HK4.out; have := HJ23.out; omega
             case rel => exact ⟨(wrap64 (x8_4 + 1)), (x345000_4), (x345001_4), rs_, H', ⟨by have := HJ1.out; have := HK2.out; have := HK3.out; have := HK4.out; have := HJ23.out; omega⟩, ⟨re_ HO_5.out⟩, ⟨be_ BK344.out⟩, ⟨bq_ HB⟩⟩
           subst c39
           rw [if_pos rfl] at H
           simp only [Option.some.injEq, Prod.mk.injEq] at H
           obtain ⟨rfl, rfl, rfl⟩ := H
           obtain ⟨Ao40, co40, eo40⟩ := Kd.R_slice HO_5.out
           subst eo40
           have p353 : 0 ≤ (x8_4 : Int) := od_
           have q353 : x8_4 < (x5_2.length : Int) := od_
           obtain ⟨ad353, e353, hx353_0⟩ := Kd.at_bool (Kd.R_reads' HO_5.out).2.2 x8_4 p353 q353
           (try rw [← Nbq32.out] at hx353_0)
           (try rw [← Nbq38.out] at hx353_0)
           cases e353
           replace p353 := eq_true p353
           replace q353 := eq_true q353
           have p354 : 0 ≤ ((ji35) : Int) := od_
           have q354 : (ji35) < (x5_2.length : Int) := od_
           obtain ⟨ad354, e354, hx354_0⟩ := Kd.at_bool (Kd.R_reads' HO_5.out).2.2 (ji35) p354 q354
           (try rw [← Nbq32.out] at hx354_0)
           (try rw [← Nbq38.out] at hx354_0)
           obtain rfl : ad353 = ad354 := (by injection e354)
           replace p354 := eq_true p354
           replace q354 := eq_true q354
           have hcz41_0 : wc.cell? ⟨gb344, 0, none⟩ = some (.int .i64 x345000_4) := (blk_cell BK344.out 0).trans rfl
           have hcz41_1 : wc.cell? ⟨gb344, 1, none⟩ = some (.int .i64 x345001_4) := (blk_cell BK344.out 1).trans rfl
           have hfz41_0 := blk_frozen BK344.out 0
           have hfz41_1 := blk_frozen BK344.out 1
           go_wp2
           refine bodyPost_ret (results_ct rfl _ _ gb344 70 #[.int .i64 x7_3, .int .i64 x8_4] (0, 0) _ rfl (by (with_reducible repeat (first | refine blk_drewN ?_ _ | refine blk_drew ?_ | refine blk_alloc ?_ _)); refine blk_put (cs := #[.int .i64 x7_3, .int .i64 x345001_4]) ?_ 1 _ rfl; (with_reducible repeat (first | refine blk_drewN ?_ _ | refine blk_drew ?_ | refine blk_alloc ?_ _)); refine blk_put (cs := #[.int .i64 x345000_4, .int .i64 x345001_4]) ?_ 0 _ rfl; (with_reducible repeat (first | refine blk_drewN ?_ _ | refine blk_drew ?_ | refine blk_alloc ?_ _)); exact BK344.out) Try.underlying70 rfl (by kernel_rfl)) rfl ?_
           exact ⟨by first | rfl | (simp [errW_none, errW_some] <;> rfl) | (simp only [← hji8, ← hji11, ← hji35]; first | rfl | (simp [errW_none, errW_some] <;> rfl)) | (simp [*, errW_none, errW_some] <;> rfl), bq_ HB⟩
def spec_HasNumber.l0 : Nat → List Int → Int → Int → Option (Bool)
 | 0, _, _, _ => none
 | k + 1, x0, x1, x5 => if x5 < (x0.length : Int) then (if 0 ≤ x5 then (if (rd x0 x5) = x1 then (some true) else (spec_HasNumber.l0 k x0 x1 (wrap64 (x5 + 1)))) else (none)) else (some false)
def spec_HasNumber.f (k : Nat) (l0 : List Int) (a1 : Int) : Option (Bool) := spec_HasNumber.l0 k l0 a1 0
theorem spec_HasNumber.calls (k : Nat) (A0 : Option Addr) (c0 : Nat) (l0 : List Int) (a1 : Int) (r : Bool) (w : World) (hr0 : Kd.C (Kd.int .i64) w A0 l0.length l0) (hc0 : l0.length ≤ c0) (h : spec_HasNumber.f k l0 a1 = some r) :
 Calls Try.prog 84 #[.slice A0 l0.length c0, .int .i64 a1] w fun e w' => e = .returned (.bool r) ∧ Drawn0 w w' := by
 have HR0 := Aside0.mk hr0
 have HC0 := Aside0.mk hc0
 clear hr0 hc0
 have H := h
 clear h
 unfold spec_HasNumber.f at H
 have H' := Aside0.mk H
 clear H
 go_enter Try.func84, Try.ntmps84
 go_wp2
 go_loopg [5] k (fun kq v5 w' => ∃ (x5_1 : Int), v5 = .int .i64 x5_1 ∧ Aside0 (spec_HasNumber.l0 kq l0 a1 x5_1 = some r) ∧ Aside0 (kq ≤ k) ∧ Drawn0 w w')
 case atStart => exact ⟨(0), rs_, H', ⟨Nat.le_refl _⟩, by repeat (first | exact Drawn0.refl _ | apply Drawn0.step)⟩
 case round =>
  clear H'
  obtain ⟨x5_1, rfl, HA, HK1, ⟨m1, rfl⟩⟩ := hrel
  cases gk with
  | zero => exact absurd HA.out (by simp [spec_HasNumber.l0])
  | succ k1 =>
   have H := HA.out
   clear HA
   simp only [spec_HasNumber.l0] at H
   by_cases c3 : x5_1 < (l0.length : Int)
   rotate_left
   · rw [if_neg c3] at H
     have c3b0 : decide (x5_1 < (l0.length : Int)) = false := decide_eq_false c3
     clear c3
     obtain rfl := Option.some.inj H
     go_wp2
     go_ret
     exact ⟨by first | rfl | (simp; done) | (simp [*]; done), by repeat (first | exact Drawn0.refl _ | apply Drawn0.step)⟩
   rw [if_pos c3] at H
   have c3b0 : decide (x5_1 < (l0.length : Int)) = true := decide_eq_true c3
   clear c3
   obtain ⟨c4b0, H⟩ := ipd_ H
   by_cases c5 : (rd l0 x5_1) = a1
   · rw [if_pos c5] at H
     have c5b0 : ((rd l0 x5_1) == a1) = true := beq_iff_eq.mpr c5
     have c5b1 : ((rd l0 x5_1) != a1) = false := bne_eq_false_iff_eq.mpr c5
     clear c5
     obtain rfl := Option.some.inj H
     have p355 : 0 ≤ (x5_1 : Int) := od_
     have q355 : x5_1 < (l0.length : Int) := od_
     obtain ⟨ad355, e355, hx355_0⟩ := Kd.at_int HR0.out x5_1 p355 q355
     cases e355
     replace p355 := eq_true p355
     replace q355 := eq_true q355
     go_wp2
     go_ret
     exact ⟨by first | rfl | (simp; done) | (simp [*]; done), by repeat (first | exact Drawn0.refl _ | apply Drawn0.step)⟩
   rw [if_neg c5] at H
   have c5b0 : ((rd l0 x5_1) == a1) = false := beq_eq_false_iff_ne.mpr c5
   have c5b1 : ((rd l0 x5_1) != a1) = true := bne_iff_ne.mpr c5
   have H' := Aside0.mk H
   clear H
   have p355 : 0 ≤ (x5_1 : Int) := od_
   have q355 : x5_1 < (l0.length : Int) := od_
   obtain ⟨ad355, e355, hx355_0⟩ := Kd.at_int HR0.out x5_1 p355 q355
   cases e355
   replace p355 := eq_true p355
   replace q355 := eq_true q355
   go_wp2
   go_roundg k1
   case measure => have := HK1.out; omega
   case rel => exact ⟨(wrap64 (x5_1 + 1)), rs_, H', ⟨by have := HK1.out; omega⟩, by repeat (first | exact Drawn0.refl _ | apply Drawn0.step)⟩
end Go.Proofs.Ytonknpgfbkgbjaa.PC
end
