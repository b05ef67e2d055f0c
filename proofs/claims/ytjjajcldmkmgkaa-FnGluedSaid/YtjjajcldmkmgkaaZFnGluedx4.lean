-- Bundled by shake.py from this session's printed and written texts; Lean checks it.
import Derived.Test.YtjjajcldmkmgkaaZFnGluedx1
import Derived.Test.YtjjajcldmkmgkaaZFnGluedx2
import Derived.Test.YtjjajcldmkmgkaaZFnGluedx3
section
namespace Go.Proofs.Ytjjajcldmkmgkaa.PA
open Go.RowKit Go.Proofs.YtjjajcldmkmgkaaW.PrintWords Go.Proofs.YtjjajcldmkmgkaaW.PrintLast Go.Proofs.YtjjajcldmkmgkaaW.PrintMore
attribute [local go_sem] max2_int min2_int max_two min_two max_three min_three max_four min_four
set_option linter.unusedVariables false
set_option linter.unusedSimpArgs false
set_option maxHeartbeats 8000000
set_option maxRecDepth 100000
def spec_IsSemigroup.f (k : Nat) (l0_0 : List Int) : Option (Bool) := (spec_l3Gens.f k l0_0).bind fun t237 => (if t237 = true then (if (l0_0.length : Int) ≤ 12 then ((spec_IsAscending.f k l0_0).bind fun t238 => (if t238 = true then ((spec_GcdOfList.f k l0_0).bind fun t239 => (if t239 = 1 then ((spec_l3Minimal.f k l0_0).bind fun t240 => ((spec_l2Same.f k t240 l0_0).bind fun t243 => (if t243 = true then ((spec_l3Ends.f k l0_0).bind fun t244 => (some t244)) else (some false)))) else (some false))) else (some false))) else (some false)) else (some false))
theorem spec_IsSemigroup.mono : ∀ a0 k, LeO (spec_IsSemigroup.f k a0) (spec_IsSemigroup.f (k + 1) a0) := by
 intro a0 k
 unfold spec_IsSemigroup.f
 repeat' first
  | (with_reducible exact spec_GcdOfList.mono _ _)
  | (with_reducible exact spec_IsAscending.mono _ _)
  | (with_reducible exact spec_l2Same.mono _ _ _)
  | (with_reducible exact spec_l3Ends.mono _ _)
  | (with_reducible exact spec_l3Gens.mono _ _)
  | (with_reducible exact spec_l3Minimal.mono _ _)
  | (with_reducible exact LeO.refl _)
  | (with_reducible exact LeO.none _)
  | (with_reducible refine LeO.ite ?_ ?_)
  | (with_reducible refine LeO.bind ?_ (fun _ => ?_))
  | exact LeO.none _
  | refine LeO.ite ?_ ?_
  | refine LeO.bind ?_ (fun _ => ?_)
def spec_IsSemigroup.T1 : Bool × List (List Nat × List Nat) := (true, [([], []), ([0], [0]), ([1], [1]), ([2, 2], [2]), ([3], [3]), ([4, 3], [3, 4]), ([5, 3], [3, 5]), ([6, 3], [3, 6]), ([3, 7], [3, 7]), ([8, 3], [8]), ([9], [9]), ([10, 9], [9, 10]), ([11, 9, 9], [9, 11]), ([9, 12], [9, 12]), ([13, 12], [13]), ([14], [14]), ([15, 14], [14, 15]), ([16, 14, 14], [14, 16]), ([17, 14], [14, 17]), ([14, 18], [14, 18]), ([19, 17], [19]), ([20], [20]), ([21, 20], [20, 21]), ([22, 20, 20], [20, 22]), ([20], [20]), ([24, 20], [20, 24]), ([23, 25, 23, 20], [20, 23, 25]), ([20, 26], [20, 26]), ([27, 26], [27]), ([28], [28]), ([29, 28], [28, 29]), ([30, 28, 28], [28, 30]), ([28, 31], [28, 31]), ([32, 31, 0, 1, 2, 3, 4, 5, 6, 7, 8, 9, 10, 11, 12, 13, 14, 15, 16, 17, 18, 19, 20, 21, 22, 23, 24, 25, 26, 27, 28, 29, 30, 31, 32], [32])])
def spec_IsSemigroup.B1 : List Nat := [0, 1, 3, 7, 15, 31, 63, 127, 255, 511, 1023, 2047, 4095, 8191, 16383, 32767, 65535, 131071, 262143, 524287, 1048575, 2097151, 4194303, 8388607, 2097151, 18874367, 67108863, 134217727, 268435455, 536870911, 1073741823, 2147483647, 4294967295, 8589934591]
theorem spec_IsSemigroup.tab1 : rtab .any (opsOf Try.f43 1) = spec_IsSemigroup.T1 := by kernel_rfl
theorem spec_IsSemigroup.bits1 : waitsOk spec_IsSemigroup.T1.2 spec_IsSemigroup.B1 = true := by kernel_rfl
theorem spec_IsSemigroup.calls (k : Nat) (A0_0 : Option Addr) (c0_0 : Nat) (l0_0 : List Int) (r : Bool) (w : World) (hr0_0 : Kd.C (Kd.int .i64) w A0_0 l0_0.length l0_0) (hc0_0 : l0_0.length ≤ c0_0) (h : spec_IsSemigroup.f k l0_0 = some r) :
 Calls Try.prog 43 #[.agg #[.slice A0_0 l0_0.length c0_0]] w fun e w' => e = .returned (.bool r) ∧ Below w.heap.size w w' := by
 have hu26 := Try.underlying26
 have HR0_0 := Aside0.mk hr0_0
 have HC0_0 := Aside0.mk hc0_0
 clear hr0_0 hc0_0
 have HB := Aside0.mk (Below.refl w.heap.size w)
 have H := h
 clear h
 unfold spec_IsSemigroup.f at H
 obtain ⟨t237, A2, H⟩ := ob_ H
 by_cases c3 : t237 = true
 rotate_left
 · replace c3 := Bool.eq_false_iff.mpr c3
   subst c3
   rw [if_neg (show ¬ (false = true) by decide)] at H
   obtain rfl := Option.some.inj H
   go_enter Try.func43, Try.ntmps43
   try go_wp2_with (first | ((with_reducible refine gate_dst (N := 1) rfl ?_); (try (refine gate_guard (by rfl) ?_; dsimp only)); refine bx_ 1 #[.slice A0_0 l0_0.length c0_0] 26 ?_; intro gb236 hg w28 hbox hb; have BK236 := Aside0.mk (hbox); have GW236 := gw_ hg HB; have GE236 := gw_ hg HB; replace HB := bo_ HB hb; clear hb hbox hg))
   replace BK236 := Aside0.mk (blk_drew BK236.out)
   replace HB := Aside0.mk (below_drew1 HB.out)
   refine start_ (n := 34) (S := fun w' => w'.cell? ⟨gb236, 0, none⟩ = some (.slice A0_0 l0_0.length c0_0)) (ds := []) (B_ 0 34) (by kernel_rfl) rfl rfl ((blk_cell BK236.out 0).trans rfl) (fun hHeld => ?_); refine with_tabW spec_IsSemigroup.tab1 spec_IsSemigroup.bits1 (fun HT_ HW_ => ?_)
   generalize w28.drew = w29 at BK236 HB hHeld ⊢
   refine pu_ HT_ 0 3 (B_ 1 34) ?_
   refine tk1_ HT_ HW_ hHeld 1 4 (B_ 3 34) ?_
   refine on_ HT_ 2 5 (B_ 7 34) (fun K hK => ?_)
   refine goes_ Try.func38 (by kernel_rfl) rfl #[.slice A0_0 l0_0.length c0_0] (by rfl) rfl rfl (by (try simp only [List.map_toArray, List.map_cons, List.map_nil]); first | done | rfl | (simp only [List.length_drop, List.length_take]; rfl)) ?_
   with_reducible refine (spec_l3Gens.calls k _ _ l0_0 false _ ?side1 ?side2 A2.out).mono ?_
   (case side1 => exact ch_ HR0_0 HB)
   (case side2 => exact HC0_0.out)
   rintro e w' ⟨rfl, ⟨nd, rfl⟩⟩
   refine ⟨_, rfl, ?_⟩
   refine hK.out _ _ ((blk_cell BK236.out 0).trans rfl) (fun hHeld => ?_)
   clear hK K
   refine norm_ (a' := ?_) ?_ ?_
   rotate_left
   · show Act.put _ (some 5) _ = _
     simp only [Act.put, z1_, z2_, z3_, i64_w, i32_w]
     rfl
   refine pu_ HT_ 3 6 (B_ 15 34) ?_
   refine pn_ HT_ 4 7 (B_ 31 34) ?_
   refine pn_ HT_ 5 8 (B_ 63 34) ?_
   refine pn_ HT_ 6 9 (B_ 127 34) ?_
   refine pn_ HT_ 7 10 (B_ 255 34) ?_
   refine pu_ HT_ 8 11 (B_ 511 34) ?_
   refine pu_ HT_ 9 12 (B_ 1023 34) ?_
   refine pn_ HT_ 10 13 (B_ 2047 34) ?_
   refine pn_ HT_ 11 14 (B_ 4095 34) ?_
   refine pn_ HT_ 12 15 (B_ 8191 34) ?_
   refine pu_ HT_ 13 16 (B_ 16383 34) ?_
   refine pu_ HT_ 14 17 (B_ 32767 34) ?_
   refine pn_ HT_ 15 18 (B_ 65535 34) ?_
   refine pn_ HT_ 16 19 (B_ 131071 34) ?_
   refine pn_ HT_ 17 20 (B_ 262143 34) ?_
   refine pn_ HT_ 18 21 (B_ 524287 34) ?_
   refine pu_ HT_ 19 22 (B_ 1048575 34) ?_
   refine pu_ HT_ 20 23 (B_ 2097151 34) ?_
   refine pn_ HT_ 21 24 (B_ 4194303 34) ?_
   refine pn_ HT_ 22 25 (B_ 8388607 34) ?_
   refine pn_ HT_ 23 26 (B_ 16777215 34) ?_
   refine pn_ HT_ 24 27 (B_ 33554431 34) ?_
   refine pn_ HT_ 25 28 (B_ 67108863 34) ?_
   refine pn_ HT_ 26 29 (B_ 134217727 34) ?_
   refine pu_ HT_ 27 30 (B_ 268435455 34) ?_
   refine pu_ HT_ 28 31 (B_ 536870911 34) ?_
   refine pn_ HT_ 29 32 (B_ 1073741823 34) ?_
   refine pn_ HT_ 30 33 (B_ 2147483647 34) ?_
   refine pn_ HT_ 31 34 (B_ 4294967295 34) ?_
   refine pu_ HT_ 32 35 (B_ 8589934591 34) ?_
   refine pu_ HT_ 33 2 (B_ 17179869183 34) ?_
   refine done_ (done_of HT_.out (by kernel_rfl)) ?_
   try go_wp2
   go_ret
   exact ⟨rf_, bq_ HB⟩
 subst c3
 rw [if_pos rfl] at H
 by_cases c4 : (l0_0.length : Int) ≤ 12
 rotate_left
 · rw [if_neg c4] at H
   have c4b0 : decide ((l0_0.length : Int) ≤ 12) = false := decide_eq_false c4
   have c4b1 : decide (l0_0.length ≤ 12) = false := decide_eq_false (by omega)
   clear c4
   obtain rfl := Option.some.inj H
   go_enter Try.func43, Try.ntmps43
   try go_wp2_with (first | ((with_reducible refine gate_dst (N := 1) rfl ?_); (try (refine gate_guard (by rfl) ?_; dsimp only)); refine bx_ 1 #[.slice A0_0 l0_0.length c0_0] 26 ?_; intro gb236 hg w26 hbox hb; have BK236 := Aside0.mk (hbox); have GW236 := gw_ hg HB; have GE236 := gw_ hg HB; replace HB := bo_ HB hb; clear hb hbox hg))
   replace BK236 := Aside0.mk (blk_drew BK236.out)
   replace HB := Aside0.mk (below_drew1 HB.out)
   refine start_ (n := 34) (S := fun w' => w'.cell? ⟨gb236, 0, none⟩ = some (.slice A0_0 l0_0.length c0_0)) (ds := []) (B_ 0 34) (by kernel_rfl) rfl rfl ((blk_cell BK236.out 0).trans rfl) (fun hHeld => ?_); refine with_tabW spec_IsSemigroup.tab1 spec_IsSemigroup.bits1 (fun HT_ HW_ => ?_)
   generalize w26.drew = w27 at BK236 HB hHeld ⊢
   refine pu_ HT_ 0 3 (B_ 1 34) ?_
   refine tk1_ HT_ HW_ hHeld 1 4 (B_ 3 34) ?_
   refine on_ HT_ 2 5 (B_ 7 34) (fun K hK => ?_)
   refine goes_ Try.func38 (by kernel_rfl) rfl #[.slice A0_0 l0_0.length c0_0] (by rfl) rfl rfl (by (try simp only [List.map_toArray, List.map_cons, List.map_nil]); first | done | rfl | (simp only [List.length_drop, List.length_take]; rfl)) ?_
   with_reducible refine (spec_l3Gens.calls k _ _ l0_0 true _ ?side1 ?side2 A2.out).mono ?_
   (case side1 => exact ch_ HR0_0 HB)
   (case side2 => exact HC0_0.out)
   rintro e w' ⟨rfl, ⟨nd, rfl⟩⟩
   refine ⟨_, rfl, ?_⟩
   refine hK.out _ _ ((blk_cell BK236.out 0).trans rfl) (fun hHeld => ?_)
   clear hK K
   refine norm_ (a' := ?_) ?_ ?_
   rotate_left
   · show Act.put _ (some 5) _ = _
     simp only [Act.put, z1_, z2_, z3_, i64_w, i32_w]
     rfl
   refine pu_ HT_ 3 6 (B_ 15 34) ?_
   refine pu_ HT_ 4 7 (B_ 31 34) ?_
   refine tk1_ HT_ HW_ hHeld 5 8 (B_ 63 34) ?_
   refine pu_ HT_ 6 9 (B_ 127 34) ?_
   refine pu_ HT_ 7 10 (B_ 255 34) ?_
   refine pu_ HT_ 8 11 (B_ 511 34) ?_
   refine pu_ HT_ 9 12 (B_ 1023 34) ?_
   refine pn_ HT_ 10 13 (B_ 2047 34) ?_
   refine pn_ HT_ 11 14 (B_ 4095 34) ?_
   refine pn_ HT_ 12 15 (B_ 8191 34) ?_
   refine pu_ HT_ 13 16 (B_ 16383 34) ?_
   refine pu_ HT_ 14 17 (B_ 32767 34) ?_
   refine pn_ HT_ 15 18 (B_ 65535 34) ?_
   refine pn_ HT_ 16 19 (B_ 131071 34) ?_
   refine pn_ HT_ 17 20 (B_ 262143 34) ?_
   refine pn_ HT_ 18 21 (B_ 524287 34) ?_
   refine pu_ HT_ 19 22 (B_ 1048575 34) ?_
   refine pu_ HT_ 20 23 (B_ 2097151 34) ?_
   refine pn_ HT_ 21 24 (B_ 4194303 34) ?_
   refine pn_ HT_ 22 25 (B_ 8388607 34) ?_
   refine pn_ HT_ 23 26 (B_ 16777215 34) ?_
   refine pn_ HT_ 24 27 (B_ 33554431 34) ?_
   refine pn_ HT_ 25 28 (B_ 67108863 34) ?_
   refine pn_ HT_ 26 29 (B_ 134217727 34) ?_
   refine pu_ HT_ 27 30 (B_ 268435455 34) ?_
   refine pu_ HT_ 28 31 (B_ 536870911 34) ?_
   refine pn_ HT_ 29 32 (B_ 1073741823 34) ?_
   refine pn_ HT_ 30 33 (B_ 2147483647 34) ?_
   refine pn_ HT_ 31 34 (B_ 4294967295 34) ?_
   refine pu_ HT_ 32 35 (B_ 8589934591 34) ?_
   refine pu_ HT_ 33 2 (B_ 17179869183 34) ?_
   refine done_ (done_of HT_.out (by kernel_rfl)) ?_
   try go_wp2
   go_ret
   exact ⟨rf_, bq_ HB⟩
 rw [if_pos c4] at H
 have c4b0 : decide ((l0_0.length : Int) ≤ 12) = true := decide_eq_true c4
 have c4b1 : decide (l0_0.length ≤ 12) = true := decide_eq_true (by omega)
 clear c4
 obtain ⟨t238, A5, H⟩ := ob_ H
 by_cases c6 : t238 = true
 rotate_left
 · replace c6 := Bool.eq_false_iff.mpr c6
   subst c6
   rw [if_neg (show ¬ (false = true) by decide)] at H
   obtain rfl := Option.some.inj H
   go_enter Try.func43, Try.ntmps43
   try go_wp2_with (first | ((with_reducible refine gate_dst (N := 1) rfl ?_); (try (refine gate_guard (by rfl) ?_; dsimp only)); refine bx_ 1 #[.slice A0_0 l0_0.length c0_0] 26 ?_; intro gb236 hg w24 hbox hb; have BK236 := Aside0.mk (hbox); have GW236 := gw_ hg HB; have GE236 := gw_ hg HB; replace HB := bo_ HB hb; clear hb hbox hg))
   replace BK236 := Aside0.mk (blk_drew BK236.out)
   replace HB := Aside0.mk (below_drew1 HB.out)
   refine start_ (n := 34) (S := fun w' => w'.cell? ⟨gb236, 0, none⟩ = some (.slice A0_0 l0_0.length c0_0)) (ds := []) (B_ 0 34) (by kernel_rfl) rfl rfl ((blk_cell BK236.out 0).trans rfl) (fun hHeld => ?_); refine with_tabW spec_IsSemigroup.tab1 spec_IsSemigroup.bits1 (fun HT_ HW_ => ?_)
   generalize w24.drew = w25 at BK236 HB hHeld ⊢
   refine pu_ HT_ 0 3 (B_ 1 34) ?_
   refine tk1_ HT_ HW_ hHeld 1 4 (B_ 3 34) ?_
   refine on_ HT_ 2 5 (B_ 7 34) (fun K hK => ?_)
   refine goes_ Try.func38 (by kernel_rfl) rfl #[.slice A0_0 l0_0.length c0_0] (by rfl) rfl rfl (by (try simp only [List.map_toArray, List.map_cons, List.map_nil]); first | done | rfl | (simp only [List.length_drop, List.length_take]; rfl)) ?_
   with_reducible refine (spec_l3Gens.calls k _ _ l0_0 true _ ?side1 ?side2 A2.out).mono ?_
   (case side1 => exact ch_ HR0_0 HB)
   (case side2 => exact HC0_0.out)
   rintro e w' ⟨rfl, ⟨nd, rfl⟩⟩
   refine ⟨_, rfl, ?_⟩
   refine hK.out _ _ ((blk_cell BK236.out 0).trans rfl) (fun hHeld => ?_)
   clear hK K
   refine norm_ (a' := ?_) ?_ ?_
   rotate_left
   · show Act.put _ (some 5) _ = _
     simp only [Act.put, z1_, z2_, z3_, i64_w, i32_w]
     rfl
   refine pu_ HT_ 3 6 (B_ 15 34) ?_
   refine pu_ HT_ 4 7 (B_ 31 34) ?_
   refine tk1_ HT_ HW_ hHeld 5 8 (B_ 63 34) ?_
   refine pu_ HT_ 6 9 (B_ 127 34) ?_
   refine pu_ HT_ 7 10 (B_ 255 34) ?_
   refine pu_ HT_ 8 11 (B_ 511 34) ?_
   refine pu_ HT_ 9 12 (B_ 1023 34) ?_
   refine pu_ HT_ 10 13 (B_ 2047 34) ?_
   refine tk1_ HT_ HW_ hHeld 11 14 (B_ 4095 34) ?_
   refine on_ HT_ 12 15 (B_ 8191 34) (fun K hK => ?_)
   refine goes_ Try.func66 (by kernel_rfl) rfl #[.slice A0_0 l0_0.length c0_0] (by rfl) rfl rfl (by (try simp only [List.map_toArray, List.map_cons, List.map_nil]); first | done | rfl | (simp only [List.length_drop, List.length_take]; rfl)) ?_
   with_reducible refine (spec_IsAscending.calls k _ _ l0_0 false _ ?side1 ?side2 A5.out).mono ?_
   (case side1 => repeat (first | exact (Kd.C_below HR0_0.out (bq_ HB)) | (with_reducible refine Kd.C_alloc ?_ _) | (with_reducible refine Kd.C_drewN ?_ _) | (with_reducible refine Kd.C_drew ?_)))
   (case side2 => exact HC0_0.out)
   rintro e w' ⟨rfl, ⟨nd, rfl⟩⟩
   refine ⟨_, rfl, ?_⟩
   refine hK.out _ _ ((blk_cell BK236.out 0).trans rfl) (fun hHeld => ?_)
   clear hK K
   refine norm_ (a' := ?_) ?_ ?_
   rotate_left
   · show Act.put _ (some 15) _ = _
     simp only [Act.put, z1_, z2_, z3_, i64_w, i32_w]
     rfl
   refine pu_ HT_ 13 16 (B_ 16383 34) ?_
   refine pu_ HT_ 14 17 (B_ 32767 34) ?_
   refine pn_ HT_ 15 18 (B_ 65535 34) ?_
   refine pn_ HT_ 16 19 (B_ 131071 34) ?_
   refine pn_ HT_ 17 20 (B_ 262143 34) ?_
   refine pn_ HT_ 18 21 (B_ 524287 34) ?_
   refine pu_ HT_ 19 22 (B_ 1048575 34) ?_
   refine pu_ HT_ 20 23 (B_ 2097151 34) ?_
   refine pn_ HT_ 21 24 (B_ 4194303 34) ?_
   refine pn_ HT_ 22 25 (B_ 8388607 34) ?_
   refine pn_ HT_ 23 26 (B_ 16777215 34) ?_
   refine pn_ HT_ 24 27 (B_ 33554431 34) ?_
   refine pn_ HT_ 25 28 (B_ 67108863 34) ?_
   refine pn_ HT_ 26 29 (B_ 134217727 34) ?_
   refine pu_ HT_ 27 30 (B_ 268435455 34) ?_
   refine pu_ HT_ 28 31 (B_ 536870911 34) ?_
   refine pn_ HT_ 29 32 (B_ 1073741823 34) ?_
   refine pn_ HT_ 30 33 (B_ 2147483647 34) ?_
   refine pn_ HT_ 31 34 (B_ 4294967295 34) ?_
   refine pu_ HT_ 32 35 (B_ 8589934591 34) ?_
   refine pu_ HT_ 33 2 (B_ 17179869183 34) ?_
   refine done_ (done_of HT_.out (by kernel_rfl)) ?_
   try go_wp2
   go_ret
   exact ⟨rf_, bq_ HB⟩
 subst c6
 rw [if_pos rfl] at H
 obtain ⟨t239, A7, H⟩ := ob_ H
 by_cases c8 : t239 = 1
 rotate_left
 · rw [if_neg c8] at H
   have c8b0 : (t239 == 1) = false := beq_eq_false_iff_ne.mpr c8
   have c8b1 : (t239 != 1) = true := bne_iff_ne.mpr c8
   obtain rfl := Option.some.inj H
   go_enter Try.func43, Try.ntmps43
   try go_wp2_with (first | ((with_reducible refine gate_dst (N := 1) rfl ?_); (try (refine gate_guard (by rfl) ?_; dsimp only)); refine bx_ 1 #[.slice A0_0 l0_0.length c0_0] 26 ?_; intro gb236 hg w22 hbox hb; have BK236 := Aside0.mk (hbox); have GW236 := gw_ hg HB; have GE236 := gw_ hg HB; replace HB := bo_ HB hb; clear hb hbox hg))
   replace BK236 := Aside0.mk (blk_drew BK236.out)
   replace HB := Aside0.mk (below_drew1 HB.out)
   refine start_ (n := 34) (S := fun w' => w'.cell? ⟨gb236, 0, none⟩ = some (.slice A0_0 l0_0.length c0_0)) (ds := []) (B_ 0 34) (by kernel_rfl) rfl rfl ((blk_cell BK236.out 0).trans rfl) (fun hHeld => ?_); refine with_tabW spec_IsSemigroup.tab1 spec_IsSemigroup.bits1 (fun HT_ HW_ => ?_)
   generalize w22.drew = w23 at BK236 HB hHeld ⊢
   refine pu_ HT_ 0 3 (B_ 1 34) ?_
   refine tk1_ HT_ HW_ hHeld 1 4 (B_ 3 34) ?_
   refine on_ HT_ 2 5 (B_ 7 34) (fun K hK => ?_)
   refine goes_ Try.func38 (by kernel_rfl) rfl #[.slice A0_0 l0_0.length c0_0] (by rfl) rfl rfl (by (try simp only [List.map_toArray, List.map_cons, List.map_nil]); first | done | rfl | (simp only [List.length_drop, List.length_take]; rfl)) ?_
   with_reducible refine (spec_l3Gens.calls k _ _ l0_0 true _ ?side1 ?side2 A2.out).mono ?_
   (case side1 => exact ch_ HR0_0 HB)
   (case side2 => exact HC0_0.out)
   rintro e w' ⟨rfl, ⟨nd, rfl⟩⟩
   refine ⟨_, rfl, ?_⟩
   refine hK.out _ _ ((blk_cell BK236.out 0).trans rfl) (fun hHeld => ?_)
   clear hK K
   refine norm_ (a' := ?_) ?_ ?_
   rotate_left
   · show Act.put _ (some 5) _ = _
     simp only [Act.put, z1_, z2_, z3_, i64_w, i32_w]
     rfl
   refine pu_ HT_ 3 6 (B_ 15 34) ?_
   refine pu_ HT_ 4 7 (B_ 31 34) ?_
   refine tk1_ HT_ HW_ hHeld 5 8 (B_ 63 34) ?_
   refine pu_ HT_ 6 9 (B_ 127 34) ?_
   refine pu_ HT_ 7 10 (B_ 255 34) ?_
   refine pu_ HT_ 8 11 (B_ 511 34) ?_
   refine pu_ HT_ 9 12 (B_ 1023 34) ?_
   refine pu_ HT_ 10 13 (B_ 2047 34) ?_
   refine tk1_ HT_ HW_ hHeld 11 14 (B_ 4095 34) ?_
   refine on_ HT_ 12 15 (B_ 8191 34) (fun K hK => ?_)
   refine goes_ Try.func66 (by kernel_rfl) rfl #[.slice A0_0 l0_0.length c0_0] (by rfl) rfl rfl (by (try simp only [List.map_toArray, List.map_cons, List.map_nil]); first | done | rfl | (simp only [List.length_drop, List.length_take]; rfl)) ?_
   with_reducible refine (spec_IsAscending.calls k _ _ l0_0 true _ ?side1 ?side2 A5.out).mono ?_
   (case side1 => repeat (first | exact (Kd.C_below HR0_0.out (bq_ HB)) | (with_reducible refine Kd.C_alloc ?_ _) | (with_reducible refine Kd.C_drewN ?_ _) | (with_reducible refine Kd.C_drew ?_)))
   (case side2 => exact HC0_0.out)
   rintro e w' ⟨rfl, ⟨nd, rfl⟩⟩
   refine ⟨_, rfl, ?_⟩
   refine hK.out _ _ ((blk_cell BK236.out 0).trans rfl) (fun hHeld => ?_)
   clear hK K
   refine norm_ (a' := ?_) ?_ ?_
   rotate_left
   · show Act.put _ (some 15) _ = _
     simp only [Act.put, z1_, z2_, z3_, i64_w, i32_w]
     rfl
   refine pu_ HT_ 13 16 (B_ 16383 34) ?_
   refine pu_ HT_ 14 17 (B_ 32767 34) ?_
   refine pu_ HT_ 15 18 (B_ 65535 34) ?_
   refine tk1_ HT_ HW_ hHeld 16 19 (B_ 131071 34) ?_
   refine on_ HT_ 17 20 (B_ 262143 34) (fun K hK => ?_)
   refine goes_ Try.func39 (by kernel_rfl) rfl #[.slice A0_0 l0_0.length c0_0] (by rfl) rfl rfl (by (try simp only [List.map_toArray, List.map_cons, List.map_nil]); first | done | rfl | (simp only [List.length_drop, List.length_take]; rfl)) ?_
   with_reducible refine (spec_GcdOfList.calls k _ _ l0_0 t239 _ ?side1 ?side2 A7.out).mono ?_
   (case side1 => repeat (first | exact (Kd.C_below HR0_0.out (bq_ HB)) | (with_reducible refine Kd.C_alloc ?_ _) | (with_reducible refine Kd.C_drewN ?_ _) | (with_reducible refine Kd.C_drew ?_)))
   (case side2 => exact HC0_0.out)
   rintro e w' ⟨rfl, ⟨nd, rfl⟩⟩
   refine ⟨_, rfl, ?_⟩
   refine hK.out _ _ ((blk_cell BK236.out 0).trans rfl) (fun hHeld => ?_)
   clear hK K
   refine norm_ (a' := ?_) ?_ ?_
   rotate_left
   · show Act.put _ (some 20) _ = _
     simp only [Act.put, z1_, z2_, z3_, i64_w, i32_w]
     rfl
   refine pu_ HT_ 18 21 (B_ 524287 34) ?_
   refine pu_ HT_ 19 22 (B_ 1048575 34) ?_
   refine pu_ HT_ 20 23 (B_ 2097151 34) ?_
   refine pn_ HT_ 21 24 (B_ 4194303 34) ?_
   refine pn_ HT_ 22 25 (B_ 8388607 34) ?_
   refine pn_ HT_ 23 26 (B_ 16777215 34) ?_
   refine pn_ HT_ 24 27 (B_ 33554431 34) ?_
   refine pn_ HT_ 25 28 (B_ 67108863 34) ?_
   refine pn_ HT_ 26 29 (B_ 134217727 34) ?_
   refine pu_ HT_ 27 30 (B_ 268435455 34) ?_
   refine pu_ HT_ 28 31 (B_ 536870911 34) ?_
   refine pn_ HT_ 29 32 (B_ 1073741823 34) ?_
   refine pn_ HT_ 30 33 (B_ 2147483647 34) ?_
   refine pn_ HT_ 31 34 (B_ 4294967295 34) ?_
   refine pu_ HT_ 32 35 (B_ 8589934591 34) ?_
   refine pu_ HT_ 33 2 (B_ 17179869183 34) ?_
   refine done_ (done_of HT_.out (by kernel_rfl)) ?_
   try go_wp2
   go_ret
   exact ⟨rf_, bq_ HB⟩
 rw [if_pos c8] at H
 have c8b0 : (t239 == 1) = true := beq_iff_eq.mpr c8
 have c8b1 : (t239 != 1) = false := bne_eq_false_iff_eq.mpr c8
 clear c8
 obtain ⟨t240, A9, H⟩ := ob_ H
 obtain ⟨t243, A10, H⟩ := ob_ H
 by_cases c11 : t243 = true
 rotate_left
 · replace c11 := Bool.eq_false_iff.mpr c11
   subst c11
   rw [if_neg (show ¬ (false = true) by decide)] at H
   obtain rfl := Option.some.inj H
   go_enter Try.func43, Try.ntmps43
   try go_wp2_with (first | ((with_reducible refine gate_dst (N := 1) rfl ?_); (try (refine gate_guard (by rfl) ?_; dsimp only)); refine bx_ 1 #[.slice A0_0 l0_0.length c0_0] 26 ?_; intro gb236 hg w18 hbox hb; have BK236 := Aside0.mk (hbox); have GW236 := gw_ hg HB; have GE236 := gw_ hg HB; replace HB := bo_ HB hb; clear hb hbox hg))
   replace BK236 := Aside0.mk (blk_drew BK236.out)
   replace HB := Aside0.mk (below_drew1 HB.out)
   refine start_ (n := 34) (S := fun w' => w'.cell? ⟨gb236, 0, none⟩ = some (.slice A0_0 l0_0.length c0_0)) (ds := []) (B_ 0 34) (by kernel_rfl) rfl rfl ((blk_cell BK236.out 0).trans rfl) (fun hHeld => ?_); refine with_tabW spec_IsSemigroup.tab1 spec_IsSemigroup.bits1 (fun HT_ HW_ => ?_)
   generalize w18.drew = w19 at BK236 HB hHeld ⊢
   refine pu_ HT_ 0 3 (B_ 1 34) ?_
   refine tk1_ HT_ HW_ hHeld 1 4 (B_ 3 34) ?_
   refine on_ HT_ 2 5 (B_ 7 34) (fun K hK => ?_)
   refine goes_ Try.func38 (by kernel_rfl) rfl #[.slice A0_0 l0_0.length c0_0] (by rfl) rfl rfl (by (try simp only [List.map_toArray, List.map_cons, List.map_nil]); first | done | rfl | (simp only [List.length_drop, List.length_take]; rfl)) ?_
   with_reducible refine (spec_l3Gens.calls k _ _ l0_0 true _ ?side1 ?side2 A2.out).mono ?_
   (case side1 => exact ch_ HR0_0 HB)
   (case side2 => exact HC0_0.out)
   rintro e w' ⟨rfl, ⟨nd, rfl⟩⟩
   refine ⟨_, rfl, ?_⟩
   refine hK.out _ _ ((blk_cell BK236.out 0).trans rfl) (fun hHeld => ?_)
   clear hK K
   refine norm_ (a' := ?_) ?_ ?_
   rotate_left
   · show Act.put _ (some 5) _ = _
     simp only [Act.put, z1_, z2_, z3_, i64_w, i32_w]
     rfl
   refine pu_ HT_ 3 6 (B_ 15 34) ?_
   refine pu_ HT_ 4 7 (B_ 31 34) ?_
   refine tk1_ HT_ HW_ hHeld 5 8 (B_ 63 34) ?_
   refine pu_ HT_ 6 9 (B_ 127 34) ?_
   refine pu_ HT_ 7 10 (B_ 255 34) ?_
   refine pu_ HT_ 8 11 (B_ 511 34) ?_
   refine pu_ HT_ 9 12 (B_ 1023 34) ?_
   refine pu_ HT_ 10 13 (B_ 2047 34) ?_
   refine tk1_ HT_ HW_ hHeld 11 14 (B_ 4095 34) ?_
   refine on_ HT_ 12 15 (B_ 8191 34) (fun K hK => ?_)
   refine goes_ Try.func66 (by kernel_rfl) rfl #[.slice A0_0 l0_0.length c0_0] (by rfl) rfl rfl (by (try simp only [List.map_toArray, List.map_cons, List.map_nil]); first | done | rfl | (simp only [List.length_drop, List.length_take]; rfl)) ?_
   with_reducible refine (spec_IsAscending.calls k _ _ l0_0 true _ ?side1 ?side2 A5.out).mono ?_
   (case side1 => repeat (first | exact (Kd.C_below HR0_0.out (bq_ HB)) | (with_reducible refine Kd.C_alloc ?_ _) | (with_reducible refine Kd.C_drewN ?_ _) | (with_reducible refine Kd.C_drew ?_)))
   (case side2 => exact HC0_0.out)
   rintro e w' ⟨rfl, ⟨nd, rfl⟩⟩
   refine ⟨_, rfl, ?_⟩
   refine hK.out _ _ ((blk_cell BK236.out 0).trans rfl) (fun hHeld => ?_)
   clear hK K
   refine norm_ (a' := ?_) ?_ ?_
   rotate_left
   · show Act.put _ (some 15) _ = _
     simp only [Act.put, z1_, z2_, z3_, i64_w, i32_w]
     rfl
   refine pu_ HT_ 13 16 (B_ 16383 34) ?_
   refine pu_ HT_ 14 17 (B_ 32767 34) ?_
   refine pu_ HT_ 15 18 (B_ 65535 34) ?_
   refine tk1_ HT_ HW_ hHeld 16 19 (B_ 131071 34) ?_
   refine on_ HT_ 17 20 (B_ 262143 34) (fun K hK => ?_)
   refine goes_ Try.func39 (by kernel_rfl) rfl #[.slice A0_0 l0_0.length c0_0] (by rfl) rfl rfl (by (try simp only [List.map_toArray, List.map_cons, List.map_nil]); first | done | rfl | (simp only [List.length_drop, List.length_take]; rfl)) ?_
   with_reducible refine (spec_GcdOfList.calls k _ _ l0_0 t239 _ ?side1 ?side2 A7.out).mono ?_
   (case side1 => repeat (first | exact (Kd.C_below HR0_0.out (bq_ HB)) | (with_reducible refine Kd.C_alloc ?_ _) | (with_reducible refine Kd.C_drewN ?_ _) | (with_reducible refine Kd.C_drew ?_)))
   (case side2 => exact HC0_0.out)
   rintro e w' ⟨rfl, ⟨nd, rfl⟩⟩
   refine ⟨_, rfl, ?_⟩
   refine hK.out _ _ ((blk_cell BK236.out 0).trans rfl) (fun hHeld => ?_)
   clear hK K
   refine norm_ (a' := ?_) ?_ ?_
   rotate_left
   · show Act.put _ (some 20) _ = _
     simp only [Act.put, z1_, z2_, z3_, i64_w, i32_w]
     rfl
   refine pu_ HT_ 18 21 (B_ 524287 34) ?_
   refine pu_ HT_ 19 22 (B_ 1048575 34) ?_
   refine pu_ HT_ 20 23 (B_ 2097151 34) ?_
   refine pu_ HT_ 21 24 (B_ 4194303 34) ?_
   refine pu_ HT_ 24 27 (B_ 20971519 34) ?_
   refine tk1_ HT_ HW_ hHeld 22 25 (B_ 25165823 34) ?_
   refine tk1_ HT_ HW_ hHeld 25 28 (B_ 58720255 34) ?_
   refine on_ HT_ 23 26 (B_ 67108863 34) (fun K hK => ?_)
   refine goes_ Try.func45 (by kernel_rfl) rfl #[.slice A0_0 l0_0.length c0_0] (by rfl) rfl rfl (by (try simp only [List.map_toArray, List.map_cons, List.map_nil]); first | done | rfl | (simp only [List.length_drop, List.length_take]; rfl)) ?_
   with_reducible refine (spec_l3Minimal.calls k _ _ l0_0 t240 _ ?side1 ?side2 A9.out).mono ?_
   (case side1 => repeat (first | exact (Kd.C_below HR0_0.out (bq_ HB)) | (with_reducible refine Kd.C_alloc ?_ _) | (with_reducible refine Kd.C_drewN ?_ _) | (with_reducible refine Kd.C_drew ?_)))
   (case side2 => exact HC0_0.out)
   rintro e w20 ⟨v241, rfl, ho0, hb⟩
   refine ⟨_, rfl, ?_⟩
   have HO242 := Aside0.mk (Kd.R_lower ho0 (below_size (bq_ HB)))
   replace BK236 := bk_ BK236 hb
   replace HB := bp_ HB hb
   (try clear hb)
   (try clear ho0)
   obtain ⟨Ao21, co21, eo21⟩ := Kd.R_slice HO242.out
   (first | subst eo21 | (injection eo21 with f1_ f2_ f3_; have f4_ := f1_.symm; have f5_ := f3_.symm; clear f1_ f2_ f3_; subst f4_; subst f5_))
   refine hK.out _ _ ((blk_cell BK236.out 0).trans rfl) (fun hHeld => ?_)
   clear hK K
   refine norm_ (a' := ?_) ?_ ?_
   rotate_left
   · show Act.put _ (some 26) _ = _
     simp only [Act.put, z1_, z2_, z3_, i64_w, i32_w]
     rfl
   refine on_ HT_ 26 29 (B_ 134217727 34) (fun K hK => ?_)
   refine goes_ Try.func37 (by kernel_rfl) rfl #[.slice Ao21 t240.length co21, .slice A0_0 l0_0.length c0_0] (by rfl) rfl rfl (by (try simp only [List.map_toArray, List.map_cons, List.map_nil]); first | done | rfl | (simp only [List.length_drop, List.length_take]; rfl)) ?_
   with_reducible refine (spec_l2Same.calls k _ _ t240 _ _ l0_0 false _ ?side1 ?side2 ?side3 ?side4 A10.out).mono ?_
   (case side1 => exact ce_ ((Kd.R_reads' HO242.out).2.2))
   (case side2 => exact (Kd.R_reads' HO242.out).2.1)
   (case side3 => exact ch_ HR0_0 HB)
   (case side4 => exact HC0_0.out)
   rintro e w' ⟨rfl, ⟨nd, rfl⟩⟩
   refine ⟨_, rfl, ?_⟩
   refine hK.out _ _ ((blk_cell BK236.out 0).trans rfl) (fun hHeld => ?_)
   clear hK K
   refine norm_ (a' := ?_) ?_ ?_
   rotate_left
   · show Act.put _ (some 29) _ = _
     simp only [Act.put, z1_, z2_, z3_, i64_w, i32_w]
     rfl
   refine pu_ HT_ 27 30 (B_ 268435455 34) ?_
   refine pu_ HT_ 28 31 (B_ 536870911 34) ?_
   refine pn_ HT_ 29 32 (B_ 1073741823 34) ?_
   refine pn_ HT_ 30 33 (B_ 2147483647 34) ?_
   refine pn_ HT_ 31 34 (B_ 4294967295 34) ?_
   refine pu_ HT_ 32 35 (B_ 8589934591 34) ?_
   refine pu_ HT_ 33 2 (B_ 17179869183 34) ?_
   refine done_ (done_of HT_.out (by kernel_rfl)) ?_
   try go_wp2
   go_ret
   exact ⟨rf_, bq_ HB⟩
 subst c11
 rw [if_pos rfl] at H
 obtain ⟨t244, A12, H⟩ := ob_ H
 obtain rfl := Option.some.inj H
 go_enter Try.func43, Try.ntmps43
 try go_wp2_with (first | ((with_reducible refine gate_dst (N := 1) rfl ?_); (try (refine gate_guard (by rfl) ?_; dsimp only)); refine bx_ 1 #[.slice A0_0 l0_0.length c0_0] 26 ?_; intro gb236 hg w13 hbox hb; have BK236 := Aside0.mk (hbox); have GW236 := gw_ hg HB; have GE236 := gw_ hg HB; replace HB := bo_ HB hb; clear hb hbox hg))
 replace BK236 := Aside0.mk (blk_drew BK236.out)
 replace HB := Aside0.mk (below_drew1 HB.out)
 refine start_ (n := 34) (S := fun w' => w'.cell? ⟨gb236, 0, none⟩ = some (.slice A0_0 l0_0.length c0_0)) (ds := []) (B_ 0 34) (by kernel_rfl) rfl rfl ((blk_cell BK236.out 0).trans rfl) (fun hHeld => ?_); refine with_tabW spec_IsSemigroup.tab1 spec_IsSemigroup.bits1 (fun HT_ HW_ => ?_)
 generalize w13.drew = w14 at BK236 HB hHeld ⊢
 refine pu_ HT_ 0 3 (B_ 1 34) ?_
 refine tk1_ HT_ HW_ hHeld 1 4 (B_ 3 34) ?_
 refine on_ HT_ 2 5 (B_ 7 34) (fun K hK => ?_)
 refine goes_ Try.func38 (by kernel_rfl) rfl #[.slice A0_0 l0_0.length c0_0] (by rfl) rfl rfl (by (try simp only [List.map_toArray, List.map_cons, List.map_nil]); first | done | rfl | (simp only [List.length_drop, List.length_take]; rfl)) ?_
 with_reducible refine (spec_l3Gens.calls k _ _ l0_0 true _ ?side1 ?side2 A2.out).mono ?_
 (case side1 => exact ch_ HR0_0 HB)
 (case side2 => exact HC0_0.out)
 rintro e w' ⟨rfl, ⟨nd, rfl⟩⟩
 refine ⟨_, rfl, ?_⟩
 refine hK.out _ _ ((blk_cell BK236.out 0).trans rfl) (fun hHeld => ?_)
 clear hK K
 refine norm_ (a' := ?_) ?_ ?_
 rotate_left
 · show Act.put _ (some 5) _ = _
   simp only [Act.put, z1_, z2_, z3_, i64_w, i32_w]
   rfl
 refine pu_ HT_ 3 6 (B_ 15 34) ?_
 refine pu_ HT_ 4 7 (B_ 31 34) ?_
 refine tk1_ HT_ HW_ hHeld 5 8 (B_ 63 34) ?_
 refine pu_ HT_ 6 9 (B_ 127 34) ?_
 refine pu_ HT_ 7 10 (B_ 255 34) ?_
 refine pu_ HT_ 8 11 (B_ 511 34) ?_
 refine pu_ HT_ 9 12 (B_ 1023 34) ?_
 refine pu_ HT_ 10 13 (B_ 2047 34) ?_
 refine tk1_ HT_ HW_ hHeld 11 14 (B_ 4095 34) ?_
 refine on_ HT_ 12 15 (B_ 8191 34) (fun K hK => ?_)
 refine goes_ Try.func66 (by kernel_rfl) rfl #[.slice A0_0 l0_0.length c0_0] (by rfl) rfl rfl (by (try simp only [List.map_toArray, List.map_cons, List.map_nil]); first | done | rfl | (simp only [List.length_drop, List.length_take]; rfl)) ?_
 with_reducible refine (spec_IsAscending.calls k _ _ l0_0 true _ ?side1 ?side2 A5.out).mono ?_
 (case side1 => repeat (first | exact (Kd.C_below HR0_0.out (bq_ HB)) | (with_reducible refine Kd.C_alloc ?_ _) | (with_reducible refine Kd.C_drewN ?_ _) | (with_reducible refine Kd.C_drew ?_)))
 (case side2 => exact HC0_0.out)
 rintro e w' ⟨rfl, ⟨nd, rfl⟩⟩
 refine ⟨_, rfl, ?_⟩
 refine hK.out _ _ ((blk_cell BK236.out 0).trans rfl) (fun hHeld => ?_)
 clear hK K
 refine norm_ (a' := ?_) ?_ ?_
 rotate_left
 · show Act.put _ (some 15) _ = _
   simp only [Act.put, z1_, z2_, z3_, i64_w, i32_w]
   rfl
 refine pu_ HT_ 13 16 (B_ 16383 34) ?_
 refine pu_ HT_ 14 17 (B_ 32767 34) ?_
 refine pu_ HT_ 15 18 (B_ 65535 34) ?_
 refine tk1_ HT_ HW_ hHeld 16 19 (B_ 131071 34) ?_
 refine on_ HT_ 17 20 (B_ 262143 34) (fun K hK => ?_)
 refine goes_ Try.func39 (by kernel_rfl) rfl #[.slice A0_0 l0_0.length c0_0] (by rfl) rfl rfl (by (try simp only [List.map_toArray, List.map_cons, List.map_nil]); first | done | rfl | (simp only [List.length_drop, List.length_take]; rfl)) ?_
 with_reducible refine (spec_GcdOfList.calls k _ _ l0_0 t239 _ ?side1 ?side2 A7.out).mono ?_
 (case side1 => repeat (first | exact (Kd.C_below HR0_0.out (bq_ HB)) | (with_reducible refine Kd.C_alloc ?_ _) | (with_reducible refine Kd.C_drewN ?_ _) | (with_reducible refine Kd.C_drew ?_)))
 (case side2 => exact HC0_0.out)
 rintro e w' ⟨rfl, ⟨nd, rfl⟩⟩
 refine ⟨_, rfl, ?_⟩
 refine hK.out _ _ ((blk_cell BK236.out 0).trans rfl) (fun hHeld => ?_)
 clear hK K
 refine norm_ (a' := ?_) ?_ ?_
 rotate_left
 · show Act.put _ (some 20) _ = _
   simp only [Act.put, z1_, z2_, z3_, i64_w, i32_w]
   rfl
 refine pu_ HT_ 18 21 (B_ 524287 34) ?_
 refine pu_ HT_ 19 22 (B_ 1048575 34) ?_
 refine pu_ HT_ 20 23 (B_ 2097151 34) ?_
 refine pu_ HT_ 21 24 (B_ 4194303 34) ?_
 refine pu_ HT_ 24 27 (B_ 20971519 34) ?_
 refine tk1_ HT_ HW_ hHeld 22 25 (B_ 25165823 34) ?_
 refine tk1_ HT_ HW_ hHeld 25 28 (B_ 58720255 34) ?_
 refine on_ HT_ 23 26 (B_ 67108863 34) (fun K hK => ?_)
 refine goes_ Try.func45 (by kernel_rfl) rfl #[.slice A0_0 l0_0.length c0_0] (by rfl) rfl rfl (by (try simp only [List.map_toArray, List.map_cons, List.map_nil]); first | done | rfl | (simp only [List.length_drop, List.length_take]; rfl)) ?_
 with_reducible refine (spec_l3Minimal.calls k _ _ l0_0 t240 _ ?side1 ?side2 A9.out).mono ?_
 (case side1 => repeat (first | exact (Kd.C_below HR0_0.out (bq_ HB)) | (with_reducible refine Kd.C_alloc ?_ _) | (with_reducible refine Kd.C_drewN ?_ _) | (with_reducible refine Kd.C_drew ?_)))
 (case side2 => exact HC0_0.out)
 rintro e w15 ⟨v241, rfl, ho0, hb⟩
 refine ⟨_, rfl, ?_⟩
 have HO242 := Aside0.mk (Kd.R_lower ho0 (below_size (bq_ HB)))
 replace BK236 := bk_ BK236 hb
 replace HB := bp_ HB hb
 (try clear hb)
 (try clear ho0)
 obtain ⟨Ao16, co16, eo16⟩ := Kd.R_slice HO242.out
 (first | subst eo16 | (injection eo16 with f1_ f2_ f3_; have f4_ := f1_.symm; have f5_ := f3_.symm; clear f1_ f2_ f3_; subst f4_; subst f5_))
 refine hK.out _ _ ((blk_cell BK236.out 0).trans rfl) (fun hHeld => ?_)
 clear hK K
 refine norm_ (a' := ?_) ?_ ?_
 rotate_left
 · show Act.put _ (some 26) _ = _
   simp only [Act.put, z1_, z2_, z3_, i64_w, i32_w]
   rfl
 refine on_ HT_ 26 29 (B_ 134217727 34) (fun K hK => ?_)
 refine goes_ Try.func37 (by kernel_rfl) rfl #[.slice Ao16 t240.length co16, .slice A0_0 l0_0.length c0_0] (by rfl) rfl rfl (by (try simp only [List.map_toArray, List.map_cons, List.map_nil]); first | done | rfl | (simp only [List.length_drop, List.length_take]; rfl)) ?_
 with_reducible refine (spec_l2Same.calls k _ _ t240 _ _ l0_0 true _ ?side1 ?side2 ?side3 ?side4 A10.out).mono ?_
 (case side1 => exact ce_ ((Kd.R_reads' HO242.out).2.2))
 (case side2 => exact (Kd.R_reads' HO242.out).2.1)
 (case side3 => exact ch_ HR0_0 HB)
 (case side4 => exact HC0_0.out)
 rintro e w' ⟨rfl, ⟨nd, rfl⟩⟩
 refine ⟨_, rfl, ?_⟩
 refine hK.out _ _ ((blk_cell BK236.out 0).trans rfl) (fun hHeld => ?_)
 clear hK K
 refine norm_ (a' := ?_) ?_ ?_
 rotate_left
 · show Act.put _ (some 29) _ = _
   simp only [Act.put, z1_, z2_, z3_, i64_w, i32_w]
   rfl
 refine pu_ HT_ 27 30 (B_ 268435455 34) ?_
 refine pu_ HT_ 28 31 (B_ 536870911 34) ?_
 refine pu_ HT_ 29 32 (B_ 1073741823 34) ?_
 refine tk1_ HT_ HW_ hHeld 30 33 (B_ 2147483647 34) ?_
 refine on_ HT_ 31 34 (B_ 4294967295 34) (fun K hK => ?_)
 refine goes_ Try.func67 (by kernel_rfl) rfl #[.slice A0_0 l0_0.length c0_0] (by rfl) rfl rfl (by (try simp only [List.map_toArray, List.map_cons, List.map_nil]); first | done | rfl | (simp only [List.length_drop, List.length_take]; rfl)) ?_
 with_reducible refine (spec_l3Ends.calls k _ _ l0_0 t244 _ ?side1 ?side2 A12.out).mono ?_
 (case side1 => repeat (first | exact (Kd.C_below HR0_0.out (bq_ HB)) | (with_reducible refine Kd.C_alloc ?_ _) | (with_reducible refine Kd.C_drewN ?_ _) | (with_reducible refine Kd.C_drew ?_)))
 (case side2 => exact HC0_0.out)
 rintro e w17 ⟨rfl, hb⟩
 refine ⟨_, rfl, ?_⟩
 replace HO242 := Aside0.mk (Kd.R_below (re_ HO242.out) hb)
 replace BK236 := bk_ BK236 hb
 replace HB := bp_ HB hb
 (try clear hb)
 refine hK.out _ _ ((blk_cell BK236.out 0).trans rfl) (fun hHeld => ?_)
 clear hK K
 refine norm_ (a' := ?_) ?_ ?_
 rotate_left
 · show Act.put _ (some 34) _ = _
   simp only [Act.put, z1_, z2_, z3_, i64_w, i32_w]
   rfl
 refine pu_ HT_ 32 35 (B_ 8589934591 34) ?_
 refine pu_ HT_ 33 2 (B_ 17179869183 34) ?_
 refine done_ (done_of HT_.out (by kernel_rfl)) ?_
 try go_wp2
 go_ret
 exact ⟨rf_, bq_ HB⟩
def spec_Join.l0 : Nat → List ByteArray → ByteArray → List Int → Int → Option (ByteArray)
 | 0, _, _, _, _ => none
 | k + 1, x0, x1, x5, x6 => if x6 < (x0.length : Int) then (if x6 > 0 then (if x5.length + x1.size < 140737488355328 then ((some (x5 ++ bytesOf x1 : List Int)).bind fun y248 => (if 0 ≤ x6 then (if y248.length + (rdOf ByteArray.empty x0 x6).size < 140737488355328 then (spec_Join.l0 k x0 x1 (y248 ++ bytesOf (rdOf ByteArray.empty x0 x6)) (wrap64 (x6 + 1))) else (none)) else (none))) else (none)) else (if 0 ≤ x6 then (if x5.length + (rdOf ByteArray.empty x0 x6).size < 140737488355328 then (spec_Join.l0 k x0 x1 (x5 ++ bytesOf (rdOf ByteArray.empty x0 x6)) (wrap64 (x6 + 1))) else (none)) else (none))) else (some (strOfNums x5))
def spec_Join.f (k : Nat) (l0 : List ByteArray) (a1 : ByteArray) : Option (ByteArray) := spec_Join.l0 k l0 a1 (([] : List Int)) 0
theorem spec_Join.mono_l : ∀ k, (∀ y0 y1 y2 y3, LeO (spec_Join.l0 k y0 y1 y2 y3) (spec_Join.l0 (k + 1) y0 y1 y2 y3))
 | 0 => fun _ _ _ _ r h => by simp [spec_Join.l0] at h
 | k + 1 => by
  have ih0 := spec_Join.mono_l k
  · intro y0 y1 y2 y3
    unfold spec_Join.l0
    repeat' first
    | (with_reducible exact ih0 _ _ _ _)
    | (with_reducible exact LeO.refl _)
    | (with_reducible exact LeO.none _)
    | (with_reducible refine LeO.ite ?_ ?_)
    | (with_reducible refine LeO.bind ?_ (fun _ => ?_))
    | exact ih0 _ _ _ _
    | exact LeO.none _
    | refine LeO.ite ?_ ?_
    | refine LeO.bind ?_ (fun _ => ?_)
theorem spec_Join.mono : ∀ a0 a1 k, LeO (spec_Join.f k a0 a1) (spec_Join.f (k + 1) a0 a1) := by
 intro a0 a1 k
 have ih0 := spec_Join.mono_l k
 unfold spec_Join.f
 repeat' first
  | (with_reducible exact ih0 _ _ _ _)
  | (with_reducible exact LeO.refl _)
  | (with_reducible exact LeO.none _)
  | (with_reducible refine LeO.ite ?_ ?_)
  | (with_reducible refine LeO.bind ?_ (fun _ => ?_))
  | exact ih0 _ _ _ _
  | exact LeO.none _
  | refine LeO.ite ?_ ?_
  | refine LeO.bind ?_ (fun _ => ?_)
theorem spec_Join.calls (k : Nat) (A0 : Option Addr) (c0 : Nat) (l0 : List ByteArray) (a1 : ByteArray) (r : ByteArray) (w : World) (hr0 : Kd.C Kd.string w A0 l0.length l0) (hc0 : l0.length ≤ c0) (h : spec_Join.f k l0 a1 = some r) :
 Calls Try.prog 84 #[.slice A0 l0.length c0, .string a1] w fun e w' => e = .returned (.string r) ∧ Below w.heap.size w w' := by
 have HR0 := Aside0.mk hr0
 have HC0 := Aside0.mk hc0
 clear hr0 hc0
 have HB := Aside0.mk (Below.refl w.heap.size w)
 have H := h
 clear h
 unfold spec_Join.f at H
 obtain ⟨y245, hy245⟩ : ∃ y_ : List Int, y_ = (([] : List Int)) := ⟨_, rfl⟩
 replace H : (spec_Join.l0 k l0 a1 y245 0) = some r := by subst hy245; exact H
 have Ny245 := Aside0.mk hy245
 clear hy245
 have H' := Aside0.mk H
 clear H
 go_enter Try.func84, Try.ntmps84
 go_wp2_with (first | ((with_reducible refine gate_dst (N := 7) rfl ?_); refine Kd.R_lit (Kd.int .u8) _ 5 ?hg (N := 7) ?hd (xs := ([] : List Int)) (inner := []) (ok := fun _ => True) (okp := fun _ => True) ?hr ?hp (fun _ hk => hk) trivial (Below.refl _ _) (Nat.le_refl _) (by simp) ?_; (case hd => rfl); (case hg => rfl); (case hr => first | (go_simp; done) | (go_simp; rfl)); (case hp => exact (Reps.none _ _)); intro v246 w3 ho4 hb hg_ hnew_; clear hg_ hnew_; (first | rw [← Ny245.out] at ho4 | (simp only [Int.reduceToNat] at ho4; rw [← Ny245.out] at ho4)); have HO247 := Aside0.mk (Kd.R_lower ho4 (below_size (bl_ HB.out))); replace HB := bo_ HB hb; clear hb ho4))
 go_loopg [5, 6] k (fun kq v5 v6 w' => ∃ (x5_1 : List Int) (x6_1 : Int), v6 = .int .i64 x6_1 ∧ Aside0 (spec_Join.l0 kq l0 a1 x5_1 x6_1 = some r) ∧ Aside0 (kq ≤ k) ∧ Aside0 (Kd.R (Kd.int .u8) 5 w' w.heap.size (fun _ => True) v5 x5_1) ∧ Aside0 (Below w.heap.size w w'))
 case atStart => exact ⟨(y245), (0), rs_, H', ⟨Nat.le_refl _⟩, ⟨re_ HO247.out⟩, ⟨bl_ HB.out⟩⟩
 case round =>
  clear H'
  try clear p2
  obtain ⟨x5_1, x6_1, rfl, HA, HK1, HO_5, HB⟩ := hrel
  cases gk with
  | zero => exact absurd HA.out (by simp [spec_Join.l0])
  | succ k1 =>
   have H := HA.out
   clear HA
   simp only [spec_Join.l0] at H
   by_cases c5 : x6_1 < (l0.length : Int)
   rotate_left
   · rw [if_neg c5] at H
     have c5b0 : decide (x6_1 < (l0.length : Int)) = false := decide_eq_false c5
     clear c5
     obtain rfl := Option.some.inj H
     have hcv15 := own_string (P := Try.prog) Try.underlying22 Try.underlying5 Try.underlying9 (Kd.own_of_R HO_5.out)
     go_wp2
     go_ret
     exact ⟨rf_, bl_ HB.out⟩
   rw [if_pos c5] at H
   have c5b0 : decide (x6_1 < (l0.length : Int)) = true := decide_eq_true c5
   clear c5
   by_cases c6 : x6_1 > 0
   rotate_left
   · rw [if_neg c6] at H
     have c6b0 : decide (0 < x6_1) = false := decide_eq_false c6
     clear c6
     by_cases c12 : 0 ≤ x6_1
     rotate_left
     · rw [if_neg c12] at H
       cases H
     rw [if_pos c12] at H
     have c12b0 : decide (0 ≤ x6_1) = true := decide_eq_true c12
     clear c12
     by_cases c13 : x5_1.length + (rdOf ByteArray.empty l0 x6_1).size < 140737488355328
     rotate_left
     · rw [if_neg c13] at H
       cases H
     rw [if_pos c13] at H
     have LMc13 := Aside0.mk c13
     clear c13
     obtain ⟨y256, hy256⟩ : ∃ y_ : List Int, y_ = (x5_1 ++ bytesOf (rdOf ByteArray.empty l0 x6_1)) := ⟨_, rfl⟩
     replace H : (spec_Join.l0 k1 l0 a1 y256 (wrap64 (x6_1 + 1))) = some r := by subst hy256; exact H
     have Ny256 := Aside0.mk hy256
     clear hy256
     have H' := Aside0.mk H
     clear H
     have p255 : 0 ≤ (x6_1 : Int) := od_
     have q255 : x6_1 < (l0.length : Int) := od_
     obtain ⟨ad255, e255, hx255_0⟩ := Kd.at_string HR0.out x6_1 p255 q255
     cases e255
     (try replace hx255_0 := (HB.out.cell (World.block_lt_of_cell? w _ hx255_0)).trans hx255_0)
     replace p255 := eq_true p255
     replace q255 := eq_true q255
     go_wp2_with (first | (at_builtin; refine print_append_str (w0 := w) w.heap.size rfl (.tmp 19) _ 22 9 5 rfl Try.underlying22 Try.underlying9 info5 u5 x5_1 (rdOf ByteArray.empty l0 x6_1) rfl rfl ?aO ?aB ?aS ?aL ?_; (case aB => exact (bl_ HB.out)); (case aO => exact (Kd.own_of_R (re_ HO_5.out))); (case aS => exact (below_size (bl_ HB.out))); (case aL => have := LMc13.out; omega); intro v257 w14 ho0 hb hg; have ho := Kd.R_of_own (h1 := fun _ => rfl) (ok := fun _ => True) ho0 (fun _ _ => trivial); clear ho0; have hat := True.intro; rw [← Ny256.out] at ho; change Kd.R (Kd.int .u8) 5 w14 w.heap.size (fun _ => True) v257 y256 at ho; replace HB := Aside0.mk (hb); have HO258 := Aside0.mk (ho); clear HO_5; clear ho hb hg hat))
     go_roundg k1
     case measure => have := HK1.out; omega
     case rel => exact ⟨(y256), (wrap64 (x6_1 + 1)), rs_, H', ⟨by have := HK1.out; omega⟩, ⟨re_ HO258.out⟩, ⟨bl_ HB.out⟩⟩
   rw [if_pos c6] at H
   have c6b0 : decide (0 < x6_1) = true := decide_eq_true c6
   clear c6
   by_cases c7 : x5_1.length + a1.size < 140737488355328
   rotate_left
   · rw [if_neg c7] at H
     cases H
   rw [if_pos c7] at H
   have LMc7 := Aside0.mk c7
   clear c7
   obtain ⟨y248, hy248⟩ : ∃ y_ : List Int, y_ = (x5_1 ++ bytesOf a1) := ⟨_, rfl⟩
   replace H : (if 0 ≤ x6_1 then (if y248.length + (rdOf ByteArray.empty l0 x6_1).size < 140737488355328 then (spec_Join.l0 k1 l0 a1 (y248 ++ bytesOf (rdOf ByteArray.empty l0 x6_1)) (wrap64 (x6_1 + 1))) else (none)) else (none)) = some r := by subst hy248; exact H
   have Ny248 := Aside0.mk hy248
   clear hy248
   by_cases c8 : 0 ≤ x6_1
   rotate_left
   · rw [if_neg c8] at H
     cases H
   rw [if_pos c8] at H
   have c8b0 : decide (0 ≤ x6_1) = true := decide_eq_true c8
   clear c8
   by_cases c9 : y248.length + (rdOf ByteArray.empty l0 x6_1).size < 140737488355328
   rotate_left
   · rw [if_neg c9] at H
     cases H
   rw [if_pos c9] at H
   have LMc9 := Aside0.mk c9
   clear c9
   obtain ⟨y252, hy252⟩ : ∃ y_ : List Int, y_ = (y248 ++ bytesOf (rdOf ByteArray.empty l0 x6_1)) := ⟨_, rfl⟩
   replace H : (spec_Join.l0 k1 l0 a1 y252 (wrap64 (x6_1 + 1))) = some r := by subst hy252; exact H
   have Ny252 := Aside0.mk hy252
   clear hy252
   have H' := Aside0.mk H
   clear H
   go_wp2_with (first | (at_builtin; refine print_append_str (w0 := w) w.heap.size rfl (.tmp 16) _ 22 9 5 rfl Try.underlying22 Try.underlying9 info5 u5 x5_1 a1 rfl rfl ?aO ?aB ?aS ?aL ?_; (case aB => exact (bl_ HB.out)); (case aO => exact (Kd.own_of_R (re_ HO_5.out))); (case aS => exact (below_size (bl_ HB.out))); (case aL => have := LMc7.out; omega); intro v249 w10 ho0 hb hg; have ho := Kd.R_of_own (h1 := fun _ => rfl) (ok := fun _ => True) ho0 (fun _ _ => trivial); clear ho0; have hat := True.intro; rw [← Ny248.out] at ho; change Kd.R (Kd.int .u8) 5 w10 w.heap.size (fun _ => True) v249 y248 at ho; replace HB := Aside0.mk (hb); have HO250 := Aside0.mk (ho); clear HO_5; clear ho hb hg hat; have p251 : 0 ≤ (x6_1 : Int) := od_; have q251 : x6_1 < (l0.length : Int) := od_; obtain ⟨ad251, e251, hx251_0⟩ := Kd.at_string HR0.out x6_1 p251 q251; cases e251; (try replace hx251_0 := (HB.out.cell (World.block_lt_of_cell? w _ hx251_0)).trans hx251_0); replace p251 := eq_true p251; replace q251 := eq_true q251) | (at_builtin; refine print_append_str (w0 := w) w.heap.size rfl (.tmp 19) _ 22 9 5 rfl Try.underlying22 Try.underlying9 info5 v249 y248 (rdOf ByteArray.empty l0 x6_1) rfl rfl ?aO ?aB ?aS ?aL ?_; (case aB => exact (bl_ HB.out)); (case aO => exact (Kd.own_of_R (re_ HO250.out))); (case aS => exact (below_size (bl_ HB.out))); (case aL => have := LMc9.out; omega); intro v253 w11 ho0 hb hg; have ho := Kd.R_of_own (h1 := fun _ => rfl) (ok := fun _ => True) ho0 (fun _ _ => trivial); clear ho0; have hat := True.intro; rw [← Ny252.out] at ho; change Kd.R (Kd.int .u8) 5 w11 w.heap.size (fun _ => True) v253 y252 at ho; replace HB := Aside0.mk (hb); have HO254 := Aside0.mk (ho); clear HO250; clear ho hb hg hat))
   go_roundg k1
   case measure => have := HK1.out; omega
   case rel => exact ⟨(y252), (wrap64 (x6_1 + 1)), rs_, H', ⟨by have := HK1.out; omega⟩, ⟨re_ HO254.out⟩, ⟨bl_ HB.out⟩⟩
def spec_ListText.l0 : Nat → List Int → List ByteArray → Int → Option (ByteArray)
 | 0, _, _, _ => none
 | k + 1, x0, x3, x4 => if x4 < (x0.length : Int) then (if 0 ≤ x4 then ((spec_FormatInt.f k (rd x0 x4)).bind fun t263 => (if x3.length < 8796093022208 then (spec_ListText.l0 k x0 (x3 ++ [t263]) (wrap64 (x4 + 1))) else (none))) else (none)) else ((spec_Join.f k x3 (⟨#[44]⟩ : ByteArray)).bind fun t267 => (some t267))
def spec_ListText.f (k : Nat) (l0 : List Int) : Option (ByteArray) := if (l0.length : Int) = 0 then (some (⟨#[110, 111, 110, 101]⟩ : ByteArray)) else (spec_ListText.l0 k l0 (([] : List ByteArray)) 0)
theorem spec_ListText.mono_l : ∀ k, (∀ y0 y1 y2, LeO (spec_ListText.l0 k y0 y1 y2) (spec_ListText.l0 (k + 1) y0 y1 y2))
 | 0 => fun _ _ _ r h => by simp [spec_ListText.l0] at h
 | k + 1 => by
  have ih0 := spec_ListText.mono_l k
  · intro y0 y1 y2
    unfold spec_ListText.l0
    repeat' first
    | (with_reducible exact ih0 _ _ _)
    | (with_reducible exact spec_FormatInt.mono _ _)
    | (with_reducible exact spec_Join.mono _ _ _)
    | (with_reducible exact LeO.refl _)
    | (with_reducible exact LeO.none _)
    | (with_reducible refine LeO.ite ?_ ?_)
    | (with_reducible refine LeO.bind ?_ (fun _ => ?_))
    | exact ih0 _ _ _
    | exact LeO.none _
    | refine LeO.ite ?_ ?_
    | refine LeO.bind ?_ (fun _ => ?_)
theorem spec_ListText.mono : ∀ a0 k, LeO (spec_ListText.f k a0) (spec_ListText.f (k + 1) a0) := by
 intro a0 k
 have ih0 := spec_ListText.mono_l k
 unfold spec_ListText.f
 repeat' first
  | (with_reducible exact ih0 _ _ _)
  | (with_reducible exact spec_FormatInt.mono _ _)
  | (with_reducible exact spec_Join.mono _ _ _)
  | (with_reducible exact LeO.refl _)
  | (with_reducible exact LeO.none _)
  | (with_reducible refine LeO.ite ?_ ?_)
  | (with_reducible refine LeO.bind ?_ (fun _ => ?_))
  | exact ih0 _ _ _
  | exact LeO.none _
  | refine LeO.ite ?_ ?_
  | refine LeO.bind ?_ (fun _ => ?_)
theorem spec_ListText.calls (k : Nat) (A0 : Option Addr) (c0 : Nat) (l0 : List Int) (r : ByteArray) (w : World) (hr0 : Kd.C (Kd.int .i64) w A0 l0.length l0) (hc0 : l0.length ≤ c0) (h : spec_ListText.f k l0 = some r) :
 Calls Try.prog 79 #[.slice A0 l0.length c0] w fun e w' => e = .returned (.string r) ∧ Below w.heap.size w w' := by
 have HR0 := Aside0.mk hr0
 have HC0 := Aside0.mk hc0
 clear hr0 hc0
 have HB := Aside0.mk (Below.refl w.heap.size w)
 have H := h
 clear h
 unfold spec_ListText.f at H
 by_cases c2 : (l0.length : Int) = 0
 · rw [if_pos c2] at H
   have c2b0 : ((l0.length : Int) == 0) = true := beq_iff_eq.mpr c2
   have c2b1 : ((l0.length : Int) != 0) = false := bne_eq_false_iff_eq.mpr c2
   clear c2
   obtain rfl := Option.some.inj H
   go_enter Try.func79, Try.ntmps79
   go_wp2
   go_ret
   exact ⟨rf_, bl_ HB.out⟩
 rw [if_neg c2] at H
 have c2b0 : ((l0.length : Int) == 0) = false := beq_eq_false_iff_ne.mpr c2
 have c2b1 : ((l0.length : Int) != 0) = true := bne_iff_ne.mpr c2
 have c2b2 : ¬ (l0 = []) := fun h_ => c2 (by rw [h_]; rfl)
 obtain ⟨y259, hy259⟩ : ∃ y_ : List ByteArray, y_ = (([] : List ByteArray)) := ⟨_, rfl⟩
 replace H : (spec_ListText.l0 k l0 y259 0) = some r := by subst hy259; exact H
 have Ny259 := Aside0.mk hy259
 clear hy259
 have H' := Aside0.mk H
 clear H
 go_enter Try.func79, Try.ntmps79
 go_wp2_with (first | ((with_reducible refine gate_dst (N := 8) rfl ?_); refine Kd.R_lit Kd.string _ 9 ?hg (N := 8) ?hd (xs := ([] : List ByteArray)) (inner := []) (ok := fun _ => True) (okp := fun _ => True) ?hr ?hp (fun _ hk => hk) trivial (Below.refl _ _) (Nat.le_refl _) (by simp) ?_; (case hd => rfl); (case hg => rfl); (case hr => first | (go_simp; done) | (go_simp; rfl)); (case hp => exact (Reps.none _ _)); intro v260 w3 ho4 hb hg_ hnew_; clear hg_ hnew_; (first | rw [← Ny259.out] at ho4 | (simp only [Int.reduceToNat] at ho4; rw [← Ny259.out] at ho4)); have HO261 := Aside0.mk (Kd.R_lower ho4 (below_size (bl_ HB.out))); replace HB := bo_ HB hb; clear hb ho4))
 go_loopg [3, 4] k (fun kq v3 v4 w' => ∃ (x3_1 : List ByteArray) (x4_1 : Int), v4 = .int .i64 x4_1 ∧ Aside0 (spec_ListText.l0 kq l0 x3_1 x4_1 = some r) ∧ Aside0 (kq ≤ k) ∧ Aside0 (Kd.R Kd.string 9 w' w.heap.size (fun _ => True) v3 x3_1) ∧ Aside0 (Below w.heap.size w w'))
 case atStart => exact ⟨(y259), (0), rs_, H', ⟨Nat.le_refl _⟩, ⟨re_ HO261.out⟩, ⟨bl_ HB.out⟩⟩
 case round =>
  clear H'
  try clear c2
  try clear c2b0
  try clear c2b1
  try clear c2b2
  try clear p2
  obtain ⟨x3_1, x4_1, rfl, HA, HK1, HO_3, HB⟩ := hrel
  cases gk with
  | zero => exact absurd HA.out (by simp [spec_ListText.l0])
  | succ k1 =>
   have H := HA.out
   clear HA
   simp only [spec_ListText.l0] at H
   by_cases c5 : x4_1 < (l0.length : Int)
   rotate_left
   · rw [if_neg c5] at H
     have c5b0 : decide (x4_1 < (l0.length : Int)) = false := decide_eq_false c5
     clear c5
     obtain ⟨t267, A11, H⟩ := ob_ H
     obtain rfl := Option.some.inj H
     obtain ⟨Ao12, co12, eo12⟩ := Kd.R_slice HO_3.out
     subst eo12
     go_wp2_with (first | ((with_reducible refine gate_callee (f := 84) rfl ?_); refine gL_ (some 24) Try.func84 #[.slice Ao12 x3_1.length co12, .string (⟨#[44]⟩ : ByteArray)] ?_; (with_reducible refine (spec_Join.calls k1 _ _ x3_1 (⟨#[44]⟩ : ByteArray) t267 _ ?side1 ?side2 A11.out).mono ?_); (case side1 => exact ce_ ((Kd.R_reads' HO_3.out).2.2)); (case side2 => exact (Kd.R_reads' HO_3.out).2.1); rintro e w13 ⟨rfl, hb⟩; refine ⟨_, rfl, ?_⟩; replace HO_3 := Aside0.mk (Kd.R_below (re_ HO_3.out) hb); replace HB := bo_ HB hb; (try clear hb)))
     go_ret
     exact ⟨rf_, bl_ HB.out⟩
   rw [if_pos c5] at H
   have c5b0 : decide (x4_1 < (l0.length : Int)) = true := decide_eq_true c5
   clear c5
   by_cases c6 : 0 ≤ x4_1
   rotate_left
   · rw [if_neg c6] at H
     cases H
   rw [if_pos c6] at H
   have c6b0 : decide (0 ≤ x4_1) = true := decide_eq_true c6
   clear c6
   obtain ⟨t263, A7, H⟩ := ob_ H
   by_cases c8 : x3_1.length < 8796093022208
   rotate_left
   · rw [if_neg c8] at H
     cases H
   rw [if_pos c8] at H
   have LMc8 := Aside0.mk c8
   clear c8
   obtain ⟨y264, hy264⟩ : ∃ y_ : List ByteArray, y_ = (x3_1 ++ [t263]) := ⟨_, rfl⟩
   replace H : (spec_ListText.l0 k1 l0 y264 (wrap64 (x4_1 + 1))) = some r := by subst hy264; exact H
   have Ny264 := Aside0.mk hy264
   clear hy264
   have H' := Aside0.mk H
   clear H
   have p262 : 0 ≤ (x4_1 : Int) := od_
   have q262 : x4_1 < (l0.length : Int) := od_
   obtain ⟨ad262, e262, hx262_0⟩ := Kd.at_int HR0.out x4_1 p262 q262
   cases e262
   (try replace hx262_0 := (HB.out.cell (World.block_lt_of_cell? w _ hx262_0)).trans hx262_0)
   replace p262 := eq_true p262
   replace q262 := eq_true q262
   go_wp2_with (first | ((with_reducible refine gate_callee (f := 83) rfl ?_); refine gL_ (some 20) Try.func83 #[.int .i64 (rd l0 x4_1)] ?_; (with_reducible refine (spec_FormatInt.calls k1 (rd l0 x4_1) t263 _ A7.out).mono ?_); rintro e w9 ⟨rfl, hb⟩; refine ⟨_, rfl, ?_⟩; replace HO_3 := Aside0.mk (Kd.R_below (re_ HO_3.out) hb); replace HB := bo_ HB hb; (try clear hb)) | ((with_reducible refine gate_builtin (b := .append) (xs := #[.tmp 15, .tmp 21]) rfl ?_); at_builtin; refine Kd.R_append Kd.string (w0 := w) w.heap.size rfl (.tmp 15) (.tmp 21) 52 9 (.string ⟨#[]⟩) 16 rfl Try.underlying52 info9 rfl (by decide) (by omega) u3 x3_1 t263 [.string t263] (fun _ => True) (fun _ => False) rfl rfl ?aP (fun _ hk => hk.elim) ?aF ?aO ?aB ?aS ?aL ?_; (case aP => exact rfl); (case aB => exact (bl_ HB.out)); (case aF => exact (fun _ _ => trivial)); (case aO => exact (re_ HO_3.out)); (case aS => exact (below_size (bl_ HB.out))); (case aL => have := LMc8.out; omega); intro v265 w10 ho hb hg hat; rw [← Ny264.out] at ho; replace HB := Aside0.mk (hb); have HO266 := Aside0.mk (ho); clear HO_3; clear ho hb hg hat))
   go_roundg k1
   case measure => have := HK1.out; omega
   case rel => exact ⟨(y264), (wrap64 (x4_1 + 1)), rs_, H', ⟨by have := HK1.out; omega⟩, ⟨re_ HO266.out⟩, ⟨bl_ HB.out⟩⟩
def spec_SemigroupText.f (k : Nat) (l0_0 : List Int) : Option (ByteArray) := (spec_IsSemigroup.f k l0_0).bind fun t269 => (if t269 = true then ((spec_ListText.f k l0_0).bind fun t270 => (if 1 + t270.size ≤ 9223372036854775807 then (if ((⟨#[60]⟩ : ByteArray) ++ t270).size + 1 ≤ 9223372036854775807 then (some (((⟨#[60]⟩ : ByteArray) ++ t270) ++ (⟨#[62]⟩ : ByteArray))) else (none)) else (none))) else (some (⟨#[]⟩ : ByteArray)))
theorem spec_SemigroupText.mono : ∀ a0 k, LeO (spec_SemigroupText.f k a0) (spec_SemigroupText.f (k + 1) a0) := by
 intro a0 k
 unfold spec_SemigroupText.f
 repeat' first
  | (with_reducible exact spec_IsSemigroup.mono _ _)
  | (with_reducible exact spec_ListText.mono _ _)
  | (with_reducible exact LeO.refl _)
  | (with_reducible exact LeO.none _)
  | (with_reducible refine LeO.ite ?_ ?_)
  | (with_reducible refine LeO.bind ?_ (fun _ => ?_))
  | exact LeO.none _
  | refine LeO.ite ?_ ?_
  | refine LeO.bind ?_ (fun _ => ?_)
theorem spec_SemigroupText.calls (k : Nat) (A0_0 : Option Addr) (c0_0 : Nat) (l0_0 : List Int) (r : ByteArray) (w : World) (hr0_0 : Kd.C (Kd.int .i64) w A0_0 l0_0.length l0_0) (hc0_0 : l0_0.length ≤ c0_0) (h : spec_SemigroupText.f k l0_0 = some r) :
 Calls Try.prog 70 #[.agg #[.slice A0_0 l0_0.length c0_0]] w fun e w' => e = .returned (.string r) ∧ Below w.heap.size w w' := by
 have hu26 := Try.underlying26
 have HR0_0 := Aside0.mk hr0_0
 have HC0_0 := Aside0.mk hc0_0
 clear hr0_0 hc0_0
 have HB := Aside0.mk (Below.refl w.heap.size w)
 have H := h
 clear h
 unfold spec_SemigroupText.f at H
 obtain ⟨t269, A2, H⟩ := ob_ H
 by_cases c3 : t269 = true
 rotate_left
 · replace c3 := Bool.eq_false_iff.mpr c3
   subst c3
   rw [if_neg (show ¬ (false = true) by decide)] at H
   obtain rfl := Option.some.inj H
   go_enter Try.func70, Try.ntmps70
   go_wp2_with (first | ((with_reducible refine gate_dst (N := 1) rfl ?_); refine bx_ 1 #[.slice A0_0 l0_0.length c0_0] 26 ?_; intro gb268 hg w12 hbox hb; have BK268 := Aside0.mk (hbox); have GW268 := gw_ hg HB; have GE268 := gw_ hg HB; replace HB := bo_ HB hb; clear hb hbox hg; have hcz13_0 := cz_ BK268; have hfz13_0 := blk_frozen BK268.out 0) | ((with_reducible refine gate_callee (f := 43) rfl ?_); refine gL_ (some 4) Try.func43 #[.agg #[.slice A0_0 l0_0.length c0_0]] ?_; (with_reducible refine (spec_IsSemigroup.calls k _ _ l0_0 false _ ?side1 ?side2 A2.out).mono ?_); (case side1 => exact ch_ HR0_0 HB); (case side2 => exact HC0_0.out); rintro e w14 ⟨rfl, hb⟩; refine ⟨_, rfl, ?_⟩; replace BK268 := bk_ BK268 hb; replace HB := bp_ HB hb; (try clear hb)))
   go_ret
   exact ⟨rf_, bq_ HB⟩
 subst c3
 rw [if_pos rfl] at H
 obtain ⟨t270, A4, H⟩ := ob_ H
 by_cases c5 : 1 + t270.size ≤ 9223372036854775807
 rotate_left
 · rw [if_neg c5] at H
   cases H
 rw [if_pos c5] at H
 have c5b0 := eq_true c5
 have c5b1 : decide (1 + t270.size ≤ 9223372036854775807) = true := decide_eq_true c5
 try have c5b2 : (9223372036854775807 < 1 + t270.size) = False := eq_false (Nat.not_lt.2 c5)
 by_cases c6 : ((⟨#[60]⟩ : ByteArray) ++ t270).size + 1 ≤ 9223372036854775807
 rotate_left
 · rw [if_neg c6] at H
   cases H
 rw [if_pos c6] at H
 have c6b0 := eq_true c6
 have c6b1 : decide (((⟨#[60]⟩ : ByteArray) ++ t270).size + 1 ≤ 9223372036854775807) = true := decide_eq_true c6
 try have c6b2 : (9223372036854775807 < ((⟨#[60]⟩ : ByteArray) ++ t270).size + 1) = False := eq_false (Nat.not_lt.2 c6)
 have c6b3_ : (9223372036854775807 < 1 + t270.size + 1) = False := eq_false (by have h_ := c6; have e0_ : (⟨#[60]⟩ : ByteArray).size = 1 := rfl; simp only [ByteArray.size_append] at h_; omega)
 obtain rfl := Option.some.inj H
 go_enter Try.func70, Try.ntmps70
 go_wp2_with (first | ((with_reducible refine gate_dst (N := 1) rfl ?_); refine bx_ 1 #[.slice A0_0 l0_0.length c0_0] 26 ?_; intro gb268 hg w7 hbox hb; have BK268 := Aside0.mk (hbox); have GW268 := gw_ hg HB; have GE268 := gw_ hg HB; replace HB := bo_ HB hb; clear hb hbox hg; have hcz8_0 := cz_ BK268; have hfz8_0 := blk_frozen BK268.out 0) | ((with_reducible refine gate_callee (f := 43) rfl ?_); refine gL_ (some 4) Try.func43 #[.agg #[.slice A0_0 l0_0.length c0_0]] ?_; (with_reducible refine (spec_IsSemigroup.calls k _ _ l0_0 true _ ?side1 ?side2 A2.out).mono ?_); (case side1 => exact ch_ HR0_0 HB); (case side2 => exact HC0_0.out); rintro e w9 ⟨rfl, hb⟩; refine ⟨_, rfl, ?_⟩; replace BK268 := bk_ BK268 hb; replace HB := bp_ HB hb; (try clear hb); have hcz10_0 := cz_ BK268; have hfz10_0 := blk_frozen BK268.out 0) | ((with_reducible refine gate_callee (f := 79) rfl ?_); refine gL_ (some 8) Try.func79 #[.slice A0_0 l0_0.length c0_0] ?_; (with_reducible refine (spec_ListText.calls k _ _ l0_0 t270 _ ?side1 ?side2 A4.out).mono ?_); (case side1 => exact ch_ HR0_0 HB); (case side2 => exact HC0_0.out); rintro e w11 ⟨rfl, hb⟩; refine ⟨_, rfl, ?_⟩; replace BK268 := bk_ BK268 hb; replace HB := bp_ HB hb; (try clear hb)))
 go_ret
 exact ⟨rf_, bq_ HB⟩
def spec_ParseSemigroup.f (k : Nat) (a0 : ByteArray) : Option (List Int × Bool) := if (a0.size : Int) < 2 then (some (([] : List Int), false)) else (if 1 ≤ (wrap64 ((a0.size : Int) - 1)) then (if (wrap64 ((a0.size : Int) - 1)) ≤ (a0.size : Int) then ((spec_ParseList.f k (a0.extract 1 ((wrap64 ((a0.size : Int) - 1)) : Int).toNat)).bind fun bt272 => (if bt272.2 = true then ((spec_SemigroupText.f k bt272.1).bind fun t277 => (if t277.toList = a0.toList then (some (bt272.1, true)) else (some (([] : List Int), false)))) else (some (([] : List Int), false)))) else (none)) else (none))
theorem spec_ParseSemigroup.mono : ∀ a0 k, LeO (spec_ParseSemigroup.f k a0) (spec_ParseSemigroup.f (k + 1) a0) := by
 intro a0 k
 unfold spec_ParseSemigroup.f
 repeat' first
  | (with_reducible exact spec_ParseList.mono _ _)
  | (with_reducible exact spec_SemigroupText.mono _ _)
  | (with_reducible exact LeO.refl _)
  | (with_reducible exact LeO.none _)
  | (with_reducible refine LeO.ite ?_ ?_)
  | (with_reducible refine LeO.bind ?_ (fun _ => ?_))
  | exact LeO.none _
  | refine LeO.ite ?_ ?_
  | refine LeO.bind ?_ (fun _ => ?_)
theorem spec_ParseSemigroup.calls (k : Nat) (a0 : ByteArray) (r1 : List Int) (r2 : Bool) (w : World) (h : spec_ParseSemigroup.f k a0 = some (r1, r2)) :
 Calls Try.prog 47 #[.string a0] w fun e w' => ∃ v0_ : Value, e = .returned (.tuple #[.agg #[v0_], .bool r2]) ∧ Kd.R (Kd.int .i64) 3 w' w.heap.size (fun _ => True) v0_ r1 ∧ Below w.heap.size w w' := by
 have hu26 := Try.underlying26
 have HB := Aside0.mk (Below.refl w.heap.size w)
 have H := h
 clear h
 unfold spec_ParseSemigroup.f at H
 by_cases c2 : (a0.size : Int) < 2
 · rw [if_pos c2] at H
   have c2b0 : decide ((a0.size : Int) < 2) = true := decide_eq_true c2
   have c2b1 : decide (a0.size < 2) = true := decide_eq_true (by omega)
   clear c2
   simp only [Option.some.injEq, Prod.mk.injEq] at H
   obtain ⟨rfl, rfl⟩ := H
   go_enter Try.func47, Try.ntmps47
   go_wp2_with (first | ((with_reducible refine gate_dst (N := 2) rfl ?_); refine bx_ 2 #[.slice none 0 0] 26 ?_; intro gb271 hg w3 hbox hb; have BK271 := Aside0.mk (hbox); have GW271 := gw_ hg HB; have GE271 := gw_ hg HB; replace HB := bo_ HB hb; clear hb hbox hg; have hcz4_0 := cz_ BK271; have hfz4_0 := blk_frozen BK271.out 0))
   refine bodyPost_ret (results_ct rfl _ _ gb271 26 #[.slice none 0 0] (0, 0) _ rfl (by (with_reducible repeat (first | refine blk_drewN ?_ _ | refine blk_drew ?_ | refine blk_alloc ?_ _)); refine blk_put (cs := #[.slice none 0 0]) ?_ 0 _ rfl; (with_reducible repeat (first | refine blk_drewN ?_ _ | refine blk_drew ?_ | refine blk_alloc ?_ _)); exact BK271.out) Try.underlying26 rfl (by kernel_rfl)) rfl ?_
   exact ⟨_, rf_, by first | exact Kd.R_nil _ _ _ _ _ | exact Kd.N_nil _ _ _ _ _ | exact Kd.V_nil _ _ _ _ _ | exact Kd.Q_nil _ _ _ _ _ | exact Kd.S_nil _ _ _ _ _, bq_ HB⟩
 rw [if_neg c2] at H
 have c2b0 : decide ((a0.size : Int) < 2) = false := decide_eq_false c2
 have c2b1 : decide (a0.size < 2) = false := decide_eq_false (by omega)
 clear c2
 by_cases c5 : 1 ≤ (wrap64 ((a0.size : Int) - 1))
 rotate_left
 · rw [if_neg c5] at H
   cases H
 rw [if_pos c5] at H
 have c5b0 := eq_true c5
 have c5b1 : decide (1 ≤ (wrap64 ((a0.size : Int) - 1))) = true := decide_eq_true c5
 clear c5
 by_cases c6 : (wrap64 ((a0.size : Int) - 1)) ≤ (a0.size : Int)
 rotate_left
 · rw [if_neg c6] at H
   cases H
 rw [if_pos c6] at H
 have c6b0 := eq_true c6
 have c6b1 : decide ((wrap64 ((a0.size : Int) - 1)) ≤ (a0.size : Int)) = true := decide_eq_true c6
 clear c6
 obtain ⟨⟨t272, t273⟩, A7, H⟩ := ob_ H
 (try dsimp only at H)
 by_cases c8 : t273 = true
 rotate_left
 · replace c8 := Bool.eq_false_iff.mpr c8
   subst c8
   rw [if_neg (show ¬ (false = true) by decide)] at H
   simp only [Option.some.injEq, Prod.mk.injEq] at H
   obtain ⟨rfl, rfl⟩ := H
   go_enter Try.func47, Try.ntmps47
   go_wp2_with (first | ((with_reducible refine gate_dst (N := 2) rfl ?_); refine bx_ 2 #[.slice none 0 0] 26 ?_; intro gb271 hg w28 hbox hb; have BK271 := Aside0.mk (hbox); have GW271 := gw_ hg HB; have GE271 := gw_ hg HB; replace HB := bo_ HB hb; clear hb hbox hg) | ((with_reducible refine gate_callee (f := 69) rfl ?_); refine gL_ (some 17) Try.func69 #[.string (a0.extract 1 ((wrap64 ((a0.size : Int) - 1)) : Int).toNat)] ?_; (with_reducible refine (spec_ParseList.calls k (a0.extract 1 ((wrap64 ((a0.size : Int) - 1)) : Int).toNat) t272 false _ A7.out).mono ?_); rintro e w29 ⟨v274, rfl, ho0, hb⟩; refine ⟨_, rfl, ?_⟩; have HO275 := Aside0.mk (Kd.R_lower ho0 (below_size (bq_ HB))); replace BK271 := bk_ BK271 hb; replace HB := bp_ HB hb; (try clear hb); (try clear ho0); obtain ⟨Ao30, co30, eo30⟩ := Kd.R_slice HO275.out; subst eo30) | ((with_reducible refine gate_dst (N := 6) rfl ?_); refine bx_ 6 #[.slice none 0 0] 26 ?_; intro gb276 hg w31 hbox hb; replace HO275 := Aside0.mk (Kd.R_below (re_ HO275.out) hb); have BK276 := Aside0.mk (hbox); have GW276 := gq_ hg (bq_ HB); have GE276 := gq_ hg (bq_ HB); replace HB := bp_ HB hb; have NB271_276 := nl_ hg BK271; have NB276_271 := ng_ hg BK271; replace BK271 := bk_ BK271 hb; clear hb hbox hg; have hnb32 := NB276_271.out; have hnc32 := NB271_276.out; have hcz33_0 := cz_ BK276; have hfz33_0 := blk_frozen BK276.out 0; have hcz34_0 := cz_ BK271; have hfz34_0 := blk_frozen BK271.out 0))
   refine bodyPost_ret (results_ct rfl _ _ gb271 26 #[.slice none 0 0] (0, 0) _ rfl (by (with_reducible repeat (first | refine blk_drewN ?_ _ | refine blk_drew ?_ | refine blk_alloc ?_ _)); refine blk_put (cs := #[.slice none 0 0]) ?_ 0 _ rfl; (with_reducible repeat (first | refine blk_drewN ?_ _ | refine blk_drew ?_ | refine blk_alloc ?_ _)); refine blk_far ?_ NB271_276.out _; (with_reducible repeat (first | refine blk_drewN ?_ _ | refine blk_drew ?_ | refine blk_alloc ?_ _)); exact BK271.out) Try.underlying26 rfl (by kernel_rfl)) rfl ?_
   exact ⟨_, rf_, by first | exact Kd.R_nil _ _ _ _ _ | exact Kd.N_nil _ _ _ _ _ | exact Kd.V_nil _ _ _ _ _ | exact Kd.Q_nil _ _ _ _ _ | exact Kd.S_nil _ _ _ _ _, bq_ HB⟩
 subst c8
 rw [if_pos rfl] at H
 obtain ⟨t277, A9, H⟩ := ob_ H
 by_cases c10 : t277.toList = a0.toList
 rotate_left
 · rw [if_neg c10] at H
   have c10b0 : (t277.toList == a0.toList) = false := beq_eq_false_iff_ne.mpr c10
   have c10b1 : (t277.toList != a0.toList) = true := bne_iff_ne.mpr c10
   simp only [Option.some.injEq, Prod.mk.injEq] at H
   obtain ⟨rfl, rfl⟩ := H
   go_enter Try.func47, Try.ntmps47
   go_wp2_with (first | ((with_reducible refine gate_dst (N := 2) rfl ?_); refine bx_ 2 #[.slice none 0 0] 26 ?_; intro gb271 hg w20 hbox hb; have BK271 := Aside0.mk (hbox); have GW271 := gw_ hg HB; have GE271 := gw_ hg HB; replace HB := bo_ HB hb; clear hb hbox hg) | ((with_reducible refine gate_callee (f := 69) rfl ?_); refine gL_ (some 17) Try.func69 #[.string (a0.extract 1 ((wrap64 ((a0.size : Int) - 1)) : Int).toNat)] ?_; (with_reducible refine (spec_ParseList.calls k (a0.extract 1 ((wrap64 ((a0.size : Int) - 1)) : Int).toNat) t272 true _ A7.out).mono ?_); rintro e w21 ⟨v274, rfl, ho0, hb⟩; refine ⟨_, rfl, ?_⟩; have HO275 := Aside0.mk (Kd.R_lower ho0 (below_size (bq_ HB))); replace BK271 := bk_ BK271 hb; replace HB := bp_ HB hb; (try clear hb); (try clear ho0); obtain ⟨Ao22, co22, eo22⟩ := Kd.R_slice HO275.out; subst eo22) | ((with_reducible refine gate_dst (N := 6) rfl ?_); refine bx_ 6 #[.slice none 0 0] 26 ?_; intro gb276 hg w23 hbox hb; replace HO275 := Aside0.mk (Kd.R_below (re_ HO275.out) hb); have BK276 := Aside0.mk (hbox); have GW276 := gq_ hg (bq_ HB); have GE276 := gq_ hg (bq_ HB); replace HB := bp_ HB hb; have NB271_276 := nl_ hg BK271; have NB276_271 := ng_ hg BK271; replace BK271 := bk_ BK271 hb; clear hb hbox hg; have hnb24 := NB276_271.out; have hnc24 := NB271_276.out; have hcz25_0 := cz_ BK276; have hfz25_0 := blk_frozen BK276.out 0) | (go_at_call 70; (with_reducible refine (spec_SemigroupText.calls k _ _ t272 t277 _ ?side1 ?side2 A9.out).mono ?_); (case side1 => refine (Kd.R_reads' (e := 3) (base := w.heap.size) (ok := fun k_ => True) (n := t272.length) (c := co22) ?_).2.2; exact (by (with_reducible repeat (first | apply Kd.R_alloc | apply Kd.R_drewN | apply Kd.R_drew)); exact (Kd.R_mono (Kd.R_far (p := ⟨gb276, 0, none⟩) (Kd.R_types HO275.out BK276.out (by decide)) (fun _ hk => hk.2) (.slice Ao22 t272.length co22)) (fun _ h_ => h_.1)))); (case side2 => exact (Kd.R_reads' HO275.out).2.1); rintro e w26 ⟨rfl, hb⟩; replace HO275 := Aside0.mk (Kd.R_below (by (with_reducible repeat (first | apply Kd.R_alloc | apply Kd.R_drewN | apply Kd.R_drew)); exact (Kd.R_mono (Kd.R_far (p := ⟨gb276, 0, none⟩) (Kd.R_types HO275.out BK276.out (by decide)) (fun _ hk => hk.2) (.slice Ao22 t272.length co22)) (fun _ h_ => h_.1))) hb); replace BK271 := Aside0.mk (blk_below (g := gb271) (o := .cells #[.slice none 0 0] 26 (0, 0)) (by (with_reducible repeat (first | refine blk_drewN ?_ _ | refine blk_drew ?_ | refine blk_alloc ?_ _)); refine blk_far ?_ NB271_276.out _; (with_reducible repeat (first | refine blk_drewN ?_ _ | refine blk_drew ?_ | refine blk_alloc ?_ _)); exact BK271.out) hb); replace BK276 := Aside0.mk (blk_below (g := gb276) (o := .cells #[.slice Ao22 t272.length co22] 26 (0, 0)) (by (with_reducible repeat (first | refine blk_drewN ?_ _ | refine blk_drew ?_ | refine blk_alloc ?_ _)); refine blk_put (cs := #[.slice none 0 0]) ?_ 0 _ rfl; (with_reducible repeat (first | refine blk_drewN ?_ _ | refine blk_drew ?_ | refine blk_alloc ?_ _)); exact BK276.out) hb); replace HB := bp_ HB hb; (try clear hb); have hcz27_0 := cz_ BK271; have hfz27_0 := blk_frozen BK271.out 0))
   refine bodyPost_ret (results_ct rfl _ _ gb271 26 #[.slice none 0 0] (0, 0) _ rfl (by (with_reducible repeat (first | refine blk_drewN ?_ _ | refine blk_drew ?_ | refine blk_alloc ?_ _)); refine blk_put (cs := #[.slice none 0 0]) ?_ 0 _ rfl; (with_reducible repeat (first | refine blk_drewN ?_ _ | refine blk_drew ?_ | refine blk_alloc ?_ _)); exact BK271.out) Try.underlying26 rfl (by kernel_rfl)) rfl ?_
   exact ⟨_, rf_, by first | exact Kd.R_nil _ _ _ _ _ | exact Kd.N_nil _ _ _ _ _ | exact Kd.V_nil _ _ _ _ _ | exact Kd.Q_nil _ _ _ _ _ | exact Kd.S_nil _ _ _ _ _, bq_ HB⟩
 rw [if_pos c10] at H
 have c10b0 : (t277.toList == a0.toList) = true := beq_iff_eq.mpr c10
 have c10b1 : (t277.toList != a0.toList) = false := bne_eq_false_iff_eq.mpr c10
 clear c10
 simp only [Option.some.injEq, Prod.mk.injEq] at H
 obtain ⟨rfl, rfl⟩ := H
 go_enter Try.func47, Try.ntmps47
 go_wp2_with (first | ((with_reducible refine gate_dst (N := 2) rfl ?_); refine bx_ 2 #[.slice none 0 0] 26 ?_; intro gb271 hg w11 hbox hb; have BK271 := Aside0.mk (hbox); have GW271 := gw_ hg HB; have GE271 := gw_ hg HB; replace HB := bo_ HB hb; clear hb hbox hg) | ((with_reducible refine gate_callee (f := 69) rfl ?_); refine gL_ (some 17) Try.func69 #[.string (a0.extract 1 ((wrap64 ((a0.size : Int) - 1)) : Int).toNat)] ?_; (with_reducible refine (spec_ParseList.calls k (a0.extract 1 ((wrap64 ((a0.size : Int) - 1)) : Int).toNat) t272 true _ A7.out).mono ?_); rintro e w12 ⟨v274, rfl, ho0, hb⟩; refine ⟨_, rfl, ?_⟩; have HO275 := Aside0.mk (Kd.R_lower ho0 (below_size (bq_ HB))); replace BK271 := bk_ BK271 hb; replace HB := bp_ HB hb; (try clear hb); (try clear ho0); obtain ⟨Ao13, co13, eo13⟩ := Kd.R_slice HO275.out; subst eo13) | ((with_reducible refine gate_dst (N := 6) rfl ?_); refine bx_ 6 #[.slice none 0 0] 26 ?_; intro gb276 hg w14 hbox hb; replace HO275 := Aside0.mk (Kd.R_below (re_ HO275.out) hb); have BK276 := Aside0.mk (hbox); have GW276 := gq_ hg (bq_ HB); have GE276 := gq_ hg (bq_ HB); replace HB := bp_ HB hb; have NB271_276 := nl_ hg BK271; have NB276_271 := ng_ hg BK271; replace BK271 := bk_ BK271 hb; clear hb hbox hg; have hnb15 := NB276_271.out; have hnc15 := NB271_276.out; have hcz16_0 := cz_ BK276; have hfz16_0 := blk_frozen BK276.out 0) | (go_at_call 70; (with_reducible refine (spec_SemigroupText.calls k _ _ t272 t277 _ ?side1 ?side2 A9.out).mono ?_); (case side1 => refine (Kd.R_reads' (e := 3) (base := w.heap.size) (ok := fun k_ => True) (n := t272.length) (c := co13) ?_).2.2; exact (by (with_reducible repeat (first | apply Kd.R_alloc | apply Kd.R_drewN | apply Kd.R_drew)); exact (Kd.R_mono (Kd.R_far (p := ⟨gb276, 0, none⟩) (Kd.R_types HO275.out BK276.out (by decide)) (fun _ hk => hk.2) (.slice Ao13 t272.length co13)) (fun _ h_ => h_.1)))); (case side2 => exact (Kd.R_reads' HO275.out).2.1); rintro e w17 ⟨rfl, hb⟩; replace HO275 := Aside0.mk (Kd.R_below (by (with_reducible repeat (first | apply Kd.R_alloc | apply Kd.R_drewN | apply Kd.R_drew)); exact (Kd.R_mono (Kd.R_far (p := ⟨gb276, 0, none⟩) (Kd.R_types HO275.out BK276.out (by decide)) (fun _ hk => hk.2) (.slice Ao13 t272.length co13)) (fun _ h_ => h_.1))) hb); replace BK271 := Aside0.mk (blk_below (g := gb271) (o := .cells #[.slice none 0 0] 26 (0, 0)) (by (with_reducible repeat (first | refine blk_drewN ?_ _ | refine blk_drew ?_ | refine blk_alloc ?_ _)); refine blk_far ?_ NB271_276.out _; (with_reducible repeat (first | refine blk_drewN ?_ _ | refine blk_drew ?_ | refine blk_alloc ?_ _)); exact BK271.out) hb); replace BK276 := Aside0.mk (blk_below (g := gb276) (o := .cells #[.slice Ao13 t272.length co13] 26 (0, 0)) (by (with_reducible repeat (first | refine blk_drewN ?_ _ | refine blk_drew ?_ | refine blk_alloc ?_ _)); refine blk_put (cs := #[.slice none 0 0]) ?_ 0 _ rfl; (with_reducible repeat (first | refine blk_drewN ?_ _ | refine blk_drew ?_ | refine blk_alloc ?_ _)); exact BK276.out) hb); replace HB := bp_ HB hb; (try clear hb); have hcz18_0 := cz_ BK276; have hfz18_0 := blk_frozen BK276.out 0; have hcz19_0 := cz_ BK271; have hfz19_0 := blk_frozen BK271.out 0))
 refine bodyPost_ret (results_ct rfl _ _ gb271 26 #[.slice Ao13 t272.length co13] (0, 0) _ rfl (by (with_reducible repeat (first | refine blk_drewN ?_ _ | refine blk_drew ?_ | refine blk_alloc ?_ _)); refine blk_put (cs := #[.slice none 0 0]) ?_ 0 _ rfl; (with_reducible repeat (first | refine blk_drewN ?_ _ | refine blk_drew ?_ | refine blk_alloc ?_ _)); exact BK271.out) Try.underlying26 rfl (by kernel_rfl)) rfl ?_
 exact ⟨_, rf_, by (with_reducible repeat (first | apply Kd.R_alloc | apply Kd.R_drewN | apply Kd.R_drew)); exact Kd.R_mono (Kd.R_far (p := ⟨gb271, 0, none⟩) (Kd.R_types HO275.out BK271.out (by decide)) (fun _ hk => hk.2) (.slice Ao13 t272.length co13)) (fun _ hk => trivial), bq_ HB⟩
def spec_l1Byte.f (s0_0 : List Int) (s0_1 : Int) (s0_2 : Int) : Option (Int × Int × Int) := if s0_1 < (s0_0.length : Int) then (if 0 ≤ s0_1 then (some (Go.bits .and .i64 (wrap64 ((Go.bits .and .i64 (Go.bits .xor .i64 ((wrap64 ((wrap64 (s0_2 * 6364136223846793005)) + 1442695040888963407)) / 8589934592) ((wrap64 ((wrap64 (s0_2 * 6364136223846793005)) + 1442695040888963407)) / 35184372088832)) 255) + (wrap64 (rd s0_0 s0_1)))) 255, wrap64 (s0_1 + 1), wrap64 ((wrap64 (s0_2 * 6364136223846793005)) + 1442695040888963407))) else (none)) else (some (Go.bits .and .i64 (Go.bits .xor .i64 ((wrap64 ((wrap64 (s0_2 * 6364136223846793005)) + 1442695040888963407)) / 8589934592) ((wrap64 ((wrap64 (s0_2 * 6364136223846793005)) + 1442695040888963407)) / 35184372088832)) 255, s0_1, wrap64 ((wrap64 (s0_2 * 6364136223846793005)) + 1442695040888963407)))
theorem spec_l1Byte.calls (g : Nat) (s0_0 : List Int) (s0_1 : Int) (s0_2 : Int) (r1 : Int) (r2 : Int) (r3 : Int) (w0 w : World) (hI : IsS64 w0 w g s0_0 s0_1 s0_2) (hB : Below w0.heap.size w0 w) (h : spec_l1Byte.f s0_0 s0_1 s0_2 = some (r1, r2, r3)) :
 Calls Try.prog 71 #[.pointer (some ⟨g, 0, none⟩)] w fun e w' => e = .returned (.int .i64 r1) ∧ IsS64 w0 w' g s0_0 r2 r3 ∧ Below w0.heap.size w0 w' ∧ KeepBut w w' g none := by
 have HI0 := Aside0.mk hI
 have HK := Aside0.mk (KeepBut.refl w g none)
 have HL := Aside0.mk hB.size
 clear hI
 have HW0 := Aside0.mk hB.size
 have HB := Aside0.mk hB
 clear hB
 have H := h
 clear h
 unfold spec_l1Byte.f at H
 by_cases c2 : s0_1 < (s0_0.length : Int)
 rotate_left
 · rw [if_neg c2] at H
   have c2b0 : decide (s0_1 < (s0_0.length : Int)) = false := decide_eq_false c2
   clear c2
   simp only [Option.some.injEq, Prod.mk.injEq] at H
   obtain ⟨rfl, rfl, rfl⟩ := H
   obtain ⟨ASz5_0, cSz5_0, HGz5, hgz5, HSz5_0⟩ := HI0.out
   have hcz5_0 := cellS64_0 HGz5
   have hcz5_1 := cellS64_1 HGz5
   have hcz5_2 := cellS64_2 HGz5
   have hfz5_1 := blk_frozen HGz5 1
   have hfz5_2 := blk_frozen HGz5 2
   clear HGz5 hgz5
   go_enter Try.func71, Try.ntmps71
   go_wp2
   repeat (go_quiet (fail); try go_wp2)
   go_ret
   exact ⟨rf_, IsS64.q_ HI0, bi_ HB (IsS64.ge HI0.out), kq_ HK⟩
 rw [if_pos c2] at H
 have c2b0 : decide (s0_1 < (s0_0.length : Int)) = true := decide_eq_true c2
 clear c2
 by_cases c3 : 0 ≤ s0_1
 rotate_left
 · rw [if_neg c3] at H
   cases H
 rw [if_pos c3] at H
 have c3b0 : decide (0 ≤ s0_1) = true := decide_eq_true c3
 clear c3
 simp only [Option.some.injEq, Prod.mk.injEq] at H
 obtain ⟨rfl, rfl, rfl⟩ := H
 obtain ⟨ASz4_0, cSz4_0, HGz4, hgz4, HSz4_0⟩ := HI0.out
 have hcz4_0 := cellS64_0 HGz4
 have hcz4_1 := cellS64_1 HGz4
 have hcz4_2 := cellS64_2 HGz4
 have hfz4_1 := blk_frozen HGz4 1
 have hfz4_2 := blk_frozen HGz4 2
 clear HGz4 hgz4
 have p278 : 0 ≤ (s0_1 : Int) := od_
 have q278 : s0_1 < (s0_0.length : Int) := od_
 obtain ⟨ad278, e278, hx278_0⟩ := Kd.at_int HSz4_0 s0_1 p278 q278
 cases e278
 have hn278_0 : ad278.block ≠ g := Nat.ne_of_lt (Nat.lt_of_lt_of_le (by have := World.block_lt_of_cell? _ _ hx278_0; first | rwa [add_block] at this | exact this) (IsS64.ge HI0.out))
 replace hx278_0 := pw_cell_below HB.out hx278_0
 replace hx278_0 := (cell_far (p := ⟨g, 2, none⟩) (by first | (rw [add_block]; exact hn278_0) | (show (Addr.add _ _).block ≠ _; rw [add_block]; exact hn278_0) | exact hn278_0) (.int .i64 (wrap64 ((wrap64 (s0_2 * 6364136223846793005)) + 1442695040888963407)))).trans hx278_0
 (try have hy278_0 := fun (n_ : Nat) => (show (((w.drewN n_).setCell ⟨g, 2, none⟩ (.int .i64 (wrap64 ((wrap64 (s0_2 * 6364136223846793005)) + 1442695040888963407))))).cell? _ = some _ from hx278_0))
 clear hn278_0
 replace p278 := eq_true p278
 replace q278 := eq_true q278
 go_enter Try.func71, Try.ntmps71
 go_wp2
 repeat (go_quiet (fail); try go_wp2)
 go_ret
 exact ⟨rf_, IsS64.q_ HI0, bi_ HB (IsS64.ge HI0.out), kq_ HK⟩
def spec_l1Below.f (s0_0 : List Int) (s0_1 : Int) (s0_2 : Int) (a1 : Int) : Option (Int × Int × Int) := if a1 ≤ 0 then (some (0, s0_1, s0_2)) else (if a1 ≤ 256 then ((spec_l1Byte.f s0_0 s0_1 s0_2).bind fun bt279 => (if a1 = 0 then (none) else (some (Int.tmod bt279.1 a1, bt279.2.1, bt279.2.2)))) else ((spec_l1Byte.f s0_0 s0_1 s0_2).bind fun bt282 => ((spec_l1Byte.f s0_0 bt282.2.1 bt282.2.2).bind fun bt285 => ((spec_l1Byte.f s0_0 bt285.2.1 bt285.2.2).bind fun bt288 => ((spec_l1Byte.f s0_0 bt288.2.1 bt288.2.2).bind fun bt291 => (if a1 = 0 then (none) else (some (Int.tmod (wrap64 ((wrap64 ((wrap64 ((wrap64 (bt282.1 * 16777216)) + (wrap64 (bt285.1 * 65536)))) + (wrap64 (bt288.1 * 256)))) + bt291.1)) a1, bt291.2.1, bt291.2.2))))))))
theorem spec_l1Below.calls (g : Nat) (s0_0 : List Int) (s0_1 : Int) (s0_2 : Int) (a1 : Int) (r1 : Int) (r2 : Int) (r3 : Int) (w0 w : World) (hI : IsS64 w0 w g s0_0 s0_1 s0_2) (hB : Below w0.heap.size w0 w) (h : spec_l1Below.f s0_0 s0_1 s0_2 a1 = some (r1, r2, r3)) :
 Calls Try.prog 49 #[.pointer (some ⟨g, 0, none⟩), .int .i64 a1] w fun e w' => e = .returned (.int .i64 r1) ∧ IsS64 w0 w' g s0_0 r2 r3 ∧ Below w0.heap.size w0 w' ∧ KeepBut w w' g none := by
 have HI0 := Aside0.mk hI
 have HK := Aside0.mk (KeepBut.refl w g none)
 have HL := Aside0.mk hB.size
 clear hI
 have HW0 := Aside0.mk hB.size
 have HB := Aside0.mk hB
 clear hB
 have H := h
 clear h
 unfold spec_l1Below.f at H
 by_cases c3 : a1 ≤ 0
 · rw [if_pos c3] at H
   have c3b0 : decide (a1 ≤ 0) = true := decide_eq_true c3
   clear c3
   simp only [Option.some.injEq, Prod.mk.injEq] at H
   obtain ⟨rfl, rfl, rfl⟩ := H
   go_enter Try.func49, Try.ntmps49
   go_wp2
   go_ret
   exact ⟨rf_, IsS64.q_ HI0, bi_ HB (IsS64.ge HI0.out), kq_ HK⟩
 rw [if_neg c3] at H
 have c3b0 : decide (a1 ≤ 0) = false := decide_eq_false c3
 clear c3
 by_cases c4 : a1 ≤ 256
 · rw [if_pos c4] at H
   have c4b0 : decide (a1 ≤ 256) = true := decide_eq_true c4
   clear c4
   obtain ⟨⟨t279, t280, t281⟩, A5, H⟩ := ob_ H
   (try dsimp only at H)
   by_cases c6 : a1 = 0
   · rw [if_pos c6] at H
     cases H
   rw [if_neg c6] at H
   have c6b0 : (a1 == 0) = false := beq_eq_false_iff_ne.mpr c6
   have c6b1 : (a1 != 0) = true := bne_iff_ne.mpr c6
   simp only [Option.some.injEq, Prod.mk.injEq] at H
   obtain ⟨rfl, rfl, rfl⟩ := H
   go_enter Try.func49, Try.ntmps49
   go_wp2_with (first | ((with_reducible refine gate_callee (f := 71) rfl ?_); refine gL_ (some 14) Try.func71 #[.pointer (some ⟨g, 0, none⟩)] ?_; (with_reducible refine (spec_l1Byte.calls g s0_0 s0_1 s0_2 t279 t280 t281 w0 _ ?side1 ?side2 A5.out).mono ?_); (case side1 => exact IsS64.q_ HI0); (case side2 => exact bi_ HB (IsS64.ge HI0.out)); rintro e w7 ⟨rfl, hi, hb, hk⟩; refine ⟨_, rfl, ?_⟩; replace HK := Aside0.mk (KeepBut.trans (kq_ HK) hk (.inl rfl)); replace HB := Aside0.mk (hb); replace HI0 := Aside0.mk (hi); (try clear hb); (try clear hk); (try clear hi)))
   go_ret
   exact ⟨rf_, IsS64.q_ HI0, bi_ HB (IsS64.ge HI0.out), kq_ HK⟩
 rw [if_neg c4] at H
 have c4b0 : decide (a1 ≤ 256) = false := decide_eq_false c4
 clear c4
 obtain ⟨⟨t282, t283, t284⟩, A8, H⟩ := ob_ H
 (try dsimp only at H)
 obtain ⟨⟨t285, t286, t287⟩, A9, H⟩ := ob_ H
 (try dsimp only at H)
 obtain ⟨⟨t288, t289, t290⟩, A10, H⟩ := ob_ H
 (try dsimp only at H)
 obtain ⟨⟨t291, t292, t293⟩, A11, H⟩ := ob_ H
 (try dsimp only at H)
 by_cases c12 : a1 = 0
 · rw [if_pos c12] at H
   cases H
 rw [if_neg c12] at H
 have c12b0 : (a1 == 0) = false := beq_eq_false_iff_ne.mpr c12
 have c12b1 : (a1 != 0) = true := bne_iff_ne.mpr c12
 simp only [Option.some.injEq, Prod.mk.injEq] at H
 obtain ⟨rfl, rfl, rfl⟩ := H
 go_enter Try.func49, Try.ntmps49
 go_wp2_with (first | ((with_reducible refine gate_callee (f := 71) rfl ?_); refine gL_ (some 18) Try.func71 #[.pointer (some ⟨g, 0, none⟩)] ?_; (with_reducible refine (spec_l1Byte.calls g s0_0 s0_1 s0_2 t282 t283 t284 w0 _ ?side1 ?side2 A8.out).mono ?_); (case side1 => exact IsS64.q_ HI0); (case side2 => exact bi_ HB (IsS64.ge HI0.out)); rintro e w13 ⟨rfl, hi, hb, hk⟩; refine ⟨_, rfl, ?_⟩; replace HK := Aside0.mk (KeepBut.trans (kq_ HK) hk (.inl rfl)); replace HB := Aside0.mk (hb); replace HI0 := Aside0.mk (hi); (try clear hb); (try clear hk); (try clear hi)) | ((with_reducible refine gate_callee (f := 71) rfl ?_); refine gL_ (some 20) Try.func71 #[.pointer (some ⟨g, 0, none⟩)] ?_; (with_reducible refine (spec_l1Byte.calls g s0_0 t283 t284 t285 t286 t287 w0 _ ?side1 ?side2 A9.out).mono ?_); (case side1 => exact IsS64.q_ HI0); (case side2 => exact bi_ HB (IsS64.ge HI0.out)); rintro e w14 ⟨rfl, hi, hb, hk⟩; refine ⟨_, rfl, ?_⟩; replace HK := Aside0.mk (KeepBut.trans (kq_ HK) hk (.inl rfl)); replace HB := Aside0.mk (hb); replace HI0 := Aside0.mk (hi); (try clear hb); (try clear hk); (try clear hi)) | ((with_reducible refine gate_callee (f := 71) rfl ?_); refine gL_ (some 22) Try.func71 #[.pointer (some ⟨g, 0, none⟩)] ?_; (with_reducible refine (spec_l1Byte.calls g s0_0 t286 t287 t288 t289 t290 w0 _ ?side1 ?side2 A10.out).mono ?_); (case side1 => exact IsS64.q_ HI0); (case side2 => exact bi_ HB (IsS64.ge HI0.out)); rintro e w15 ⟨rfl, hi, hb, hk⟩; refine ⟨_, rfl, ?_⟩; replace HK := Aside0.mk (KeepBut.trans (kq_ HK) hk (.inl rfl)); replace HB := Aside0.mk (hb); replace HI0 := Aside0.mk (hi); (try clear hb); (try clear hk); (try clear hi)) | ((with_reducible refine gate_callee (f := 71) rfl ?_); refine gL_ (some 24) Try.func71 #[.pointer (some ⟨g, 0, none⟩)] ?_; (with_reducible refine (spec_l1Byte.calls g s0_0 t289 t290 t291 t292 t293 w0 _ ?side1 ?side2 A11.out).mono ?_); (case side1 => exact IsS64.q_ HI0); (case side2 => exact bi_ HB (IsS64.ge HI0.out)); rintro e w16 ⟨rfl, hi, hb, hk⟩; refine ⟨_, rfl, ?_⟩; replace HK := Aside0.mk (KeepBut.trans (kq_ HK) hk (.inl rfl)); replace HB := Aside0.mk (hb); replace HI0 := Aside0.mk (hi); (try clear hb); (try clear hk); (try clear hi)))
 go_ret
 exact ⟨rf_, IsS64.q_ HI0, bi_ HB (IsS64.ge HI0.out), kq_ HK⟩
def spec_l1Pick.f (s0_0 : List Int) (s0_1 : Int) (s0_2 : Int) (l1 : List ByteArray) : Option (ByteArray × Int × Int) := (spec_l1Below.f s0_0 s0_1 s0_2 (l1.length : Int)).bind fun bt294 => (if 0 ≤ bt294.1 then (if bt294.1 < (l1.length : Int) then (some (rdOf ByteArray.empty l1 bt294.1, bt294.2.1, bt294.2.2)) else (none)) else (none))
theorem spec_l1Pick.calls (g : Nat) (s0_0 : List Int) (s0_1 : Int) (s0_2 : Int) (A1 : Option Addr) (c1 : Nat) (l1 : List ByteArray) (r1 : ByteArray) (r2 : Int) (r3 : Int) (w0 w : World) (hI : IsS64 w0 w g s0_0 s0_1 s0_2) (hB : Below w0.heap.size w0 w) (hr1 : Kd.C Kd.string w A1 l1.length l1) (hc1 : l1.length ≤ c1) (hf1 : ∀ ad, A1 = some ad → 0 < l1.length → ad.block ≠ g) (h : spec_l1Pick.f s0_0 s0_1 s0_2 l1 = some (r1, r2, r3)) :
 Calls Try.prog 48 #[.pointer (some ⟨g, 0, none⟩), .slice A1 l1.length c1] w fun e w' => e = .returned (.string r1) ∧ IsS64 w0 w' g s0_0 r2 r3 ∧ Below w0.heap.size w0 w' ∧ KeepBut w w' g none := by
 have HR1 := Aside0.mk hr1
 have HC1 := Aside0.mk hc1
 clear hr1 hc1
 have HI0 := Aside0.mk hI
 have HK := Aside0.mk (KeepBut.refl w g none)
 have HL := Aside0.mk hB.size
 clear hI
 have HW0 := Aside0.mk hB.size
 have HB := Aside0.mk hB
 clear hB
 have H := h
 clear h
 unfold spec_l1Pick.f at H
 obtain ⟨⟨t294, t295, t296⟩, A3, H⟩ := ob_ H
 (try dsimp only at H)
 by_cases c4 : 0 ≤ t294
 rotate_left
 · rw [if_neg c4] at H
   cases H
 rw [if_pos c4] at H
 have c4b0 : decide (0 ≤ t294) = true := decide_eq_true c4
 clear c4
 by_cases c5 : t294 < (l1.length : Int)
 rotate_left
 · rw [if_neg c5] at H
   cases H
 rw [if_pos c5] at H
 have c5b0 : decide (t294 < (l1.length : Int)) = true := decide_eq_true c5
 clear c5
 simp only [Option.some.injEq, Prod.mk.injEq] at H
 obtain ⟨rfl, rfl, rfl⟩ := H
 go_enter Try.func48, Try.ntmps48
 go_wp2_with (first | ((with_reducible refine gate_callee (f := 49) rfl ?_); refine gL_ (some 9) Try.func49 #[.pointer (some ⟨g, 0, none⟩), .int .i64 (l1.length : Int)] ?_; (with_reducible refine (spec_l1Below.calls g s0_0 s0_1 s0_2 (l1.length : Int) t294 t295 t296 w0 _ ?side1 ?side2 A3.out).mono ?_); (case side1 => exact IsS64.q_ HI0); (case side2 => exact bi_ HB (IsS64.ge HI0.out)); rintro e w6 ⟨rfl, hi, hb, hk⟩; refine ⟨_, rfl, ?_⟩; replace HK := Aside0.mk (KeepBut.trans (kq_ HK) hk (.inl rfl)); replace HB := Aside0.mk (hb); replace HI0 := Aside0.mk (hi); (try clear hb); (try clear hk); (try clear hi); have p297 : 0 ≤ (t294 : Int) := od_; have q297 : t294 < (l1.length : Int) := od_; obtain ⟨ad297, e297, hx297_0⟩ := Kd.at_string HR1.out t294 p297 q297; cases e297; replace hx297_0 := keep_cell HK.out hx297_0 (by first | (rw [add_block]; exact hf1 _ rfl (by omega)) | exact hf1 _ rfl (by omega) | exact hf1 ad297 rfl (by omega)); replace p297 := eq_true p297; replace q297 := eq_true q297))
 go_ret
 exact ⟨rf_, IsS64.q_ HI0, bi_ HB (IsS64.ge HI0.out), kq_ HK⟩
def spec_l1Once.f (s0_0 : List Int) (s0_1 : Int) (s0_2 : Int) (a1 : Int) : Option (Bool × Int × Int) := (spec_l1Below.f s0_0 s0_1 s0_2 a1).bind fun bt298 => (some ((bt298.1 == 0), bt298.2.1, bt298.2.2))
theorem spec_l1Once.calls (g : Nat) (s0_0 : List Int) (s0_1 : Int) (s0_2 : Int) (a1 : Int) (r1 : Bool) (r2 : Int) (r3 : Int) (w0 w : World) (hI : IsS64 w0 w g s0_0 s0_1 s0_2) (hB : Below w0.heap.size w0 w) (h : spec_l1Once.f s0_0 s0_1 s0_2 a1 = some (r1, r2, r3)) :
 Calls Try.prog 50 #[.pointer (some ⟨g, 0, none⟩), .int .i64 a1] w fun e w' => e = .returned (.bool r1) ∧ IsS64 w0 w' g s0_0 r2 r3 ∧ Below w0.heap.size w0 w' ∧ KeepBut w w' g none := by
 have HI0 := Aside0.mk hI
 have HK := Aside0.mk (KeepBut.refl w g none)
 have HL := Aside0.mk hB.size
 clear hI
 have HW0 := Aside0.mk hB.size
 have HB := Aside0.mk hB
 clear hB
 have H := h
 clear h
 unfold spec_l1Once.f at H
 obtain ⟨⟨t298, t299, t300⟩, A3, H⟩ := ob_ H
 (try dsimp only at H)
 simp only [Option.some.injEq, Prod.mk.injEq] at H
 obtain ⟨rfl, rfl, rfl⟩ := H
 go_enter Try.func50, Try.ntmps50
 go_wp2_with (first | ((with_reducible refine gate_callee (f := 49) rfl ?_); refine gL_ (some 7) Try.func49 #[.pointer (some ⟨g, 0, none⟩), .int .i64 a1] ?_; (with_reducible refine (spec_l1Below.calls g s0_0 s0_1 s0_2 a1 t298 t299 t300 w0 _ ?side1 ?side2 A3.out).mono ?_); (case side1 => exact IsS64.q_ HI0); (case side2 => exact bi_ HB (IsS64.ge HI0.out)); rintro e w4 ⟨rfl, hi, hb, hk⟩; refine ⟨_, rfl, ?_⟩; replace HK := Aside0.mk (KeepBut.trans (kq_ HK) hk (.inl rfl)); replace HB := Aside0.mk (hb); replace HI0 := Aside0.mk (hi); (try clear hb); (try clear hk); (try clear hi)))
 go_ret
 exact ⟨rf_, IsS64.q_ HI0, bi_ HB (IsS64.ge HI0.out), kq_ HK⟩
def spec_l1PickInt.f (s0_0 : List Int) (s0_1 : Int) (s0_2 : Int) (l1 : List Int) : Option (Int × Int × Int) := (spec_l1Below.f s0_0 s0_1 s0_2 (l1.length : Int)).bind fun bt301 => (if 0 ≤ bt301.1 then (if bt301.1 < (l1.length : Int) then (some (rd l1 bt301.1, bt301.2.1, bt301.2.2)) else (none)) else (none))
theorem spec_l1PickInt.calls (g : Nat) (s0_0 : List Int) (s0_1 : Int) (s0_2 : Int) (A1 : Option Addr) (c1 : Nat) (l1 : List Int) (r1 : Int) (r2 : Int) (r3 : Int) (w0 w : World) (hI : IsS64 w0 w g s0_0 s0_1 s0_2) (hB : Below w0.heap.size w0 w) (hr1 : Kd.C (Kd.int .i64) w A1 l1.length l1) (hc1 : l1.length ≤ c1) (hf1 : ∀ ad, A1 = some ad → 0 < l1.length → ad.block ≠ g) (h : spec_l1PickInt.f s0_0 s0_1 s0_2 l1 = some (r1, r2, r3)) :
 Calls Try.prog 51 #[.pointer (some ⟨g, 0, none⟩), .slice A1 l1.length c1] w fun e w' => e = .returned (.int .i64 r1) ∧ IsS64 w0 w' g s0_0 r2 r3 ∧ Below w0.heap.size w0 w' ∧ KeepBut w w' g none := by
 have HR1 := Aside0.mk hr1
 have HC1 := Aside0.mk hc1
 clear hr1 hc1
 have HI0 := Aside0.mk hI
 have HK := Aside0.mk (KeepBut.refl w g none)
 have HL := Aside0.mk hB.size
 clear hI
 have HW0 := Aside0.mk hB.size
 have HB := Aside0.mk hB
 clear hB
 have H := h
 clear h
 unfold spec_l1PickInt.f at H
 obtain ⟨⟨t301, t302, t303⟩, A3, H⟩ := ob_ H
 (try dsimp only at H)
 by_cases c4 : 0 ≤ t301
 rotate_left
 · rw [if_neg c4] at H
   cases H
 rw [if_pos c4] at H
 have c4b0 : decide (0 ≤ t301) = true := decide_eq_true c4
 clear c4
 by_cases c5 : t301 < (l1.length : Int)
 rotate_left
 · rw [if_neg c5] at H
   cases H
 rw [if_pos c5] at H
 have c5b0 : decide (t301 < (l1.length : Int)) = true := decide_eq_true c5
 clear c5
 simp only [Option.some.injEq, Prod.mk.injEq] at H
 obtain ⟨rfl, rfl, rfl⟩ := H
 go_enter Try.func51, Try.ntmps51
 go_wp2_with (first | ((with_reducible refine gate_callee (f := 49) rfl ?_); refine gL_ (some 9) Try.func49 #[.pointer (some ⟨g, 0, none⟩), .int .i64 (l1.length : Int)] ?_; (with_reducible refine (spec_l1Below.calls g s0_0 s0_1 s0_2 (l1.length : Int) t301 t302 t303 w0 _ ?side1 ?side2 A3.out).mono ?_); (case side1 => exact IsS64.q_ HI0); (case side2 => exact bi_ HB (IsS64.ge HI0.out)); rintro e w6 ⟨rfl, hi, hb, hk⟩; refine ⟨_, rfl, ?_⟩; replace HK := Aside0.mk (KeepBut.trans (kq_ HK) hk (.inl rfl)); replace HB := Aside0.mk (hb); replace HI0 := Aside0.mk (hi); (try clear hb); (try clear hk); (try clear hi); have p304 : 0 ≤ (t301 : Int) := od_; have q304 : t301 < (l1.length : Int) := od_; obtain ⟨ad304, e304, hx304_0⟩ := Kd.at_int HR1.out t301 p304 q304; cases e304; replace hx304_0 := keep_cell HK.out hx304_0 (by first | (rw [add_block]; exact hf1 _ rfl (by omega)) | exact hf1 _ rfl (by omega) | exact hf1 ad304 rfl (by omega)); replace p304 := eq_true p304; replace q304 := eq_true q304))
 go_ret
 exact ⟨rf_, IsS64.q_ HI0, bi_ HB (IsS64.ge HI0.out), kq_ HK⟩
def spec_FromGens.f (k : Nat) (l0 : List Int) : Option (List Int × Bool) := (spec_l3Gens.f k l0).bind fun t306 => (if t306 = true then ((spec_l3Minimal.f k l0).bind fun t307 => ((spec_IsSemigroup.f k t307).bind fun t311 => (if t311 = true then (some (t307, true)) else (some (([] : List Int), false))))) else (some (([] : List Int), false)))
theorem spec_FromGens.mono : ∀ a0 k, LeO (spec_FromGens.f k a0) (spec_FromGens.f (k + 1) a0) := by
 intro a0 k
 unfold spec_FromGens.f
 repeat' first
  | (with_reducible exact spec_IsSemigroup.mono _ _)
  | (with_reducible exact spec_l3Gens.mono _ _)
  | (with_reducible exact spec_l3Minimal.mono _ _)
  | (with_reducible exact LeO.refl _)
  | (with_reducible exact LeO.none _)
  | (with_reducible refine LeO.ite ?_ ?_)
  | (with_reducible refine LeO.bind ?_ (fun _ => ?_))
  | exact LeO.none _
  | refine LeO.ite ?_ ?_
  | refine LeO.bind ?_ (fun _ => ?_)
theorem spec_FromGens.calls (k : Nat) (A0 : Option Addr) (c0 : Nat) (l0 : List Int) (r1 : List Int) (r2 : Bool) (w : World) (hr0 : Kd.C (Kd.int .i64) w A0 l0.length l0) (hc0 : l0.length ≤ c0) (h : spec_FromGens.f k l0 = some (r1, r2)) :
 Calls Try.prog 18 #[.slice A0 l0.length c0] w fun e w' => ∃ v0_ : Value, e = .returned (.tuple #[.agg #[v0_], .bool r2]) ∧ Kd.R (Kd.int .i64) 3 w' w.heap.size (fun _ => True) v0_ r1 ∧ Below w.heap.size w w' := by
 have hu26 := Try.underlying26
 have HR0 := Aside0.mk hr0
 have HC0 := Aside0.mk hc0
 clear hr0 hc0
 have HB := Aside0.mk (Below.refl w.heap.size w)
 have H := h
 clear h
 unfold spec_FromGens.f at H
 obtain ⟨t306, A2, H⟩ := ob_ H
 by_cases c3 : t306 = true
 rotate_left
 · replace c3 := Bool.eq_false_iff.mpr c3
   subst c3
   rw [if_neg (show ¬ (false = true) by decide)] at H
   simp only [Option.some.injEq, Prod.mk.injEq] at H
   obtain ⟨rfl, rfl⟩ := H
   go_enter Try.func18, Try.ntmps18
   go_wp2_with (first | ((with_reducible refine gate_dst (N := 2) rfl ?_); refine bx_ 2 #[.slice none 0 0] 26 ?_; intro gb305 hg w24 hbox hb; have BK305 := Aside0.mk (hbox); have GW305 := gw_ hg HB; have GE305 := gw_ hg HB; replace HB := bo_ HB hb; clear hb hbox hg) | ((with_reducible refine gate_callee (f := 38) rfl ?_); refine gL_ (some 6) Try.func38 #[.slice A0 l0.length c0] ?_; (with_reducible refine (spec_l3Gens.calls k _ _ l0 false _ ?side1 ?side2 A2.out).mono ?_); (case side1 => exact ch_ HR0 HB); (case side2 => exact HC0.out); rintro e w' ⟨rfl, ⟨nd, rfl⟩⟩; refine ⟨_, rfl, ?_⟩; (try (rw [drewN_self w24]; generalize hq_ : World.drewN w24 _ = w24; have n0_ : Aside0 (w24.heap[gb305]? = some (.cells #[.slice none 0 0] 26 (0, 0))) := ⟨by rw [← hq_]; exact (be_ BK305.out)⟩; have n1_ : Aside0 (Below w.heap.size w w24) := ⟨by rw [← hq_]; exact (bq_ HB)⟩; clear BK305 HB hq_; have BK305 := n0_; have HB := n1_; clear n0_ n1_)); have hcz25_0 := cz_ BK305; have hfz25_0 := blk_frozen BK305.out 0))
   refine bodyPost_ret (results_ct rfl _ _ gb305 26 #[.slice none 0 0] (0, 0) _ rfl (by (with_reducible repeat (first | refine blk_drewN ?_ _ | refine blk_drew ?_ | refine blk_alloc ?_ _)); refine blk_put (cs := #[.slice none 0 0]) ?_ 0 _ rfl; (with_reducible repeat (first | refine blk_drewN ?_ _ | refine blk_drew ?_ | refine blk_alloc ?_ _)); exact BK305.out) Try.underlying26 rfl (by kernel_rfl)) rfl ?_
   exact ⟨_, rf_, by first | exact Kd.R_nil _ _ _ _ _ | exact Kd.N_nil _ _ _ _ _ | exact Kd.V_nil _ _ _ _ _ | exact Kd.Q_nil _ _ _ _ _ | exact Kd.S_nil _ _ _ _ _, bq_ HB⟩
 subst c3
 rw [if_pos rfl] at H
 obtain ⟨t307, A4, H⟩ := ob_ H
 obtain ⟨t311, A5, H⟩ := ob_ H
 by_cases c6 : t311 = true
 · subst c6
   rw [if_pos rfl] at H
   simp only [Option.some.injEq, Prod.mk.injEq] at H
   obtain ⟨rfl, rfl⟩ := H
   go_enter Try.func18, Try.ntmps18
   go_wp2_with (first | ((with_reducible refine gate_dst (N := 2) rfl ?_); refine bx_ 2 #[.slice none 0 0] 26 ?_; intro gb305 hg w7 hbox hb; have BK305 := Aside0.mk (hbox); have GW305 := gw_ hg HB; have GE305 := gw_ hg HB; replace HB := bo_ HB hb; clear hb hbox hg) | ((with_reducible refine gate_callee (f := 38) rfl ?_); refine gL_ (some 6) Try.func38 #[.slice A0 l0.length c0] ?_; (with_reducible refine (spec_l3Gens.calls k _ _ l0 true _ ?side1 ?side2 A2.out).mono ?_); (case side1 => exact ch_ HR0 HB); (case side2 => exact HC0.out); rintro e w' ⟨rfl, ⟨nd, rfl⟩⟩; refine ⟨_, rfl, ?_⟩; (try (rw [drewN_self w7]; generalize hq_ : World.drewN w7 _ = w7; have n0_ : Aside0 (w7.heap[gb305]? = some (.cells #[.slice none 0 0] 26 (0, 0))) := ⟨by rw [← hq_]; exact (be_ BK305.out)⟩; have n1_ : Aside0 (Below w.heap.size w w7) := ⟨by rw [← hq_]; exact (bq_ HB)⟩; clear BK305 HB hq_; have BK305 := n0_; have HB := n1_; clear n0_ n1_))) | ((with_reducible refine gate_callee (f := 45) rfl ?_); refine gL_ (some 10) Try.func45 #[.slice A0 l0.length c0] ?_; (with_reducible refine (spec_l3Minimal.calls k _ _ l0 t307 _ ?side1 ?side2 A4.out).mono ?_); (case side1 => exact ch_ HR0 HB); (case side2 => exact HC0.out); rintro e w8 ⟨v308, rfl, ho0, hb⟩; refine ⟨_, rfl, ?_⟩; have HO309 := Aside0.mk (Kd.R_lower ho0 (below_size (bq_ HB))); replace BK305 := bk_ BK305 hb; replace HB := bp_ HB hb; (try clear hb); (try clear ho0); obtain ⟨Ao9, co9, eo9⟩ := Kd.R_slice HO309.out; subst eo9) | ((with_reducible refine gate_dst (N := 4) rfl ?_); refine bx_ 4 #[.slice none 0 0] 26 ?_; intro gb310 hg w10 hbox hb; replace HO309 := Aside0.mk (Kd.R_below (re_ HO309.out) hb); have BK310 := Aside0.mk (hbox); have GW310 := gq_ hg (bq_ HB); have GE310 := gq_ hg (bq_ HB); replace HB := bp_ HB hb; have NB305_310 := nl_ hg BK305; have NB310_305 := ng_ hg BK305; replace BK305 := bk_ BK305 hb; clear hb hbox hg; have hnb11 := NB310_305.out; have hnc11 := NB305_310.out; have hcz12_0 := cz_ BK310; have hfz12_0 := blk_frozen BK310.out 0) | ((with_reducible refine gate_callee (f := 43) rfl ?_); refine gL_ (some 13) Try.func43 #[.agg #[.slice Ao9 t307.length co9]] ?_; (with_reducible refine (spec_IsSemigroup.calls k _ _ t307 true _ ?side1 ?side2 A5.out).mono ?_); (case side1 => refine (Kd.R_reads' (e := 3) (base := w.heap.size) (ok := fun k_ => True) (n := t307.length) (c := co9) ?_).2.2; exact (by (with_reducible repeat (first | apply Kd.R_alloc | apply Kd.R_drewN | apply Kd.R_drew)); exact (Kd.R_mono (Kd.R_far (p := ⟨gb310, 0, none⟩) (Kd.R_types HO309.out BK310.out (by decide)) (fun _ hk => hk.2) (.slice Ao9 t307.length co9)) (fun _ h_ => h_.1)))); (case side2 => exact (Kd.R_reads' HO309.out).2.1); rintro e w13 ⟨rfl, hb⟩; refine ⟨_, rfl, ?_⟩; replace HO309 := Aside0.mk (Kd.R_below (by (with_reducible repeat (first | apply Kd.R_alloc | apply Kd.R_drewN | apply Kd.R_drew)); exact (Kd.R_mono (Kd.R_far (p := ⟨gb310, 0, none⟩) (Kd.R_types HO309.out BK310.out (by decide)) (fun _ hk => hk.2) (.slice Ao9 t307.length co9)) (fun _ h_ => h_.1))) hb); replace BK305 := Aside0.mk (blk_below (g := gb305) (o := .cells #[.slice none 0 0] 26 (0, 0)) (by (with_reducible repeat (first | refine blk_drewN ?_ _ | refine blk_drew ?_ | refine blk_alloc ?_ _)); refine blk_far ?_ NB305_310.out _; (with_reducible repeat (first | refine blk_drewN ?_ _ | refine blk_drew ?_ | refine blk_alloc ?_ _)); exact BK305.out) hb); replace BK310 := Aside0.mk (blk_below (g := gb310) (o := .cells #[.slice Ao9 t307.length co9] 26 (0, 0)) (by (with_reducible repeat (first | refine blk_drewN ?_ _ | refine blk_drew ?_ | refine blk_alloc ?_ _)); refine blk_put (cs := #[.slice none 0 0]) ?_ 0 _ rfl; (with_reducible repeat (first | refine blk_drewN ?_ _ | refine blk_drew ?_ | refine blk_alloc ?_ _)); exact BK310.out) hb); replace HB := bp_ HB hb; (try clear hb); have hcz14_0 := cz_ BK310; have hfz14_0 := blk_frozen BK310.out 0; have hcz15_0 := cz_ BK305; have hfz15_0 := blk_frozen BK305.out 0))
   refine bodyPost_ret (results_ct rfl _ _ gb305 26 #[.slice Ao9 t307.length co9] (0, 0) _ rfl (by (with_reducible repeat (first | refine blk_drewN ?_ _ | refine blk_drew ?_ | refine blk_alloc ?_ _)); refine blk_put (cs := #[.slice none 0 0]) ?_ 0 _ rfl; (with_reducible repeat (first | refine blk_drewN ?_ _ | refine blk_drew ?_ | refine blk_alloc ?_ _)); exact BK305.out) Try.underlying26 rfl (by kernel_rfl)) rfl ?_
   exact ⟨_, rf_, by (with_reducible repeat (first | apply Kd.R_alloc | apply Kd.R_drewN | apply Kd.R_drew)); exact Kd.R_mono (Kd.R_far (p := ⟨gb305, 0, none⟩) (Kd.R_types HO309.out BK305.out (by decide)) (fun _ hk => hk.2) (.slice Ao9 t307.length co9)) (fun _ hk => trivial), bq_ HB⟩
 replace c6 := Bool.eq_false_iff.mpr c6
 subst c6
 rw [if_neg (show ¬ (false = true) by decide)] at H
 simp only [Option.some.injEq, Prod.mk.injEq] at H
 obtain ⟨rfl, rfl⟩ := H
 go_enter Try.func18, Try.ntmps18
 go_wp2_with (first | ((with_reducible refine gate_dst (N := 2) rfl ?_); refine bx_ 2 #[.slice none 0 0] 26 ?_; intro gb305 hg w16 hbox hb; have BK305 := Aside0.mk (hbox); have GW305 := gw_ hg HB; have GE305 := gw_ hg HB; replace HB := bo_ HB hb; clear hb hbox hg) | ((with_reducible refine gate_callee (f := 38) rfl ?_); refine gL_ (some 6) Try.func38 #[.slice A0 l0.length c0] ?_; (with_reducible refine (spec_l3Gens.calls k _ _ l0 true _ ?side1 ?side2 A2.out).mono ?_); (case side1 => exact ch_ HR0 HB); (case side2 => exact HC0.out); rintro e w' ⟨rfl, ⟨nd, rfl⟩⟩; refine ⟨_, rfl, ?_⟩; (try (rw [drewN_self w16]; generalize hq_ : World.drewN w16 _ = w16; have n0_ : Aside0 (w16.heap[gb305]? = some (.cells #[.slice none 0 0] 26 (0, 0))) := ⟨by rw [← hq_]; exact (be_ BK305.out)⟩; have n1_ : Aside0 (Below w.heap.size w w16) := ⟨by rw [← hq_]; exact (bq_ HB)⟩; clear BK305 HB hq_; have BK305 := n0_; have HB := n1_; clear n0_ n1_))) | ((with_reducible refine gate_callee (f := 45) rfl ?_); refine gL_ (some 10) Try.func45 #[.slice A0 l0.length c0] ?_; (with_reducible refine (spec_l3Minimal.calls k _ _ l0 t307 _ ?side1 ?side2 A4.out).mono ?_); (case side1 => exact ch_ HR0 HB); (case side2 => exact HC0.out); rintro e w17 ⟨v308, rfl, ho0, hb⟩; refine ⟨_, rfl, ?_⟩; have HO309 := Aside0.mk (Kd.R_lower ho0 (below_size (bq_ HB))); replace BK305 := bk_ BK305 hb; replace HB := bp_ HB hb; (try clear hb); (try clear ho0); obtain ⟨Ao18, co18, eo18⟩ := Kd.R_slice HO309.out; subst eo18) | ((with_reducible refine gate_dst (N := 4) rfl ?_); refine bx_ 4 #[.slice none 0 0] 26 ?_; intro gb310 hg w19 hbox hb; replace HO309 := Aside0.mk (Kd.R_below (re_ HO309.out) hb); have BK310 := Aside0.mk (hbox); have GW310 := gq_ hg (bq_ HB); have GE310 := gq_ hg (bq_ HB); replace HB := bp_ HB hb; have NB305_310 := nl_ hg BK305; have NB310_305 := ng_ hg BK305; replace BK305 := bk_ BK305 hb; clear hb hbox hg; have hnb20 := NB310_305.out; have hnc20 := NB305_310.out; have hcz21_0 := cz_ BK310; have hfz21_0 := blk_frozen BK310.out 0) | ((with_reducible refine gate_callee (f := 43) rfl ?_); refine gL_ (some 13) Try.func43 #[.agg #[.slice Ao18 t307.length co18]] ?_; (with_reducible refine (spec_IsSemigroup.calls k _ _ t307 false _ ?side1 ?side2 A5.out).mono ?_); (case side1 => refine (Kd.R_reads' (e := 3) (base := w.heap.size) (ok := fun k_ => True) (n := t307.length) (c := co18) ?_).2.2; exact (by (with_reducible repeat (first | apply Kd.R_alloc | apply Kd.R_drewN | apply Kd.R_drew)); exact (Kd.R_mono (Kd.R_far (p := ⟨gb310, 0, none⟩) (Kd.R_types HO309.out BK310.out (by decide)) (fun _ hk => hk.2) (.slice Ao18 t307.length co18)) (fun _ h_ => h_.1)))); (case side2 => exact (Kd.R_reads' HO309.out).2.1); rintro e w22 ⟨rfl, hb⟩; refine ⟨_, rfl, ?_⟩; replace HO309 := Aside0.mk (Kd.R_below (by (with_reducible repeat (first | apply Kd.R_alloc | apply Kd.R_drewN | apply Kd.R_drew)); exact (Kd.R_mono (Kd.R_far (p := ⟨gb310, 0, none⟩) (Kd.R_types HO309.out BK310.out (by decide)) (fun _ hk => hk.2) (.slice Ao18 t307.length co18)) (fun _ h_ => h_.1))) hb); replace BK305 := Aside0.mk (blk_below (g := gb305) (o := .cells #[.slice none 0 0] 26 (0, 0)) (by (with_reducible repeat (first | refine blk_drewN ?_ _ | refine blk_drew ?_ | refine blk_alloc ?_ _)); refine blk_far ?_ NB305_310.out _; (with_reducible repeat (first | refine blk_drewN ?_ _ | refine blk_drew ?_ | refine blk_alloc ?_ _)); exact BK305.out) hb); replace BK310 := Aside0.mk (blk_below (g := gb310) (o := .cells #[.slice Ao18 t307.length co18] 26 (0, 0)) (by (with_reducible repeat (first | refine blk_drewN ?_ _ | refine blk_drew ?_ | refine blk_alloc ?_ _)); refine blk_put (cs := #[.slice none 0 0]) ?_ 0 _ rfl; (with_reducible repeat (first | refine blk_drewN ?_ _ | refine blk_drew ?_ | refine blk_alloc ?_ _)); exact BK310.out) hb); replace HB := bp_ HB hb; (try clear hb); have hcz23_0 := cz_ BK305; have hfz23_0 := blk_frozen BK305.out 0))
 refine bodyPost_ret (results_ct rfl _ _ gb305 26 #[.slice none 0 0] (0, 0) _ rfl (by (with_reducible repeat (first | refine blk_drewN ?_ _ | refine blk_drew ?_ | refine blk_alloc ?_ _)); refine blk_put (cs := #[.slice none 0 0]) ?_ 0 _ rfl; (with_reducible repeat (first | refine blk_drewN ?_ _ | refine blk_drew ?_ | refine blk_alloc ?_ _)); exact BK305.out) Try.underlying26 rfl (by kernel_rfl)) rfl ?_
 exact ⟨_, rf_, by first | exact Kd.R_nil _ _ _ _ _ | exact Kd.N_nil _ _ _ _ _ | exact Kd.V_nil _ _ _ _ _ | exact Kd.Q_nil _ _ _ _ _ | exact Kd.S_nil _ _ _ _ _, bq_ HB⟩
end Go.Proofs.Ytjjajcldmkmgkaa.PA
end
