-- Bundled by shake.py from this session's printed and written texts; Lean checks it.
import Derived.Deep.RegionHeld3
import Derived.Ground.Names2Prog
import Derived.Ground.NamesProg
import Derived.KernelRfl
import Derived.Shelf.Abstract
import Derived.Shelf.Slices.CompactI
import Derived.Shelf.Slices.In.SortNone
import Derived.Shelf.Sort.Plain
import Derived.Sort.OwnSortedInts
import Derived.Test.YtjjajcldmkmgkaaProg
import Derived.Test.YtjjajcldmkmgkaaZFnGluedx1
import Derived.Test.YtjjajcldmkmgkaaZFnGluedx2
import Derived.Test.YtjjajcldmkmgkaaZFnGluedx4
import Derived.Test.YtjjajcldmkmgkaaZFnGluedx7
section
namespace Go.Proofs.Ytjjajcldmkmgkaa.PA
open Go.RowKit Go.Proofs.YtjjajcldmkmgkaaW.PrintWords Go.Proofs.YtjjajcldmkmgkaaW.PrintLast Go.Proofs.YtjjajcldmkmgkaaW.PrintMore
attribute [local go_sem] max2_int min2_int max_two min_two max_three min_three max_four min_four
set_option linter.unusedVariables false
set_option linter.unusedSimpArgs false
set_option maxHeartbeats 8000000
set_option maxRecDepth 100000
def impl_Contains.f (k : Nat) (l0_0 : List Int) (a1 : Int) : Option (Bool) := if a1 < 0 then (some false) else ((impl_IsSemigroup.f k l0_0).bind fun t524 => (if t524 = true then (if a1 ≥ 200 then (some true) else (if 0 < (l0_0.length : Int) then ((impl_leasts.f k l0_0 (rd l0_0 0)).bind fun t526 => (if (rd l0_0 0) = 0 then (none) else (if 0 ≤ (Int.tmod a1 (rd l0_0 0)) then (if (Int.tmod a1 (rd l0_0 0)) < (t526.length : Int) then (some (decide ((rd t526 (Int.tmod a1 (rd l0_0 0))) ≤ a1))) else (none)) else (none)))) else (none))) else (some false)))
def impl_Contains.T3 : Bool × List (List Nat × List Nat) := (true, [([], []), ([0], [0]), ([1], [1]), ([2], [2]), ([3, 2], [2, 3]), ([2], [2]), ([5, 2], [2, 5]), ([6, 2], [2, 6]), ([7, 2], [2, 7]), ([4, 8, 2, 2], [2, 4, 8]), ([2], [2]), ([2], [2]), ([11, 2], [2, 11]), ([12, 2], [2, 12]), ([13, 2], [2, 13]), ([10, 14, 2], [2, 10, 14]), ([9, 15, 2], [2, 9, 15]), ([16, 2], [2, 16]), ([2], [2]), ([17, 18, 2], [2, 17, 18]), ([2, 19], [2, 19]), ([20, 9, 0, 1, 2, 3, 4, 5, 6, 7, 8, 9, 10, 11, 12, 13, 14, 15, 16, 17, 18, 19, 20], [20])])
def impl_Contains.B3 : List Nat := [0, 1, 3, 7, 15, 7, 39, 103, 231, 511, 7, 7, 2055, 6151, 14343, 31751, 65535, 131071, 7, 524287, 1048575, 2097151]
theorem impl_Contains.tab3 : rtab .any (opsOf Try.f20 3) = impl_Contains.T3 := by kernel_rfl
theorem impl_Contains.bits3 : waitsOk impl_Contains.T3.2 impl_Contains.B3 = true := by kernel_rfl
theorem impl_Contains.calls (k : Nat) (A0_0 : Option Addr) (c0_0 : Nat) (l0_0 : List Int) (a1 : Int) (r : Bool) (w : World) (hr0_0 : Kd.C (Kd.int .i64) w A0_0 l0_0.length l0_0) (hc0_0 : l0_0.length ≤ c0_0) (h : impl_Contains.f k l0_0 a1 = some r) :
 Calls Try.prog 20 #[.agg #[.slice A0_0 l0_0.length c0_0], .int .i64 a1] w fun e w' => e = .returned (.bool r) ∧ Below w.heap.size w w' := by
 have hu26 := Try.underlying26
 have HR0_0 := Aside0.mk hr0_0
 have HC0_0 := Aside0.mk hc0_0
 clear hr0_0 hc0_0
 have HB := Aside0.mk (Below.refl w.heap.size w)
 have H := h
 clear h
 unfold impl_Contains.f at H
 by_cases c3 : a1 < 0
 · rw [if_pos c3] at H
   have c3b0 : decide (a1 < 0) = true := decide_eq_true c3
   clear c3
   obtain rfl := Option.some.inj H
   go_enter Try.func20, Try.ntmps20
   go_wp2_with (first | ((with_reducible refine gate_dst (N := 2) rfl ?_); refine bx_ 2 #[.slice A0_0 l0_0.length c0_0] 26 ?_; intro gb523 hg w4 hbox hb; have BK523 := Aside0.mk (hbox); have GW523 := gw_ hg HB; have GE523 := gw_ hg HB; replace HB := bo_ HB hb; clear hb hbox hg))
   go_ret
   exact ⟨rf_, bq_ HB⟩
 rw [if_neg c3] at H
 have c3b0 : decide (a1 < 0) = false := decide_eq_false c3
 clear c3
 obtain ⟨t524, A5, H⟩ := ob_ H
 by_cases c6 : t524 = true
 rotate_left
 · replace c6 := Bool.eq_false_iff.mpr c6
   subst c6
   rw [if_neg (show ¬ (false = true) by decide)] at H
   obtain rfl := Option.some.inj H
   go_enter Try.func20, Try.ntmps20
   go_wp2_with (first | ((with_reducible refine gate_dst (N := 2) rfl ?_); refine bx_ 2 #[.slice A0_0 l0_0.length c0_0] 26 ?_; intro gb523 hg w24 hbox hb; have BK523 := Aside0.mk (hbox); have GW523 := gw_ hg HB; have GE523 := gw_ hg HB; replace HB := bo_ HB hb; clear hb hbox hg; have hcz25_0 := cz_ BK523; have hfz25_0 := blk_frozen BK523.out 0) | (go_at_call 53; (with_reducible refine (impl_IsSemigroup.calls k _ _ l0_0 false _ ?side1 ?side2 A5.out).mono ?_); (case side1 => exact ch_ HR0_0 HB); (case side2 => exact HC0_0.out); rintro e w26 ⟨rfl, hb⟩; replace BK523 := bk_ BK523 hb; replace HB := bp_ HB hb; (try clear hb)))
   go_ret
   exact ⟨rf_, bq_ HB⟩
 subst c6
 rw [if_pos rfl] at H
 by_cases c7 : a1 ≥ 200
 · rw [if_pos c7] at H
   have c7b0 : decide (200 ≤ a1) = true := decide_eq_true c7
   clear c7
   obtain rfl := Option.some.inj H
   go_enter Try.func20, Try.ntmps20
   try go_wp2_with (first | ((with_reducible refine gate_dst (N := 2) rfl ?_); refine bx_ 2 #[.slice A0_0 l0_0.length c0_0] 26 ?_; intro gb523 hg w8 hbox hb; have BK523 := Aside0.mk (hbox); have GW523 := gw_ hg HB; have GE523 := gw_ hg HB; replace HB := bo_ HB hb; clear hb hbox hg; have hcz9_0 := cz_ BK523; have hfz9_0 := blk_frozen BK523.out 0) | (go_at_call 53; (with_reducible refine (impl_IsSemigroup.calls k _ _ l0_0 true _ ?side1 ?side2 A5.out).mono ?_); (case side1 => exact ch_ HR0_0 HB); (case side2 => exact HC0_0.out); rintro e w10 ⟨rfl, hb⟩; replace BK523 := bk_ BK523 hb; replace HB := bp_ HB hb; (try clear hb)))
   replace BK523 := Aside0.mk (blk_drew BK523.out)
   replace HB := Aside0.mk (below_drew1 HB.out)
   refine start_ (n := 22) (S := fun w' => True) (ds := []) (B_ 0 22) (by kernel_rfl) rfl rfl trivial (fun hHeld => ?_); refine with_tabW impl_Contains.tab3 impl_Contains.bits3 (fun HT_ HW_ => ?_)
   generalize w10.drew = w11 at BK523 HB hHeld ⊢
   refine pu_ HT_ 0 12 (B_ 1 22) ?_
   refine pu_ HT_ 1 13 (B_ 3 22) ?_
   refine pu_ HT_ 2 14 (B_ 7 22) ?_
   refine pn_ HT_ 3 15 (B_ 15 22) ?_
   refine pn_ HT_ 4 16 (B_ 31 22) ?_
   refine pn_ HT_ 5 17 (B_ 63 22) ?_
   refine pn_ HT_ 6 18 (B_ 127 22) ?_
   refine pn_ HT_ 7 19 (B_ 255 22) ?_
   refine pn_ HT_ 8 20 (B_ 511 22) ?_
   refine pn_ HT_ 9 21 (B_ 1023 22) ?_
   refine pn_ HT_ 10 22 (B_ 2047 22) ?_
   refine pn_ HT_ 11 23 (B_ 4095 22) ?_
   refine pn_ HT_ 12 24 (B_ 8191 22) ?_
   refine pn_ HT_ 13 25 (B_ 16383 22) ?_
   refine pn_ HT_ 14 26 (B_ 32767 22) ?_
   refine pn_ HT_ 15 27 (B_ 65535 22) ?_
   refine pn_ HT_ 16 28 (B_ 131071 22) ?_
   refine pn_ HT_ 17 29 (B_ 262143 22) ?_
   refine pn_ HT_ 18 30 (B_ 524287 22) ?_
   refine pn_ HT_ 19 31 (B_ 1048575 22) ?_
   refine pu_ HT_ 20 32 (B_ 2097151 22) ?_
   refine pu_ HT_ 21 4 (B_ 4194303 22) ?_
   refine done_ (done_of HT_.out (by kernel_rfl)) ?_
   try go_wp2
   go_ret
   exact ⟨rf_, bq_ HB⟩
 rw [if_neg c7] at H
 have c7b0 : decide (200 ≤ a1) = false := decide_eq_false c7
 clear c7
 by_cases c12 : 0 < (l0_0.length : Int)
 rotate_left
 · rw [if_neg c12] at H
   cases H
 rw [if_pos c12] at H
 have c12b0 : decide (0 < (l0_0.length : Int)) = true := decide_eq_true c12
 have c12b1 : decide (0 < l0_0.length) = true := decide_eq_true (by omega)
 clear c12
 obtain ⟨t526, A13, H⟩ := ob_ H
 by_cases c14 : (rd l0_0 0) = 0
 · rw [if_pos c14] at H
   cases H
 rw [if_neg c14] at H
 have c14b0 : ((rd l0_0 0) == 0) = false := beq_eq_false_iff_ne.mpr c14
 have c14b1 : ((rd l0_0 0) != 0) = true := bne_iff_ne.mpr c14
 obtain ⟨ji15, hji15⟩ : ∃ j_ : Int, (Int.tmod a1 (rd l0_0 0)) = j_ := ⟨_, rfl⟩
 replace H : (if 0 ≤ (ji15) then (if (ji15) < (t526.length : Int) then (some (decide ((rd t526 (ji15)) ≤ a1))) else (none)) else (none)) = some r := by first | (rw [hji15] at H; exact H) | (simp only [hji15] at H ⊢; exact H)
 (try rw [hji15] at A5)
 (try rw [hji15] at A13)
 by_cases c16 : 0 ≤ (ji15)
 rotate_left
 · rw [if_neg c16] at H
   cases H
 rw [if_pos c16] at H
 have c16b0 : decide (0 ≤ (ji15)) = true := decide_eq_true c16
 clear c16
 by_cases c17 : (ji15) < (t526.length : Int)
 rotate_left
 · rw [if_neg c17] at H
   cases H
 rw [if_pos c17] at H
 have c17b0 : decide ((ji15) < (t526.length : Int)) = true := decide_eq_true c17
 clear c17
 obtain rfl := Option.some.inj H
 go_enter Try.func20, Try.ntmps20
 try go_wp2_with (first | ((with_reducible refine gate_dst (N := 2) rfl ?_); refine bx_ 2 #[.slice A0_0 l0_0.length c0_0] 26 ?_; intro gb523 hg w18 hbox hb; have BK523 := Aside0.mk (hbox); have GW523 := gw_ hg HB; have GE523 := gw_ hg HB; replace HB := bo_ HB hb; clear hb hbox hg; have hcz19_0 := cz_ BK523; have hfz19_0 := blk_frozen BK523.out 0) | (go_at_call 53; (with_reducible refine (impl_IsSemigroup.calls k _ _ l0_0 true _ ?side1 ?side2 A5.out).mono ?_); (case side1 => exact ch_ HR0_0 HB); (case side2 => exact HC0_0.out); rintro e w20 ⟨rfl, hb⟩; replace BK523 := bk_ BK523 hb; replace HB := bp_ HB hb; (try clear hb)))
 replace BK523 := Aside0.mk (blk_drew BK523.out)
 replace HB := Aside0.mk (below_drew1 HB.out)
 have p525 : 0 ≤ (0 : Int) := (by omega)
 have q525 : 0 < (l0_0.length : Int) := od_
 obtain ⟨ad525, e525, hx525_0⟩ := Kd.at_int HR0_0.out 0 p525 q525
 have hw525_0 := hx525_0
 (try rw [show ((0 : Int)).toNat = 0 from rfl] at hw525_0)
 (try rw [show 0 * 1 = 0 from rfl] at hw525_0)
 (try rw [Addr.add_zero'] at hw525_0)
 cases e525
 have qi525 : (0 < l0_0.length) = True := eq_true (by omega)
 (try rw [show ((0 : Int)).toNat = 0 from rfl] at hx525_0)
 (try rw [Addr.add_zero'] at hx525_0)
 (try replace hx525_0 := (HB.out.cell (World.block_lt_of_cell? w _ hx525_0)).trans hx525_0)
 replace p525 := eq_true p525
 replace q525 := eq_true q525
 have p529 : 0 ≤ (0 : Int) := (by omega)
 have q529 : 0 < (l0_0.length : Int) := od_
 obtain ⟨ad529, e529, hx529_0⟩ := Kd.at_int HR0_0.out 0 p529 q529
 have hw529_0 := hx529_0
 (try rw [show ((0 : Int)).toNat = 0 from rfl] at hw529_0)
 (try rw [show 0 * 1 = 0 from rfl] at hw529_0)
 (try rw [Addr.add_zero'] at hw529_0)
 obtain rfl : ad525 = ad529 := (by injection e529)
 have qi529 : (0 < l0_0.length) = True := eq_true (by omega)
 (try rw [show ((0 : Int)).toNat = 0 from rfl] at hx529_0)
 (try rw [Addr.add_zero'] at hx529_0)
 (try replace hx529_0 := (HB.out.cell (World.block_lt_of_cell? w _ hx529_0)).trans hx529_0)
 replace p529 := eq_true p529
 replace q529 := eq_true q529
 refine start_ (n := 22) (S := fun w' => w'.cell? ⟨gb523, 0, none⟩ = some (.slice (some ad525) l0_0.length c0_0) ∧ w'.cell? ad525 = some (.int .i64 (rd l0_0 0)) ∧ w'.cell? ad525 = some (.int .i64 (rd l0_0 0)) ∧ True) (ds := []) (B_ 0 22) (by kernel_rfl) rfl rfl ⟨(blk_cell BK523.out 0).trans rfl, ((HB.out.cell (World.block_lt_of_cell? w _ hw525_0)).trans hw525_0), ((HB.out.cell (World.block_lt_of_cell? w _ hw529_0)).trans hw529_0), trivial⟩ (fun hHeld => ?_); refine with_tabW impl_Contains.tab3 impl_Contains.bits3 (fun HT_ HW_ => ?_)
 generalize w20.drew = w21 at BK523 HB hx525_0 hx529_0 hHeld ⊢
 refine pu_ HT_ 0 12 (B_ 1 22) ?_
 refine pu_ HT_ 1 13 (B_ 3 22) ?_
 refine pu_ HT_ 2 14 (B_ 7 22) ?_
 refine pu_ HT_ 3 15 (B_ 15 22) ?_
 refine pu_ HT_ 5 17 (B_ 47 22) ?_
 refine pu_ HT_ 10 22 (B_ 1071 22) ?_
 refine pu_ HT_ 11 23 (B_ 3119 22) ?_
 refine pu_ HT_ 18 30 (B_ 265263 22) ?_
 refine take_ (i := 4) (N := some 16) (v := ?_) (a' := ?_) (B_ 265279 22) rfl rfl (take_ofW HT_.out HW_.out (by kernel_rfl)) (fun _ _ _ h => h) (Or.inl ⟨by rfl, ?_⟩) hHeld ?_ ?_
 rotate_left
 · rintro w' ⟨s0, s1, s2, s3⟩
   go_simp
   with_reducible rfl
 rotate_left
 · simp only [Act.put, z1_, z2_, z3_, i64_w, i32_w]
   rfl
 refine take_ (i := 6) (N := some 18) (v := ?_) (a' := ?_) (B_ 265343 22) rfl rfl (take_ofW HT_.out HW_.out (by kernel_rfl)) (fun _ _ _ h => h) (Or.inl ⟨by rfl, ?_⟩) hHeld ?_ ?_
 rotate_left
 · rintro w' ⟨s0, s1, s2, s3⟩
   go_simp
   with_reducible rfl
 rotate_left
 · simp only [Act.put, z1_, z2_, z3_, i64_w, i32_w]
   rfl
 refine pu_ HT_ 7 19 (B_ 265471 22) ?_
 refine take_ (i := 8) (N := some 20) (v := ?_) (a' := ?_) (B_ 265727 22) rfl rfl (take_ofW HT_.out HW_.out (by kernel_rfl)) (fun _ _ _ h => h) (Or.inl ⟨by rfl, ?_⟩) hHeld ?_ ?_
 rotate_left
 · rintro w' ⟨s0, s1, s2, s3⟩
   go_simp
   with_reducible rfl
 rotate_left
 · simp only [Act.put, z1_, z2_, z3_, i64_w, i32_w]
   rfl
 refine take_ (i := 12) (N := some 24) (v := ?_) (a' := ?_) (B_ 269823 22) rfl rfl (take_ofW HT_.out HW_.out (by kernel_rfl)) (fun _ _ _ h => h) (Or.inl ⟨by rfl, ?_⟩) hHeld ?_ ?_
 rotate_left
 · rintro w' ⟨s0, s1, s2, s3⟩
   go_simp
   with_reducible rfl
 rotate_left
 · simp only [Act.put, z1_, z2_, z3_, i64_w, i32_w]
   rfl
 refine pu_ HT_ 13 25 (B_ 278015 22) ?_
 refine take_ (i := 14) (N := some 26) (v := ?_) (a' := ?_) (B_ 294399 22) rfl rfl (take_ofW HT_.out HW_.out (by kernel_rfl)) (fun _ _ _ h => h) (Or.inl ⟨by rfl, ?_⟩) hHeld ?_ ?_
 rotate_left
 · rintro w' ⟨s0, s1, s2, s3⟩
   go_simp
   with_reducible rfl
 rotate_left
 · simp only [Act.put, z1_, z2_, z3_, i64_w, i32_w]
   rfl
 refine pu_ HT_ 15 27 (B_ 327167 22) ?_
 refine on_ HT_ 9 21 (B_ 327679 22) (fun K hK => ?_)
 refine goes_ Try.func54 (by kernel_rfl) rfl #[.slice (some ad525) l0_0.length c0_0, .int .i64 (rd l0_0 0)] (by rfl) rfl rfl (by (try simp only [List.map_toArray, List.map_cons, List.map_nil]); first | done | rfl | (simp only [List.length_drop, List.length_take]; rfl)) ?_
 with_reducible refine (impl_leasts.calls k _ _ l0_0 (rd l0_0 0) t526 _ ?side1 ?side2 A13.out).mono ?_
 (case side1 => exact ch_ HR0_0 HB)
 (case side2 => exact HC0_0.out)
 rintro e w22 ⟨v527, rfl, ho0, hb⟩
 refine ⟨_, rfl, ?_⟩
 have HO528 := Aside0.mk (Kd.R_lower ho0 (below_size (bq_ HB)))
 replace BK523 := bk_ BK523 hb
 replace HB := bp_ HB hb
 (try clear hb)
 (try clear ho0)
 obtain ⟨Ao23, co23, eo23⟩ := Kd.R_slice HO528.out
 (first | subst eo23 | (injection eo23 with f1_ f2_ f3_; have f4_ := f1_.symm; have f5_ := f3_.symm; clear f1_ f2_ f3_; subst f4_; subst f5_))
 have p530 : 0 ≤ ((ji15) : Int) := od_
 have q530 : (ji15) < (t526.length : Int) := od_
 obtain ⟨ad530, e530, hx530_0⟩ := Kd.at_int (Kd.R_reads' HO528.out).2.2 (ji15) p530 q530
 cases e530
 replace p530 := eq_true p530
 replace q530 := eq_true q530
 refine hK.out _ _ ⟨(blk_cell BK523.out 0).trans rfl, ((HB.out.cell (World.block_lt_of_cell? w _ hw525_0)).trans hw525_0), ((HB.out.cell (World.block_lt_of_cell? w _ hw529_0)).trans hw529_0), trivial⟩ (fun _ => ?_); refine restart_ (S' := fun w' => w'.cell? ⟨gb523, 0, none⟩ = some (.slice (some ad525) l0_0.length c0_0) ∧ w'.cell? ad525 = some (.int .i64 (rd l0_0 0)) ∧ w'.cell? ad525 = some (.int .i64 (rd l0_0 0)) ∧ w'.cell? (ad530.add ((ji15)).toNat) = some (.int .i64 (rd t526 (ji15)))) (fun _ h => ⟨h.1, h.2.1, h.2.2.1, trivial⟩) ⟨(blk_cell BK523.out 0).trans rfl, ((HB.out.cell (World.block_lt_of_cell? w _ hw525_0)).trans hw525_0), ((HB.out.cell (World.block_lt_of_cell? w _ hw529_0)).trans hw529_0), hx530_0⟩ (fun hHeld => ?_)
 clear hK K
 refine norm_ (a' := ?_) ?_ ?_
 rotate_left
 · show Act.put _ (some 21) _ = _
   simp only [Act.put, z1_, z2_, z3_, i64_w, i32_w]
   rfl
 refine pu_ HT_ 16 28 (B_ 393215 22) ?_
 refine take_ (i := 17) (N := some 29) (v := ?_) (a' := ?_) (B_ 524287 22) rfl rfl (take_ofW HT_.out HW_.out (by kernel_rfl)) (fun _ _ _ h => h) (Or.inl ⟨by rfl, ?_⟩) hHeld ?_ ?_
 rotate_left
 · rintro w' ⟨s0, s1, s2, s3⟩
   go_simp
   with_reducible rfl
 rotate_left
 · simp only [Act.put, z1_, z2_, z3_, i64_w, i32_w]
   rfl
 refine pu_ HT_ 19 31 (B_ 1048575 22) ?_
 refine pu_ HT_ 20 32 (B_ 2097151 22) ?_
 refine pu_ HT_ 21 4 (B_ 4194303 22) ?_
 refine done_ (done_of HT_.out (by kernel_rfl)) ?_
 try go_wp2
 go_ret
 exact ⟨by first | rfl | (simp [errW_none, errW_some] <;> rfl) | (simp only [← hji15]; first | rfl | (simp [errW_none, errW_some] <;> rfl)) | (simp [*, errW_none, errW_some] <;> rfl), bq_ HB⟩
def slices_Index_int_int.l0 : Nat → List Int → Int → Int → Int → Option (Int)
 | 0, _, _, _, _ => none
 | k + 1, x0, x1, x7, x8 => if x8 < x7 then (if 0 ≤ x8 then (if x8 < (x0.length : Int) then (if x1 = (rd x0 x8) then (some x8) else (slices_Index_int_int.l0 k x0 x1 x7 (wrap64 (x8 + 1)))) else (none)) else (none)) else (some (-1))
def slices_Index_int_int.f (k : Nat) (l0 : List Int) (a1 : Int) : Option (Int) := slices_Index_int_int.l0 k l0 a1 (l0.length : Int) 0
theorem slices_Index_int_int.calls (k : Nat) (A0 : Option Addr) (c0 : Nat) (l0 : List Int) (a1 : Int) (r : Int) (w : World) (hr0 : Kd.C (Kd.int .i64) w A0 l0.length l0) (hc0 : l0.length ≤ c0) (h : slices_Index_int_int.f k l0 a1 = some r) :
 Calls Try.prog 55 #[.slice A0 l0.length c0, .int .i64 a1] w fun e w' => e = .returned (.int .i64 r) ∧ Drawn0 w w' := by
 have HR0 := Aside0.mk hr0
 have HC0 := Aside0.mk hc0
 clear hr0 hc0
 have H := h
 clear h
 unfold slices_Index_int_int.f at H
 have H' := Aside0.mk H
 clear H
 go_enter Try.func55, Try.ntmps55
 go_wp2
 go_loopg [8] k (fun kq v8 w' => ∃ (x8_1 : Int), v8 = .int .i64 x8_1 ∧ Aside0 (slices_Index_int_int.l0 kq l0 a1 (l0.length : Int) x8_1 = some r) ∧ Aside0 (kq ≤ k) ∧ Drawn0 w w')
 case atStart => exact ⟨(0), rs_, H', ⟨Nat.le_refl _⟩, by repeat (first | exact Drawn0.refl _ | apply Drawn0.step)⟩
 case round =>
  clear H'
  try clear p2
  obtain ⟨x8_1, rfl, HA, HK1, ⟨m1, rfl⟩⟩ := hrel
  cases gk with
  | zero => exact absurd HA.out (by simp [slices_Index_int_int.l0])
  | succ k1 =>
   have H := HA.out
   clear HA
   simp only [slices_Index_int_int.l0] at H
   by_cases c3 : x8_1 < (l0.length : Int)
   rotate_left
   · rw [if_neg c3] at H
     have c3b0 : decide (x8_1 < (l0.length : Int)) = false := decide_eq_false c3
     clear c3
     obtain rfl := Option.some.inj H
     go_wp2
     go_ret
     exact ⟨by first | rfl | (simp; done) | (simp [*]; done), by repeat (first | exact Drawn0.refl _ | apply Drawn0.step)⟩
   rw [if_pos c3] at H
   have c3b0 : decide (x8_1 < (l0.length : Int)) = true := decide_eq_true c3
   clear c3
   by_cases c4 : 0 ≤ x8_1
   rotate_left
   · rw [if_neg c4] at H
     cases H
   rw [if_pos c4] at H
   have c4b0 : decide (0 ≤ x8_1) = true := decide_eq_true c4
   clear c4
   by_cases c5 : x8_1 < (l0.length : Int)
   rotate_left
   · rw [if_neg c5] at H
     cases H
   rw [if_pos c5] at H
   have c5b0 : decide (x8_1 < (l0.length : Int)) = true := decide_eq_true c5
   clear c5
   by_cases c6 : a1 = (rd l0 x8_1)
   · rw [if_pos c6] at H
     have c6b0 : (a1 == (rd l0 x8_1)) = true := beq_iff_eq.mpr c6
     have c6b1 : (a1 != (rd l0 x8_1)) = false := bne_eq_false_iff_eq.mpr c6
     clear c6
     obtain rfl := Option.some.inj H
     have p531 : 0 ≤ (x8_1 : Int) := od_
     have q531 : x8_1 < (l0.length : Int) := od_
     obtain ⟨ad531, e531, hx531_0⟩ := Kd.at_int HR0.out x8_1 p531 q531
     cases e531
     replace p531 := eq_true p531
     replace q531 := eq_true q531
     go_wp2
     go_ret
     exact ⟨by first | rfl | (simp; done) | (simp [*]; done), by repeat (first | exact Drawn0.refl _ | apply Drawn0.step)⟩
   rw [if_neg c6] at H
   have c6b0 : (a1 == (rd l0 x8_1)) = false := beq_eq_false_iff_ne.mpr c6
   have c6b1 : (a1 != (rd l0 x8_1)) = true := bne_iff_ne.mpr c6
   have H' := Aside0.mk H
   clear H
   have p531 : 0 ≤ (x8_1 : Int) := od_
   have q531 : x8_1 < (l0.length : Int) := od_
   obtain ⟨ad531, e531, hx531_0⟩ := Kd.at_int HR0.out x8_1 p531 q531
   cases e531
   replace p531 := eq_true p531
   replace q531 := eq_true q531
   go_wp2
   go_roundg k1
   case measure => have := HK1.out; omega
   case rel => exact ⟨(wrap64 (x8_1 + 1)), rs_, H', ⟨by have := HK1.out; omega⟩, by repeat (first | exact Drawn0.refl _ | apply Drawn0.step)⟩
def slices_Contains_int_int.f (k : Nat) (l0 : List Int) (a1 : Int) : Option (Bool) := (slices_Index_int_int.f k l0 a1).bind fun t532 => (some (decide (t532 ≥ 0)))
theorem slices_Contains_int_int.calls (k : Nat) (A0 : Option Addr) (c0 : Nat) (l0 : List Int) (a1 : Int) (r : Bool) (w : World) (hr0 : Kd.C (Kd.int .i64) w A0 l0.length l0) (hc0 : l0.length ≤ c0) (h : slices_Contains_int_int.f k l0 a1 = some r) :
 Calls Try.prog 21 #[.slice A0 l0.length c0, .int .i64 a1] w fun e w' => e = .returned (.bool r) ∧ Drawn0 w w' := by
 have HR0 := Aside0.mk hr0
 have HC0 := Aside0.mk hc0
 clear hr0 hc0
 have H := h
 clear h
 unfold slices_Contains_int_int.f at H
 obtain ⟨t532, A3, H⟩ := ob_ H
 obtain rfl := Option.some.inj H
 go_enter Try.func21, Try.ntmps21
 go_wp2_with (first | ((with_reducible refine gate_callee (f := 55) rfl ?_); refine gL_ (some 7) Try.func55 #[.slice A0 l0.length c0, .int .i64 a1] ?_; (with_reducible refine (slices_Index_int_int.calls k _ _ l0 a1 t532 _ ?side1 ?side2 A3.out).mono ?_); (case side1 => exact ce_ (HR0.out)); (case side2 => exact HC0.out); rintro e w' ⟨rfl, ⟨nd, rfl⟩⟩; refine ⟨_, rfl, ?_⟩))
 go_ret
 exact ⟨by first | rfl | (simp; done) | (simp [*]; done), by repeat (first | exact Drawn0.refl _ | apply Drawn0.step)⟩
end Go.Proofs.Ytjjajcldmkmgkaa.PA
end
section
namespace Go.Proofs
open Go.Shelf
def Try.lays189_ren : Go.Shelf.Ren := ⟨fun | 189 => 73 | 125 => 81 | 257 => 80 | 128 => 94 | 129 => 95 | 294 => 85 | 295 => 86 | 296 => 87 | 297 => 88 | 298 => 89 | 299 => 90 | 216 => 91 | 300 => 92 | 301 => 93 | 328 => 96 | 329 => 97 | 330 => 98 | 331 => 99 | 332 => 100 | 215 => 101 | 343 => 102 | n => n, fun | 28 => 24 | 3 => 3 | 46 => 75 | 0 => 0 | 51 => 89 | 53 => 91 | 4 => 4 | 183 => 83 | 182 => 82 | 131 => 72 | 5 => 5 | 9 => 9 | 218 => 92 | 222 => 96 | 228 => 98 | 229 => 99 | n => n, fun | n => n⟩
theorem Try.lays189 : Go.Proofs.Lays.n189 Try.prog Try.lays189_ren := {
 mixed := by kernel_rfl
 f125 := Try.func81.trans (congrArg some (by kernel_rfl))
 f128 := Try.func94.trans (congrArg some (by kernel_rfl))
 f129 := Try.func95.trans (congrArg some (by kernel_rfl))
 f189 := Try.func73.trans (congrArg some (by kernel_rfl))
 f215 := Try.func101.trans (congrArg some (by kernel_rfl))
 f216 := Try.func91.trans (congrArg some (by kernel_rfl))
 f257 := Try.func80.trans (congrArg some (by kernel_rfl))
 f294 := Try.func85.trans (congrArg some (by kernel_rfl))
 f295 := Try.func86.trans (congrArg some (by kernel_rfl))
 f296 := Try.func87.trans (congrArg some (by kernel_rfl))
 f297 := Try.func88.trans (congrArg some (by kernel_rfl))
 f298 := Try.func89.trans (congrArg some (by kernel_rfl))
 f299 := Try.func90.trans (congrArg some (by kernel_rfl))
 f300 := Try.func92.trans (congrArg some (by kernel_rfl))
 f301 := Try.func93.trans (congrArg some (by kernel_rfl))
 f328 := Try.func96.trans (congrArg some (by kernel_rfl))
 f329 := Try.func97.trans (congrArg some (by kernel_rfl))
 f330 := Try.func98.trans (congrArg some (by kernel_rfl))
 f331 := Try.func99.trans (congrArg some (by kernel_rfl))
 f332 := Try.func100.trans (congrArg some (by kernel_rfl))
 f343 := Try.func102.trans (congrArg some (by kernel_rfl))
 t0 := Try.underlying0
 a0 := Try.isAgg0
 z0 := Try.sizeOf0
 v0 := Try.zeroValue0
 t3 := Try.underlying3
 a3 := Try.isAgg3
 z3 := Try.sizeOf3
 v3 := Try.zeroValue3
 t4 := Try.underlying4
 a4 := Try.isAgg4
 z4 := Try.sizeOf4
 v4 := Try.zeroValue4
 t5 := Try.underlying5
 a5 := Try.isAgg5
 z5 := Try.sizeOf5
 v5 := Try.zeroValue5
 t9 := Try.underlying9
 a9 := Try.isAgg9
 z9 := Try.sizeOf9
 v9 := Try.zeroValue9
 t28 := Try.underlying24
 a28 := Try.isAgg24
 z28 := Try.sizeOf24
 v28 := Try.zeroValue24
 t46 := Try.underlying75
 a46 := Try.isAgg75
 z46 := Try.sizeOf75
 v46 := Try.zeroValue75
 t51 := Try.underlying89
 a51 := Try.isAgg89
 z51 := Try.sizeOf89
 v51 := Try.zeroValue89
 t53 := Try.underlying91
 a53 := Try.isAgg91
 z53 := Try.sizeOf91
 v53 := Try.zeroValue91
 t131 := Try.underlying72
 a131 := Try.isAgg72
 z131 := Try.sizeOf72
 v131 := Try.zeroValue72
 t182 := Try.underlying82
 a182 := Try.isAgg82
 z182 := Try.sizeOf82
 v182 := Try.zeroValue82
 t183 := Try.underlying83
 a183 := Try.isAgg83
 z183 := Try.sizeOf83
 v183 := Try.zeroValue83
 t218 := Try.underlying92
 a218 := Try.isAgg92
 z218 := Try.sizeOf92
 v218 := Try.zeroValue92
 t222 := Try.underlying96
 a222 := Try.isAgg96
 z222 := Try.sizeOf96
 v222 := Try.zeroValue96
 t228 := Try.underlying98
 a228 := Try.isAgg98
 z228 := Try.sizeOf98
 v228 := Try.zeroValue98
 t229 := Try.underlying99
 a229 := Try.isAgg99
 z229 := Try.sizeOf99
 v229 := Try.zeroValue99 }
def Try.lays20_ren : Go.Shelf.Ren := ⟨fun | 20 => 74 | n => n, fun | 22 => 24 | 3 => 3 | 4 => 4 | 0 => 0 | n => n, fun | n => n⟩
theorem Try.lays20 : Go.Proofs.Lays2.n20 Try.prog Try.lays20_ren := {
 mixed := by kernel_rfl
 f20 := Try.func74.trans (congrArg some (by kernel_rfl))
 t0 := Try.underlying0
 a0 := Try.isAgg0
 z0 := Try.sizeOf0
 v0 := Try.zeroValue0
 t3 := Try.underlying3
 a3 := Try.isAgg3
 z3 := Try.sizeOf3
 v3 := Try.zeroValue3
 t4 := Try.underlying4
 a4 := Try.isAgg4
 z4 := Try.sizeOf4
 v4 := Try.zeroValue4
 t22 := Try.underlying24
 a22 := Try.isAgg24
 z22 := Try.sizeOf24
 v22 := Try.zeroValue24
 i3 := by kernel_rfl }
end Go.Proofs
end
section
namespace Go.Proofs.Ytjjajcldmkmgkaa.PA
open Go.RowKit Go.Proofs.YtjjajcldmkmgkaaW.PrintWords Go.Proofs.YtjjajcldmkmgkaaW.PrintLast Go.Proofs.YtjjajcldmkmgkaaW.PrintMore
attribute [local go_sem] max2_int min2_int max_two min_two max_three min_three max_four min_four
set_option linter.unusedVariables false
set_option linter.unusedSimpArgs false
set_option maxHeartbeats 8000000
set_option maxRecDepth 100000
theorem grow_empty_ (w : World) : Go.Sort.grow w #[] = w := by unfold Go.Sort.grow; simp
theorem slices_Sort_.calls (base : Nat) (ok : Nat → Prop) (v : Value) (xs : List Int) (w : World) (h : Kd.R (Kd.int .i64) 3 w base ok v xs) (hs : xs.length < 4611686018427387904) :
 Calls Try.prog 73 #[v] w fun e w' => e = .returned (.tuple #[]) ∧ Kd.R (Kd.int .i64) 3 w' base ok v (xs.mergeSort fun x y => decide (x ≤ y)) ∧ ∀ w0 : World, base ≤ w.heap.size → Below base w0 w → Below base w0 w' := by
 have ho : w.ownsRow base 3 1 v xs.length (encs (Value.int .i64) xs) := Kd.own_of_R h
 have hok := h.1
 rcases ho.2 with ⟨rfl, h0⟩ | ⟨g, cap, cur, rfl, hg, hb, h1, h2, h3, h4⟩
 · obtain rfl := List.eq_nil_of_length_eq_zero h0
   refine (Any.slices_Sort_int_none Try.lays189 none 0 w).mono ?_
   rintro e w' ⟨rfl, rfl⟩
   exact ⟨rfl, by simpa using h, fun _ _ hb => hb⟩
 · have hH := holds_of_blockI (ss := xs) hb (by simpa [encs] using h4)
   have hlt : g < w.heap.size := (Array.getElem?_eq_some_iff.1 hb).1
   refine (Any.slices_Sort_int Try.lays189 g 0 cap xs w hH hlt hs).mono ?_
   rintro e w' ⟨rfl, n, os, rfl⟩
   have hl : (xs.mergeSort fun x y => decide (x ≤ y)).length = xs.length := List.length_mergeSort ..
   refine ⟨rfl, Kd.R_of_own ?_ hok, fun w0 hw hb0 => hb0.grown (grownBy_sortedI _) hw (fun k hk => by injection hk with hk; omega)⟩
   have := ownsRow_sortedI (base := base) (n := n) (os := os) (ts := xs.mergeSort fun x y => decide (x ≤ y)) hl hg hb h1 h2 h3
   rw [hl]
   exact this
theorem compact_len (xs : List Int) : (Lib.compact xs).length ≤ xs.length := by
 unfold Lib.compact Lib.compactUpTo
 rw [List.length_map]
 exact Nat.le_trans (List.length_filter_le ..) (by simp)
theorem slices_Compact_.calls (base : Nat) (ok : Nat → Prop) (v : Value) (xs : List Int) (w : World) (h : Kd.R (Kd.int .i64) 3 w base ok v xs) :
 Calls Try.prog 74 #[v] w fun e w' => ∃ u, e = .returned u ∧ Kd.R (Kd.int .i64) 3 w' base ok u (Lib.compact xs) ∧ ∀ w0 : World, base ≤ w.heap.size → Below base w0 w → Below base w0 w' := by
 have ho : w.ownsRow base 3 1 v xs.length (encs (Value.int .i64) xs) := Kd.own_of_R h
 have hok := h.1
 have cl := compact_len xs
 rcases ho.2 with ⟨rfl, h0⟩ | ⟨g, cap, cur, rfl, hg, hb, h1, h2, h3, h4⟩
 · obtain rfl := List.eq_nil_of_length_eq_zero h0
   refine (Any.slices_Compact_int_empty Try.lays20 none 0 w).mono ?_
   rintro e w' ⟨rfl, rfl⟩
   exact ⟨_, rfl, h, fun _ _ hb => hb⟩
 · have hH := holds_of_blockI (ss := xs) hb (by simpa [encs] using h4)
   refine (Any.slices_Compact_int Try.lays20 g 0 cap xs w hH (by simp only [maxLen] at h2; omega) h1).mono ?_
   rintro e w' ⟨rfl, q, rfl⟩
   have hl : (Lib.compact xs ++ List.replicate (xs.length - (Lib.compact xs).length) 0).length = xs.length := by rw [List.length_append, List.length_replicate]; omega
   have hg0 := grow_empty_ (Go.Sort.putRow (Value.int .i64) (Go.Sort.ahead w q) g 0 (Lib.compact xs ++ List.replicate (xs.length - (Lib.compact xs).length) 0).toArray)
   have own := ownsRow_sortedI (base := base) (n := q) (os := #[]) (ts := Lib.compact xs ++ List.replicate (xs.length - (Lib.compact xs).length) 0) hl hg hb h1 h2 h3
   have gb := grownBy_sortedI (w := w) (g := g) (n := q) (os := #[]) (Lib.compact xs ++ List.replicate (xs.length - (Lib.compact xs).length) 0).toArray
   rw [hg0] at own gb
   refine ⟨_, rfl, Kd.R_of_own ?_ (fun k hk => hok k (by simpa [Value.ownBlock] using hk)), fun w0 hw hb0 => hb0.grown gb hw (fun k hk => by injection hk with hk; omega)⟩
   rcases own.2 with ⟨hv, _⟩ | ⟨g', cap', cur', hv, hg', hb', _, _, h3', h4'⟩
   · cases hv
   · injection hv with hv1 hv2 hv3
     injection hv1 with hv1
     injection hv1 with hv1
     subst hv1 hv3
     refine ⟨by rw [encs_length]; omega, .inr ⟨g, cap, cur', rfl, hg, hb', by omega, h2, h3', ?_⟩⟩
     have := congrArg (List.take (Lib.compact xs).length) h4'
     rw [List.take_take, Nat.mul_one, Nat.min_eq_left cl] at this
     rw [Nat.mul_one, this, List.map_append, List.take_left' (by simp)]
     rfl
def impl_SortList.f (k : Nat) (l : List Int) : Option (List Int) := if l.length < 17592186044416 then some (Lib.compact (l.mergeSort fun x y => decide (x ≤ y))) else none
theorem impl_SortList.calls (k : Nat) (A0 : Option Addr) (c0 : Nat) (l0 : List Int) (r : List Int) (w : World) (hr0 : Kd.C (Kd.int .i64) w A0 l0.length l0) (hc0 : l0.length ≤ c0) (h : impl_SortList.f k l0 = some r) :
 Calls Try.prog 57 #[.slice A0 l0.length c0] w fun e w' => ∃ v0_, e = .returned v0_ ∧ Kd.R (Kd.int .i64) 3 w' w.heap.size (fun _ => True) v0_ r ∧ Below w.heap.size w w' := by
 unfold impl_SortList.f at h
 by_cases c : l0.length < 17592186044416
 rotate_left
 · rw [if_neg c] at h; cases h
 rw [if_pos c] at h
 obtain rfl := Option.some.inj h
 clear h
 have hl := Aside0.mk c
 clear c
 have HR0 := Aside0.mk hr0
 clear hr0
 have hu24 := Try.underlying24
 go_enter Try.func57, Try.ntmps57
 go_wp2_with (first
  | ((with_reducible refine gate_dst (N := 4) rfl ?_); refine Kd.R_lit (Kd.int .i64) _ 3 ?hg (N := 4) ?hd (xs := ([] : List Int)) (inner := []) (ok := fun _ => True) (okp := fun _ => True) ?hr ?hp (fun _ hk => hk) trivial (Below.refl _ _) (Nat.le_refl _) (by simp) ?_; (case hd => rfl); (case hg => rfl); (case hr => first | (go_simp; done) | (go_simp; rfl)); (case hp => exact (Reps.none _ _)); intro v1 w1 ho hb hg_ hnew_; clear hg_ hnew_; have HO1 := Aside0.mk ho; have HB1 := Aside0.mk hb; clear ho hb)
  | ((with_reducible refine gate_builtin (b := .append) (xs := #[.tmp 4, .tmp 5]) rfl ?_); at_builtin; refine Kd.R_append_rows (Kd.int .i64) (w0 := w) w.heap.size rfl (.tmp 4) (.tmp 5) 24 3 (.int .i64 0) 8 rfl Try.underlying24 info3 rfl (by decide) (by omega) v1 [] l0 _ _ _ (fun _ => True) (fun _ => False) rfl rfl ?aO ?aR (fun _ _ h => h) (fun _ h => h.elim) (fun _ _ => trivial) ?aB ?aS ?aL ?_; (case aO => exact HO1.out); (case aR => exact Kd.C_below HR0.out HB1.out); (case aB => exact HB1.out); (case aS => exact below_size HB1.out); (case aL => have := hl.out; simp only [List.length_nil]; omega); intro v2 w2 ho hb hg hat; clear hg hat; have HO2 := Aside0.mk ho; have HB2 := Aside0.mk hb; clear ho hb)
  | (go_at_call 73; refine (slices_Sort_.calls w.heap.size (fun _ => True) v2 l0 _ HO2.out (by have := hl.out; omega)).mono ?_; rintro e w3 ⟨rfl, ho, hb⟩; have HO3 := Aside0.mk ho; have HB3 := Aside0.mk (hb w (below_size HB2.out) HB2.out); clear ho hb)
  | (go_at_call 74; refine (slices_Compact_.calls w.heap.size (fun _ => True) v2 _ _ HO3.out).mono ?_; rintro e w4 ⟨v4, rfl, ho, hb⟩; have HO4 := Aside0.mk ho; have HB4 := Aside0.mk (hb w (below_size HB3.out) HB3.out); clear ho hb))
 go_ret
 exact ⟨_, rfl, HO4.out, HB4.out⟩
def impl_FromGens.l0 : Nat → List Int → Int → Int → List Int → Option (List Int × Bool)
 | 0, _, _, _, _ => none
 | k + 1, x13, x14, x15, x717000 => if x15 < x14 then (if 0 ≤ x15 then (if x15 < (x13.length : Int) then (if (x717000.length : Int) = 0 then (if x717000.length < 17592186044416 then (impl_FromGens.l0 k x13 x14 (wrap64 (x15 + 1)) (x717000 ++ [rd x13 x15])) else (none)) else ((impl_Generates.f k x717000 (rd x13 x15)).bind fun t724 => (if t724 = true then (impl_FromGens.l0 k x13 x14 (wrap64 (x15 + 1)) x717000) else (if x717000.length < 17592186044416 then (impl_FromGens.l0 k x13 x14 (wrap64 (x15 + 1)) (x717000 ++ [rd x13 x15])) else (none))))) else (none)) else (none)) else ((impl_IsSemigroup.f k x717000).bind fun t728 => (if t728 = true then (some (x717000, true)) else (some (([] : List Int), false))))
def impl_FromGens.f (k : Nat) (l0 : List Int) : Option (List Int × Bool) := (impl_usable.f k l0).bind fun t715 => (if t715 = true then ((impl_SortList.f k l0).bind fun t717 => (impl_FromGens.l0 k t717 (t717.length : Int) 0 ([] : List Int))) else (some (([] : List Int), false)))
theorem impl_FromGens.calls (k : Nat) (A0 : Option Addr) (c0 : Nat) (l0 : List Int) (r1 : List Int) (r2 : Bool) (w : World) (hr0 : Kd.C (Kd.int .i64) w A0 l0.length l0) (hc0 : l0.length ≤ c0) (h : impl_FromGens.f k l0 = some (r1, r2)) :
 Calls Try.prog 24 #[.slice A0 l0.length c0] w fun e w' => ∃ v0_ : Value, e = .returned (.tuple #[.agg #[v0_], .bool r2]) ∧ Kd.R (Kd.int .i64) 3 w' w.heap.size (fun _ => True) v0_ r1 ∧ Below w.heap.size w w' := by
 have hu26 := Try.underlying26
 have HR0 := Aside0.mk hr0
 have HC0 := Aside0.mk hc0
 clear hr0 hc0
 have HB := Aside0.mk (Below.refl w.heap.size w)
 have H := h
 clear h
 unfold impl_FromGens.f at H
 obtain ⟨t715, A2, H⟩ := ob_ H
 by_cases c3 : t715 = true
 rotate_left
 · replace c3 := Bool.eq_false_iff.mpr c3
   subst c3
   rw [if_neg (show ¬ (false = true) by decide)] at H
   simp only [Option.some.injEq, Prod.mk.injEq] at H
   obtain ⟨rfl, rfl⟩ := H
   go_enter Try.func24, Try.ntmps24
   go_wp2_with (first | ((with_reducible refine gate_dst (N := 2) rfl ?_); refine bx_ 2 #[.slice none 0 0] 26 ?_; intro gb714 hg w50 hbox hb; have BK714 := Aside0.mk (hbox); have GW714 := gw_ hg HB; have GE714 := gw_ hg HB; replace HB := bo_ HB hb; clear hb hbox hg) | ((with_reducible refine gate_callee (f := 32) rfl ?_); refine gL_ (some 8) Try.func32 #[.slice A0 l0.length c0] ?_; (with_reducible refine (impl_usable.calls k _ _ l0 false _ ?side1 ?side2 A2.out).mono ?_); (case side1 => exact ch_ HR0 HB); (case side2 => exact HC0.out); rintro e w' ⟨rfl, ⟨nd, rfl⟩⟩; refine ⟨_, rfl, ?_⟩; (try (rw [drewN_self w50]; generalize hq_ : World.drewN w50 _ = w50; have n0_ : Aside0 (w50.heap[gb714]? = some (.cells #[.slice none 0 0] 26 (0, 0))) := ⟨by rw [← hq_]; exact (be_ BK714.out)⟩; have n1_ : Aside0 (Below w.heap.size w w50) := ⟨by rw [← hq_]; exact (bq_ HB)⟩; clear BK714 HB hq_; have BK714 := n0_; have HB := n1_; clear n0_ n1_)); have hcz51_0 := cz_ BK714; have hfz51_0 := blk_frozen BK714.out 0))
   refine bodyPost_ret (results_ct rfl _ _ gb714 26 #[.slice none 0 0] (0, 0) _ rfl (by (with_reducible repeat (first | refine blk_drewN ?_ _ | refine blk_drew ?_ | refine blk_alloc ?_ _)); refine blk_put (cs := #[.slice none 0 0]) ?_ 0 _ rfl; (with_reducible repeat (first | refine blk_drewN ?_ _ | refine blk_drew ?_ | refine blk_alloc ?_ _)); exact BK714.out) Try.underlying26 rfl (by kernel_rfl)) rfl ?_
   exact ⟨_, rf_, by first | exact Kd.R_nil _ _ _ _ _ | exact Kd.N_nil _ _ _ _ _ | exact Kd.V_nil _ _ _ _ _ | exact Kd.Q_nil _ _ _ _ _ | exact Kd.S_nil _ _ _ _ _, bq_ HB⟩
 subst c3
 rw [if_pos rfl] at H
 obtain ⟨t717, A4, H⟩ := ob_ H
 have H' := Aside0.mk H
 clear H
 go_enter Try.func24, Try.ntmps24
 go_wp2_with (first | ((with_reducible refine gate_dst (N := 2) rfl ?_); refine bx_ 2 #[.slice none 0 0] 26 ?_; intro gb714 hg w5 hbox hb; have BK714 := Aside0.mk (hbox); have GW714 := gw_ hg HB; have GE714 := gw_ hg HB; replace HB := bo_ HB hb; clear hb hbox hg) | ((with_reducible refine gate_callee (f := 32) rfl ?_); refine gL_ (some 8) Try.func32 #[.slice A0 l0.length c0] ?_; (with_reducible refine (impl_usable.calls k _ _ l0 true _ ?side1 ?side2 A2.out).mono ?_); (case side1 => exact ch_ HR0 HB); (case side2 => exact HC0.out); rintro e w' ⟨rfl, ⟨nd, rfl⟩⟩; refine ⟨_, rfl, ?_⟩; (try (rw [drewN_self w5]; generalize hq_ : World.drewN w5 _ = w5; have n0_ : Aside0 (w5.heap[gb714]? = some (.cells #[.slice none 0 0] 26 (0, 0))) := ⟨by rw [← hq_]; exact (be_ BK714.out)⟩; have n1_ : Aside0 (Below w.heap.size w w5) := ⟨by rw [← hq_]; exact (bq_ HB)⟩; clear BK714 HB hq_; have BK714 := n0_; have HB := n1_; clear n0_ n1_))) | ((with_reducible refine gate_dst (N := 4) rfl ?_); refine bx_ 4 #[.slice none 0 0] 26 ?_; intro gb716 hg w6 hbox hb; have BK716 := Aside0.mk (hbox); have GW716 := gq_ hg (bq_ HB); have GE716 := gq_ hg (bq_ HB); replace HB := bp_ HB hb; have NB714_716 := nl_ hg BK714; have NB716_714 := ng_ hg BK714; replace BK714 := bk_ BK714 hb; clear hb hbox hg; have hnb7 := NB716_714.out; have hnc7 := NB714_716.out; have hcz8_0 := cz_ BK716; have hfz8_0 := blk_frozen BK716.out 0) | ((with_reducible refine gate_callee (f := 57) rfl ?_); refine gL_ (some 13) Try.func57 #[.slice A0 l0.length c0] ?_; (with_reducible refine (impl_SortList.calls k _ _ l0 t717 _ ?side1 ?side2 A4.out).mono ?_); (case side1 => exact Kd.C_below HR0.out (bq_ HB)); (case side2 => exact HC0.out); rintro e w9 ⟨v718, rfl, ho0, hb⟩; refine ⟨_, rfl, ?_⟩; have HO719 := Aside0.mk (Kd.R_lower ho0 (below_size (bq_ HB))); replace BK714 := Aside0.mk (blk_below (g := gb714) (o := .cells #[.slice none 0 0] 26 (0, 0)) (by (with_reducible repeat (first | refine blk_drewN ?_ _ | refine blk_drew ?_ | refine blk_alloc ?_ _)); refine blk_far ?_ NB714_716.out _; (with_reducible repeat (first | refine blk_drewN ?_ _ | refine blk_drew ?_ | refine blk_alloc ?_ _)); exact BK714.out) hb); replace BK716 := Aside0.mk (blk_below (g := gb716) (o := .cells #[.slice none 0 0] 26 (0, 0)) (by (with_reducible repeat (first | refine blk_drewN ?_ _ | refine blk_drew ?_ | refine blk_alloc ?_ _)); refine blk_put (cs := #[.slice none 0 0]) ?_ 0 _ rfl; (with_reducible repeat (first | refine blk_drewN ?_ _ | refine blk_drew ?_ | refine blk_alloc ?_ _)); exact BK716.out) hb); replace HB := bp_ HB hb; (try clear hb); (try clear ho0); obtain ⟨Ao10, co10, eo10⟩ := Kd.R_slice HO719.out; subst eo10))
 go_loopg [15] k (fun kq v15 w' => ∃ (x15_1 : Int) (x717000_1 : List Int) (u717000 : Value), v15 = .int .i64 x15_1 ∧ Aside0 (impl_FromGens.l0 kq t717 (t717.length : Int) x15_1 x717000_1 = some (r1, r2)) ∧ Aside0 (kq ≤ k) ∧ Aside0 (Kd.R (Kd.int .i64) 3 w' w.heap.size (fun k_ => some k_ ≠ (u717000 : Value).ownBlock) (.slice Ao10 t717.length co10) t717) ∧ Aside0 (Kd.R (Kd.int .i64) 3 w' w.heap.size (fun k_ => some k_ ≠ ((.slice Ao10 t717.length co10) : Value).ownBlock) u717000 x717000_1) ∧ Aside0 (w'.heap[gb714]? = some (.cells #[(.slice none 0 0)] 26 (0, 0))) ∧ Aside0 (w'.heap[gb716]? = some (.cells #[u717000] 26 (0, 0))) ∧ Aside0 (Below w.heap.size w w'))
 case atStart => exact ⟨(0), (([] : List Int)), (.slice none 0 0), rs_, H', ⟨Nat.le_refl _⟩, ⟨by (with_reducible repeat (first | apply Kd.R_alloc | apply Kd.R_drewN | apply Kd.R_drew)); exact Kd.R_mono HO719.out (fun _ hk => (by simp [Value.ownBlock]))⟩, ⟨by first | exact Kd.R_nil _ _ _ _ _ | exact Kd.N_nil _ _ _ _ _ | exact Kd.V_nil _ _ _ _ _ | exact Kd.Q_nil _ _ _ _ _ | exact Kd.S_nil _ _ _ _ _⟩, ⟨be_ BK714.out⟩, ⟨be_ BK716.out⟩, ⟨bq_ HB⟩⟩
 case round =>
  clear H'
  try clear c2
  try clear p2
  try clear c3
  try clear c5
  try clear c7
  try clear hcz8_0
  try clear hfz8_0
  obtain ⟨x15_1, x717000_1, u717000, rfl, HA, HK1, HO_13, HO_717000, BK714, BK716, HB⟩ := hrel
  cases gk with
  | zero => exact absurd HA.out (by simp [impl_FromGens.l0])
  | succ k1 =>
   have H := HA.out
   clear HA
   simp only [impl_FromGens.l0] at H
   by_cases c11 : x15_1 < (t717.length : Int)
   rotate_left
   · rw [if_neg c11] at H
     have c11b0 : decide (x15_1 < (t717.length : Int)) = false := decide_eq_false c11
     clear c11
     obtain ⟨t728, A37, H⟩ := ob_ H
     by_cases c38 : t728 = true
     · subst c38
       rw [if_pos rfl] at H
       simp only [Option.some.injEq, Prod.mk.injEq] at H
       obtain ⟨rfl, rfl⟩ := H
       have hnb39 := NB716_714.out
       have hnc39 := NB714_716.out
       have hcz40_0 := cz_ BK716
       have hfz40_0 := blk_frozen BK716.out 0
       obtain ⟨Ao41, co41, eo41⟩ := Kd.R_slice HO_717000.out
       subst eo41
       go_wp2_with (first | ((with_reducible refine gate_callee (f := 53) rfl ?_); refine gL_ (some 38) Try.func53 #[.agg #[.slice Ao41 x717000_1.length co41]] ?_; (with_reducible refine (impl_IsSemigroup.calls k1 _ _ x717000_1 true _ ?side1 ?side2 A37.out).mono ?_); (case side1 => exact ce_ ((Kd.R_reads' HO_717000.out).2.2)); (case side2 => exact (Kd.R_reads' HO_717000.out).2.1); rintro e w42 ⟨rfl, hb⟩; refine ⟨_, rfl, ?_⟩; replace HO_13 := Aside0.mk (Kd.R_below (re_ HO_13.out) hb); replace HO_717000 := Aside0.mk (Kd.R_below (re_ HO_717000.out) hb); replace BK714 := bk_ BK714 hb; replace BK716 := bk_ BK716 hb; replace HB := bp_ HB hb; (try clear hb); have hcz43_0 := cz_ BK716; have hfz43_0 := blk_frozen BK716.out 0; have hcz44_0 := cz_ BK714; have hfz44_0 := blk_frozen BK714.out 0))
       refine bodyPost_ret (results_ct rfl _ _ gb714 26 #[.slice Ao41 x717000_1.length co41] (0, 0) _ rfl (by (with_reducible repeat (first | refine blk_drewN ?_ _ | refine blk_drew ?_ | refine blk_alloc ?_ _)); refine blk_put (cs := #[.slice none 0 0]) ?_ 0 _ rfl; (with_reducible repeat (first | refine blk_drewN ?_ _ | refine blk_drew ?_ | refine blk_alloc ?_ _)); exact BK714.out) Try.underlying26 rfl (by kernel_rfl)) rfl ?_
       exact ⟨_, rf_, by (with_reducible repeat (first | apply Kd.R_alloc | apply Kd.R_drewN | apply Kd.R_drew)); exact Kd.R_mono (Kd.R_far (p := ⟨gb714, 0, none⟩) (Kd.R_types HO_717000.out BK714.out (by decide)) (fun _ hk => hk.2) (.slice Ao41 x717000_1.length co41)) (fun _ hk => trivial), bq_ HB⟩
     replace c38 := Bool.eq_false_iff.mpr c38
     subst c38
     rw [if_neg (show ¬ (false = true) by decide)] at H
     simp only [Option.some.injEq, Prod.mk.injEq] at H
     obtain ⟨rfl, rfl⟩ := H
     have hnb45 := NB716_714.out
     have hnc45 := NB714_716.out
     have hcz46_0 := cz_ BK716
     have hfz46_0 := blk_frozen BK716.out 0
     obtain ⟨Ao47, co47, eo47⟩ := Kd.R_slice HO_717000.out
     subst eo47
     go_wp2_with (first | ((with_reducible refine gate_callee (f := 53) rfl ?_); refine gL_ (some 38) Try.func53 #[.agg #[.slice Ao47 x717000_1.length co47]] ?_; (with_reducible refine (impl_IsSemigroup.calls k1 _ _ x717000_1 false _ ?side1 ?side2 A37.out).mono ?_); (case side1 => exact ce_ ((Kd.R_reads' HO_717000.out).2.2)); (case side2 => exact (Kd.R_reads' HO_717000.out).2.1); rintro e w48 ⟨rfl, hb⟩; refine ⟨_, rfl, ?_⟩; replace HO_13 := Aside0.mk (Kd.R_below (re_ HO_13.out) hb); replace HO_717000 := Aside0.mk (Kd.R_below (re_ HO_717000.out) hb); replace BK714 := bk_ BK714 hb; replace BK716 := bk_ BK716 hb; replace HB := bp_ HB hb; (try clear hb); have hcz49_0 := cz_ BK714; have hfz49_0 := blk_frozen BK714.out 0))
     refine bodyPost_ret (results_ct rfl _ _ gb714 26 #[.slice none 0 0] (0, 0) _ rfl (by (with_reducible repeat (first | refine blk_drewN ?_ _ | refine blk_drew ?_ | refine blk_alloc ?_ _)); refine blk_put (cs := #[.slice none 0 0]) ?_ 0 _ rfl; (with_reducible repeat (first | refine blk_drewN ?_ _ | refine blk_drew ?_ | refine blk_alloc ?_ _)); exact BK714.out) Try.underlying26 rfl (by kernel_rfl)) rfl ?_
     exact ⟨_, rf_, by first | exact Kd.R_nil _ _ _ _ _ | exact Kd.N_nil _ _ _ _ _ | exact Kd.V_nil _ _ _ _ _ | exact Kd.Q_nil _ _ _ _ _ | exact Kd.S_nil _ _ _ _ _, bq_ HB⟩
   rw [if_pos c11] at H
   have c11b0 : decide (x15_1 < (t717.length : Int)) = true := decide_eq_true c11
   clear c11
   by_cases c12 : 0 ≤ x15_1
   rotate_left
   · rw [if_neg c12] at H
     cases H
   rw [if_pos c12] at H
   have c12b0 : decide (0 ≤ x15_1) = true := decide_eq_true c12
   clear c12
   by_cases c13 : x15_1 < (t717.length : Int)
   rotate_left
   · rw [if_neg c13] at H
     cases H
   rw [if_pos c13] at H
   have c13b0 : decide (x15_1 < (t717.length : Int)) = true := decide_eq_true c13
   clear c13
   by_cases c14 : (x717000_1.length : Int) = 0
   · rw [if_pos c14] at H
     have c14b0 : ((x717000_1.length : Int) == 0) = true := beq_iff_eq.mpr c14
     have c14b1 : ((x717000_1.length : Int) != 0) = false := bne_eq_false_iff_eq.mpr c14
     clear c14
     by_cases c15 : x717000_1.length < 17592186044416
     rotate_left
     · rw [if_neg c15] at H
       cases H
     rw [if_pos c15] at H
     have LMc15 := Aside0.mk c15
     clear c15
     obtain ⟨y721, hy721⟩ : ∃ y_ : List Int, y_ = (x717000_1 ++ [rd t717 x15_1]) := ⟨_, rfl⟩
     replace H : (impl_FromGens.l0 k1 t717 (t717.length : Int) (wrap64 (x15_1 + 1)) y721) = some (r1, r2) := by subst hy721; exact H
     have Ny721 := Aside0.mk hy721
     clear hy721
     have H' := Aside0.mk H
     clear H
     have p720 : 0 ≤ (x15_1 : Int) := od_
     have q720 : x15_1 < (t717.length : Int) := od_
     obtain ⟨ad720, e720, hx720_0⟩ := Kd.at_int (Kd.R_reads' HO_13.out).2.2 x15_1 p720 q720
     cases e720
     replace p720 := eq_true p720
     replace q720 := eq_true q720
     have hnb16 := NB716_714.out
     have hnc16 := NB714_716.out
     have hcz17_0 := cz_ BK716
     have hfz17_0 := blk_frozen BK716.out 0
     obtain ⟨Ao18, co18, eo18⟩ := Kd.R_slice HO_717000.out
     subst eo18
     go_wp2_with (first | ((with_reducible refine gate_builtin (b := .append) (xs := #[.tmp 31, .tmp 33]) rfl ?_); at_builtin; refine Kd.R_append (Kd.int .i64) (w0 := w) w.heap.size rfl (.tmp 31) (.tmp 33) 24 3 (.int .i64 0) 8 rfl Try.underlying24 info3 rfl (by decide) (by omega) (.slice Ao18 x717000_1.length co18) x717000_1 (rd t717 x15_1) [.int .i64 (rd t717 x15_1)] (fun k_ => some k_ ≠ (.slice (some ad720) t717.length co10 : Value).ownBlock) (fun _ => False) rfl rfl ?aP (fun _ hk => hk.elim) ?aF ?aO ?aB ?aS ?aL ?_; (case aP => exact rfl); (case aB => exact (bq_ HB)); (case aF => exact (fun k_ hk => Kd.fresh' (Kd.R_lt (re_ HO_13.out)) k_ hk)); (case aO => exact (re_ HO_717000.out)); (case aS => exact (below_size (bq_ HB))); (case aL => have := LMc15.out; omega); intro v722 w19 ho hb hg hat; rw [← Ny721.out] at ho; replace HO_13 := Aside0.mk (Kd.R_after (ok := (fun _ => True)) (by (with_reducible repeat (first | apply Kd.R_alloc | apply Kd.R_drewN | apply Kd.R_drew)); exact Kd.R_mono HO_13.out (fun _ hk => ⟨trivial, hk⟩)) hg hat); replace BK714 := Aside0.mk (blk_grown (be_ BK714.out) hg (Kd.R_ne HO_717000.out BK714.out (by decide))); replace BK716 := Aside0.mk (blk_grown (be_ BK716.out) hg (Kd.R_ne HO_717000.out BK716.out (by decide))); replace HB := Aside0.mk (hb); have HO723 := Aside0.mk (ho); clear HO_717000; clear ho hb hg hat; obtain ⟨Ao20, co20, eo20⟩ := Kd.R_slice HO723.out; subst eo20; have hcz21_0 := cz_ BK716; have hfz21_0 := blk_frozen BK716.out 0))
     go_roundg k1
     case measure => have := HK1.out; omega
     case rel => exact ⟨(wrap64 (x15_1 + 1)), (y721), (.slice Ao20 y721.length co20), rs_, H', ⟨by have := HK1.out; omega⟩, ⟨by (with_reducible repeat (first | apply Kd.R_alloc | apply Kd.R_drewN | apply Kd.R_drew)); exact Kd.R_mono (Kd.R_far (p := ⟨gb716, 0, none⟩) (Kd.R_types HO_13.out BK716.out (by decide)) (fun _ hk => hk.2) (.slice Ao20 y721.length co20)) (fun _ hk => hk.1.2)⟩, ⟨by (with_reducible repeat (first | apply Kd.R_alloc | apply Kd.R_drewN | apply Kd.R_drew)); exact Kd.R_mono (Kd.R_far (p := ⟨gb716, 0, none⟩) (Kd.R_types HO723.out BK716.out (by decide)) (fun _ hk => hk.2) (.slice Ao20 y721.length co20)) (fun _ hk => hk.1)⟩, ⟨by (with_reducible repeat (first | refine blk_drewN ?_ _ | refine blk_drew ?_ | refine blk_alloc ?_ _)); refine blk_far ?_ NB714_716.out _; (with_reducible repeat (first | refine blk_drewN ?_ _ | refine blk_drew ?_ | refine blk_alloc ?_ _)); exact BK714.out⟩, ⟨by (with_reducible repeat (first | refine blk_drewN ?_ _ | refine blk_drew ?_ | refine blk_alloc ?_ _)); refine blk_put (cs := #[.slice Ao18 x717000_1.length co18]) ?_ 0 _ rfl; (with_reducible repeat (first | refine blk_drewN ?_ _ | refine blk_drew ?_ | refine blk_alloc ?_ _)); exact BK716.out⟩, ⟨bq_ HB⟩⟩
   rw [if_neg c14] at H
   have c14b0 : ((x717000_1.length : Int) == 0) = false := beq_eq_false_iff_ne.mpr c14
   have c14b1 : ((x717000_1.length : Int) != 0) = true := bne_iff_ne.mpr c14
   have c14b2 : ¬ (x717000_1 = []) := fun h_ => c14 (by rw [h_]; rfl)
   obtain ⟨t724, A22, H⟩ := ob_ H
   by_cases c23 : t724 = true
   · subst c23
     rw [if_pos rfl] at H
     have H' := Aside0.mk H
     clear H
     have p720 : 0 ≤ (x15_1 : Int) := od_
     have q720 : x15_1 < (t717.length : Int) := od_
     obtain ⟨ad720, e720, hx720_0⟩ := Kd.at_int (Kd.R_reads' HO_13.out).2.2 x15_1 p720 q720
     cases e720
     replace p720 := eq_true p720
     replace q720 := eq_true q720
     have hnb24 := NB716_714.out
     have hnc24 := NB714_716.out
     have hcz25_0 := cz_ BK716
     have hfz25_0 := blk_frozen BK716.out 0
     obtain ⟨Ao26, co26, eo26⟩ := Kd.R_slice HO_717000.out
     subst eo26
     go_wp2_with (first | (go_at_call 35; (with_reducible refine (impl_Generates.calls k1 _ _ x717000_1 (rd t717 x15_1) true _ ?side1 ?side2 A22.out).mono ?_); (case side1 => exact ce_ ((Kd.R_reads' HO_717000.out).2.2)); (case side2 => exact (Kd.R_reads' HO_717000.out).2.1); rintro e w27 ⟨rfl, hb⟩; replace HO_13 := Aside0.mk (Kd.R_below (re_ HO_13.out) hb); replace HO_717000 := Aside0.mk (Kd.R_below (re_ HO_717000.out) hb); replace BK714 := bk_ BK714 hb; replace BK716 := bk_ BK716 hb; replace HB := bp_ HB hb; (try clear hb)))
     go_roundg k1
     case measure => have := HK1.out; omega
     case rel => exact ⟨(wrap64 (x15_1 + 1)), (x717000_1), (.slice Ao26 x717000_1.length co26), rs_, H', ⟨by have := HK1.out; omega⟩, ⟨re_ HO_13.out⟩, ⟨re_ HO_717000.out⟩, ⟨be_ BK714.out⟩, ⟨be_ BK716.out⟩, ⟨bq_ HB⟩⟩
   replace c23 := Bool.eq_false_iff.mpr c23
   subst c23
   rw [if_neg (show ¬ (false = true) by decide)] at H
   by_cases c28 : x717000_1.length < 17592186044416
   rotate_left
   · rw [if_neg c28] at H
     cases H
   rw [if_pos c28] at H
   have LMc28 := Aside0.mk c28
   clear c28
   obtain ⟨y725, hy725⟩ : ∃ y_ : List Int, y_ = (x717000_1 ++ [rd t717 x15_1]) := ⟨_, rfl⟩
   replace H : (impl_FromGens.l0 k1 t717 (t717.length : Int) (wrap64 (x15_1 + 1)) y725) = some (r1, r2) := by subst hy725; exact H
   have Ny725 := Aside0.mk hy725
   clear hy725
   have H' := Aside0.mk H
   clear H
   have p720 : 0 ≤ (x15_1 : Int) := od_
   have q720 : x15_1 < (t717.length : Int) := od_
   obtain ⟨ad720, e720, hx720_0⟩ := Kd.at_int (Kd.R_reads' HO_13.out).2.2 x15_1 p720 q720
   cases e720
   replace p720 := eq_true p720
   replace q720 := eq_true q720
   have hnb29 := NB716_714.out
   have hnc29 := NB714_716.out
   have hcz30_0 := cz_ BK716
   have hfz30_0 := blk_frozen BK716.out 0
   obtain ⟨Ao31, co31, eo31⟩ := Kd.R_slice HO_717000.out
   subst eo31
   go_wp2_with (first | (go_at_call 35; (with_reducible refine (impl_Generates.calls k1 _ _ x717000_1 (rd t717 x15_1) false _ ?side1 ?side2 A22.out).mono ?_); (case side1 => exact ce_ ((Kd.R_reads' HO_717000.out).2.2)); (case side2 => exact (Kd.R_reads' HO_717000.out).2.1); rintro e w32 ⟨rfl, hb⟩; replace HO_13 := Aside0.mk (Kd.R_below (re_ HO_13.out) hb); replace HO_717000 := Aside0.mk (Kd.R_below (re_ HO_717000.out) hb); replace BK714 := bk_ BK714 hb; replace BK716 := bk_ BK716 hb; replace HB := bp_ HB hb; (try clear hb); have hcz33_0 := cz_ BK716; have hfz33_0 := blk_frozen BK716.out 0) | ((with_reducible refine gate_builtin (b := .append) (xs := #[.tmp 31, .tmp 33]) rfl ?_); at_builtin; refine Kd.R_append (Kd.int .i64) (w0 := w) w.heap.size rfl (.tmp 31) (.tmp 33) 24 3 (.int .i64 0) 8 rfl Try.underlying24 info3 rfl (by decide) (by omega) (.slice Ao31 x717000_1.length co31) x717000_1 (rd t717 x15_1) [.int .i64 (rd t717 x15_1)] (fun k_ => some k_ ≠ (.slice (some ad720) t717.length co10 : Value).ownBlock) (fun _ => False) rfl rfl ?aP (fun _ hk => hk.elim) ?aF ?aO ?aB ?aS ?aL ?_; (case aP => exact rfl); (case aB => exact (bq_ HB)); (case aF => exact (fun k_ hk => Kd.fresh' (Kd.R_lt (re_ HO_13.out)) k_ hk)); (case aO => exact (re_ HO_717000.out)); (case aS => exact (below_size (bq_ HB))); (case aL => have := LMc28.out; omega); intro v726 w34 ho hb hg hat; rw [← Ny725.out] at ho; replace HO_13 := Aside0.mk (Kd.R_after (ok := (fun _ => True)) (by (with_reducible repeat (first | apply Kd.R_alloc | apply Kd.R_drewN | apply Kd.R_drew)); exact Kd.R_mono HO_13.out (fun _ hk => ⟨trivial, hk⟩)) hg hat); replace BK714 := Aside0.mk (blk_grown (be_ BK714.out) hg (Kd.R_ne HO_717000.out BK714.out (by decide))); replace BK716 := Aside0.mk (blk_grown (be_ BK716.out) hg (Kd.R_ne HO_717000.out BK716.out (by decide))); replace HB := Aside0.mk (hb); have HO727 := Aside0.mk (ho); clear HO_717000; clear ho hb hg hat; obtain ⟨Ao35, co35, eo35⟩ := Kd.R_slice HO727.out; subst eo35; have hcz36_0 := cz_ BK716; have hfz36_0 := blk_frozen BK716.out 0))
   go_roundg k1
   case measure => have := HK1.out; omega
   case rel => exact ⟨(wrap64 (x15_1 + 1)), (y725), (.slice Ao35 y725.length co35), rs_, H', ⟨by have := HK1.out; omega⟩, ⟨by (with_reducible repeat (first | apply Kd.R_alloc | apply Kd.R_drewN | apply Kd.R_drew)); exact Kd.R_mono (Kd.R_far (p := ⟨gb716, 0, none⟩) (Kd.R_types HO_13.out BK716.out (by decide)) (fun _ hk => hk.2) (.slice Ao35 y725.length co35)) (fun _ hk => hk.1.2)⟩, ⟨by (with_reducible repeat (first | apply Kd.R_alloc | apply Kd.R_drewN | apply Kd.R_drew)); exact Kd.R_mono (Kd.R_far (p := ⟨gb716, 0, none⟩) (Kd.R_types HO727.out BK716.out (by decide)) (fun _ hk => hk.2) (.slice Ao35 y725.length co35)) (fun _ hk => hk.1)⟩, ⟨by (with_reducible repeat (first | refine blk_drewN ?_ _ | refine blk_drew ?_ | refine blk_alloc ?_ _)); refine blk_far ?_ NB714_716.out _; (with_reducible repeat (first | refine blk_drewN ?_ _ | refine blk_drew ?_ | refine blk_alloc ?_ _)); exact BK714.out⟩, ⟨by (with_reducible repeat (first | refine blk_drewN ?_ _ | refine blk_drew ?_ | refine blk_alloc ?_ _)); refine blk_put (cs := #[.slice Ao31 x717000_1.length co31]) ?_ 0 _ rfl; (with_reducible repeat (first | refine blk_drewN ?_ _ | refine blk_drew ?_ | refine blk_alloc ?_ _)); exact BK716.out⟩, ⟨bq_ HB⟩⟩
mutual
def impl_GlueOf.j0 : Nat → Int → Int → Bool → List Int → List Int → Option (List Int × Bool)
 | 0, _, _, _, _, _ => none
 | k + 1, x2, x3, x36, x730000, x731000 => if x36 = true then (some (([] : List Int), false)) else ((impl_within.f x2 1 60).bind fun t736 => (if t736 = true then ((impl_within.f x3 1 60).bind fun t737 => (if t737 = true then ((impl_GcdOf.f k x2 x3).bind fun t738 => (impl_GlueOf.j1 k x2 x3 (t738 != 1) x730000 x731000)) else (impl_GlueOf.j1 k x2 x3 true x730000 x731000))) else (impl_GlueOf.j1 k x2 x3 true x730000 x731000)))
def impl_GlueOf.j1 : Nat → Int → Int → Bool → List Int → List Int → Option (List Int × Bool)
 | 0, _, _, _, _, _ => none
 | k + 1, x2, x3, x51, x730000, x731000 => if x51 = true then (some (([] : List Int), false)) else (impl_GlueOf.l0 k x2 x3 (([] : List Int)) x730000 (x730000.length : Int) 0 x731000)
def impl_GlueOf.l0 : Nat → Int → Int → List Int → List Int → Int → Int → List Int → Option (List Int × Bool)
 | 0, _, _, _, _, _, _, _ => none
 | k + 1, x2, x3, x10, x55, x56, x57, x731000 => if x57 < x56 then (if 0 ≤ x57 then (if x57 < (x55.length : Int) then (if x10.length < 17592186044416 then (impl_GlueOf.l0 k x2 x3 (x10 ++ [wrap64 (x2 * (rd x55 x57))]) x55 x56 (wrap64 (x57 + 1)) x731000) else (none)) else (none)) else (none)) else (impl_GlueOf.l1 k x3 x10 x731000 (x731000.length : Int) 0)
def impl_GlueOf.l1 : Nat → Int → List Int → List Int → Int → Int → Option (List Int × Bool)
 | 0, _, _, _, _, _ => none
 | k + 1, x3, x10, x69, x70, x71 => if x71 < x70 then (if 0 ≤ x71 then (if x71 < (x69.length : Int) then (if x10.length < 17592186044416 then (impl_GlueOf.l1 k x3 (x10 ++ [wrap64 (x3 * (rd x69 x71))]) x69 x70 (wrap64 (x71 + 1))) else (none)) else (none)) else (none)) else ((impl_FromGens.f k x10).bind fun bt750 => (some (bt750.1, bt750.2)))
end
def impl_GlueOf.f (k : Nat) (l0_0 : List Int) (l1_0 : List Int) (a2 : Int) (a3 : Int) : Option (List Int × Bool) := (impl_Contains.f k l1_0 a2).bind fun t732 => (if t732 = true then ((slices_Contains_int_int.f k l1_0 a2).bind fun t733 => (if t733 = true then (impl_GlueOf.j0 k a2 a3 true l0_0 l1_0) else ((impl_Contains.f k l0_0 a3).bind fun t734 => (if t734 = true then ((slices_Contains_int_int.f k l0_0 a3).bind fun t735 => (impl_GlueOf.j0 k a2 a3 t735 l0_0 l1_0)) else (impl_GlueOf.j0 k a2 a3 true l0_0 l1_0))))) else (impl_GlueOf.j0 k a2 a3 true l0_0 l1_0))
theorem impl_GlueOf.calls (k : Nat) (A0_0 : Option Addr) (c0_0 : Nat) (l0_0 : List Int) (A1_0 : Option Addr) (c1_0 : Nat) (l1_0 : List Int) (a2 : Int) (a3 : Int) (r1 : List Int) (r2 : Bool) (w : World) (hr0_0 : Kd.C (Kd.int .i64) w A0_0 l0_0.length l0_0) (hc0_0 : l0_0.length ≤ c0_0) (hr1_0 : Kd.C (Kd.int .i64) w A1_0 l1_0.length l1_0) (hc1_0 : l1_0.length ≤ c1_0) (h : impl_GlueOf.f k l0_0 l1_0 a2 a3 = some (r1, r2)) :
 Calls Try.prog 6 #[.agg #[.slice A0_0 l0_0.length c0_0], .agg #[.slice A1_0 l1_0.length c1_0], .int .i64 a2, .int .i64 a3] w fun e w' => ∃ v0_ : Value, e = .returned (.tuple #[.agg #[v0_], .bool r2]) ∧ Kd.R (Kd.int .i64) 3 w' w.heap.size (fun _ => True) v0_ r1 ∧ Below w.heap.size w w' := by
 have hu26 := Try.underlying26
 have HR0_0 := Aside0.mk hr0_0
 have HC0_0 := Aside0.mk hc0_0
 clear hr0_0 hc0_0
 have HR1_0 := Aside0.mk hr1_0
 have HC1_0 := Aside0.mk hc1_0
 clear hr1_0 hc1_0
 have HB := Aside0.mk (Below.refl w.heap.size w)
 have H := h
 clear h
 unfold impl_GlueOf.f at H
 have HC5 := Aside0.mk H
 clear H
 go_enter Try.func6, Try.ntmps6
 go_upto_region 1 with (first | ((with_reducible refine gate_dst (N := 4) rfl ?_); refine bx_ 4 #[.slice A0_0 l0_0.length c0_0] 26 ?_; intro gb729 hg w6 hbox hb; have BK729 := Aside0.mk (hbox); have GW729 := gw_ hg HB; have GE729 := gw_ hg HB; replace HB := bo_ HB hb; clear hb hbox hg) | ((with_reducible refine gate_dst (N := 5) rfl ?_); refine bx_ 5 #[.slice A1_0 l1_0.length c1_0] 26 ?_; intro gb730 hg w7 hbox hb; have BK730 := Aside0.mk (hbox); have GW730 := gq_ hg (bq_ HB); have GE730 := gq_ hg (bq_ HB); replace HB := bp_ HB hb; have NB729_730 := nl_ hg BK729; have NB730_729 := ng_ hg BK729; replace BK729 := bk_ BK729 hb; clear hb hbox hg) | ((with_reducible refine gate_dst (N := 8) rfl ?_); refine bx_ 8 #[.slice none 0 0] 26 ?_; intro gb731 hg w8 hbox hb; have BK731 := Aside0.mk (hbox); have GW731 := gq_ hg (bq_ HB); have GE731 := gq_ hg (bq_ HB); replace HB := bp_ HB hb; have NB729_731 := nl_ hg BK729; have NB731_729 := ng_ hg BK729; replace BK729 := bk_ BK729 hb; have NB730_731 := nl_ hg BK730; have NB731_730 := ng_ hg BK730; replace BK730 := bk_ BK730 hb; clear hb hbox hg))
 (try simp only [Act.put, z1_, z2_, z3_])
 go_cut [36] (fun v36 wc => ∃ (kq : Nat) (x36_4 : Bool), v36 = .bool x36_4 ∧ Aside0 (impl_GlueOf.j0 kq a2 a3 x36_4 l0_0 l1_0 = some (r1, r2)) ∧ Aside0 (kq ≤ k) ∧ Aside0 (wc.heap[gb729]? = some (.cells #[(.slice A0_0 l0_0.length c0_0)] 26 (0, 0))) ∧ Aside0 (wc.heap[gb730]? = some (.cells #[(.slice A1_0 l1_0.length c1_0)] 26 (0, 0))) ∧ Aside0 (wc.heap[gb731]? = some (.cells #[(.slice none 0 0)] 26 (0, 0))) ∧ Aside0 (Below w.heap.size w wc))
 case first =>
  have H := HC5.out
  clear HC5
  obtain ⟨t732, A9, H⟩ := ob_ H
  by_cases c10 : t732 = true
  rotate_left
  · replace c10 := Bool.eq_false_iff.mpr c10
    subst c10
    rw [if_neg (show ¬ (false = true) by decide)] at H
    have H' := Aside0.mk H
    clear H
    have hnb38 := NB730_729.out
    have hnc38 := NB729_730.out
    have hnb39 := NB730_731.out
    have hnc39 := NB731_730.out
    have hcz40_0 := cz_ BK730
    have hfz40_0 := blk_frozen BK730.out 0
    go_wp2_with (first | ((with_reducible refine gate_callee (f := 20) rfl ?_); refine gL_ (some 17) Try.func20 #[.agg #[.slice A1_0 l1_0.length c1_0], .int .i64 a2] ?_; (with_reducible refine (impl_Contains.calls k _ _ l1_0 a2 false _ ?side1 ?side2 A9.out).mono ?_); (case side1 => exact ch_ HR1_0 HB); (case side2 => exact HC1_0.out); rintro e w41 ⟨rfl, hb⟩; refine ⟨_, rfl, ?_⟩; replace BK729 := bk_ BK729 hb; replace BK730 := bk_ BK730 hb; replace BK731 := bk_ BK731 hb; replace HB := bp_ HB hb; (try clear hb)))
    go_meet
    case rel => exact ⟨_, (true), rs_, H', ⟨by first | omega | exact Nat.le_refl _⟩, ⟨be_ BK729.out⟩, ⟨be_ BK730.out⟩, ⟨be_ BK731.out⟩, ⟨bq_ HB⟩⟩
  subst c10
  rw [if_pos rfl] at H
  obtain ⟨t733, A11, H⟩ := ob_ H
  by_cases c12 : t733 = true
  · subst c12
    rw [if_pos rfl] at H
    have H' := Aside0.mk H
    clear H
    have hnb13 := NB730_729.out
    have hnc13 := NB729_730.out
    have hnb14 := NB730_731.out
    have hnc14 := NB731_730.out
    have hcz15_0 := cz_ BK730
    have hfz15_0 := blk_frozen BK730.out 0
    go_wp2_with (first | ((with_reducible refine gate_callee (f := 20) rfl ?_); refine gL_ (some 17) Try.func20 #[.agg #[.slice A1_0 l1_0.length c1_0], .int .i64 a2] ?_; (with_reducible refine (impl_Contains.calls k _ _ l1_0 a2 true _ ?side1 ?side2 A9.out).mono ?_); (case side1 => exact ch_ HR1_0 HB); (case side2 => exact HC1_0.out); rintro e w16 ⟨rfl, hb⟩; refine ⟨_, rfl, ?_⟩; replace BK729 := bk_ BK729 hb; replace BK730 := bk_ BK730 hb; replace BK731 := bk_ BK731 hb; replace HB := bp_ HB hb; (try clear hb); have hcz17_0 := cz_ BK730; have hfz17_0 := blk_frozen BK730.out 0) | (go_at_call 21; (with_reducible refine (slices_Contains_int_int.calls k _ _ l1_0 a2 true _ ?side1 ?side2 A11.out).mono ?_); (case side1 => exact ch_ HR1_0 HB); (case side2 => exact HC1_0.out); rintro e w' ⟨rfl, ⟨nd, rfl⟩⟩))
    go_meet
    case rel => exact ⟨_, (true), rs_, H', ⟨by first | omega | exact Nat.le_refl _⟩, ⟨be_ BK729.out⟩, ⟨be_ BK730.out⟩, ⟨be_ BK731.out⟩, ⟨bq_ HB⟩⟩
  replace c12 := Bool.eq_false_iff.mpr c12
  subst c12
  rw [if_neg (show ¬ (false = true) by decide)] at H
  obtain ⟨t734, A18, H⟩ := ob_ H
  by_cases c19 : t734 = true
  rotate_left
  · replace c19 := Bool.eq_false_iff.mpr c19
    subst c19
    rw [if_neg (show ¬ (false = true) by decide)] at H
    have H' := Aside0.mk H
    clear H
    have hnb30 := NB730_729.out
    have hnc30 := NB729_730.out
    have hnb31 := NB730_731.out
    have hnc31 := NB731_730.out
    have hcz32_0 := cz_ BK730
    have hfz32_0 := blk_frozen BK730.out 0
    go_wp2_with (first | ((with_reducible refine gate_callee (f := 20) rfl ?_); refine gL_ (some 17) Try.func20 #[.agg #[.slice A1_0 l1_0.length c1_0], .int .i64 a2] ?_; (with_reducible refine (impl_Contains.calls k _ _ l1_0 a2 true _ ?side1 ?side2 A9.out).mono ?_); (case side1 => exact ch_ HR1_0 HB); (case side2 => exact HC1_0.out); rintro e w33 ⟨rfl, hb⟩; refine ⟨_, rfl, ?_⟩; replace BK729 := bk_ BK729 hb; replace BK730 := bk_ BK730 hb; replace BK731 := bk_ BK731 hb; replace HB := bp_ HB hb; (try clear hb); have hcz34_0 := cz_ BK730; have hfz34_0 := blk_frozen BK730.out 0) | (go_at_call 21; (with_reducible refine (slices_Contains_int_int.calls k _ _ l1_0 a2 false _ ?side1 ?side2 A11.out).mono ?_); (case side1 => exact ch_ HR1_0 HB); (case side2 => exact HC1_0.out); rintro e w' ⟨rfl, ⟨nd, rfl⟩⟩; have hnb35 := NB729_731.out; have hnc35 := NB731_729.out; have hcz36_0 := cz_ BK729; have hfz36_0 := blk_frozen BK729.out 0) | (go_at_call 20; (with_reducible refine (impl_Contains.calls k _ _ l0_0 a3 false _ ?side1 ?side2 A18.out).mono ?_); (case side1 => repeat (first | exact (Kd.C_below HR0_0.out (bq_ HB)) | (with_reducible refine Kd.C_alloc ?_ _) | (with_reducible refine Kd.C_drewN ?_ _) | (with_reducible refine Kd.C_drew ?_))); (case side2 => exact HC0_0.out); rintro e w37 ⟨rfl, hb⟩; replace BK729 := bk_ BK729 hb; replace BK730 := bk_ BK730 hb; replace BK731 := bk_ BK731 hb; replace HB := bp_ HB hb; (try clear hb)))
    go_meet
    case rel => exact ⟨_, (true), rs_, H', ⟨by first | omega | exact Nat.le_refl _⟩, ⟨be_ BK729.out⟩, ⟨be_ BK730.out⟩, ⟨be_ BK731.out⟩, ⟨bq_ HB⟩⟩
  subst c19
  rw [if_pos rfl] at H
  obtain ⟨t735, A20, H⟩ := ob_ H
  have H' := Aside0.mk H
  clear H
  have hnb21 := NB730_729.out
  have hnc21 := NB729_730.out
  have hnb22 := NB730_731.out
  have hnc22 := NB731_730.out
  have hcz23_0 := cz_ BK730
  have hfz23_0 := blk_frozen BK730.out 0
  go_wp2_with (first | ((with_reducible refine gate_callee (f := 20) rfl ?_); refine gL_ (some 17) Try.func20 #[.agg #[.slice A1_0 l1_0.length c1_0], .int .i64 a2] ?_; (with_reducible refine (impl_Contains.calls k _ _ l1_0 a2 true _ ?side1 ?side2 A9.out).mono ?_); (case side1 => exact ch_ HR1_0 HB); (case side2 => exact HC1_0.out); rintro e w24 ⟨rfl, hb⟩; refine ⟨_, rfl, ?_⟩; replace BK729 := bk_ BK729 hb; replace BK730 := bk_ BK730 hb; replace BK731 := bk_ BK731 hb; replace HB := bp_ HB hb; (try clear hb); have hcz25_0 := cz_ BK730; have hfz25_0 := blk_frozen BK730.out 0) | (go_at_call 21; (with_reducible refine (slices_Contains_int_int.calls k _ _ l1_0 a2 false _ ?side1 ?side2 A11.out).mono ?_); (case side1 => exact ch_ HR1_0 HB); (case side2 => exact HC1_0.out); rintro e w' ⟨rfl, ⟨nd, rfl⟩⟩; have hnb26 := NB729_731.out; have hnc26 := NB731_729.out; have hcz27_0 := cz_ BK729; have hfz27_0 := blk_frozen BK729.out 0) | (go_at_call 20; (with_reducible refine (impl_Contains.calls k _ _ l0_0 a3 true _ ?side1 ?side2 A18.out).mono ?_); (case side1 => repeat (first | exact (Kd.C_below HR0_0.out (bq_ HB)) | (with_reducible refine Kd.C_alloc ?_ _) | (with_reducible refine Kd.C_drewN ?_ _) | (with_reducible refine Kd.C_drew ?_))); (case side2 => exact HC0_0.out); rintro e w28 ⟨rfl, hb⟩; replace BK729 := bk_ BK729 hb; replace BK730 := bk_ BK730 hb; replace BK731 := bk_ BK731 hb; replace HB := bp_ HB hb; (try clear hb); have hcz29_0 := cz_ BK729; have hfz29_0 := blk_frozen BK729.out 0) | (go_at_call 21; (with_reducible refine (slices_Contains_int_int.calls k _ _ l0_0 a3 t735 _ ?side1 ?side2 A20.out).mono ?_); (case side1 => exact ch_ HR0_0 HB); (case side2 => exact HC0_0.out); rintro e w' ⟨rfl, ⟨nd, rfl⟩⟩))
  go_meet
  case rel => exact ⟨_, (t735), rs_, H', ⟨by first | omega | exact Nat.le_refl _⟩, ⟨be_ BK729.out⟩, ⟨be_ BK730.out⟩, ⟨be_ BK731.out⟩, ⟨bq_ HB⟩⟩
 case rest =>
  clear HC5
  try clear c1
  try clear c2
  try clear p2
  try clear c3
  try clear c6
  try clear c10
  try clear c12
  try clear c13
  try clear c14
  try clear c19
  try clear c20
  try clear c21
  try clear c22
  try clear c26
  try clear c30
  try clear c31
  try clear c35
  try clear c38
  try clear c39
  try clear hcz15_0
  try clear hcz17_0
  try clear hcz23_0
  try clear hcz25_0
  try clear hcz27_0
  try clear hcz29_0
  try clear hcz32_0
  try clear hcz34_0
  try clear hcz36_0
  try clear hcz40_0
  try clear hfz15_0
  try clear hfz17_0
  try clear hfz23_0
  try clear hfz25_0
  try clear hfz27_0
  try clear hfz29_0
  try clear hfz32_0
  try clear hfz34_0
  try clear hfz36_0
  try clear hfz40_0
  obtain ⟨kq, x36_4, rfl, HA, HJ4, BK729, BK730, BK731, HB⟩ := hcut
  cases kq with
  | zero => exact absurd HA.out (by simp [impl_GlueOf.j0])
  | succ kj4 =>
   have H := HA.out
   clear HA
   simp only [impl_GlueOf.j0] at H
   by_cases c42 : x36_4 = true
   · subst c42
     rw [if_pos rfl] at H
     simp only [Option.some.injEq, Prod.mk.injEq] at H
     obtain ⟨rfl, rfl⟩ := H
     have hnb43 := NB731_729.out
     have hnc43 := NB729_731.out
     have hnb44 := NB731_730.out
     have hnc44 := NB730_731.out
     have hcz45_0 := cz_ BK731
     have hfz45_0 := blk_frozen BK731.out 0
     go_wp2
     refine bodyPost_ret (results_ct rfl _ _ gb731 26 #[.slice none 0 0] (0, 0) _ rfl (by (with_reducible repeat (first | refine blk_drewN ?_ _ | refine blk_drew ?_ | refine blk_alloc ?_ _)); refine blk_put (cs := #[.slice none 0 0]) ?_ 0 _ rfl; (with_reducible repeat (first | refine blk_drewN ?_ _ | refine blk_drew ?_ | refine blk_alloc ?_ _)); exact BK731.out) Try.underlying26 rfl (by kernel_rfl)) rfl ?_
     exact ⟨_, rf_, by first | exact Kd.R_nil _ _ _ _ _ | exact Kd.N_nil _ _ _ _ _ | exact Kd.V_nil _ _ _ _ _ | exact Kd.Q_nil _ _ _ _ _ | exact Kd.S_nil _ _ _ _ _, bq_ HB⟩
   replace c42 := Bool.eq_false_iff.mpr c42
   subst c42
   rw [if_neg (show ¬ (false = true) by decide)] at H
   have HC46 := Aside0.mk H
   clear H
   go_upto_region 3 with (fail)
   go_cut [51] (fun v51 wc => ∃ (kq : Nat) (x51_45 : Bool), v51 = .bool x51_45 ∧ Aside0 (impl_GlueOf.j1 kq a2 a3 x51_45 l0_0 l1_0 = some (r1, r2)) ∧ Aside0 (kq ≤ kj4) ∧ Aside0 (wc.heap[gb729]? = some (.cells #[(.slice A0_0 l0_0.length c0_0)] 26 (0, 0))) ∧ Aside0 (wc.heap[gb730]? = some (.cells #[(.slice A1_0 l1_0.length c1_0)] 26 (0, 0))) ∧ Aside0 (wc.heap[gb731]? = some (.cells #[(.slice none 0 0)] 26 (0, 0))) ∧ Aside0 (Below w.heap.size w wc))
   case first =>
    have H := HC46.out
    clear HC46
    obtain ⟨t736, A47, H⟩ := ob_ H
    by_cases c48 : t736 = true
    rotate_left
    · replace c48 := Bool.eq_false_iff.mpr c48
      subst c48
      rw [if_neg (show ¬ (false = true) by decide)] at H
      have H' := Aside0.mk H
      clear H
      go_wp2_with (first | ((with_reducible refine gate_callee (f := 22) rfl ?_); refine gL_ (some 39) Try.func22 #[.int .i64 a2, .int .i64 1, .int .i64 60] ?_; (with_reducible refine (impl_within.calls a2 1 60 false _ A47.out).mono ?_); rintro e w' ⟨rfl, ⟨nd, rfl⟩⟩; refine ⟨_, rfl, ?_⟩))
      go_meet
      case rel => exact ⟨_, (true), rs_, H', ⟨by have := HJ4.out; first | omega | exact Nat.le_refl _⟩, ⟨be_ BK729.out⟩, ⟨be_ BK730.out⟩, ⟨be_ BK731.out⟩, ⟨bq_ HB⟩⟩
    subst c48
    rw [if_pos rfl] at H
    obtain ⟨t737, A49, H⟩ := ob_ H
    by_cases c50 : t737 = true
    rotate_left
    · replace c50 := Bool.eq_false_iff.mpr c50
      subst c50
      rw [if_neg (show ¬ (false = true) by decide)] at H
      have H' := Aside0.mk H
      clear H
      go_wp2_with (first | ((with_reducible refine gate_callee (f := 22) rfl ?_); refine gL_ (some 39) Try.func22 #[.int .i64 a2, .int .i64 1, .int .i64 60] ?_; (with_reducible refine (impl_within.calls a2 1 60 true _ A47.out).mono ?_); rintro e w' ⟨rfl, ⟨nd, rfl⟩⟩; refine ⟨_, rfl, ?_⟩) | (go_at_call 22; (with_reducible refine (impl_within.calls a3 1 60 false _ A49.out).mono ?_); rintro e w' ⟨rfl, ⟨nd, rfl⟩⟩))
      go_meet
      case rel => exact ⟨_, (true), rs_, H', ⟨by have := HJ4.out; first | omega | exact Nat.le_refl _⟩, ⟨be_ BK729.out⟩, ⟨be_ BK730.out⟩, ⟨be_ BK731.out⟩, ⟨bq_ HB⟩⟩
    subst c50
    rw [if_pos rfl] at H
    obtain ⟨t738, A51, H⟩ := ob_ H
    have H' := Aside0.mk H
    clear H
    go_wp2_with (first | ((with_reducible refine gate_callee (f := 22) rfl ?_); refine gL_ (some 39) Try.func22 #[.int .i64 a2, .int .i64 1, .int .i64 60] ?_; (with_reducible refine (impl_within.calls a2 1 60 true _ A47.out).mono ?_); rintro e w' ⟨rfl, ⟨nd, rfl⟩⟩; refine ⟨_, rfl, ?_⟩) | (go_at_call 22; (with_reducible refine (impl_within.calls a3 1 60 true _ A49.out).mono ?_); rintro e w' ⟨rfl, ⟨nd, rfl⟩⟩) | (go_at_call 23; (with_reducible refine (impl_GcdOf.calls kj4 a2 a3 t738 _ A51.out).mono ?_); rintro e w52 ⟨rfl, hb⟩; replace BK729 := bk_ BK729 hb; replace BK730 := bk_ BK730 hb; replace BK731 := bk_ BK731 hb; replace HB := bp_ HB hb; (try clear hb)))
    go_meet
    case rel => exact ⟨_, ((t738 != 1)), rs_, H', ⟨by have := HJ4.out; first | omega | exact Nat.le_refl _⟩, ⟨be_ BK729.out⟩, ⟨be_ BK730.out⟩, ⟨be_ BK731.out⟩, ⟨bq_ HB⟩⟩
   case rest =>
    clear HC46
    try clear c1
    try clear c2
    try clear p2
    try clear c3
    try clear c4
    try clear c5
    try clear c6
    try clear c10
    try clear c12
    try clear c13
    try clear c14
    try clear c19
    try clear c20
    try clear c21
    try clear c22
    try clear c26
    try clear c30
    try clear c31
    try clear c35
    try clear c38
    try clear c39
    try clear c42
    try clear c43
    try clear c44
    try clear c48
    try clear c50
    try clear hcz15_0
    try clear hcz17_0
    try clear hcz23_0
    try clear hcz25_0
    try clear hcz27_0
    try clear hcz29_0
    try clear hcz32_0
    try clear hcz34_0
    try clear hcz36_0
    try clear hcz40_0
    try clear hcz45_0
    try clear hfz15_0
    try clear hfz17_0
    try clear hfz23_0
    try clear hfz25_0
    try clear hfz27_0
    try clear hfz29_0
    try clear hfz32_0
    try clear hfz34_0
    try clear hfz36_0
    try clear hfz40_0
    try clear hfz45_0
    try clear p2
    obtain ⟨kq, x51_45, rfl, HA, HJ45, BK729, BK730, BK731, HB⟩ := hcut
    cases kq with
    | zero => exact absurd HA.out (by simp [impl_GlueOf.j1])
    | succ kj45 =>
     have H := HA.out
     clear HA
     simp only [impl_GlueOf.j1] at H
     by_cases c53 : x51_45 = true
     · subst c53
       rw [if_pos rfl] at H
       simp only [Option.some.injEq, Prod.mk.injEq] at H
       obtain ⟨rfl, rfl⟩ := H
       have hnb54 := NB731_729.out
       have hnc54 := NB729_731.out
       have hnb55 := NB731_730.out
       have hnc55 := NB730_731.out
       have hcz56_0 := cz_ BK731
       have hfz56_0 := blk_frozen BK731.out 0
       go_wp2
       refine bodyPost_ret (results_ct rfl _ _ gb731 26 #[.slice none 0 0] (0, 0) _ rfl (by (with_reducible repeat (first | refine blk_drewN ?_ _ | refine blk_drew ?_ | refine blk_alloc ?_ _)); refine blk_put (cs := #[.slice none 0 0]) ?_ 0 _ rfl; (with_reducible repeat (first | refine blk_drewN ?_ _ | refine blk_drew ?_ | refine blk_alloc ?_ _)); exact BK731.out) Try.underlying26 rfl (by kernel_rfl)) rfl ?_
       exact ⟨_, rf_, by first | exact Kd.R_nil _ _ _ _ _ | exact Kd.N_nil _ _ _ _ _ | exact Kd.V_nil _ _ _ _ _ | exact Kd.Q_nil _ _ _ _ _ | exact Kd.S_nil _ _ _ _ _, bq_ HB⟩
     replace c53 := Bool.eq_false_iff.mpr c53
     subst c53
     rw [if_neg (show ¬ (false = true) by decide)] at H
     obtain ⟨y739, hy739⟩ : ∃ y_ : List Int, y_ = (([] : List Int)) := ⟨_, rfl⟩
     replace H : (impl_GlueOf.l0 kj45 a2 a3 y739 l0_0 (l0_0.length : Int) 0 l1_0) = some (r1, r2) := by subst hy739; exact H
     have Ny739 := Aside0.mk hy739
     clear hy739
     have H' := Aside0.mk H
     clear H
     go_wp2_with (first | ((with_reducible refine gate_dst (N := 53) rfl ?_); refine Kd.R_lit (Kd.int .i64) _ 3 ?hg (N := 53) ?hd (xs := ([] : List Int)) (inner := []) (ok := fun _ => True) (okp := fun _ => True) ?hr ?hp (fun _ hk => hk) trivial (Below.refl _ _) (Nat.le_refl _) (by simp) ?_; (case hd => rfl); (case hg => rfl); (case hr => first | (go_simp; done) | (go_simp; rfl)); (case hp => exact (Reps.none _ _)); intro v740 w57 ho58 hb hg_ hnew_; clear hg_ hnew_; (first | rw [← Ny739.out] at ho58 | (simp only [Int.reduceToNat] at ho58; rw [← Ny739.out] at ho58)); have HO741 := Aside0.mk (Kd.R_lower ho58 (below_size (bq_ HB))); replace BK729 := bk_ BK729 hb; replace BK730 := bk_ BK730 hb; replace BK731 := bk_ BK731 hb; replace HB := bp_ HB hb; clear hb ho58; have hnb59 := NB729_730.out; have hnc59 := NB730_729.out; have hnb60 := NB729_731.out; have hnc60 := NB731_729.out; have hcz61_0 := cz_ BK729; have hfz61_0 := blk_frozen BK729.out 0))
     go_loopg [10, 57] kj45 (fun kq v10 v57 w' => ∃ (x10_3 : List Int) (x57_3 : Int), v57 = .int .i64 x57_3 ∧ Aside0 (impl_GlueOf.l0 kq a2 a3 x10_3 l0_0 (l0_0.length : Int) x57_3 l1_0 = some (r1, r2)) ∧ Aside0 (kq ≤ kj45) ∧ Aside0 (Kd.R (Kd.int .i64) 3 w' w.heap.size (fun _ => True) v10 x10_3) ∧ Aside0 (w'.heap[gb729]? = some (.cells #[(.slice A0_0 l0_0.length c0_0)] 26 (0, 0))) ∧ Aside0 (w'.heap[gb730]? = some (.cells #[(.slice A1_0 l1_0.length c1_0)] 26 (0, 0))) ∧ Aside0 (w'.heap[gb731]? = some (.cells #[(.slice none 0 0)] 26 (0, 0))) ∧ Aside0 (Below w.heap.size w w'))
     case atStart => exact ⟨(y739), (0), rs_, H', ⟨Nat.le_refl _⟩, ⟨re_ HO741.out⟩, ⟨be_ BK729.out⟩, ⟨be_ BK730.out⟩, ⟨be_ BK731.out⟩, ⟨bq_ HB⟩⟩
     case round =>
      clear H'
      try clear c1
      try clear c2
      try clear p2
      try clear c3
      try clear c4
      try clear c5
      try clear c6
      try clear c10
      try clear c12
      try clear c13
      try clear c14
      try clear c19
      try clear c20
      try clear c21
      try clear c22
      try clear c26
      try clear c30
      try clear c31
      try clear c35
      try clear c38
      try clear c39
      try clear c42
      try clear c43
      try clear c44
      try clear c48
      try clear c50
      try clear c53
      try clear c54
      try clear c55
      try clear c59
      try clear c60
      try clear hcz15_0
      try clear hcz17_0
      try clear hcz23_0
      try clear hcz25_0
      try clear hcz27_0
      try clear hcz29_0
      try clear hcz32_0
      try clear hcz34_0
      try clear hcz36_0
      try clear hcz40_0
      try clear hcz45_0
      try clear hcz56_0
      try clear hcz61_0
      try clear hfz15_0
      try clear hfz17_0
      try clear hfz23_0
      try clear hfz25_0
      try clear hfz27_0
      try clear hfz29_0
      try clear hfz32_0
      try clear hfz34_0
      try clear hfz36_0
      try clear hfz40_0
      try clear hfz45_0
      try clear hfz56_0
      try clear hfz61_0
      try clear p2
      obtain ⟨x10_3, x57_3, rfl, HA, HK3, HO_10, BK729, BK730, BK731, HB⟩ := hrel
      cases gk with
      | zero => exact absurd HA.out (by simp [impl_GlueOf.l0])
      | succ k3 =>
       have H := HA.out
       clear HA
       simp only [impl_GlueOf.l0] at H
       by_cases c62 : x57_3 < (l0_0.length : Int)
       · rw [if_pos c62] at H
         have c62b0 : decide (x57_3 < (l0_0.length : Int)) = true := decide_eq_true c62
         clear c62
         by_cases c63 : 0 ≤ x57_3
         rotate_left
         · rw [if_neg c63] at H
           cases H
         rw [if_pos c63] at H
         have c63b0 : decide (0 ≤ x57_3) = true := decide_eq_true c63
         clear c63
         by_cases c64 : x57_3 < (l0_0.length : Int)
         rotate_left
         · rw [if_neg c64] at H
           cases H
         rw [if_pos c64] at H
         have c64b0 : decide (x57_3 < (l0_0.length : Int)) = true := decide_eq_true c64
         clear c64
         by_cases c65 : x10_3.length < 17592186044416
         rotate_left
         · rw [if_neg c65] at H
           cases H
         rw [if_pos c65] at H
         have LMc65 := Aside0.mk c65
         clear c65
         obtain ⟨y743, hy743⟩ : ∃ y_ : List Int, y_ = (x10_3 ++ [wrap64 (a2 * (rd l0_0 x57_3))]) := ⟨_, rfl⟩
         replace H : (impl_GlueOf.l0 k3 a2 a3 y743 l0_0 (l0_0.length : Int) (wrap64 (x57_3 + 1)) l1_0) = some (r1, r2) := by subst hy743; exact H
         have Ny743 := Aside0.mk hy743
         clear hy743
         have H' := Aside0.mk H
         clear H
         have p742 : 0 ≤ (x57_3 : Int) := od_
         have q742 : x57_3 < (l0_0.length : Int) := od_
         obtain ⟨ad742, e742, hx742_0⟩ := Kd.at_int HR0_0.out x57_3 p742 q742
         cases e742
         (try replace hx742_0 := (HB.out.cell (World.block_lt_of_cell? w _ hx742_0)).trans hx742_0)
         replace p742 := eq_true p742
         replace q742 := eq_true q742
         go_wp2_with (first | ((with_reducible refine gate_builtin (b := .append) (xs := #[.tmp 61, .tmp 65]) rfl ?_); at_builtin; refine Kd.R_append (Kd.int .i64) (w0 := w) w.heap.size rfl (.tmp 61) (.tmp 65) 24 3 (.int .i64 0) 8 rfl Try.underlying24 info3 rfl (by decide) (by omega) u10 x10_3 (wrap64 (a2 * (rd l0_0 x57_3))) [.int .i64 (wrap64 (a2 * (rd l0_0 x57_3)))] (fun _ => True) (fun _ => False) rfl rfl ?aP (fun _ hk => hk.elim) ?aF ?aO ?aB ?aS ?aL ?_; (case aP => exact rfl); (case aB => exact (bq_ HB)); (case aF => exact (fun _ _ => trivial)); (case aO => exact (re_ HO_10.out)); (case aS => exact (below_size (bq_ HB))); (case aL => have := LMc65.out; omega); intro v744 w66 ho hb hg hat; rw [← Ny743.out] at ho; replace BK729 := Aside0.mk (blk_grown (be_ BK729.out) hg (Kd.R_ne HO_10.out BK729.out (by decide))); replace BK730 := Aside0.mk (blk_grown (be_ BK730.out) hg (Kd.R_ne HO_10.out BK730.out (by decide))); replace BK731 := Aside0.mk (blk_grown (be_ BK731.out) hg (Kd.R_ne HO_10.out BK731.out (by decide))); replace HB := Aside0.mk (hb); have HO745 := Aside0.mk (ho); clear HO_10; clear ho hb hg hat))
         go_roundg k3
         case measure => have := HJ4.out; have := HJ45.out; have := HK3.out; omega
         case rel => exact ⟨(y743), (wrap64 (x57_3 + 1)), rs_, H', ⟨by have := HJ4.out; have := HJ45.out; have := HK3.out; omega⟩, ⟨re_ HO745.out⟩, ⟨be_ BK729.out⟩, ⟨be_ BK730.out⟩, ⟨be_ BK731.out⟩, ⟨bq_ HB⟩⟩
       rw [if_neg c62] at H
       have c62b0 : decide (x57_3 < (l0_0.length : Int)) = false := decide_eq_false c62
       clear c62
       have H' := Aside0.mk H
       clear H
       have hnb67 := NB730_729.out
       have hnc67 := NB729_730.out
       have hnb68 := NB730_731.out
       have hnc68 := NB731_730.out
       have hcz69_0 := cz_ BK730
       have hfz69_0 := blk_frozen BK730.out 0
       go_wp2
       go_loopg [10, 71] k3 (fun kq v10 v71 w' => ∃ (x10_4 : List Int) (x71_4 : Int), v71 = .int .i64 x71_4 ∧ Aside0 (impl_GlueOf.l1 kq a3 x10_4 l1_0 (l1_0.length : Int) x71_4 = some (r1, r2)) ∧ Aside0 (kq ≤ k3) ∧ Aside0 (Kd.R (Kd.int .i64) 3 w' w.heap.size (fun _ => True) v10 x10_4) ∧ Aside0 (w'.heap[gb729]? = some (.cells #[(.slice A0_0 l0_0.length c0_0)] 26 (0, 0))) ∧ Aside0 (w'.heap[gb730]? = some (.cells #[(.slice A1_0 l1_0.length c1_0)] 26 (0, 0))) ∧ Aside0 (w'.heap[gb731]? = some (.cells #[(.slice none 0 0)] 26 (0, 0))) ∧ Aside0 (Below w.heap.size w w'))
       case atStart => exact ⟨(x10_3), (0), rs_, H', ⟨Nat.le_refl _⟩, ⟨re_ HO_10.out⟩, ⟨be_ BK729.out⟩, ⟨be_ BK730.out⟩, ⟨be_ BK731.out⟩, ⟨bq_ HB⟩⟩
       case round =>
        clear H'
        try clear c1
        try clear c2
        try clear p2
        try clear c3
        try clear c4
        try clear c5
        try clear c6
        try clear p6
        try clear p7
        try clear q7
        try clear hx7
        try clear c10
        try clear c12
        try clear c13
        try clear c14
        try clear c19
        try clear c20
        try clear c21
        try clear c22
        try clear c26
        try clear c30
        try clear c31
        try clear c35
        try clear c38
        try clear c39
        try clear c42
        try clear c43
        try clear c44
        try clear c48
        try clear c50
        try clear c53
        try clear c54
        try clear c55
        try clear c59
        try clear c60
        try clear c62
        try clear c62b0
        try clear c63
        try clear c63b0
        try clear c64
        try clear c64b0
        try clear p64
        try clear c65
        try clear c67
        try clear c68
        try clear hcz15_0
        try clear hcz17_0
        try clear hcz23_0
        try clear hcz25_0
        try clear hcz27_0
        try clear hcz29_0
        try clear hcz32_0
        try clear hcz34_0
        try clear hcz36_0
        try clear hcz40_0
        try clear hcz45_0
        try clear hcz56_0
        try clear hcz61_0
        try clear hcz69_0
        try clear hfz15_0
        try clear hfz17_0
        try clear hfz23_0
        try clear hfz25_0
        try clear hfz27_0
        try clear hfz29_0
        try clear hfz32_0
        try clear hfz34_0
        try clear hfz36_0
        try clear hfz40_0
        try clear hfz45_0
        try clear hfz56_0
        try clear hfz61_0
        try clear hfz69_0
        try clear hx742_0
        try clear p2
        try clear p742
        try clear q742
        obtain ⟨x10_4, x71_4, rfl, HA, HK4, HO_10, BK729, BK730, BK731, HB⟩ := hrel
        cases gk with
        | zero => exact absurd HA.out (by simp [impl_GlueOf.l1])
        | succ k4 =>
         have H := HA.out
         clear HA
         simp only [impl_GlueOf.l1] at H
         by_cases c70 : x71_4 < (l1_0.length : Int)
         rotate_left
         · rw [if_neg c70] at H
           have c70b0 : decide (x71_4 < (l1_0.length : Int)) = false := decide_eq_false c70
           clear c70
           obtain ⟨⟨t750, t753⟩, A75, H⟩ := ob_ H
           (try dsimp only at H)
           simp only [Option.some.injEq, Prod.mk.injEq] at H
           obtain ⟨rfl, rfl⟩ := H
           obtain ⟨Ao76, co76, eo76⟩ := Kd.R_slice HO_10.out
           subst eo76
           go_wp2_with (first | ((with_reducible refine gate_callee (f := 24) rfl ?_); refine gL_ (some 83) Try.func24 #[.slice Ao76 x10_4.length co76] ?_; (with_reducible refine (impl_FromGens.calls k4 _ _ x10_4 t750 t753 _ ?side1 ?side2 A75.out).mono ?_); (case side1 => exact ce_ ((Kd.R_reads' HO_10.out).2.2)); (case side2 => exact (Kd.R_reads' HO_10.out).2.1); rintro e w77 ⟨v751, rfl, ho0, hb⟩; refine ⟨_, rfl, ?_⟩; have HO752 := Aside0.mk (Kd.R_lower (Kd.R_new' ho0 (Kd.R_lt (re_ HO_10.out))) (below_size (bq_ HB))); replace HO_10 := Aside0.mk (Kd.R_elder' (re_ HO_10.out) (Kd.R_base ho0) hb); replace BK729 := bk_ BK729 hb; replace BK730 := bk_ BK730 hb; replace BK731 := bk_ BK731 hb; replace HB := bp_ HB hb; (try clear hb); (try clear ho0); obtain ⟨Ao78, co78, eo78⟩ := Kd.R_slice HO752.out; subst eo78; have hnb79 := NB731_729.out; have hnc79 := NB729_731.out; have hnb80 := NB731_730.out; have hnc80 := NB730_731.out; have hcz81_0 := cz_ BK731; have hfz81_0 := blk_frozen BK731.out 0))
           refine bodyPost_ret (results_ct rfl _ _ gb731 26 #[.slice Ao78 t750.length co78] (0, 0) _ rfl (by (with_reducible repeat (first | refine blk_drewN ?_ _ | refine blk_drew ?_ | refine blk_alloc ?_ _)); refine blk_put (cs := #[.slice none 0 0]) ?_ 0 _ rfl; (with_reducible repeat (first | refine blk_drewN ?_ _ | refine blk_drew ?_ | refine blk_alloc ?_ _)); exact BK731.out) Try.underlying26 rfl (by kernel_rfl)) rfl ?_
           exact ⟨_, rf_, by (with_reducible repeat (first | apply Kd.R_alloc | apply Kd.R_drewN | apply Kd.R_drew)); exact Kd.R_mono (Kd.R_far (p := ⟨gb731, 0, none⟩) (Kd.R_types HO752.out BK731.out (by decide)) (fun _ hk => hk.2) (.slice Ao78 t750.length co78)) (fun _ hk => trivial), bq_ HB⟩
         rw [if_pos c70] at H
         have c70b0 : decide (x71_4 < (l1_0.length : Int)) = true := decide_eq_true c70
         clear c70
         by_cases c71 : 0 ≤ x71_4
         rotate_left
         · rw [if_neg c71] at H
           cases H
         rw [if_pos c71] at H
         have c71b0 : decide (0 ≤ x71_4) = true := decide_eq_true c71
         clear c71
         by_cases c72 : x71_4 < (l1_0.length : Int)
         rotate_left
         · rw [if_neg c72] at H
           cases H
         rw [if_pos c72] at H
         have c72b0 : decide (x71_4 < (l1_0.length : Int)) = true := decide_eq_true c72
         clear c72
         by_cases c73 : x10_4.length < 17592186044416
         rotate_left
         · rw [if_neg c73] at H
           cases H
         rw [if_pos c73] at H
         have LMc73 := Aside0.mk c73
         clear c73
         obtain ⟨y747, hy747⟩ : ∃ y_ : List Int, y_ = (x10_4 ++ [wrap64 (a3 * (rd l1_0 x71_4))]) := ⟨_, rfl⟩
         replace H : (impl_GlueOf.l1 k4 a3 y747 l1_0 (l1_0.length : Int) (wrap64 (x71_4 + 1))) = some (r1, r2) := by subst hy747; exact H
         have Ny747 := Aside0.mk hy747
         clear hy747
         have H' := Aside0.mk H
         clear H
         have p746 : 0 ≤ (x71_4 : Int) := od_
         have q746 : x71_4 < (l1_0.length : Int) := od_
         obtain ⟨ad746, e746, hx746_0⟩ := Kd.at_int HR1_0.out x71_4 p746 q746
         cases e746
         (try replace hx746_0 := (HB.out.cell (World.block_lt_of_cell? w _ hx746_0)).trans hx746_0)
         replace p746 := eq_true p746
         replace q746 := eq_true q746
         go_wp2_with (first | ((with_reducible refine gate_builtin (b := .append) (xs := #[.tmp 75, .tmp 79]) rfl ?_); at_builtin; refine Kd.R_append (Kd.int .i64) (w0 := w) w.heap.size rfl (.tmp 75) (.tmp 79) 24 3 (.int .i64 0) 8 rfl Try.underlying24 info3 rfl (by decide) (by omega) u10 x10_4 (wrap64 (a3 * (rd l1_0 x71_4))) [.int .i64 (wrap64 (a3 * (rd l1_0 x71_4)))] (fun _ => True) (fun _ => False) rfl rfl ?aP (fun _ hk => hk.elim) ?aF ?aO ?aB ?aS ?aL ?_; (case aP => exact rfl); (case aB => exact (bq_ HB)); (case aF => exact (fun _ _ => trivial)); (case aO => exact (re_ HO_10.out)); (case aS => exact (below_size (bq_ HB))); (case aL => have := LMc73.out; omega); intro v748 w74 ho hb hg hat; rw [← Ny747.out] at ho; replace BK729 := Aside0.mk (blk_grown (be_ BK729.out) hg (Kd.R_ne HO_10.out BK729.out (by decide))); replace BK730 := Aside0.mk (blk_grown (be_ BK730.out) hg (Kd.R_ne HO_10.out BK730.out (by decide))); replace BK731 := Aside0.mk (blk_grown (be_ BK731.out) hg (Kd.R_ne HO_10.out BK731.out (by decide))); replace HB := Aside0.mk (hb); have HO749 := Aside0.mk (ho); clear HO_10; clear ho hb hg hat))
         go_roundg k4
         case measure => have := HJ4.out; have := HJ45.out; have := HK3.out; have := HK4.out; omega
         case rel => exact ⟨(y747), (wrap64 (x71_4 + 1)), rs_, H', ⟨by have := HJ4.out; have := HJ45.out; have := HK3.out; have := HK4.out; omega⟩, ⟨re_ HO749.out⟩, ⟨be_ BK729.out⟩, ⟨be_ BK730.out⟩, ⟨be_ BK731.out⟩, ⟨bq_ HB⟩⟩
def spec_l3Has.f (k : Nat) (l0_0 : List Int) (a1 : Int) : Option (Bool) := if a1 < 0 then (some (decide (a1 > 0))) else (if a1 ≥ 200 then (some (decide (a1 > 0))) else ((spec_l3Table.f k l0_0 a1).bind fun t755 => (if 0 ≤ a1 then (if a1 < (t755.length : Int) then (some (rdOf false t755 a1)) else (none)) else (none))))
theorem spec_l3Has.calls (k : Nat) (A0_0 : Option Addr) (c0_0 : Nat) (l0_0 : List Int) (a1 : Int) (r : Bool) (w : World) (hr0_0 : Kd.C (Kd.int .i64) w A0_0 l0_0.length l0_0) (hc0_0 : l0_0.length ≤ c0_0) (h : spec_l3Has.f k l0_0 a1 = some r) :
 Calls Try.prog 58 #[.agg #[.slice A0_0 l0_0.length c0_0], .int .i64 a1] w fun e w' => e = .returned (.bool r) ∧ Below w.heap.size w w' := by
 have hu26 := Try.underlying26
 have HR0_0 := Aside0.mk hr0_0
 have HC0_0 := Aside0.mk hc0_0
 clear hr0_0 hc0_0
 have HB := Aside0.mk (Below.refl w.heap.size w)
 have H := h
 clear h
 unfold spec_l3Has.f at H
 by_cases c3 : a1 < 0
 · rw [if_pos c3] at H
   have c3b0 : decide (a1 < 0) = true := decide_eq_true c3
   clear c3
   obtain rfl := Option.some.inj H
   go_enter Try.func58, Try.ntmps58
   go_wp2_with (first | ((with_reducible refine gate_dst (N := 2) rfl ?_); refine bx_ 2 #[.slice A0_0 l0_0.length c0_0] 26 ?_; intro gb754 hg w4 hbox hb; have BK754 := Aside0.mk (hbox); have GW754 := gw_ hg HB; have GE754 := gw_ hg HB; replace HB := bo_ HB hb; clear hb hbox hg))
   go_ret
   exact ⟨rf_, bq_ HB⟩
 rw [if_neg c3] at H
 have c3b0 : decide (a1 < 0) = false := decide_eq_false c3
 clear c3
 by_cases c5 : a1 ≥ 200
 · rw [if_pos c5] at H
   have c5b0 : decide (200 ≤ a1) = true := decide_eq_true c5
   clear c5
   obtain rfl := Option.some.inj H
   go_enter Try.func58, Try.ntmps58
   go_wp2_with (first | ((with_reducible refine gate_dst (N := 2) rfl ?_); refine bx_ 2 #[.slice A0_0 l0_0.length c0_0] 26 ?_; intro gb754 hg w6 hbox hb; have BK754 := Aside0.mk (hbox); have GW754 := gw_ hg HB; have GE754 := gw_ hg HB; replace HB := bo_ HB hb; clear hb hbox hg))
   go_ret
   exact ⟨rf_, bq_ HB⟩
 rw [if_neg c5] at H
 have c5b0 : decide (200 ≤ a1) = false := decide_eq_false c5
 clear c5
 obtain ⟨t755, A7, H⟩ := ob_ H
 by_cases c8 : 0 ≤ a1
 rotate_left
 · rw [if_neg c8] at H
   cases H
 rw [if_pos c8] at H
 have c8b0 : decide (0 ≤ a1) = true := decide_eq_true c8
 clear c8
 by_cases c9 : a1 < (t755.length : Int)
 rotate_left
 · rw [if_neg c9] at H
   cases H
 rw [if_pos c9] at H
 have c9b0 : decide (a1 < (t755.length : Int)) = true := decide_eq_true c9
 clear c9
 obtain rfl := Option.some.inj H
 go_enter Try.func58, Try.ntmps58
 go_wp2_with (first | ((with_reducible refine gate_dst (N := 2) rfl ?_); refine bx_ 2 #[.slice A0_0 l0_0.length c0_0] 26 ?_; intro gb754 hg w10 hbox hb; have BK754 := Aside0.mk (hbox); have GW754 := gw_ hg HB; have GE754 := gw_ hg HB; replace HB := bo_ HB hb; clear hb hbox hg; have hcz11_0 := cz_ BK754; have hfz11_0 := blk_frozen BK754.out 0) | ((with_reducible refine gate_callee (f := 64) rfl ?_); refine gL_ (some 16) Try.func64 #[.slice A0_0 l0_0.length c0_0, .int .i64 a1] ?_; (with_reducible refine (spec_l3Table.calls k _ _ l0_0 a1 t755 _ ?side1 ?side2 A7.out).mono ?_); (case side1 => exact ch_ HR0_0 HB); (case side2 => exact HC0_0.out); rintro e w12 ⟨v756, rfl, ho0, hb⟩; refine ⟨_, rfl, ?_⟩; have HO757 := Aside0.mk (Kd.R_lower ho0 (below_size (bq_ HB))); replace BK754 := bk_ BK754 hb; replace HB := bp_ HB hb; (try clear hb); (try clear ho0); obtain ⟨Ao13, co13, eo13⟩ := Kd.R_slice HO757.out; subst eo13; have p758 : 0 ≤ (a1 : Int) := od_; have q758 : a1 < (t755.length : Int) := od_; obtain ⟨ad758, e758, hx758_0⟩ := Kd.at_bool (Kd.R_reads' HO757.out).2.2 a1 p758 q758; cases e758; replace p758 := eq_true p758; replace q758 := eq_true q758))
 go_ret
 exact ⟨rf_, bq_ HB⟩
def spec_Contains.f (k : Nat) (l0_0 : List Int) (a1 : Int) : Option (Bool) := (spec_IsSemigroup.f k l0_0).bind fun t760 => (if t760 = true then ((spec_l3Has.f k l0_0 a1).bind fun t761 => (some t761)) else (some false))
theorem spec_Contains.calls (k : Nat) (A0_0 : Option Addr) (c0_0 : Nat) (l0_0 : List Int) (a1 : Int) (r : Bool) (w : World) (hr0_0 : Kd.C (Kd.int .i64) w A0_0 l0_0.length l0_0) (hc0_0 : l0_0.length ≤ c0_0) (h : spec_Contains.f k l0_0 a1 = some r) :
 Calls Try.prog 25 #[.agg #[.slice A0_0 l0_0.length c0_0], .int .i64 a1] w fun e w' => e = .returned (.bool r) ∧ Below w.heap.size w w' := by
 have hu26 := Try.underlying26
 have HR0_0 := Aside0.mk hr0_0
 have HC0_0 := Aside0.mk hc0_0
 clear hr0_0 hc0_0
 have HB := Aside0.mk (Below.refl w.heap.size w)
 have H := h
 clear h
 unfold spec_Contains.f at H
 obtain ⟨t760, A3, H⟩ := ob_ H
 by_cases c4 : t760 = true
 rotate_left
 · replace c4 := Bool.eq_false_iff.mpr c4
   subst c4
   rw [if_neg (show ¬ (false = true) by decide)] at H
   obtain rfl := Option.some.inj H
   go_enter Try.func25, Try.ntmps25
   go_wp2_with (first | ((with_reducible refine gate_dst (N := 2) rfl ?_); refine bx_ 2 #[.slice A0_0 l0_0.length c0_0] 26 ?_; intro gb759 hg w11 hbox hb; have BK759 := Aside0.mk (hbox); have GW759 := gw_ hg HB; have GE759 := gw_ hg HB; replace HB := bo_ HB hb; clear hb hbox hg; have hcz12_0 := cz_ BK759; have hfz12_0 := blk_frozen BK759.out 0) | ((with_reducible refine gate_callee (f := 43) rfl ?_); refine gL_ (some 6) Try.func43 #[.agg #[.slice A0_0 l0_0.length c0_0]] ?_; (with_reducible refine (spec_IsSemigroup.calls k _ _ l0_0 false _ ?side1 ?side2 A3.out).mono ?_); (case side1 => exact ch_ HR0_0 HB); (case side2 => exact HC0_0.out); rintro e w13 ⟨rfl, hb⟩; refine ⟨_, rfl, ?_⟩; replace BK759 := bk_ BK759 hb; replace HB := bp_ HB hb; (try clear hb)))
   go_ret
   exact ⟨rf_, bq_ HB⟩
 subst c4
 rw [if_pos rfl] at H
 obtain ⟨t761, A5, H⟩ := ob_ H
 obtain rfl := Option.some.inj H
 go_enter Try.func25, Try.ntmps25
 go_wp2_with (first | ((with_reducible refine gate_dst (N := 2) rfl ?_); refine bx_ 2 #[.slice A0_0 l0_0.length c0_0] 26 ?_; intro gb759 hg w6 hbox hb; have BK759 := Aside0.mk (hbox); have GW759 := gw_ hg HB; have GE759 := gw_ hg HB; replace HB := bo_ HB hb; clear hb hbox hg; have hcz7_0 := cz_ BK759; have hfz7_0 := blk_frozen BK759.out 0) | ((with_reducible refine gate_callee (f := 43) rfl ?_); refine gL_ (some 6) Try.func43 #[.agg #[.slice A0_0 l0_0.length c0_0]] ?_; (with_reducible refine (spec_IsSemigroup.calls k _ _ l0_0 true _ ?side1 ?side2 A3.out).mono ?_); (case side1 => exact ch_ HR0_0 HB); (case side2 => exact HC0_0.out); rintro e w8 ⟨rfl, hb⟩; refine ⟨_, rfl, ?_⟩; replace BK759 := bk_ BK759 hb; replace HB := bp_ HB hb; (try clear hb); have hcz9_0 := cz_ BK759; have hfz9_0 := blk_frozen BK759.out 0) | (go_at_call 58; (with_reducible refine (spec_l3Has.calls k _ _ l0_0 a1 t761 _ ?side1 ?side2 A5.out).mono ?_); (case side1 => exact ch_ HR0_0 HB); (case side2 => exact HC0_0.out); rintro e w10 ⟨rfl, hb⟩; replace BK759 := bk_ BK759 hb; replace HB := bp_ HB hb; (try clear hb)))
 go_ret
 exact ⟨rf_, bq_ HB⟩
def spec_HasNumber.l0 : Nat → List Int → Int → Int → Option (Bool)
 | 0, _, _, _ => none
 | k + 1, x0, x1, x5 => if x5 < (x0.length : Int) then (if 0 ≤ x5 then (if (rd x0 x5) = x1 then (some true) else (spec_HasNumber.l0 k x0 x1 (wrap64 (x5 + 1)))) else (none)) else (some false)
def spec_HasNumber.f (k : Nat) (l0 : List Int) (a1 : Int) : Option (Bool) := spec_HasNumber.l0 k l0 a1 0
theorem spec_HasNumber.calls (k : Nat) (A0 : Option Addr) (c0 : Nat) (l0 : List Int) (a1 : Int) (r : Bool) (w : World) (hr0 : Kd.C (Kd.int .i64) w A0 l0.length l0) (hc0 : l0.length ≤ c0) (h : spec_HasNumber.f k l0 a1 = some r) :
 Calls Try.prog 26 #[.slice A0 l0.length c0, .int .i64 a1] w fun e w' => e = .returned (.bool r) ∧ Drawn0 w w' := by
 have HR0 := Aside0.mk hr0
 have HC0 := Aside0.mk hc0
 clear hr0 hc0
 have H := h
 clear h
 unfold spec_HasNumber.f at H
 have H' := Aside0.mk H
 clear H
 go_enter Try.func26, Try.ntmps26
 go_wp2
 go_loopg [5] k (fun kq v5 w' => ∃ (x5_1 : Int), v5 = .int .i64 x5_1 ∧ Aside0 (spec_HasNumber.l0 kq l0 a1 x5_1 = some r) ∧ Aside0 (kq ≤ k) ∧ Drawn0 w w')
 case atStart => exact ⟨(0), rs_, H', ⟨Nat.le_refl _⟩, by repeat (first | exact Drawn0.refl _ | apply Drawn0.step)⟩
 case round =>
  clear H'
  try clear c2
  try clear p2
  obtain ⟨x5_1, rfl, HA, HK1, ⟨m1, rfl⟩⟩ := hrel
  cases gk with
  | zero => exact absurd HA.out (by simp [spec_HasNumber.l0])
  | succ k1 =>
   have H := HA.out
   clear HA
   simp only [spec_HasNumber.l0] at H
   by_cases c3 : x5_1 < (l0.length : Int)
   rotate_left
   · rw [if_neg c3] at H
     have c3b0 : decide (x5_1 < (l0.length : Int)) = false := decide_eq_false c3
     clear c3
     obtain rfl := Option.some.inj H
     go_wp2
     go_ret
     exact ⟨by first | rfl | (simp; done) | (simp [*]; done), by repeat (first | exact Drawn0.refl _ | apply Drawn0.step)⟩
   rw [if_pos c3] at H
   have c3b0 : decide (x5_1 < (l0.length : Int)) = true := decide_eq_true c3
   clear c3
   by_cases c4 : 0 ≤ x5_1
   rotate_left
   · rw [if_neg c4] at H
     cases H
   rw [if_pos c4] at H
   have c4b0 : decide (0 ≤ x5_1) = true := decide_eq_true c4
   clear c4
   by_cases c5 : (rd l0 x5_1) = a1
   · rw [if_pos c5] at H
     have c5b0 : ((rd l0 x5_1) == a1) = true := beq_iff_eq.mpr c5
     have c5b1 : ((rd l0 x5_1) != a1) = false := bne_eq_false_iff_eq.mpr c5
     clear c5
     obtain rfl := Option.some.inj H
     have p762 : 0 ≤ (x5_1 : Int) := od_
     have q762 : x5_1 < (l0.length : Int) := od_
     obtain ⟨ad762, e762, hx762_0⟩ := Kd.at_int HR0.out x5_1 p762 q762
     cases e762
     replace p762 := eq_true p762
     replace q762 := eq_true q762
     go_wp2
     go_ret
     exact ⟨by first | rfl | (simp; done) | (simp [*]; done), by repeat (first | exact Drawn0.refl _ | apply Drawn0.step)⟩
   rw [if_neg c5] at H
   have c5b0 : ((rd l0 x5_1) == a1) = false := beq_eq_false_iff_ne.mpr c5
   have c5b1 : ((rd l0 x5_1) != a1) = true := bne_iff_ne.mpr c5
   have H' := Aside0.mk H
   clear H
   have p762 : 0 ≤ (x5_1 : Int) := od_
   have q762 : x5_1 < (l0.length : Int) := od_
   obtain ⟨ad762, e762, hx762_0⟩ := Kd.at_int HR0.out x5_1 p762 q762
   cases e762
   replace p762 := eq_true p762
   replace q762 := eq_true q762
   go_wp2
   go_roundg k1
   case measure => have := HK1.out; omega
   case rel => exact ⟨(wrap64 (x5_1 + 1)), rs_, H', ⟨by have := HK1.out; omega⟩, by repeat (first | exact Drawn0.refl _ | apply Drawn0.step)⟩
def spec_l22Times.l0 : Nat → List Int → Int → List Int → Int → Option (List Int)
 | 0, _, _, _, _ => none
 | k + 1, x0, x1, x5, x6 => if x6 < (x0.length : Int) then (if 0 ≤ x6 then (if x5.length < 17592186044416 then (spec_l22Times.l0 k x0 x1 (x5 ++ [wrap64 ((rd x0 x6) * x1)]) (wrap64 (x6 + 1))) else (none)) else (none)) else (some x5)
def spec_l22Times.f (k : Nat) (l0 : List Int) (a1 : Int) : Option (List Int) := spec_l22Times.l0 k l0 a1 (([] : List Int)) 0
theorem spec_l22Times.calls (k : Nat) (A0 : Option Addr) (c0 : Nat) (l0 : List Int) (a1 : Int) (r : List Int) (w : World) (hr0 : Kd.C (Kd.int .i64) w A0 l0.length l0) (hc0 : l0.length ≤ c0) (h : spec_l22Times.f k l0 a1 = some r) :
 Calls Try.prog 29 #[.slice A0 l0.length c0, .int .i64 a1] w fun e w' => ∃ v0_ : Value, e = .returned (v0_) ∧ Kd.R (Kd.int .i64) 3 w' w.heap.size (fun _ => True) v0_ r ∧ Below w.heap.size w w' := by
 have HR0 := Aside0.mk hr0
 have HC0 := Aside0.mk hc0
 clear hr0 hc0
 have HB := Aside0.mk (Below.refl w.heap.size w)
 have H := h
 clear h
 unfold spec_l22Times.f at H
 obtain ⟨y763, hy763⟩ : ∃ y_ : List Int, y_ = (([] : List Int)) := ⟨_, rfl⟩
 replace H : (spec_l22Times.l0 k l0 a1 y763 0) = some r := by subst hy763; exact H
 have Ny763 := Aside0.mk hy763
 clear hy763
 have H' := Aside0.mk H
 clear H
 go_enter Try.func29, Try.ntmps29
 go_wp2_with (first | ((with_reducible refine gate_dst (N := 7) rfl ?_); refine Kd.R_lit (Kd.int .i64) _ 3 ?hg (N := 7) ?hd (xs := ([] : List Int)) (inner := []) (ok := fun _ => True) (okp := fun _ => True) ?hr ?hp (fun _ hk => hk) trivial (Below.refl _ _) (Nat.le_refl _) (by simp) ?_; (case hd => rfl); (case hg => rfl); (case hr => first | (go_simp; done) | (go_simp; rfl)); (case hp => exact (Reps.none _ _)); intro v764 w3 ho4 hb hg_ hnew_; clear hg_ hnew_; (first | rw [← Ny763.out] at ho4 | (simp only [Int.reduceToNat] at ho4; rw [← Ny763.out] at ho4)); have HO765 := Aside0.mk (Kd.R_lower ho4 (below_size (bl_ HB.out))); replace HB := bo_ HB hb; clear hb ho4))
 go_loopg [5, 6] k (fun kq v5 v6 w' => ∃ (x5_1 : List Int) (x6_1 : Int), v6 = .int .i64 x6_1 ∧ Aside0 (spec_l22Times.l0 kq l0 a1 x5_1 x6_1 = some r) ∧ Aside0 (kq ≤ k) ∧ Aside0 (Kd.R (Kd.int .i64) 3 w' w.heap.size (fun _ => True) v5 x5_1) ∧ Aside0 (Below w.heap.size w w'))
 case atStart => exact ⟨(y763), (0), rs_, H', ⟨Nat.le_refl _⟩, ⟨re_ HO765.out⟩, ⟨bl_ HB.out⟩⟩
 case round =>
  clear H'
  try clear c2
  try clear p2
  obtain ⟨x5_1, x6_1, rfl, HA, HK1, HO_5, HB⟩ := hrel
  cases gk with
  | zero => exact absurd HA.out (by simp [spec_l22Times.l0])
  | succ k1 =>
   have H := HA.out
   clear HA
   simp only [spec_l22Times.l0] at H
   by_cases c5 : x6_1 < (l0.length : Int)
   rotate_left
   · rw [if_neg c5] at H
     have c5b0 : decide (x6_1 < (l0.length : Int)) = false := decide_eq_false c5
     clear c5
     obtain rfl := Option.some.inj H
     go_wp2
     go_ret
     exact ⟨_, rf_, re_ HO_5.out, bl_ HB.out⟩
   rw [if_pos c5] at H
   have c5b0 : decide (x6_1 < (l0.length : Int)) = true := decide_eq_true c5
   clear c5
   by_cases c6 : 0 ≤ x6_1
   rotate_left
   · rw [if_neg c6] at H
     cases H
   rw [if_pos c6] at H
   have c6b0 : decide (0 ≤ x6_1) = true := decide_eq_true c6
   clear c6
   by_cases c7 : x5_1.length < 17592186044416
   rotate_left
   · rw [if_neg c7] at H
     cases H
   rw [if_pos c7] at H
   have LMc7 := Aside0.mk c7
   clear c7
   obtain ⟨y767, hy767⟩ : ∃ y_ : List Int, y_ = (x5_1 ++ [wrap64 ((rd l0 x6_1) * a1)]) := ⟨_, rfl⟩
   replace H : (spec_l22Times.l0 k1 l0 a1 y767 (wrap64 (x6_1 + 1))) = some r := by subst hy767; exact H
   have Ny767 := Aside0.mk hy767
   clear hy767
   have H' := Aside0.mk H
   clear H
   have p766 : 0 ≤ (x6_1 : Int) := od_
   have q766 : x6_1 < (l0.length : Int) := od_
   obtain ⟨ad766, e766, hx766_0⟩ := Kd.at_int HR0.out x6_1 p766 q766
   cases e766
   (try replace hx766_0 := (HB.out.cell (World.block_lt_of_cell? w _ hx766_0)).trans hx766_0)
   replace p766 := eq_true p766
   replace q766 := eq_true q766
   go_wp2_with (first | ((with_reducible refine gate_builtin (b := .append) (xs := #[.tmp 14, .tmp 21]) rfl ?_); at_builtin; refine Kd.R_append (Kd.int .i64) (w0 := w) w.heap.size rfl (.tmp 14) (.tmp 21) 24 3 (.int .i64 0) 8 rfl Try.underlying24 info3 rfl (by decide) (by omega) u5 x5_1 (wrap64 ((rd l0 x6_1) * a1)) [.int .i64 (wrap64 ((rd l0 x6_1) * a1))] (fun _ => True) (fun _ => False) rfl rfl ?aP (fun _ hk => hk.elim) ?aF ?aO ?aB ?aS ?aL ?_; (case aP => exact rfl); (case aB => exact (bl_ HB.out)); (case aF => exact (fun _ _ => trivial)); (case aO => exact (re_ HO_5.out)); (case aS => exact (below_size (bl_ HB.out))); (case aL => have := LMc7.out; omega); intro v768 w8 ho hb hg hat; rw [← Ny767.out] at ho; replace HB := Aside0.mk (hb); have HO769 := Aside0.mk (ho); clear HO_5; clear ho hb hg hat))
   go_roundg k1
   case measure => have := HK1.out; omega
   case rel => exact ⟨(y767), (wrap64 (x6_1 + 1)), rs_, H', ⟨by have := HK1.out; omega⟩, ⟨re_ HO769.out⟩, ⟨bl_ HB.out⟩⟩
end Go.Proofs.Ytjjajcldmkmgkaa.PA
end
