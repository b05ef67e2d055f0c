-- Bundled by shake.py from this session's printed and written texts; Lean checks it.
import Derived.Test.YtjjajcldmkmgkaaZFnGluedx1
import Derived.Test.YtjjajcldmkmgkaaZFnGluedx10
import Derived.Test.YtjjajcldmkmgkaaZFnGluedx2
import Derived.Test.YtjjajcldmkmgkaaZFnGluedx4
import Derived.Test.YtjjajcldmkmgkaaZFnGluedx8
import Derived.Test.YtjjajcldmkmgkaaZFnGluedx9
section
namespace Go.Proofs.Ytjjajcldmkmgkaa.PA
open Go.RowKit Go.Proofs.YtjjajcldmkmgkaaW.PrintWords Go.Proofs.YtjjajcldmkmgkaaW.PrintLast Go.Proofs.YtjjajcldmkmgkaaW.PrintMore
attribute [local go_sem] max2_int min2_int max_two min_two max_three min_three max_four min_four
set_option linter.unusedVariables false
set_option linter.unusedSimpArgs false
set_option maxHeartbeats 8000000
set_option maxRecDepth 100000
def impl_TelescopicFrobenius.l0 : Nat → List Int → List Int → Int → Int → Option (Int)
 | 0, _, _, _, _ => none
 | k + 1, x0, x3, x4, x5 => if x5 < (x0.length : Int) then (if 0 ≤ x5 then (if 0 ≤ (wrap64 (x5 - 1)) then (if (wrap64 (x5 - 1)) < (x3.length : Int) then (if x5 < (x3.length : Int) then (if (rd x3 x5) = 0 then (none) else (impl_TelescopicFrobenius.l0 k x0 x3 (wrap64 (x4 + (wrap64 (Int.tdiv (wrap64 ((rd x0 x5) * (rd x3 (wrap64 (x5 - 1))))) (rd x3 x5))))) (wrap64 (x5 + 1)))) else (none)) else (none)) else (none)) else (none)) else (some x4)
def impl_TelescopicFrobenius.f (k : Nat) (l0 : List Int) : Option (Int) := (impl_IsTelescopic.f k l0).bind fun t910 => (if t910 = true then ((impl_shared.f k l0).bind fun t911 => ((impl_total.f k l0).bind fun t914 => (impl_TelescopicFrobenius.l0 k l0 t911 (wrap64 (-t914)) 1))) else (some (-1)))
theorem impl_TelescopicFrobenius.calls (k : Nat) (A0 : Option Addr) (c0 : Nat) (l0 : List Int) (r : Int) (w : World) (hr0 : Kd.C (Kd.int .i64) w A0 l0.length l0) (hc0 : l0.length ≤ c0) (h : impl_TelescopicFrobenius.f k l0 = some r) :
 Calls Try.prog 11 #[.slice A0 l0.length c0] w fun e w' => e = .returned (.int .i64 r) ∧ Below w.heap.size w w' := by
 have HR0 := Aside0.mk hr0
 have HC0 := Aside0.mk hc0
 clear hr0 hc0
 have HB := Aside0.mk (Below.refl w.heap.size w)
 have H := h
 clear h
 unfold impl_TelescopicFrobenius.f at H
 obtain ⟨t910, A2, H⟩ := ob_ H
 by_cases c3 : t910 = true
 rotate_left
 · replace c3 := Bool.eq_false_iff.mpr c3
   subst c3
   rw [if_neg (show ¬ (false = true) by decide)] at H
   obtain rfl := Option.some.inj H
   go_enter Try.func11, Try.ntmps11
   go_wp2_with (first | (go_at_call 10; (with_reducible refine (impl_IsTelescopic.calls k _ _ l0 false _ ?side1 ?side2 A2.out).mono ?_); (case side1 => exact ce_ (HR0.out)); (case side2 => exact HC0.out); rintro e w16 ⟨rfl, hb⟩; replace HB := bo_ HB hb; (try clear hb)))
   repeat (go_quiet (first | (go_at_call 10; (with_reducible refine (impl_IsTelescopic.calls k _ _ l0 false _ ?side1 ?side2 A2.out).mono ?_); (case side1 => exact ce_ (HR0.out)); (case side2 => exact HC0.out); rintro e w16 ⟨rfl, hb⟩; replace HB := bo_ HB hb; (try clear hb))); try go_wp2_with (first | (go_at_call 10; (with_reducible refine (impl_IsTelescopic.calls k _ _ l0 false _ ?side1 ?side2 A2.out).mono ?_); (case side1 => exact ce_ (HR0.out)); (case side2 => exact HC0.out); rintro e w16 ⟨rfl, hb⟩; replace HB := bo_ HB hb; (try clear hb))))
   go_ret
   exact ⟨rf_, bl_ HB.out⟩
 subst c3
 rw [if_pos rfl] at H
 obtain ⟨t911, A4, H⟩ := ob_ H
 obtain ⟨t914, A5, H⟩ := ob_ H
 have H' := Aside0.mk H
 clear H
 go_enter Try.func11, Try.ntmps11
 go_wp2_with (first | (go_at_call 10; (with_reducible refine (impl_IsTelescopic.calls k _ _ l0 true _ ?side1 ?side2 A2.out).mono ?_); (case side1 => exact ce_ (HR0.out)); (case side2 => exact HC0.out); rintro e w6 ⟨rfl, hb⟩; replace HB := bo_ HB hb; (try clear hb)) | (go_at_call 34; (with_reducible refine (impl_shared.calls k _ _ l0 t911 _ ?side1 ?side2 A4.out).mono ?_); (case side1 => exact ch_ HR0 HB); (case side2 => exact HC0.out); rintro e w7 ⟨v912, rfl, ho0, hb⟩; have HO913 := Aside0.mk (Kd.R_lower ho0 (below_size (bl_ HB.out))); replace HB := bo_ HB hb; (try clear hb); (try clear ho0)) | (go_at_call 36; (with_reducible refine (impl_total.calls k _ _ l0 t914 _ ?side1 ?side2 A5.out).mono ?_); (case side1 => exact ch_ HR0 HB); (case side2 => exact HC0.out); rintro e w' ⟨rfl, ⟨nd, rfl⟩⟩; (try first | exact ⟨rfl, _, World.drewN_drewN _ _ _⟩ | exact ⟨rfl, _, Eq.trans (World.drewN_drewN _ _ _) (congrArg (World.drewN _) (Nat.add_assoc _ _ _))⟩)))
 repeat (go_quiet (first | (go_at_call 10; (with_reducible refine (impl_IsTelescopic.calls k _ _ l0 true _ ?side1 ?side2 A2.out).mono ?_); (case side1 => exact ce_ (HR0.out)); (case side2 => exact HC0.out); rintro e w6 ⟨rfl, hb⟩; replace HB := bo_ HB hb; (try clear hb)) | (go_at_call 34; (with_reducible refine (impl_shared.calls k _ _ l0 t911 _ ?side1 ?side2 A4.out).mono ?_); (case side1 => exact ch_ HR0 HB); (case side2 => exact HC0.out); rintro e w7 ⟨v912, rfl, ho0, hb⟩; have HO913 := Aside0.mk (Kd.R_lower ho0 (below_size (bl_ HB.out))); replace HB := bo_ HB hb; (try clear hb); (try clear ho0)) | (go_at_call 36; (with_reducible refine (impl_total.calls k _ _ l0 t914 _ ?side1 ?side2 A5.out).mono ?_); (case side1 => exact ch_ HR0 HB); (case side2 => exact HC0.out); rintro e w' ⟨rfl, ⟨nd, rfl⟩⟩; (try first | exact ⟨rfl, _, World.drewN_drewN _ _ _⟩ | exact ⟨rfl, _, Eq.trans (World.drewN_drewN _ _ _) (congrArg (World.drewN _) (Nat.add_assoc _ _ _))⟩))); try go_wp2_with (first | (go_at_call 10; (with_reducible refine (impl_IsTelescopic.calls k _ _ l0 true _ ?side1 ?side2 A2.out).mono ?_); (case side1 => exact ce_ (HR0.out)); (case side2 => exact HC0.out); rintro e w6 ⟨rfl, hb⟩; replace HB := bo_ HB hb; (try clear hb)) | (go_at_call 34; (with_reducible refine (impl_shared.calls k _ _ l0 t911 _ ?side1 ?side2 A4.out).mono ?_); (case side1 => exact ch_ HR0 HB); (case side2 => exact HC0.out); rintro e w7 ⟨v912, rfl, ho0, hb⟩; have HO913 := Aside0.mk (Kd.R_lower ho0 (below_size (bl_ HB.out))); replace HB := bo_ HB hb; (try clear hb); (try clear ho0)) | (go_at_call 36; (with_reducible refine (impl_total.calls k _ _ l0 t914 _ ?side1 ?side2 A5.out).mono ?_); (case side1 => exact ch_ HR0 HB); (case side2 => exact HC0.out); rintro e w' ⟨rfl, ⟨nd, rfl⟩⟩; (try first | exact ⟨rfl, _, World.drewN_drewN _ _ _⟩ | exact ⟨rfl, _, Eq.trans (World.drewN_drewN _ _ _) (congrArg (World.drewN _) (Nat.add_assoc _ _ _))⟩))))
 go_loopg [4, 5] k (fun kq v4 v5 w' => ∃ (x4_1 : Int) (x5_1 : Int), v4 = .int .i64 x4_1 ∧ v5 = .int .i64 x5_1 ∧ Aside0 (impl_TelescopicFrobenius.l0 kq l0 t911 x4_1 x5_1 = some r) ∧ Aside0 (kq ≤ k) ∧ Aside0 (Kd.R (Kd.int .i64) 3 w' w.heap.size (fun _ => True) v912 t911) ∧ Aside0 (Below w.heap.size w w'))
 case atStart => exact ⟨(wrap64 (-t914)), (1), rs_, rs_, H', ⟨Nat.le_refl _⟩, ⟨re_ HO913.out⟩, ⟨bl_ HB.out⟩⟩
 case round =>
  clear H'
  try clear c1
  try clear p2
  try clear c3
  try clear p6
  obtain ⟨x4_1, x5_1, rfl, rfl, HA, HK1, HO_3, HB⟩ := hrel
  cases gk with
  | zero => exact absurd HA.out (by simp [impl_TelescopicFrobenius.l0])
  | succ k1 =>
   have H := HA.out
   clear HA
   simp only [impl_TelescopicFrobenius.l0] at H
   by_cases c8 : x5_1 < (l0.length : Int)
   rotate_left
   · rw [if_neg c8] at H
     have c8b0 : decide (x5_1 < (l0.length : Int)) = false := decide_eq_false c8
     clear c8
     obtain rfl := Option.some.inj H
     go_wp2
     repeat (go_quiet (fail); try go_wp2)
     go_ret
     exact ⟨rf_, bl_ HB.out⟩
   rw [if_pos c8] at H
   have c8b0 : decide (x5_1 < (l0.length : Int)) = true := decide_eq_true c8
   clear c8
   by_cases c9 : 0 ≤ x5_1
   rotate_left
   · rw [if_neg c9] at H
     cases H
   rw [if_pos c9] at H
   have c9b0 : decide (0 ≤ x5_1) = true := decide_eq_true c9
   clear c9
   obtain ⟨ji10, hji10⟩ : ∃ j_ : Int, (wrap64 (x5_1 - 1)) = j_ := ⟨_, rfl⟩
   replace H : (if 0 ≤ (ji10) then (if (ji10) < (t911.length : Int) then (if x5_1 < (t911.length : Int) then (if (rd t911 x5_1) = 0 then (none) else (impl_TelescopicFrobenius.l0 k1 l0 t911 (wrap64 (x4_1 + (wrap64 (Int.tdiv (wrap64 ((rd l0 x5_1) * (rd t911 (ji10)))) (rd t911 x5_1))))) (wrap64 (x5_1 + 1)))) else (none)) else (none)) else (none)) = some r := by first | (rw [hji10] at H; exact H) | (simp only [hji10] at H ⊢; exact H)
   have hji10w : (IntKind.i64.wrap (x5_1 - 1)) = ji10 := (i64_w _).trans hji10
   by_cases c11 : 0 ≤ (ji10)
   rotate_left
   · rw [if_neg c11] at H
     cases H
   rw [if_pos c11] at H
   have c11b0 : decide (0 ≤ (ji10)) = true := decide_eq_true c11
   clear c11
   by_cases c12 : (ji10) < (t911.length : Int)
   rotate_left
   · rw [if_neg c12] at H
     cases H
   rw [if_pos c12] at H
   have c12b0 : decide ((ji10) < (t911.length : Int)) = true := decide_eq_true c12
   clear c12
   by_cases c13 : x5_1 < (t911.length : Int)
   rotate_left
   · rw [if_neg c13] at H
     cases H
   rw [if_pos c13] at H
   have c13b0 : decide (x5_1 < (t911.length : Int)) = true := decide_eq_true c13
   clear c13
   by_cases c14 : (rd t911 x5_1) = 0
   · rw [if_pos c14] at H
     cases H
   rw [if_neg c14] at H
   have c14b0 : ((rd t911 x5_1) == 0) = false := beq_eq_false_iff_ne.mpr c14
   have c14b1 : ((rd t911 x5_1) != 0) = true := bne_iff_ne.mpr c14
   have H' := Aside0.mk H
   clear H
   have p915 : 0 ≤ (x5_1 : Int) := od_
   have q915 : x5_1 < (l0.length : Int) := od_
   obtain ⟨ad915, e915, hx915_0⟩ := Kd.at_int HR0.out x5_1 p915 q915
   cases e915
   (try replace hx915_0 := (HB.out.cell (World.block_lt_of_cell? w _ hx915_0)).trans hx915_0)
   replace p915 := eq_true p915
   replace q915 := eq_true q915
   obtain ⟨Ao15, co15, eo15⟩ := Kd.R_slice HO_3.out
   subst eo15
   have p916 : 0 ≤ ((ji10) : Int) := od_
   have q916 : (ji10) < (t911.length : Int) := od_
   obtain ⟨ad916, e916, hx916_0⟩ := Kd.at_int (Kd.R_reads' HO_3.out).2.2 (ji10) p916 q916
   cases e916
   replace p916 := eq_true p916
   replace q916 := eq_true q916
   have p917 : 0 ≤ (x5_1 : Int) := od_
   have q917 : x5_1 < (t911.length : Int) := od_
   obtain ⟨ad917, e917, hx917_0⟩ := Kd.at_int (Kd.R_reads' HO_3.out).2.2 x5_1 p917 q917
   obtain rfl : ad916 = ad917 := (by injection e917)
   replace p917 := eq_true p917
   replace q917 := eq_true q917
   go_wp2
   repeat (go_quiet (fail); try go_wp2)
   go_roundg k1
   case measure => have := HK1.out; omega
   case rel => exact ⟨(wrap64 (x4_1 + (wrap64 (Int.tdiv (wrap64 ((rd l0 x5_1) * (rd t911 (ji10)))) (rd t911 x5_1))))), (wrap64 (x5_1 + 1)), (by first | rfl | (simp; done) | (simp only [← hji10] <;> (first | rfl | simp)) | (simp [*]; done)), rs_, H', ⟨by have := HK1.out; omega⟩, ⟨re_ HO_3.out⟩, ⟨bl_ HB.out⟩⟩
def spec_EqualSemigroup.f (k : Nat) (l0_0 : List Int) (l1_0 : List Int) : Option (Bool) := (spec_l2Same.f k l0_0 l1_0).bind fun t920 => (some t920)
theorem spec_EqualSemigroup.calls (k : Nat) (A0_0 : Option Addr) (c0_0 : Nat) (l0_0 : List Int) (A1_0 : Option Addr) (c1_0 : Nat) (l1_0 : List Int) (r : Bool) (w : World) (hr0_0 : Kd.C (Kd.int .i64) w A0_0 l0_0.length l0_0) (hc0_0 : l0_0.length ≤ c0_0) (hr1_0 : Kd.C (Kd.int .i64) w A1_0 l1_0.length l1_0) (hc1_0 : l1_0.length ≤ c1_0) (h : spec_EqualSemigroup.f k l0_0 l1_0 = some r) :
 Calls Try.prog 12 #[.agg #[.slice A0_0 l0_0.length c0_0], .agg #[.slice A1_0 l1_0.length c1_0]] w fun e w' => e = .returned (.bool r) ∧ Below w.heap.size w w' := by
 have hu26 := Try.underlying26
 have HR0_0 := Aside0.mk hr0_0
 have HC0_0 := Aside0.mk hc0_0
 clear hr0_0 hc0_0
 have HR1_0 := Aside0.mk hr1_0
 have HC1_0 := Aside0.mk hc1_0
 clear hr1_0 hc1_0
 have HB := Aside0.mk (Below.refl w.heap.size w)
 have H := h
 clear h
 unfold spec_EqualSemigroup.f at H
 obtain ⟨t920, A3, H⟩ := ob_ H
 obtain rfl := Option.some.inj H
 go_enter Try.func12, Try.ntmps12
 go_wp2_with (first | ((with_reducible refine gate_dst (N := 2) rfl ?_); refine bx_ 2 #[.slice A0_0 l0_0.length c0_0] 26 ?_; intro gb918 hg w4 hbox hb; have BK918 := Aside0.mk (hbox); have GW918 := gw_ hg HB; have GE918 := gw_ hg HB; replace HB := bo_ HB hb; clear hb hbox hg) | ((with_reducible refine gate_dst (N := 3) rfl ?_); refine bx_ 3 #[.slice A1_0 l1_0.length c1_0] 26 ?_; intro gb919 hg w5 hbox hb; have BK919 := Aside0.mk (hbox); have GW919 := gq_ hg (bq_ HB); have GE919 := gq_ hg (bq_ HB); replace HB := bp_ HB hb; have NB918_919 := nl_ hg BK918; have NB919_918 := ng_ hg BK918; replace BK918 := bk_ BK918 hb; clear hb hbox hg; have hnb6 := NB918_919.out; have hnc6 := NB919_918.out; have hcz7_0 := cz_ BK918; have hfz7_0 := blk_frozen BK918.out 0; have hcz8_0 := cz_ BK919; have hfz8_0 := blk_frozen BK919.out 0) | ((with_reducible refine gate_callee (f := 37) rfl ?_); refine gL_ (some 9) Try.func37 #[.slice A0_0 l0_0.length c0_0, .slice A1_0 l1_0.length c1_0] ?_; (with_reducible refine (spec_l2Same.calls k _ _ l0_0 _ _ l1_0 t920 _ ?side1 ?side2 ?side3 ?side4 A3.out).mono ?_); (case side1 => exact ch_ HR0_0 HB); (case side2 => exact HC0_0.out); (case side3 => exact ch_ HR1_0 HB); (case side4 => exact HC1_0.out); rintro e w' ⟨rfl, ⟨nd, rfl⟩⟩; refine ⟨_, rfl, ?_⟩))
 go_ret
 exact ⟨rf_, bq_ HB⟩
def spec_l4Gaps.l0 : Nat → List Int → List Bool → Int → Option (List Int)
 | 0, _, _, _ => none
 | k + 1, x3, x4, x5 => if x5 < 200 then (if 0 ≤ x5 then (if x5 < (x4.length : Int) then (if rdOf false x4 x5 = true then (spec_l4Gaps.l0 k x3 x4 (wrap64 (x5 + 1))) else (if x3.length < 17592186044416 then (spec_l4Gaps.l0 k (x3 ++ [x5]) x4 (wrap64 (x5 + 1))) else (none))) else (none)) else (none)) else (some x3)
def spec_l4Gaps.f (k : Nat) (l0_0 : List Int) : Option (List Int) := (spec_l3Table.f k l0_0 200).bind fun t925 => (spec_l4Gaps.l0 k (([] : List Int)) t925 1)
theorem spec_l4Gaps.calls (k : Nat) (A0_0 : Option Addr) (c0_0 : Nat) (l0_0 : List Int) (r : List Int) (w : World) (hr0_0 : Kd.C (Kd.int .i64) w A0_0 l0_0.length l0_0) (hc0_0 : l0_0.length ≤ c0_0) (h : spec_l4Gaps.f k l0_0 = some r) :
 Calls Try.prog 65 #[.agg #[.slice A0_0 l0_0.length c0_0]] w fun e w' => ∃ v0_ : Value, e = .returned (v0_) ∧ Kd.R (Kd.int .i64) 3 w' w.heap.size (fun _ => True) v0_ r ∧ Below w.heap.size w w' := by
 have hu26 := Try.underlying26
 have HR0_0 := Aside0.mk hr0_0
 have HC0_0 := Aside0.mk hc0_0
 clear hr0_0 hc0_0
 have HB := Aside0.mk (Below.refl w.heap.size w)
 have H := h
 clear h
 unfold spec_l4Gaps.f at H
 obtain ⟨y922, hy922⟩ : ∃ y_ : List Int, y_ = (([] : List Int)) := ⟨_, rfl⟩
 replace H : ((spec_l3Table.f k l0_0 200).bind fun t925 => (spec_l4Gaps.l0 k y922 t925 1)) = some r := by subst hy922; exact H
 have Ny922 := Aside0.mk hy922
 clear hy922
 obtain ⟨t925, A2, H⟩ := ob_ H
 have H' := Aside0.mk H
 clear H
 go_enter Try.func65, Try.ntmps65
 go_wp2_with (first | ((with_reducible refine gate_dst (N := 1) rfl ?_); refine bx_ 1 #[.slice A0_0 l0_0.length c0_0] 26 ?_; intro gb921 hg w3 hbox hb; have BK921 := Aside0.mk (hbox); have GW921 := gw_ hg HB; have GE921 := gw_ hg HB; replace HB := bo_ HB hb; clear hb hbox hg) | ((with_reducible refine gate_dst (N := 6) rfl ?_); refine Kd.R_lit (Kd.int .i64) _ 3 ?hg (N := 6) ?hd (xs := ([] : List Int)) (inner := []) (ok := fun _ => True) (okp := fun _ => True) ?hr ?hp (fun _ hk => hk) trivial (Below.refl _ _) (Nat.le_refl _) (by simp) ?_; (case hd => rfl); (case hg => rfl); (case hr => first | (go_simp; done) | (go_simp; rfl)); (case hp => exact (Reps.none _ _)); intro v923 w4 ho5 hb hg_ hnew_; clear hg_ hnew_; (first | rw [← Ny922.out] at ho5 | (simp only [Int.reduceToNat] at ho5; rw [← Ny922.out] at ho5)); have HO924 := Aside0.mk (Kd.R_lower ho5 (below_size (bq_ HB))); replace BK921 := bk_ BK921 hb; replace HB := bp_ HB hb; clear hb ho5; have hcz6_0 := cz_ BK921; have hfz6_0 := blk_frozen BK921.out 0) | ((with_reducible refine gate_callee (f := 64) rfl ?_); refine gL_ (some 9) Try.func64 #[.slice A0_0 l0_0.length c0_0, .int .i64 200] ?_; (with_reducible refine (spec_l3Table.calls k _ _ l0_0 200 t925 _ ?side1 ?side2 A2.out).mono ?_); (case side1 => exact ch_ HR0_0 HB); (case side2 => exact HC0_0.out); rintro e w7 ⟨v926, rfl, ho0, hb⟩; refine ⟨_, rfl, ?_⟩; replace HO924 := Aside0.mk (Kd.R_below (re_ HO924.out) hb); have HO927 := Aside0.mk (Kd.R_lower ho0 (below_size (bq_ HB))); replace BK921 := bk_ BK921 hb; replace HB := bp_ HB hb; (try clear hb); (try clear ho0)))
 go_loopg [3, 5] k (fun kq v3 v5 w' => ∃ (x3_1 : List Int) (x5_1 : Int), v5 = .int .i64 x5_1 ∧ Aside0 (spec_l4Gaps.l0 kq x3_1 t925 x5_1 = some r) ∧ Aside0 (kq ≤ k) ∧ Aside0 (Kd.R (Kd.int .i64) 3 w' w.heap.size (fun _ => True) v3 x3_1) ∧ Aside0 (Kd.R Kd.bool 4 w' w.heap.size (fun _ => True) v926 t925) ∧ Aside0 (w'.heap[gb921]? = some (.cells #[(.slice A0_0 l0_0.length c0_0)] 26 (0, 0))) ∧ Aside0 (Below w.heap.size w w'))
 case atStart => exact ⟨(y922), (1), rs_, H', ⟨Nat.le_refl _⟩, ⟨re_ HO924.out⟩, ⟨re_ HO927.out⟩, ⟨be_ BK921.out⟩, ⟨bq_ HB⟩⟩
 case round =>
  clear H'
  try clear p2
  try clear c6
  try clear hcz6_0
  try clear hfz6_0
  obtain ⟨x3_1, x5_1, rfl, HA, HK1, HO_3, HO_4, BK921, HB⟩ := hrel
  cases gk with
  | zero => exact absurd HA.out (by simp [spec_l4Gaps.l0])
  | succ k1 =>
   have H := HA.out
   clear HA
   simp only [spec_l4Gaps.l0] at H
   by_cases c8 : x5_1 < 200
   rotate_left
   · rw [if_neg c8] at H
     have c8b0 : decide (x5_1 < 200) = false := decide_eq_false c8
     clear c8
     obtain rfl := Option.some.inj H
     go_wp2
     go_ret
     exact ⟨_, rf_, re_ HO_3.out, bq_ HB⟩
   rw [if_pos c8] at H
   have c8b0 : decide (x5_1 < 200) = true := decide_eq_true c8
   clear c8
   by_cases c9 : 0 ≤ x5_1
   rotate_left
   · rw [if_neg c9] at H
     cases H
   rw [if_pos c9] at H
   have c9b0 : decide (0 ≤ x5_1) = true := decide_eq_true c9
   clear c9
   by_cases c10 : x5_1 < (t925.length : Int)
   rotate_left
   · rw [if_neg c10] at H
     cases H
   rw [if_pos c10] at H
   have c10b0 : decide (x5_1 < (t925.length : Int)) = true := decide_eq_true c10
   clear c10
   obtain ⟨bq11, hbq11⟩ : ∃ b_ : Bool, b_ = (rdOf false t925 x5_1) := ⟨_, rfl⟩
   replace H : (if bq11 = true then (spec_l4Gaps.l0 k1 x3_1 t925 (wrap64 (x5_1 + 1))) else (if x3_1.length < 17592186044416 then (spec_l4Gaps.l0 k1 (x3_1 ++ [x5_1]) t925 (wrap64 (x5_1 + 1))) else (none))) = some r := by rw [← hbq11] at H; exact H
   have Nbq11 := Aside0.mk hbq11
   clear hbq11
   by_cases c12 : bq11 = true
   · subst c12
     rw [if_pos rfl] at H
     have H' := Aside0.mk H
     clear H
     obtain ⟨Ao13, co13, eo13⟩ := Kd.R_slice HO_4.out
     subst eo13
     have p928 : 0 ≤ (x5_1 : Int) := od_
     have q928 : x5_1 < (t925.length : Int) := od_
     obtain ⟨ad928, e928, hx928_0⟩ := Kd.at_bool (Kd.R_reads' HO_4.out).2.2 x5_1 p928 q928
     (try rw [← Nbq11.out] at hx928_0)
     cases e928
     replace p928 := eq_true p928
     replace q928 := eq_true q928
     go_wp2
     go_roundg k1
     case measure => have := HK1.out; omega
     case rel => exact ⟨(x3_1), (wrap64 (x5_1 + 1)), rs_, H', ⟨by have := HK1.out; omega⟩, ⟨re_ HO_3.out⟩, ⟨re_ HO_4.out⟩, ⟨be_ BK921.out⟩, ⟨bq_ HB⟩⟩
   replace c12 := Bool.eq_false_iff.mpr c12
   subst c12
   rw [if_neg (show ¬ (false = true) by decide)] at H
   by_cases c14 : x3_1.length < 17592186044416
   rotate_left
   · rw [if_neg c14] at H
     cases H
   rw [if_pos c14] at H
   have LMc14 := Aside0.mk c14
   clear c14
   obtain ⟨y929, hy929⟩ : ∃ y_ : List Int, y_ = (x3_1 ++ [x5_1]) := ⟨_, rfl⟩
   replace H : (spec_l4Gaps.l0 k1 y929 t925 (wrap64 (x5_1 + 1))) = some r := by subst hy929; exact H
   have Ny929 := Aside0.mk hy929
   clear hy929
   have H' := Aside0.mk H
   clear H
   obtain ⟨Ao15, co15, eo15⟩ := Kd.R_slice HO_4.out
   subst eo15
   have p928 : 0 ≤ (x5_1 : Int) := od_
   have q928 : x5_1 < (t925.length : Int) := od_
   obtain ⟨ad928, e928, hx928_0⟩ := Kd.at_bool (Kd.R_reads' HO_4.out).2.2 x5_1 p928 q928
   (try rw [← Nbq11.out] at hx928_0)
   cases e928
   replace p928 := eq_true p928
   replace q928 := eq_true q928
   go_wp2_with (first | ((with_reducible refine gate_builtin (b := .append) (xs := #[.tmp 19, .tmp 21]) rfl ?_); at_builtin; refine Kd.R_append (Kd.int .i64) (w0 := w) w.heap.size rfl (.tmp 19) (.tmp 21) 24 3 (.int .i64 0) 8 rfl Try.underlying24 info3 rfl (by decide) (by omega) u3 x3_1 x5_1 [.int .i64 x5_1] (fun _ => True) (fun _ => False) rfl rfl ?aP (fun _ hk => hk.elim) ?aF ?aO ?aB ?aS ?aL ?_; (case aP => exact rfl); (case aB => exact (bq_ HB)); (case aF => exact (fun _ _ => trivial)); (case aO => exact (re_ HO_3.out)); (case aS => exact (below_size (bq_ HB))); (case aL => have := LMc14.out; omega); intro v930 w16 ho hb hg hat; rw [← Ny929.out] at ho; replace HO_4 := Aside0.mk (Kd.R_over' (re_ HO_4.out) (Kd.R_typed (re_ HO_3.out)) (by decide) hg); replace BK921 := Aside0.mk (blk_grown (be_ BK921.out) hg (Kd.R_ne HO_3.out BK921.out (by decide))); replace HB := Aside0.mk (hb); have HO931 := Aside0.mk (ho); clear HO_3; clear ho hb hg hat))
   go_roundg k1
   case measure => have := HK1.out; omega
   case rel => exact ⟨(y929), (wrap64 (x5_1 + 1)), rs_, H', ⟨by have := HK1.out; omega⟩, ⟨re_ HO931.out⟩, ⟨re_ HO_4.out⟩, ⟨be_ BK921.out⟩, ⟨bq_ HB⟩⟩
def spec_Gaps.f (k : Nat) (l0_0 : List Int) : Option (List Int) := (spec_IsSemigroup.f k l0_0).bind fun t933 => (if t933 = true then ((spec_l4Gaps.f k l0_0).bind fun t934 => (some t934)) else (some (([] : List Int))))
theorem spec_Gaps.calls (k : Nat) (A0_0 : Option Addr) (c0_0 : Nat) (l0_0 : List Int) (r : List Int) (w : World) (hr0_0 : Kd.C (Kd.int .i64) w A0_0 l0_0.length l0_0) (hc0_0 : l0_0.length ≤ c0_0) (h : spec_Gaps.f k l0_0 = some r) :
 Calls Try.prog 42 #[.agg #[.slice A0_0 l0_0.length c0_0]] w fun e w' => ∃ v0_ : Value, e = .returned (v0_) ∧ Kd.R (Kd.int .i64) 3 w' w.heap.size (fun _ => True) v0_ r ∧ Below w.heap.size w w' := by
 have hu26 := Try.underlying26
 have HR0_0 := Aside0.mk hr0_0
 have HC0_0 := Aside0.mk hc0_0
 clear hr0_0 hc0_0
 have HB := Aside0.mk (Below.refl w.heap.size w)
 have H := h
 clear h
 unfold spec_Gaps.f at H
 obtain ⟨t933, A2, H⟩ := ob_ H
 by_cases c3 : t933 = true
 · subst c3
   rw [if_pos rfl] at H
   obtain ⟨t934, A4, H⟩ := ob_ H
   obtain rfl := Option.some.inj H
   go_enter Try.func42, Try.ntmps42
   go_wp2_with (first | ((with_reducible refine gate_dst (N := 1) rfl ?_); refine bx_ 1 #[.slice A0_0 l0_0.length c0_0] 26 ?_; intro gb932 hg w5 hbox hb; have BK932 := Aside0.mk (hbox); have GW932 := gw_ hg HB; have GE932 := gw_ hg HB; replace HB := bo_ HB hb; clear hb hbox hg; have hcz6_0 := cz_ BK932; have hfz6_0 := blk_frozen BK932.out 0) | ((with_reducible refine gate_callee (f := 43) rfl ?_); refine gL_ (some 4) Try.func43 #[.agg #[.slice A0_0 l0_0.length c0_0]] ?_; (with_reducible refine (spec_IsSemigroup.calls k _ _ l0_0 true _ ?side1 ?side2 A2.out).mono ?_); (case side1 => exact ch_ HR0_0 HB); (case side2 => exact HC0_0.out); rintro e w7 ⟨rfl, hb⟩; refine ⟨_, rfl, ?_⟩; replace BK932 := bk_ BK932 hb; replace HB := bp_ HB hb; (try clear hb); have hcz8_0 := cz_ BK932; have hfz8_0 := blk_frozen BK932.out 0) | ((with_reducible refine gate_callee (f := 65) rfl ?_); refine gL_ (some 8) Try.func65 #[.agg #[.slice A0_0 l0_0.length c0_0]] ?_; (with_reducible refine (spec_l4Gaps.calls k _ _ l0_0 t934 _ ?side1 ?side2 A4.out).mono ?_); (case side1 => exact ch_ HR0_0 HB); (case side2 => exact HC0_0.out); rintro e w9 ⟨v935, rfl, ho0, hb⟩; refine ⟨_, rfl, ?_⟩; have HO936 := Aside0.mk (Kd.R_lower ho0 (below_size (bq_ HB))); replace BK932 := bk_ BK932 hb; replace HB := bp_ HB hb; (try clear hb); (try clear ho0)))
   go_ret
   exact ⟨_, rf_, re_ HO936.out, bq_ HB⟩
 replace c3 := Bool.eq_false_iff.mpr c3
 subst c3
 rw [if_neg (show ¬ (false = true) by decide)] at H
 obtain ⟨y937, hy937⟩ : ∃ y_ : List Int, y_ = (([] : List Int)) := ⟨_, rfl⟩
 replace H : (some y937) = some r := by subst hy937; exact H
 have Ny937 := Aside0.mk hy937
 clear hy937
 obtain rfl := Option.some.inj H
 go_enter Try.func42, Try.ntmps42
 go_wp2_with (first | ((with_reducible refine gate_dst (N := 1) rfl ?_); refine bx_ 1 #[.slice A0_0 l0_0.length c0_0] 26 ?_; intro gb932 hg w10 hbox hb; have BK932 := Aside0.mk (hbox); have GW932 := gw_ hg HB; have GE932 := gw_ hg HB; replace HB := bo_ HB hb; clear hb hbox hg; have hcz11_0 := cz_ BK932; have hfz11_0 := blk_frozen BK932.out 0) | ((with_reducible refine gate_callee (f := 43) rfl ?_); refine gL_ (some 4) Try.func43 #[.agg #[.slice A0_0 l0_0.length c0_0]] ?_; (with_reducible refine (spec_IsSemigroup.calls k _ _ l0_0 false _ ?side1 ?side2 A2.out).mono ?_); (case side1 => exact ch_ HR0_0 HB); (case side2 => exact HC0_0.out); rintro e w12 ⟨rfl, hb⟩; refine ⟨_, rfl, ?_⟩; replace BK932 := bk_ BK932 hb; replace HB := bp_ HB hb; (try clear hb)) | ((with_reducible refine gate_dst (N := 6) rfl ?_); refine Kd.R_lit (Kd.int .i64) _ 3 ?hg (N := 6) ?hd (xs := ([] : List Int)) (inner := []) (ok := fun _ => True) (okp := fun _ => True) ?hr ?hp (fun _ hk => hk) trivial (Below.refl _ _) (Nat.le_refl _) (by simp) ?_; (case hd => rfl); (case hg => rfl); (case hr => first | (go_simp; done) | (go_simp; rfl)); (case hp => exact (Reps.none _ _)); intro v938 w13 ho14 hb hg_ hnew_; clear hg_ hnew_; (first | rw [← Ny937.out] at ho14 | (simp only [Int.reduceToNat] at ho14; rw [← Ny937.out] at ho14)); have HO939 := Aside0.mk (Kd.R_lower ho14 (below_size (bq_ HB))); replace BK932 := bk_ BK932 hb; replace HB := bp_ HB hb; clear hb ho14))
 go_ret
 exact ⟨_, rf_, re_ HO939.out, bq_ HB⟩
def spec_FrobeniusOf.f (k : Nat) (l0_0 : List Int) : Option (Int) := (spec_Gaps.f k l0_0).bind fun t941 => (if (t941.length : Int) = 0 then (some (-1)) else (if 0 ≤ (wrap64 ((t941.length : Int) - 1)) then (if (wrap64 ((t941.length : Int) - 1)) < (t941.length : Int) then (some (rd t941 (wrap64 ((t941.length : Int) - 1)))) else (none)) else (none)))
theorem spec_FrobeniusOf.calls (k : Nat) (A0_0 : Option Addr) (c0_0 : Nat) (l0_0 : List Int) (r : Int) (w : World) (hr0_0 : Kd.C (Kd.int .i64) w A0_0 l0_0.length l0_0) (hc0_0 : l0_0.length ≤ c0_0) (h : spec_FrobeniusOf.f k l0_0 = some r) :
 Calls Try.prog 16 #[.agg #[.slice A0_0 l0_0.length c0_0]] w fun e w' => e = .returned (.int .i64 r) ∧ Below w.heap.size w w' := by
 have hu26 := Try.underlying26
 have HR0_0 := Aside0.mk hr0_0
 have HC0_0 := Aside0.mk hc0_0
 clear hr0_0 hc0_0
 have HB := Aside0.mk (Below.refl w.heap.size w)
 have H := h
 clear h
 unfold spec_FrobeniusOf.f at H
 obtain ⟨t941, A2, H⟩ := ob_ H
 by_cases c3 : (t941.length : Int) = 0
 · rw [if_pos c3] at H
   have c3b0 : ((t941.length : Int) == 0) = true := beq_iff_eq.mpr c3
   have c3b1 : ((t941.length : Int) != 0) = false := bne_eq_false_iff_eq.mpr c3
   clear c3
   obtain rfl := Option.some.inj H
   go_enter Try.func16, Try.ntmps16
   go_wp2_with (first | ((with_reducible refine gate_dst (N := 1) rfl ?_); refine bx_ 1 #[.slice A0_0 l0_0.length c0_0] 26 ?_; intro gb940 hg w4 hbox hb; have BK940 := Aside0.mk (hbox); have GW940 := gw_ hg HB; have GE940 := gw_ hg HB; replace HB := bo_ HB hb; clear hb hbox hg; have hcz5_0 := cz_ BK940; have hfz5_0 := blk_frozen BK940.out 0) | ((with_reducible refine gate_callee (f := 42) rfl ?_); refine gL_ (some 5) Try.func42 #[.agg #[.slice A0_0 l0_0.length c0_0]] ?_; (with_reducible refine (spec_Gaps.calls k _ _ l0_0 t941 _ ?side1 ?side2 A2.out).mono ?_); (case side1 => exact ch_ HR0_0 HB); (case side2 => exact HC0_0.out); rintro e w6 ⟨v942, rfl, ho0, hb⟩; refine ⟨_, rfl, ?_⟩; have HO943 := Aside0.mk (Kd.R_lower ho0 (below_size (bq_ HB))); replace BK940 := bk_ BK940 hb; replace HB := bp_ HB hb; (try clear hb); (try clear ho0); obtain ⟨Ao7, co7, eo7⟩ := Kd.R_slice HO943.out; subst eo7))
   go_ret
   exact ⟨rf_, bq_ HB⟩
 rw [if_neg c3] at H
 have c3b0 : ((t941.length : Int) == 0) = false := beq_eq_false_iff_ne.mpr c3
 have c3b1 : ((t941.length : Int) != 0) = true := bne_iff_ne.mpr c3
 have c3b2 : ¬ (t941 = []) := fun h_ => c3 (by rw [h_]; rfl)
 obtain ⟨ji8, hji8⟩ : ∃ j_ : Int, (wrap64 ((t941.length : Int) - 1)) = j_ := ⟨_, rfl⟩
 replace H : (if 0 ≤ (ji8) then (if (ji8) < (t941.length : Int) then (some (rd t941 (ji8))) else (none)) else (none)) = some r := by first | (rw [hji8] at H; exact H) | (simp only [hji8] at H ⊢; exact H)
 (try rw [hji8] at A2)
 have hji8w : (IntKind.i64.wrap ((t941.length : Int) - 1)) = ji8 := (i64_w _).trans hji8
 by_cases c9 : 0 ≤ (ji8)
 rotate_left
 · rw [if_neg c9] at H
   cases H
 rw [if_pos c9] at H
 have c9b0 : decide (0 ≤ (ji8)) = true := decide_eq_true c9
 clear c9
 by_cases c10 : (ji8) < (t941.length : Int)
 rotate_left
 · rw [if_neg c10] at H
   cases H
 rw [if_pos c10] at H
 have c10b0 : decide ((ji8) < (t941.length : Int)) = true := decide_eq_true c10
 clear c10
 obtain rfl := Option.some.inj H
 go_enter Try.func16, Try.ntmps16
 go_wp2_with (first | ((with_reducible refine gate_dst (N := 1) rfl ?_); refine bx_ 1 #[.slice A0_0 l0_0.length c0_0] 26 ?_; intro gb940 hg w11 hbox hb; have BK940 := Aside0.mk (hbox); have GW940 := gw_ hg HB; have GE940 := gw_ hg HB; replace HB := bo_ HB hb; clear hb hbox hg; have hcz12_0 := cz_ BK940; have hfz12_0 := blk_frozen BK940.out 0) | ((with_reducible refine gate_callee (f := 42) rfl ?_); refine gL_ (some 5) Try.func42 #[.agg #[.slice A0_0 l0_0.length c0_0]] ?_; (with_reducible refine (spec_Gaps.calls k _ _ l0_0 t941 _ ?side1 ?side2 A2.out).mono ?_); (case side1 => exact ch_ HR0_0 HB); (case side2 => exact HC0_0.out); rintro e w13 ⟨v942, rfl, ho0, hb⟩; refine ⟨_, rfl, ?_⟩; have HO943 := Aside0.mk (Kd.R_lower ho0 (below_size (bq_ HB))); replace BK940 := bk_ BK940 hb; replace HB := bp_ HB hb; (try clear hb); (try clear ho0); obtain ⟨Ao14, co14, eo14⟩ := Kd.R_slice HO943.out; subst eo14; have p944 : 0 ≤ ((ji8) : Int) := od_; have q944 : (ji8) < (t941.length : Int) := od_; obtain ⟨ad944, e944, hx944_0⟩ := Kd.at_int (Kd.R_reads' HO943.out).2.2 (ji8) p944 q944; cases e944; replace p944 := eq_true p944; replace q944 := eq_true q944))
 go_ret
 exact ⟨by first | rfl | (simp [errW_none, errW_some] <;> rfl) | (simp only [← hji8]; first | rfl | (simp [errW_none, errW_some] <;> rfl)) | (simp [*, errW_none, errW_some] <;> rfl), bq_ HB⟩
def spec_GlueFrobenius.f (k : Nat) (l0_0 : List Int) (l1_0 : List Int) (a2 : Int) (a3 : Int) : Option (Int) := (spec_GlueOf.f k l0_0 l1_0 a2 a3).bind fun bt947 => (if bt947.2 = true then ((spec_FrobeniusOf.f k l0_0).bind fun t952 => ((spec_FrobeniusOf.f k l1_0).bind fun t953 => (some (wrap64 ((wrap64 ((wrap64 (a2 * t952)) + (wrap64 (a3 * t953)))) + (wrap64 (a2 * a3))))))) else (some (-1)))
def spec_GlueFrobenius.T4 : Bool × List (List Nat × List Nat) := (true, [([], []), ([], []), ([1], [1]), ([0, 2], [0, 2]), ([], []), ([], []), ([5, 2], [5]), ([4, 6], [4, 6]), ([3, 7], [3, 7]), ([], []), ([], []), ([9, 10], [9, 10]), ([8, 11], [8, 11]), ([12, 6, 0, 1, 2, 3, 4, 5, 6, 7, 8, 9, 10, 11, 12], [12])])
def spec_GlueFrobenius.B4 : List Nat := [0, 0, 2, 7, 0, 0, 38, 118, 255, 0, 0, 1536, 4095, 8191]
theorem spec_GlueFrobenius.tab4 : rtab .any (opsOf Try.f13 4) = spec_GlueFrobenius.T4 := by kernel_rfl
theorem spec_GlueFrobenius.bits4 : waitsOk spec_GlueFrobenius.T4.2 spec_GlueFrobenius.B4 = true := by kernel_rfl
theorem spec_GlueFrobenius.calls (k : Nat) (A0_0 : Option Addr) (c0_0 : Nat) (l0_0 : List Int) (A1_0 : Option Addr) (c1_0 : Nat) (l1_0 : List Int) (a2 : Int) (a3 : Int) (r : Int) (w : World) (hr0_0 : Kd.C (Kd.int .i64) w A0_0 l0_0.length l0_0) (hc0_0 : l0_0.length ≤ c0_0) (hr1_0 : Kd.C (Kd.int .i64) w A1_0 l1_0.length l1_0) (hc1_0 : l1_0.length ≤ c1_0) (h : spec_GlueFrobenius.f k l0_0 l1_0 a2 a3 = some r) :
 Calls Try.prog 13 #[.agg #[.slice A0_0 l0_0.length c0_0], .agg #[.slice A1_0 l1_0.length c1_0], .int .i64 a2, .int .i64 a3] w fun e w' => e = .returned (.int .i64 r) ∧ Below w.heap.size w w' := by
 have hu26 := Try.underlying26
 have HR0_0 := Aside0.mk hr0_0
 have HC0_0 := Aside0.mk hc0_0
 clear hr0_0 hc0_0
 have HR1_0 := Aside0.mk hr1_0
 have HC1_0 := Aside0.mk hc1_0
 clear hr1_0 hc1_0
 have HB := Aside0.mk (Below.refl w.heap.size w)
 have H := h
 clear h
 unfold spec_GlueFrobenius.f at H
 obtain ⟨⟨t947, t950⟩, A5, H⟩ := ob_ H
 (try dsimp only at H)
 by_cases c6 : t950 = true
 rotate_left
 · replace c6 := Bool.eq_false_iff.mpr c6
   subst c6
   rw [if_neg (show ¬ (false = true) by decide)] at H
   obtain rfl := Option.some.inj H
   go_enter Try.func13, Try.ntmps13
   go_wp2_with (first | ((with_reducible refine gate_dst (N := 4) rfl ?_); refine bx_ 4 #[.slice A0_0 l0_0.length c0_0] 26 ?_; intro gb945 hg w24 hbox hb; have BK945 := Aside0.mk (hbox); have GW945 := gw_ hg HB; have GE945 := gw_ hg HB; replace HB := bo_ HB hb; clear hb hbox hg) | ((with_reducible refine gate_dst (N := 5) rfl ?_); refine bx_ 5 #[.slice A1_0 l1_0.length c1_0] 26 ?_; intro gb946 hg w25 hbox hb; have BK946 := Aside0.mk (hbox); have GW946 := gq_ hg (bq_ HB); have GE946 := gq_ hg (bq_ HB); replace HB := bp_ HB hb; have NB945_946 := nl_ hg BK945; have NB946_945 := ng_ hg BK945; replace BK945 := bk_ BK945 hb; clear hb hbox hg; have hnb26 := NB945_946.out; have hnc26 := NB946_945.out; have hcz27_0 := cz_ BK945; have hfz27_0 := blk_frozen BK945.out 0; have hcz28_0 := cz_ BK946; have hfz28_0 := blk_frozen BK946.out 0) | ((with_reducible refine gate_callee (f := 7) rfl ?_); refine gL_ (some 16) Try.func7 #[.agg #[.slice A0_0 l0_0.length c0_0], .agg #[.slice A1_0 l1_0.length c1_0], .int .i64 a2, .int .i64 a3] ?_; (with_reducible refine (spec_GlueOf.calls k _ _ l0_0 _ _ l1_0 a2 a3 t947 false _ ?side1 ?side2 ?side3 ?side4 A5.out).mono ?_); (case side1 => exact ch_ HR0_0 HB); (case side2 => exact HC0_0.out); (case side3 => exact ch_ HR1_0 HB); (case side4 => exact HC1_0.out); rintro e w29 ⟨v948, rfl, ho0, hb⟩; refine ⟨_, rfl, ?_⟩; have HO949 := Aside0.mk (Kd.R_lower ho0 (below_size (bq_ HB))); replace BK945 := bk_ BK945 hb; replace BK946 := bk_ BK946 hb; replace HB := bp_ HB hb; (try clear hb); (try clear ho0)) | ((with_reducible refine gate_dst (N := 9) rfl ?_); refine bx_ 9 #[.slice none 0 0] 26 ?_; intro gb951 hg w30 hbox hb; replace HO949 := Aside0.mk (Kd.R_below (re_ HO949.out) hb); have BK951 := Aside0.mk (hbox); have GW951 := gq_ hg (bq_ HB); have GE951 := gq_ hg (bq_ HB); replace HB := bp_ HB hb; have NB945_951 := nl_ hg BK945; have NB951_945 := ng_ hg BK945; replace BK945 := bk_ BK945 hb; have NB946_951 := nl_ hg BK946; have NB951_946 := ng_ hg BK946; replace BK946 := bk_ BK946 hb; clear hb hbox hg; obtain ⟨Ao31, co31, eo31⟩ := Kd.R_slice HO949.out; subst eo31; have hnb32 := NB951_945.out; have hnc32 := NB945_951.out; have hnb33 := NB951_946.out; have hnc33 := NB946_951.out; have hcz34_0 := cz_ BK951; have hfz34_0 := blk_frozen BK951.out 0))
   go_ret
   exact ⟨rf_, bq_ HB⟩
 subst c6
 rw [if_pos rfl] at H
 obtain ⟨t952, A7, H⟩ := ob_ H
 obtain ⟨t953, A8, H⟩ := ob_ H
 obtain rfl := Option.some.inj H
 go_enter Try.func13, Try.ntmps13
 try go_wp2_with (first | ((with_reducible refine gate_dst (N := 4) rfl ?_); refine bx_ 4 #[.slice A0_0 l0_0.length c0_0] 26 ?_; intro gb945 hg w9 hbox hb; have BK945 := Aside0.mk (hbox); have GW945 := gw_ hg HB; have GE945 := gw_ hg HB; replace HB := bo_ HB hb; clear hb hbox hg) | ((with_reducible refine gate_dst (N := 5) rfl ?_); refine bx_ 5 #[.slice A1_0 l1_0.length c1_0] 26 ?_; intro gb946 hg w10 hbox hb; have BK946 := Aside0.mk (hbox); have GW946 := gq_ hg (bq_ HB); have GE946 := gq_ hg (bq_ HB); replace HB := bp_ HB hb; have NB945_946 := nl_ hg BK945; have NB946_945 := ng_ hg BK945; replace BK945 := bk_ BK945 hb; clear hb hbox hg; have hnb11 := NB945_946.out; have hnc11 := NB946_945.out; have hcz12_0 := cz_ BK945; have hfz12_0 := blk_frozen BK945.out 0; have hcz13_0 := cz_ BK946; have hfz13_0 := blk_frozen BK946.out 0) | ((with_reducible refine gate_callee (f := 7) rfl ?_); refine gL_ (some 16) Try.func7 #[.agg #[.slice A0_0 l0_0.length c0_0], .agg #[.slice A1_0 l1_0.length c1_0], .int .i64 a2, .int .i64 a3] ?_; (with_reducible refine (spec_GlueOf.calls k _ _ l0_0 _ _ l1_0 a2 a3 t947 true _ ?side1 ?side2 ?side3 ?side4 A5.out).mono ?_); (case side1 => exact ch_ HR0_0 HB); (case side2 => exact HC0_0.out); (case side3 => exact ch_ HR1_0 HB); (case side4 => exact HC1_0.out); rintro e w14 ⟨v948, rfl, ho0, hb⟩; refine ⟨_, rfl, ?_⟩; have HO949 := Aside0.mk (Kd.R_lower ho0 (below_size (bq_ HB))); replace BK945 := bk_ BK945 hb; replace BK946 := bk_ BK946 hb; replace HB := bp_ HB hb; (try clear hb); (try clear ho0)) | ((with_reducible refine gate_dst (N := 9) rfl ?_); refine bx_ 9 #[.slice none 0 0] 26 ?_; intro gb951 hg w15 hbox hb; replace HO949 := Aside0.mk (Kd.R_below (re_ HO949.out) hb); have BK951 := Aside0.mk (hbox); have GW951 := gq_ hg (bq_ HB); have GE951 := gq_ hg (bq_ HB); replace HB := bp_ HB hb; have NB945_951 := nl_ hg BK945; have NB951_945 := ng_ hg BK945; replace BK945 := bk_ BK945 hb; have NB946_951 := nl_ hg BK946; have NB951_946 := ng_ hg BK946; replace BK946 := bk_ BK946 hb; clear hb hbox hg; obtain ⟨Ao16, co16, eo16⟩ := Kd.R_slice HO949.out; subst eo16; have hnb17 := NB951_945.out; have hnc17 := NB945_951.out; have hnb18 := NB951_946.out; have hnc18 := NB946_951.out; have hcz19_0 := cz_ BK951; have hfz19_0 := blk_frozen BK951.out 0))
 have n0_ : Aside0 (Kd.R (Kd.int .i64) 3 (w15.setCell ⟨gb951, 0, none⟩ (.slice Ao16 t947.length co16)) w.heap.size (fun _ => True) (.slice Ao16 t947.length co16) t947) := ⟨by (with_reducible repeat (first | apply Kd.R_alloc | apply Kd.R_drewN | apply Kd.R_drew)); exact Kd.R_mono (Kd.R_far (p := ⟨gb951, 0, none⟩) (Kd.R_types HO949.out BK951.out (by decide)) (fun _ hk => hk.2) (.slice Ao16 t947.length co16)) (fun _ hk => trivial)⟩
 have n1_ : Aside0 ((w15.setCell ⟨gb951, 0, none⟩ (.slice Ao16 t947.length co16)).heap[gb945]? = some (.cells #[.slice A0_0 l0_0.length c0_0] 26 (0, 0))) := ⟨by (with_reducible repeat (first | refine blk_drewN ?_ _ | refine blk_drew ?_ | refine blk_alloc ?_ _)); refine blk_far ?_ NB945_951.out _; (with_reducible repeat (first | refine blk_drewN ?_ _ | refine blk_drew ?_ | refine blk_alloc ?_ _)); exact BK945.out⟩
 have n2_ : Aside0 ((w15.setCell ⟨gb951, 0, none⟩ (.slice Ao16 t947.length co16)).heap[gb946]? = some (.cells #[.slice A1_0 l1_0.length c1_0] 26 (0, 0))) := ⟨by (with_reducible repeat (first | refine blk_drewN ?_ _ | refine blk_drew ?_ | refine blk_alloc ?_ _)); refine blk_far ?_ NB946_951.out _; (with_reducible repeat (first | refine blk_drewN ?_ _ | refine blk_drew ?_ | refine blk_alloc ?_ _)); exact BK946.out⟩
 have n3_ : Aside0 ((w15.setCell ⟨gb951, 0, none⟩ (.slice Ao16 t947.length co16)).heap[gb951]? = some (.cells #[.slice Ao16 t947.length co16] 26 (0, 0))) := ⟨by (with_reducible repeat (first | refine blk_drewN ?_ _ | refine blk_drew ?_ | refine blk_alloc ?_ _)); refine blk_put (cs := #[.slice none 0 0]) ?_ 0 _ rfl; (with_reducible repeat (first | refine blk_drewN ?_ _ | refine blk_drew ?_ | refine blk_alloc ?_ _)); exact BK951.out⟩
 have n4_ : Aside0 (Below w.heap.size w (w15.setCell ⟨gb951, 0, none⟩ (.slice Ao16 t947.length co16))) := ⟨bq_ HB⟩
 (try clear HO949)
 (try clear BK945)
 (try clear BK946)
 (try clear BK951)
 (try clear HB)
 generalize (w15.setCell ⟨gb951, 0, none⟩ (.slice Ao16 t947.length co16)) = w20 at n0_ n1_ n2_ n3_ n4_ ⊢
 have HO949 := n0_
 have BK945 := n1_
 have BK946 := n2_
 have BK951 := n3_
 have HB := n4_
 clear n0_ n1_ n2_ n3_ n4_
 replace HO949 := Aside0.mk (Kd.R_drew HO949.out)
 replace BK945 := Aside0.mk (blk_drew BK945.out)
 replace BK946 := Aside0.mk (blk_drew BK946.out)
 replace BK951 := Aside0.mk (blk_drew BK951.out)
 replace HB := Aside0.mk (below_drew1 HB.out)
 refine start_ (n := 14) (S := fun w' => w'.cell? ⟨gb945, 0, none⟩ = some (.slice A0_0 l0_0.length c0_0) ∧ w'.cell? ⟨gb946, 0, none⟩ = some (.slice A1_0 l1_0.length c1_0)) (ds := []) (B_ 0 14) (by kernel_rfl) rfl rfl ⟨(blk_cell BK945.out 0).trans rfl, (blk_cell BK946.out 0).trans rfl⟩ (fun hHeld => ?_); refine with_tabW spec_GlueFrobenius.tab4 spec_GlueFrobenius.bits4 (fun HT_ HW_ => ?_)
 generalize w20.drew = w21 at HO949 BK945 BK946 BK951 HB hHeld ⊢
 refine pu_ HT_ 0 21 (B_ 1 14) ?_
 refine pu_ HT_ 4 25 (B_ 17 14) ?_
 refine pu_ HT_ 9 30 (B_ 529 14) ?_
 refine pu_ HT_ 10 31 (B_ 1553 14) ?_
 refine pu_ HT_ 11 32 (B_ 3601 14) ?_
 refine tk2_ HT_ HW_ hHeld 1 22 (B_ 3603 14) ?_
 refine tk2_ HT_ HW_ hHeld 5 26 (B_ 3635 14) ?_
 refine on_ HT_ 2 23 (B_ 3639 14) (fun K hK => ?_)
 refine goes_ Try.func16 (by kernel_rfl) rfl #[.agg #[.slice A0_0 l0_0.length c0_0]] (by rfl) rfl rfl (by (try simp only [List.map_toArray, List.map_cons, List.map_nil]); first | done | rfl | (simp only [List.length_drop, List.length_take]; rfl)) ?_
 with_reducible refine (spec_FrobeniusOf.calls k _ _ l0_0 t952 _ ?side1 ?side2 A7.out).mono ?_
 (case side1 => exact ch_ HR0_0 HB)
 (case side2 => exact HC0_0.out)
 rintro e w22 ⟨rfl, hb⟩
 refine ⟨_, rfl, ?_⟩
 replace HO949 := Aside0.mk (Kd.R_below (re_ HO949.out) hb)
 replace BK945 := bk_ BK945 hb
 replace BK946 := bk_ BK946 hb
 replace BK951 := bk_ BK951 hb
 replace HB := bp_ HB hb
 (try clear hb)
 refine hK.out _ _ ⟨(blk_cell BK945.out 0).trans rfl, (blk_cell BK946.out 0).trans rfl⟩ (fun hHeld => ?_)
 clear hK K
 refine norm_ (a' := ?_) ?_ ?_
 rotate_left
 · show Act.put _ (some 23) _ = _
   simp only [Act.put, z1_, z2_, z3_, i64_w, i32_w]
   rfl
 refine pu_ HT_ 3 24 (B_ 3647 14) ?_
 refine on_ HT_ 6 27 (B_ 3711 14) (fun K hK => ?_)
 refine goes_ Try.func16 (by kernel_rfl) rfl #[.agg #[.slice A1_0 l1_0.length c1_0]] (by rfl) rfl rfl (by (try simp only [List.map_toArray, List.map_cons, List.map_nil]); first | done | rfl | (simp only [List.length_drop, List.length_take]; rfl)) ?_
 with_reducible refine (spec_FrobeniusOf.calls k _ _ l1_0 t953 _ ?side1 ?side2 A8.out).mono ?_
 (case side1 => exact ch_ HR1_0 HB)
 (case side2 => exact HC1_0.out)
 rintro e w23 ⟨rfl, hb⟩
 refine ⟨_, rfl, ?_⟩
 replace HO949 := Aside0.mk (Kd.R_below (re_ HO949.out) hb)
 replace BK945 := bk_ BK945 hb
 replace BK946 := bk_ BK946 hb
 replace BK951 := bk_ BK951 hb
 replace HB := bp_ HB hb
 (try clear hb)
 refine hK.out _ _ ⟨(blk_cell BK945.out 0).trans rfl, (blk_cell BK946.out 0).trans rfl⟩ (fun hHeld => ?_)
 clear hK K
 refine norm_ (a' := ?_) ?_ ?_
 rotate_left
 · show Act.put _ (some 27) _ = _
   simp only [Act.put, z1_, z2_, z3_, i64_w, i32_w]
   rfl
 refine pu_ HT_ 7 28 (B_ 3839 14) ?_
 refine pu_ HT_ 8 29 (B_ 4095 14) ?_
 refine pu_ HT_ 12 33 (B_ 8191 14) ?_
 refine pu_ HT_ 13 8 (B_ 16383 14) ?_
 refine done_ (done_of HT_.out (by kernel_rfl)) ?_
 try go_wp2
 go_ret
 exact ⟨rf_, bq_ HB⟩
def spec_Generates.j0 : Nat → List Int → Int → Bool → Option (Bool)
 | 0, _, _, _ => none
 | k + 1, x0, x1, x13 => if x13 = true then (some false) else ((spec_GcdOfList.f k x0).bind fun t956 => (if t956 = 0 then (none) else (if (Int.tmod x1 t956) = 0 then (if x1 > 3600 then (if 0 < (x0.length : Int) then (if (rd x0 0) = 0 then (none) else ((spec_l3Table.f k x0 (wrap64 (3600 + (Int.tmod (wrap64 (x1 - 3600)) (rd x0 0))))).bind fun t958 => (if 0 ≤ (wrap64 (3600 + (Int.tmod (wrap64 (x1 - 3600)) (rd x0 0)))) then (if (wrap64 (3600 + (Int.tmod (wrap64 (x1 - 3600)) (rd x0 0)))) < (t958.length : Int) then (some (rdOf false t958 (wrap64 (3600 + (Int.tmod (wrap64 (x1 - 3600)) (rd x0 0)))))) else (none)) else (none)))) else (none)) else ((spec_l3Table.f k x0 x1).bind fun t962 => (if 0 ≤ x1 then (if x1 < (t962.length : Int) then (some (rdOf false t962 x1)) else (none)) else (none)))) else (some false))))
def spec_Generates.f (k : Nat) (l0 : List Int) (a1 : Int) : Option (Bool) := (spec_l3Gens.f k l0).bind fun t954 => (if t954 = true then ((spec_l1In.f a1 0 1000000).bind fun t955 => (spec_Generates.j0 k l0 a1 (!t955))) else (spec_Generates.j0 k l0 a1 true))
theorem spec_Generates.calls (k : Nat) (A0 : Option Addr) (c0 : Nat) (l0 : List Int) (a1 : Int) (r : Bool) (w : World) (hr0 : Kd.C (Kd.int .i64) w A0 l0.length l0) (hc0 : l0.length ≤ c0) (h : spec_Generates.f k l0 a1 = some r) :
 Calls Try.prog 40 #[.slice A0 l0.length c0, .int .i64 a1] w fun e w' => e = .returned (.bool r) ∧ Below w.heap.size w w' := by
 have HR0 := Aside0.mk hr0
 have HC0 := Aside0.mk hc0
 clear hr0 hc0
 have HB := Aside0.mk (Below.refl w.heap.size w)
 have H := h
 clear h
 unfold spec_Generates.f at H
 have HC3 := Aside0.mk H
 clear H
 go_enter Try.func40, Try.ntmps40
 go_upto_region 1 with (fail)
 go_cut [13] (fun v13 wc => ∃ (kq : Nat) (x13_2 : Bool), v13 = .bool x13_2 ∧ Aside0 (spec_Generates.j0 kq l0 a1 x13_2 = some r) ∧ Aside0 (kq ≤ k) ∧ Aside0 (Below w.heap.size w wc))
 case first =>
  have H := HC3.out
  clear HC3
  obtain ⟨t954, A4, H⟩ := ob_ H
  by_cases c5 : t954 = true
  rotate_left
  · replace c5 := Bool.eq_false_iff.mpr c5
    subst c5
    rw [if_neg (show ¬ (false = true) by decide)] at H
    have H' := Aside0.mk H
    clear H
    go_wp2_with (first | ((with_reducible refine gate_callee (f := 38) rfl ?_); refine gL_ (some 7) Try.func38 #[.slice A0 l0.length c0] ?_; (with_reducible refine (spec_l3Gens.calls k _ _ l0 false _ ?side1 ?side2 A4.out).mono ?_); (case side1 => exact ch_ HR0 HB); (case side2 => exact HC0.out); rintro e w' ⟨rfl, ⟨nd, rfl⟩⟩; refine ⟨_, rfl, ?_⟩))
    go_meet
    case rel => exact ⟨_, (true), rs_, H', ⟨by first | omega | exact Nat.le_refl _⟩, ⟨bl_ HB.out⟩⟩
  subst c5
  rw [if_pos rfl] at H
  obtain ⟨t955, A6, H⟩ := ob_ H
  have H' := Aside0.mk H
  clear H
  go_wp2_with (first | ((with_reducible refine gate_callee (f := 38) rfl ?_); refine gL_ (some 7) Try.func38 #[.slice A0 l0.length c0] ?_; (with_reducible refine (spec_l3Gens.calls k _ _ l0 true _ ?side1 ?side2 A4.out).mono ?_); (case side1 => exact ch_ HR0 HB); (case side2 => exact HC0.out); rintro e w' ⟨rfl, ⟨nd, rfl⟩⟩; refine ⟨_, rfl, ?_⟩) | (go_at_call 27; (with_reducible refine (spec_l1In.calls a1 0 1000000 t955 _ A6.out).mono ?_); rintro e w' ⟨rfl, ⟨nd, rfl⟩⟩))
  go_meet
  case rel => exact ⟨_, (!t955), rs_, H', ⟨by first | omega | exact Nat.le_refl _⟩, ⟨bl_ HB.out⟩⟩
 case rest =>
  clear HC3
  try clear p2
  try clear c3
  try clear c4
  try clear c5
  obtain ⟨kq, x13_2, rfl, HA, HJ2, HB⟩ := hcut
  cases kq with
  | zero => exact absurd HA.out (by simp [spec_Generates.j0])
  | succ kj2 =>
   have H := HA.out
   clear HA
   simp only [spec_Generates.j0] at H
   by_cases c7 : x13_2 = true
   · subst c7
     rw [if_pos rfl] at H
     obtain rfl := Option.some.inj H
     go_wp2
     go_ret
     exact ⟨rf_, bl_ HB.out⟩
   replace c7 := Bool.eq_false_iff.mpr c7
   subst c7
   rw [if_neg (show ¬ (false = true) by decide)] at H
   obtain ⟨t956, A8, H⟩ := ob_ H
   by_cases c9 : t956 = 0
   · rw [if_pos c9] at H
     cases H
   rw [if_neg c9] at H
   have c9b0 : (t956 == 0) = false := beq_eq_false_iff_ne.mpr c9
   have c9b1 : (t956 != 0) = true := bne_iff_ne.mpr c9
   by_cases c10 : (Int.tmod a1 t956) = 0
   rotate_left
   · rw [if_neg c10] at H
     have c10b0 : ((Int.tmod a1 t956) == 0) = false := beq_eq_false_iff_ne.mpr c10
     have c10b1 : ((Int.tmod a1 t956) != 0) = true := bne_iff_ne.mpr c10
     obtain rfl := Option.some.inj H
     go_wp2_with (first | ((with_reducible refine gate_callee (f := 39) rfl ?_); refine gL_ (some 15) Try.func39 #[.slice A0 l0.length c0] ?_; (with_reducible refine (spec_GcdOfList.calls kj2 _ _ l0 t956 _ ?side1 ?side2 A8.out).mono ?_); (case side1 => exact ch_ HR0 HB); (case side2 => exact HC0.out); rintro e w' ⟨rfl, ⟨nd, rfl⟩⟩; refine ⟨_, rfl, ?_⟩))
     go_ret
     exact ⟨rf_, bl_ HB.out⟩
   rw [if_pos c10] at H
   have c10b0 : ((Int.tmod a1 t956) == 0) = true := beq_iff_eq.mpr c10
   have c10b1 : ((Int.tmod a1 t956) != 0) = false := bne_eq_false_iff_eq.mpr c10
   clear c10
   by_cases c11 : a1 > 3600
   rotate_left
   · rw [if_neg c11] at H
     have c11b0 : decide (3600 < a1) = false := decide_eq_false c11
     clear c11
     obtain ⟨t962, A20, H⟩ := ob_ H
     by_cases c21 : 0 ≤ a1
     rotate_left
     · rw [if_neg c21] at H
       cases H
     rw [if_pos c21] at H
     have c21b0 : decide (0 ≤ a1) = true := decide_eq_true c21
     clear c21
     by_cases c22 : a1 < (t962.length : Int)
     rotate_left
     · rw [if_neg c22] at H
       cases H
     rw [if_pos c22] at H
     have c22b0 : decide (a1 < (t962.length : Int)) = true := decide_eq_true c22
     clear c22
     obtain rfl := Option.some.inj H
     go_wp2_with (first | ((with_reducible refine gate_callee (f := 39) rfl ?_); refine gL_ (some 15) Try.func39 #[.slice A0 l0.length c0] ?_; (with_reducible refine (spec_GcdOfList.calls kj2 _ _ l0 t956 _ ?side1 ?side2 A8.out).mono ?_); (case side1 => exact ch_ HR0 HB); (case side2 => exact HC0.out); rintro e w' ⟨rfl, ⟨nd, rfl⟩⟩; refine ⟨_, rfl, ?_⟩) | ((with_reducible refine gate_callee (f := 64) rfl ?_); refine gL_ (some 31) Try.func64 #[.slice A0 l0.length c0, .int .i64 a1] ?_; (with_reducible refine (spec_l3Table.calls kj2 _ _ l0 a1 t962 _ ?side1 ?side2 A20.out).mono ?_); (case side1 => exact Kd.C_below HR0.out (bl_ HB.out)); (case side2 => exact HC0.out); rintro e w23 ⟨v963, rfl, ho0, hb⟩; refine ⟨_, rfl, ?_⟩; have HO964 := Aside0.mk (Kd.R_lower ho0 (below_size (bl_ HB.out))); replace HB := bo_ HB hb; (try clear hb); (try clear ho0); obtain ⟨Ao24, co24, eo24⟩ := Kd.R_slice HO964.out; subst eo24; have p965 : 0 ≤ (a1 : Int) := od_; have q965 : a1 < (t962.length : Int) := od_; obtain ⟨ad965, e965, hx965_0⟩ := Kd.at_bool (Kd.R_reads' HO964.out).2.2 a1 p965 q965; cases e965; replace p965 := eq_true p965; replace q965 := eq_true q965))
     go_ret
     exact ⟨rf_, bl_ HB.out⟩
   rw [if_pos c11] at H
   have c11b0 : decide (3600 < a1) = true := decide_eq_true c11
   clear c11
   by_cases c12 : 0 < (l0.length : Int)
   rotate_left
   · rw [if_neg c12] at H
     cases H
   rw [if_pos c12] at H
   have c12b0 : decide (0 < (l0.length : Int)) = true := decide_eq_true c12
   have c12b1 : decide (0 < l0.length) = true := decide_eq_true (by omega)
   clear c12
   by_cases c13 : (rd l0 0) = 0
   · rw [if_pos c13] at H
     cases H
   rw [if_neg c13] at H
   have c13b0 : ((rd l0 0) == 0) = false := beq_eq_false_iff_ne.mpr c13
   have c13b1 : ((rd l0 0) != 0) = true := bne_iff_ne.mpr c13
   obtain ⟨t958, A14, H⟩ := ob_ H
   obtain ⟨ji15, hji15⟩ : ∃ j_ : Int, (wrap64 (3600 + (Int.tmod (wrap64 (a1 - 3600)) (rd l0 0)))) = j_ := ⟨_, rfl⟩
   replace H : (if 0 ≤ (ji15) then (if (ji15) < (t958.length : Int) then (some (rdOf false t958 (ji15))) else (none)) else (none)) = some r := by first | (rw [hji15] at H; exact H) | (simp only [hji15] at H ⊢; exact H)
   (try rw [hji15] at A8)
   (try rw [hji15] at A14)
   have hji15w : (IntKind.i64.wrap (3600 + (Int.tmod (wrap64 (a1 - 3600)) (rd l0 0)))) = ji15 := (i64_w _).trans hji15
   by_cases c16 : 0 ≤ (ji15)
   rotate_left
   · rw [if_neg c16] at H
     cases H
   rw [if_pos c16] at H
   have c16b0 : decide (0 ≤ (ji15)) = true := decide_eq_true c16
   clear c16
   by_cases c17 : (ji15) < (t958.length : Int)
   rotate_left
   · rw [if_neg c17] at H
     cases H
   rw [if_pos c17] at H
   have c17b0 : decide ((ji15) < (t958.length : Int)) = true := decide_eq_true c17
   clear c17
   obtain rfl := Option.some.inj H
   go_wp2_with (first | ((with_reducible refine gate_callee (f := 39) rfl ?_); refine gL_ (some 15) Try.func39 #[.slice A0 l0.length c0] ?_; (with_reducible refine (spec_GcdOfList.calls kj2 _ _ l0 t956 _ ?side1 ?side2 A8.out).mono ?_); (case side1 => exact ch_ HR0 HB); (case side2 => exact HC0.out); rintro e w' ⟨rfl, ⟨nd, rfl⟩⟩; refine ⟨_, rfl, ?_⟩; have p957 : 0 ≤ (0 : Int) := (by omega); have q957 : 0 < (l0.length : Int) := od_; obtain ⟨ad957, e957, hx957_0⟩ := Kd.at_int HR0.out 0 p957 q957; cases e957; have qi957 : (0 < l0.length) = True := eq_true (by omega); (try rw [show ((0 : Int)).toNat = 0 from rfl] at hx957_0); (try rw [Addr.add_zero'] at hx957_0); (try replace hx957_0 := (HB.out.cell (World.block_lt_of_cell? w _ hx957_0)).trans hx957_0); replace p957 := eq_true p957; replace q957 := eq_true q957) | ((with_reducible refine gate_callee (f := 64) rfl ?_); refine goesL_ (some 31) rfl rfl Try.func64 (by kernel_rfl) rfl #[.slice (some ad957) l0.length c0, .int .i64 ji15] rfl (by (try simp only [List.map_toArray, List.map_cons, List.map_nil]); first | done | (simp only [hji15]; rfl) | rfl | (simp only [List.length_drop, List.length_take]; rfl)) ?_; (with_reducible refine (spec_l3Table.calls kj2 _ _ l0 ji15 t958 _ ?side1 ?side2 A14.out).mono ?_); (case side1 => exact Kd.C_below HR0.out (bl_ HB.out)); (case side2 => exact HC0.out); rintro e w18 ⟨v959, rfl, ho0, hb⟩; refine ⟨_, rfl, ?_⟩; have HO960 := Aside0.mk (Kd.R_lower ho0 (below_size (bl_ HB.out))); replace HB := bo_ HB hb; (try clear hb); (try clear ho0); obtain ⟨Ao19, co19, eo19⟩ := Kd.R_slice HO960.out; subst eo19; have p961 : 0 ≤ ((ji15) : Int) := od_; have q961 : (ji15) < (t958.length : Int) := od_; obtain ⟨ad961, e961, hx961_0⟩ := Kd.at_bool (Kd.R_reads' HO960.out).2.2 (ji15) p961 q961; cases e961; replace p961 := eq_true p961; replace q961 := eq_true q961))
   go_ret
   exact ⟨by first | rfl | (simp [errW_none, errW_some] <;> rfl) | (simp only [← hji15]; first | rfl | (simp [errW_none, errW_some] <;> rfl)) | (simp [*, errW_none, errW_some] <;> rfl), bl_ HB.out⟩
def spec_l22Over.l0 : Nat → List Int → Int → List Int → Int → Option (List Int)
 | 0, _, _, _, _ => none
 | k + 1, x0, x1, x5, x6 => if x6 < (x0.length : Int) then (if 0 ≤ x6 then (if x1 = 0 then (none) else (if x5.length < 17592186044416 then (spec_l22Over.l0 k x0 x1 (x5 ++ [wrap64 (Int.tdiv (rd x0 x6) x1)]) (wrap64 (x6 + 1))) else (none))) else (none)) else (some x5)
def spec_l22Over.f (k : Nat) (l0 : List Int) (a1 : Int) : Option (List Int) := spec_l22Over.l0 k l0 a1 (([] : List Int)) 0
theorem spec_l22Over.calls (k : Nat) (A0 : Option Addr) (c0 : Nat) (l0 : List Int) (a1 : Int) (r : List Int) (w : World) (hr0 : Kd.C (Kd.int .i64) w A0 l0.length l0) (hc0 : l0.length ≤ c0) (h : spec_l22Over.f k l0 a1 = some r) :
 Calls Try.prog 41 #[.slice A0 l0.length c0, .int .i64 a1] w fun e w' => ∃ v0_ : Value, e = .returned (v0_) ∧ Kd.R (Kd.int .i64) 3 w' w.heap.size (fun _ => True) v0_ r ∧ Below w.heap.size w w' := by
 have HR0 := Aside0.mk hr0
 have HC0 := Aside0.mk hc0
 clear hr0 hc0
 have HB := Aside0.mk (Below.refl w.heap.size w)
 have H := h
 clear h
 unfold spec_l22Over.f at H
 obtain ⟨y966, hy966⟩ : ∃ y_ : List Int, y_ = (([] : List Int)) := ⟨_, rfl⟩
 replace H : (spec_l22Over.l0 k l0 a1 y966 0) = some r := by subst hy966; exact H
 have Ny966 := Aside0.mk hy966
 clear hy966
 have H' := Aside0.mk H
 clear H
 go_enter Try.func41, Try.ntmps41
 go_wp2_with (first | ((with_reducible refine gate_dst (N := 7) rfl ?_); refine Kd.R_lit (Kd.int .i64) _ 3 ?hg (N := 7) ?hd (xs := ([] : List Int)) (inner := []) (ok := fun _ => True) (okp := fun _ => True) ?hr ?hp (fun _ hk => hk) trivial (Below.refl _ _) (Nat.le_refl _) (by simp) ?_; (case hd => rfl); (case hg => rfl); (case hr => first | (go_simp; done) | (go_simp; rfl)); (case hp => exact (Reps.none _ _)); intro v967 w3 ho4 hb hg_ hnew_; clear hg_ hnew_; (first | rw [← Ny966.out] at ho4 | (simp only [Int.reduceToNat] at ho4; rw [← Ny966.out] at ho4)); have HO968 := Aside0.mk (Kd.R_lower ho4 (below_size (bl_ HB.out))); replace HB := bo_ HB hb; clear hb ho4))
 go_loopg [5, 6] k (fun kq v5 v6 w' => ∃ (x5_1 : List Int) (x6_1 : Int), v6 = .int .i64 x6_1 ∧ Aside0 (spec_l22Over.l0 kq l0 a1 x5_1 x6_1 = some r) ∧ Aside0 (kq ≤ k) ∧ Aside0 (Kd.R (Kd.int .i64) 3 w' w.heap.size (fun _ => True) v5 x5_1) ∧ Aside0 (Below w.heap.size w w'))
 case atStart => exact ⟨(y966), (0), rs_, H', ⟨Nat.le_refl _⟩, ⟨re_ HO968.out⟩, ⟨bl_ HB.out⟩⟩
 case round =>
  clear H'
  try clear p2
  try clear c4
  obtain ⟨x5_1, x6_1, rfl, HA, HK1, HO_5, HB⟩ := hrel
  cases gk with
  | zero => exact absurd HA.out (by simp [spec_l22Over.l0])
  | succ k1 =>
   have H := HA.out
   clear HA
   simp only [spec_l22Over.l0] at H
   by_cases c5 : x6_1 < (l0.length : Int)
   rotate_left
   · rw [if_neg c5] at H
     have c5b0 : decide (x6_1 < (l0.length : Int)) = false := decide_eq_false c5
     clear c5
     obtain rfl := Option.some.inj H
     go_wp2
     go_ret
     exact ⟨_, rf_, re_ HO_5.out, bl_ HB.out⟩
   rw [if_pos c5] at H
   have c5b0 : decide (x6_1 < (l0.length : Int)) = true := decide_eq_true c5
   clear c5
   by_cases c6 : 0 ≤ x6_1
   rotate_left
   · rw [if_neg c6] at H
     cases H
   rw [if_pos c6] at H
   have c6b0 : decide (0 ≤ x6_1) = true := decide_eq_true c6
   clear c6
   by_cases c7 : a1 = 0
   · rw [if_pos c7] at H
     cases H
   rw [if_neg c7] at H
   have c7b0 : (a1 == 0) = false := beq_eq_false_iff_ne.mpr c7
   have c7b1 : (a1 != 0) = true := bne_iff_ne.mpr c7
   by_cases c8 : x5_1.length < 17592186044416
   rotate_left
   · rw [if_neg c8] at H
     cases H
   rw [if_pos c8] at H
   have LMc8 := Aside0.mk c8
   clear c8
   obtain ⟨y970, hy970⟩ : ∃ y_ : List Int, y_ = (x5_1 ++ [wrap64 (Int.tdiv (rd l0 x6_1) a1)]) := ⟨_, rfl⟩
   replace H : (spec_l22Over.l0 k1 l0 a1 y970 (wrap64 (x6_1 + 1))) = some r := by subst hy970; exact H
   have Ny970 := Aside0.mk hy970
   clear hy970
   have H' := Aside0.mk H
   clear H
   have p969 : 0 ≤ (x6_1 : Int) := od_
   have q969 : x6_1 < (l0.length : Int) := od_
   obtain ⟨ad969, e969, hx969_0⟩ := Kd.at_int HR0.out x6_1 p969 q969
   cases e969
   (try replace hx969_0 := (HB.out.cell (World.block_lt_of_cell? w _ hx969_0)).trans hx969_0)
   replace p969 := eq_true p969
   replace q969 := eq_true q969
   go_wp2_with (first | ((with_reducible refine gate_builtin (b := .append) (xs := #[.tmp 14, .tmp 21]) rfl ?_); at_builtin; refine Kd.R_append (Kd.int .i64) (w0 := w) w.heap.size rfl (.tmp 14) (.tmp 21) 24 3 (.int .i64 0) 8 rfl Try.underlying24 info3 rfl (by decide) (by omega) u5 x5_1 (wrap64 (Int.tdiv (rd l0 x6_1) a1)) [.int .i64 (wrap64 (Int.tdiv (rd l0 x6_1) a1))] (fun _ => True) (fun _ => False) rfl rfl ?aP (fun _ hk => hk.elim) ?aF ?aO ?aB ?aS ?aL ?_; (case aP => exact rfl); (case aB => exact (bl_ HB.out)); (case aF => exact (fun _ _ => trivial)); (case aO => exact (re_ HO_5.out)); (case aS => exact (below_size (bl_ HB.out))); (case aL => have := LMc8.out; omega); intro v971 w9 ho hb hg hat; rw [← Ny970.out] at ho; replace HB := Aside0.mk (hb); have HO972 := Aside0.mk (ho); clear HO_5; clear ho hb hg hat))
   go_roundg k1
   case measure => have := HK1.out; omega
   case rel => exact ⟨(y970), (wrap64 (x6_1 + 1)), rs_, H', ⟨by have := HK1.out; omega⟩, ⟨re_ HO972.out⟩, ⟨bl_ HB.out⟩⟩
mutual
def spec_IsTelescopic.j0 : Nat → List Int → Bool → Option (Bool)
 | 0, _, _ => none
 | k + 1, x0, x13 => if x13 = true then (some false) else (spec_IsTelescopic.l0 k x0 1)
def spec_IsTelescopic.l0 : Nat → List Int → Int → Option (Bool)
 | 0, _, _ => none
 | k + 1, x0, x3 => if x3 < (x0.length : Int) then (if 0 ≤ x3 then (if x3 ≤ (x0.length : Int) then ((spec_GcdOfList.f k (x0.take (x3 : Int).toNat)).bind fun t976 => (if 0 ≤ (wrap64 (x3 + 1)) then (if (wrap64 (x3 + 1)) ≤ (x0.length : Int) then ((spec_GcdOfList.f k (x0.take ((wrap64 (x3 + 1)) : Int).toNat)).bind fun t978 => ((spec_l22Over.f k (x0.take (x3 : Int).toNat) t976).bind fun t980 => (if t978 = 0 then (none) else ((spec_Generates.f k t980 (wrap64 (Int.tdiv (rd x0 x3) t978))).bind fun t984 => (if t984 = true then (spec_IsTelescopic.l0 k x0 (wrap64 (x3 + 1))) else (some false)))))) else (none)) else (none))) else (none)) else (none)) else (some true)
end
def spec_IsTelescopic.f (k : Nat) (l0 : List Int) : Option (Bool) := (spec_l3Gens.f k l0).bind fun t973 => (if t973 = true then ((spec_GcdOfList.f k l0).bind fun t974 => (spec_IsTelescopic.j0 k l0 (t974 != 1))) else (spec_IsTelescopic.j0 k l0 true))
def spec_IsTelescopic.T8 : Bool × List (List Nat × List Nat) := (true, [([], []), ([], []), ([0, 1], [0, 1]), ([], []), ([2, 3], [2, 3]), ([], []), ([], []), ([5, 6], [5, 6]), ([7], [7]), ([], []), ([8, 9], [8, 9]), ([4, 10, 4], [4, 10]), ([11], [11])])
def spec_IsTelescopic.B8 : List Nat := [0, 0, 3, 0, 15, 0, 0, 96, 224, 0, 992, 2047, 4095]
theorem spec_IsTelescopic.tab8 : rtab .any (opsOf Try.f14 8) = spec_IsTelescopic.T8 := by kernel_rfl
theorem spec_IsTelescopic.bits8 : waitsOk spec_IsTelescopic.T8.2 spec_IsTelescopic.B8 = true := by kernel_rfl
theorem spec_IsTelescopic.calls (k : Nat) (A0 : Option Addr) (c0 : Nat) (l0 : List Int) (r : Bool) (w : World) (hr0 : Kd.C (Kd.int .i64) w A0 l0.length l0) (hc0 : l0.length ≤ c0) (h : spec_IsTelescopic.f k l0 = some r) :
 Calls Try.prog 14 #[.slice A0 l0.length c0] w fun e w' => e = .returned (.bool r) ∧ Below w.heap.size w w' := by
 have HR0 := Aside0.mk hr0
 have HC0 := Aside0.mk hc0
 clear hr0 hc0
 have HB := Aside0.mk (Below.refl w.heap.size w)
 have H := h
 clear h
 unfold spec_IsTelescopic.f at H
 have HC2 := Aside0.mk H
 clear H
 go_enter Try.func14, Try.ntmps14
 go_upto_region 1 with (fail)
 go_cut [13] (fun v13 wc => ∃ (kq : Nat) (x13_1 : Bool), v13 = .bool x13_1 ∧ Aside0 (spec_IsTelescopic.j0 kq l0 x13_1 = some r) ∧ Aside0 (kq ≤ k) ∧ Aside0 (Below w.heap.size w wc))
 case first =>
  have H := HC2.out
  clear HC2
  obtain ⟨t973, A3, H⟩ := ob_ H
  by_cases c4 : t973 = true
  rotate_left
  · replace c4 := Bool.eq_false_iff.mpr c4
    subst c4
    rw [if_neg (show ¬ (false = true) by decide)] at H
    have H' := Aside0.mk H
    clear H
    go_wp2_with (first | ((with_reducible refine gate_callee (f := 38) rfl ?_); refine gL_ (some 7) Try.func38 #[.slice A0 l0.length c0] ?_; (with_reducible refine (spec_l3Gens.calls k _ _ l0 false _ ?side1 ?side2 A3.out).mono ?_); (case side1 => exact ch_ HR0 HB); (case side2 => exact HC0.out); rintro e w' ⟨rfl, ⟨nd, rfl⟩⟩; refine ⟨_, rfl, ?_⟩))
    go_meet
    case rel => exact ⟨_, (true), rs_, H', ⟨by first | omega | exact Nat.le_refl _⟩, ⟨bl_ HB.out⟩⟩
  subst c4
  rw [if_pos rfl] at H
  obtain ⟨t974, A5, H⟩ := ob_ H
  have H' := Aside0.mk H
  clear H
  go_wp2_with (first | ((with_reducible refine gate_callee (f := 38) rfl ?_); refine gL_ (some 7) Try.func38 #[.slice A0 l0.length c0] ?_; (with_reducible refine (spec_l3Gens.calls k _ _ l0 true _ ?side1 ?side2 A3.out).mono ?_); (case side1 => exact ch_ HR0 HB); (case side2 => exact HC0.out); rintro e w' ⟨rfl, ⟨nd, rfl⟩⟩; refine ⟨_, rfl, ?_⟩) | (go_at_call 39; (with_reducible refine (spec_GcdOfList.calls k _ _ l0 t974 _ ?side1 ?side2 A5.out).mono ?_); (case side1 => exact Kd.C_below HR0.out (bl_ HB.out)); (case side2 => exact HC0.out); rintro e w' ⟨rfl, ⟨nd, rfl⟩⟩))
  go_meet
  case rel => exact ⟨_, ((t974 != 1)), rs_, H', ⟨by first | omega | exact Nat.le_refl _⟩, ⟨bl_ HB.out⟩⟩
 case rest =>
  clear HC2
  try clear c1
  try clear p2
  try clear c3
  try clear c4
  obtain ⟨kq, x13_1, rfl, HA, HJ1, HB⟩ := hcut
  cases kq with
  | zero => exact absurd HA.out (by simp [spec_IsTelescopic.j0])
  | succ kj1 =>
   have H := HA.out
   clear HA
   simp only [spec_IsTelescopic.j0] at H
   by_cases c6 : x13_1 = true
   · subst c6
     rw [if_pos rfl] at H
     obtain rfl := Option.some.inj H
     go_wp2
     go_ret
     exact ⟨rf_, bl_ HB.out⟩
   replace c6 := Bool.eq_false_iff.mpr c6
   subst c6
   rw [if_neg (show ¬ (false = true) by decide)] at H
   have H' := Aside0.mk H
   clear H
   go_wp2
   go_loopg [3] kj1 (fun kq v3 w' => ∃ (x3_2 : Int), v3 = .int .i64 x3_2 ∧ Aside0 (spec_IsTelescopic.l0 kq l0 x3_2 = some r) ∧ Aside0 (kq ≤ kj1) ∧ Aside0 (Below w.heap.size w w'))
   case atStart => exact ⟨(1), rs_, H', ⟨Nat.le_refl _⟩, ⟨bl_ HB.out⟩⟩
   case round =>
    clear H'
    try clear c1
    try clear p2
    try clear c3
    try clear c4
    try clear c6
    try clear p2
    obtain ⟨x3_2, rfl, HA, HK2, HB⟩ := hrel
    cases gk with
    | zero => exact absurd HA.out (by simp [spec_IsTelescopic.l0])
    | succ k2 =>
     have H := HA.out
     clear HA
     simp only [spec_IsTelescopic.l0] at H
     by_cases c7 : x3_2 < (l0.length : Int)
     rotate_left
     · rw [if_neg c7] at H
       have c7b0 : decide (x3_2 < (l0.length : Int)) = false := decide_eq_false c7
       clear c7
       obtain rfl := Option.some.inj H
       go_wp2
       go_ret
       exact ⟨rf_, bl_ HB.out⟩
     rw [if_pos c7] at H
     have c7b0 : decide (x3_2 < (l0.length : Int)) = true := decide_eq_true c7
     clear c7
     by_cases c8 : 0 ≤ x3_2
     rotate_left
     · rw [if_neg c8] at H
       cases H
     rw [if_pos c8] at H
     have c8b0 := eq_true c8
     have c8b1 : decide (0 ≤ x3_2) = true := decide_eq_true c8
     clear c8
     by_cases c9 : x3_2 ≤ (l0.length : Int)
     rotate_left
     · rw [if_neg c9] at H
       cases H
     rw [if_pos c9] at H
     have c9b0 := eq_true c9
     have c9b1 : decide (x3_2 ≤ (l0.length : Int)) = true := decide_eq_true c9
     clear c9
     obtain ⟨t976, A10, H⟩ := ob_ H
     obtain ⟨ji11, hji11⟩ : ∃ j_ : Int, (wrap64 (x3_2 + 1)) = j_ := ⟨_, rfl⟩
     replace H : (if 0 ≤ (ji11) then (if (ji11) ≤ (l0.length : Int) then ((spec_GcdOfList.f k2 (l0.take ((ji11) : Int).toNat)).bind fun t978 => ((spec_l22Over.f k2 (l0.take (x3_2 : Int).toNat) t976).bind fun t980 => (if t978 = 0 then (none) else ((spec_Generates.f k2 t980 (wrap64 (Int.tdiv (rd l0 x3_2) t978))).bind fun t984 => (if t984 = true then (spec_IsTelescopic.l0 k2 l0 ji11) else (some false)))))) else (none)) else (none)) = some r := by first | (rw [hji11] at H; exact H) | (simp only [hji11] at H ⊢; exact H)
     (try rw [hji11] at A10)
     have hji11w : (IntKind.i64.wrap (x3_2 + 1)) = ji11 := (i64_w _).trans hji11
     by_cases c12 : 0 ≤ (ji11)
     rotate_left
     · rw [if_neg c12] at H
       cases H
     rw [if_pos c12] at H
     have c12b0 := eq_true c12
     have c12b1 : decide (0 ≤ (ji11)) = true := decide_eq_true c12
     clear c12
     by_cases c13 : (ji11) ≤ (l0.length : Int)
     rotate_left
     · rw [if_neg c13] at H
       cases H
     rw [if_pos c13] at H
     have c13b0 := eq_true c13
     have c13b1 : decide ((ji11) ≤ (l0.length : Int)) = true := decide_eq_true c13
     clear c13
     obtain ⟨t978, A14, H⟩ := ob_ H
     have c15b0 := eq_true (od_ : 0 ≤ x3_2)
     have c16b0 := eq_true (od_ : x3_2 ≤ (l0.length : Int))
     obtain ⟨t980, A17, H⟩ := ob_ H
     by_cases c18 : t978 = 0
     · rw [if_pos c18] at H
       cases H
     rw [if_neg c18] at H
     have c18b0 : (t978 == 0) = false := beq_eq_false_iff_ne.mpr c18
     have c18b1 : (t978 != 0) = true := bne_iff_ne.mpr c18
     obtain ⟨t984, A19, H⟩ := ob_ H
     by_cases c20 : t984 = true
     rotate_left
     · replace c20 := Bool.eq_false_iff.mpr c20
       subst c20
       rw [if_neg (show ¬ (false = true) by decide)] at H
       obtain rfl := Option.some.inj H
       obtain ⟨i028, hi028, _, hsz28, _⟩ := info_parts info3
       obtain ⟨hcut28, hA28, hC28⟩ := print_take_of (P := Try.prog) (Value.int .i64) 0 24 3 .i64 Try.underlying24 hi028 hsz28 A0 c0 l0 x3_2 (od_) (od_) HC0.out
       have HR975 := Aside0.mk (Kd.C_of_reads (h1 := fun _ => rfl) (hA28 _ (Kd.reads_of_C HR0.out)))
       have HC975 := Aside0.mk hC28
       clear hA28 hC28 hi028 hsz28
       try go_wp2_with (first | ((with_reducible refine gate_callee (f := 39) rfl ?_); refine goesL_ (some 23) rfl rfl Try.func39 (by kernel_rfl) rfl #[.slice A0 (l0.take (x3_2 : Int).toNat).length c0] rfl (by (try simp only [List.map_toArray, List.map_cons, List.map_nil]); first | done | (rw [show (l0.take (x3_2 : Int).toNat).length = x3_2.toNat from (by rw [List.length_take]; have h_ : (x3_2 : Int) ≤ (l0.length : Int) := od_; omega)] <;> rfl) | rfl | (simp only [List.length_drop, List.length_take]; rfl)) ?_; (with_reducible refine (spec_GcdOfList.calls k2 _ _ (l0.take (x3_2 : Int).toNat) t976 _ ?side1 ?side2 A10.out).mono ?_); (case side1 => exact ch_ HR975 HB); (case side2 => exact HC975.out); rintro e w' ⟨rfl, ⟨nd, rfl⟩⟩; refine ⟨_, rfl, ?_⟩; obtain ⟨i029, hi029, _, hsz29, _⟩ := info_parts info3; obtain ⟨hcut29, hA29, hC29⟩ := print_take_of (P := Try.prog) (Value.int .i64) 0 24 3 .i64 Try.underlying24 hi029 hsz29 A0 c0 l0 (ji11) (od_) (od_) HC0.out; have HR977 := Aside0.mk (Kd.C_of_reads (h1 := fun _ => rfl) (hA29 _ (Kd.reads_of_C HR0.out))); have HC977 := Aside0.mk hC29; clear hA29 hC29 hi029 hsz29) | ((with_reducible refine gate_callee (f := 39) rfl ?_); refine goesL_ (some 28) rfl rfl Try.func39 (by kernel_rfl) rfl #[.slice A0 (l0.take ((ji11) : Int).toNat).length c0] rfl (by (try simp only [List.map_toArray, List.map_cons, List.map_nil]); first | done | (rw [show (l0.take ((ji11) : Int).toNat).length = (ji11).toNat from (by rw [List.length_take]; have h_ : ((ji11) : Int) ≤ (l0.length : Int) := od_; omega)] <;> rfl) | (simp only [hji11]; rfl) | rfl | (simp only [List.length_drop, List.length_take]; rfl)) ?_; (with_reducible refine (spec_GcdOfList.calls k2 _ _ (l0.take ((ji11) : Int).toNat) t978 _ ?side1 ?side2 A14.out).mono ?_); (case side1 => exact Kd.C_below HR977.out (bl_ HB.out)); (case side2 => exact HC977.out); rintro e w' ⟨rfl, ⟨nd, rfl⟩⟩; refine ⟨_, rfl, ?_⟩))
       (try (rw [drewN_self wr]; generalize hq_ : World.drewN wr _ = wr; have n0_ : Aside0 (Below w.heap.size w wr) := ⟨by rw [← hq_]; exact (bl_ HB.out)⟩; clear HB hq_; have HB := n0_; clear n0_))
       replace HB := Aside0.mk (below_drew1 HB.out)
       obtain ⟨i031, hi031, _, hsz31, _⟩ := info_parts info3
       obtain ⟨hcut31, hA31, hC31⟩ := print_take_of (P := Try.prog) (Value.int .i64) 0 24 3 .i64 Try.underlying24 hi031 hsz31 A0 c0 l0 x3_2 (od_) (od_) HC0.out
       have HR979 := Aside0.mk (Kd.C_of_reads (h1 := fun _ => rfl) (hA31 _ (Kd.reads_of_C HR0.out)))
       have HC979 := Aside0.mk hC31
       clear hA31 hC31 hi031 hsz31
       have p983 : 0 ≤ (x3_2 : Int) := od_
       have q983 : x3_2 < (l0.length : Int) := od_
       obtain ⟨ad983, e983, hx983_0⟩ := Kd.at_int HR0.out x3_2 p983 q983
       have hw983_0 := hx983_0
       cases e983
       (try replace hx983_0 := (HB.out.cell (World.block_lt_of_cell? w _ hx983_0)).trans hx983_0)
       replace p983 := eq_true p983
       replace q983 := eq_true q983
       refine start_ (n := 13) (S := fun w' => w'.cell? (ad983.add (x3_2).toNat) = some (.int .i64 (rd l0 x3_2))) (ds := []) (B_ 0 13) (by kernel_rfl) rfl rfl (by first | exact hw983_0 | exact (HB.out.cell (World.block_lt_of_cell? w _ hw983_0)).trans hw983_0 | (obtain ⟨_, e_, h_⟩ := Kd.at_int HR0.out x3_2 (of_eq_true p983) (of_eq_true q983); cases e_; exact h_)) (fun hHeld => ?_); refine with_tabW spec_IsTelescopic.tab8 spec_IsTelescopic.bits8 (fun HT_ HW_ => ?_)
       generalize wr.drew = w30 at HB HR979 hx983_0 hHeld ⊢
       refine pu_ HT_ 0 29 (B_ 1 13) ?_
       refine pu_ HT_ 1 30 (B_ 3 13) ?_
       refine pu_ HT_ 2 31 (B_ 7 13) ?_
       refine pu_ HT_ 3 32 (B_ 15 13) ?_
       refine pu_ HT_ 5 34 (B_ 47 13) ?_
       refine pu_ HT_ 6 35 (B_ 111 13) ?_
       refine pu_ HT_ 7 36 (B_ 239 13) ?_
       refine pu_ HT_ 9 38 (B_ 751 13) ?_
       refine tk1_ HT_ HW_ hHeld 8 37 (B_ 1007 13) ?_
       refine pu_ HT_ 10 39 (B_ 2031 13) ?_
       refine on_ HT_ 4 33 (B_ 2047 13) (fun K hK => ?_)
       refine goes_ Try.func41 (by kernel_rfl) rfl #[.slice (some ad983) (l0.take (x3_2 : Int).toNat).length c0, .int .i64 t976] (by rfl) rfl rfl (by (try simp only [List.map_toArray, List.map_cons, List.map_nil]); first | done | (rw [show (l0.take (x3_2 : Int).toNat).length = x3_2.toNat from (by rw [List.length_take]; have h_ : (x3_2 : Int) ≤ (l0.length : Int) := od_; omega)] <;> rfl) | rfl | (simp only [List.length_drop, List.length_take]; rfl)) ?_
       with_reducible refine (spec_l22Over.calls k2 _ _ (l0.take (x3_2 : Int).toNat) t976 t980 _ ?side1 ?side2 A17.out).mono ?_
       (case side1 => exact ch_ HR979 HB)
       (case side2 => exact HC979.out)
       rintro e w32 ⟨v981, rfl, ho0, hb⟩
       refine ⟨_, rfl, ?_⟩
       have HO982 := Aside0.mk (Kd.R_lower ho0 (below_size (bl_ HB.out)))
       replace HB := bo_ HB hb
       (try clear hb)
       (try clear ho0)
       obtain ⟨Ao33, co33, eo33⟩ := Kd.R_slice HO982.out
       (first | subst eo33 | (injection eo33 with f1_ f2_ f3_; have f4_ := f1_.symm; have f5_ := f3_.symm; clear f1_ f2_ f3_; subst f4_; subst f5_))
       refine hK.out _ _ (by first | exact hw983_0 | exact (HB.out.cell (World.block_lt_of_cell? w _ hw983_0)).trans hw983_0 | (obtain ⟨_, e_, h_⟩ := Kd.at_int HR0.out x3_2 (of_eq_true p983) (of_eq_true q983); cases e_; exact h_)) (fun hHeld => ?_)
       clear hK K
       refine norm_ (a' := ?_) ?_ ?_
       rotate_left
       · show Act.put _ (some 33) _ = _
         simp only [Act.put, z1_, z2_, z3_, i64_w, i32_w]
         rfl
       refine on_ HT_ 11 40 (B_ 4095 13) (fun K hK => ?_)
       refine goes_ Try.func40 (by kernel_rfl) rfl #[.slice Ao33 t980.length co33, .int .i64 (wrap64 (Int.tdiv (rd l0 x3_2) t978))] (by rfl) rfl rfl (by (try simp only [List.map_toArray, List.map_cons, List.map_nil]); first | done | rfl | (simp only [List.length_drop, List.length_take]; rfl)) ?_
       with_reducible refine (spec_Generates.calls k2 _ _ t980 (wrap64 (Int.tdiv (rd l0 x3_2) t978)) false _ ?side1 ?side2 A19.out).mono ?_
       (case side1 => exact ce_ ((Kd.R_reads' HO982.out).2.2))
       (case side2 => exact (Kd.R_reads' HO982.out).2.1)
       rintro e w34 ⟨rfl, hb⟩
       refine ⟨_, rfl, ?_⟩
       replace HO982 := Aside0.mk (Kd.R_below (re_ HO982.out) hb)
       replace HB := bo_ HB hb
       (try clear hb)
       refine hK.out _ _ (by first | exact hw983_0 | exact (HB.out.cell (World.block_lt_of_cell? w _ hw983_0)).trans hw983_0 | (obtain ⟨_, e_, h_⟩ := Kd.at_int HR0.out x3_2 (of_eq_true p983) (of_eq_true q983); cases e_; exact h_)) (fun hHeld => ?_)
       clear hK K
       refine norm_ (a' := ?_) ?_ ?_
       rotate_left
       · show Act.put _ (some 40) _ = _
         simp only [Act.put, z1_, z2_, z3_, i64_w, i32_w]
         rfl
       refine pu_ HT_ 12 41 (B_ 8191 13) ?_
       refine done_ (done_of HT_.out (by kernel_rfl)) ?_
       try go_wp2
       go_ret
       exact ⟨by first | rfl | (simp [errW_none, errW_some] <;> rfl) | (simp only [← hji11]; first | rfl | (simp [errW_none, errW_some] <;> rfl)) | (simp [*, errW_none, errW_some] <;> rfl), bl_ HB.out⟩
     subst c20
     rw [if_pos rfl] at H
     have H' := Aside0.mk H
     clear H
     obtain ⟨i021, hi021, _, hsz21, _⟩ := info_parts info3
     obtain ⟨hcut21, hA21, hC21⟩ := print_take_of (P := Try.prog) (Value.int .i64) 0 24 3 .i64 Try.underlying24 hi021 hsz21 A0 c0 l0 x3_2 (od_) (od_) HC0.out
     have HR975 := Aside0.mk (Kd.C_of_reads (h1 := fun _ => rfl) (hA21 _ (Kd.reads_of_C HR0.out)))
     have HC975 := Aside0.mk hC21
     clear hA21 hC21 hi021 hsz21
     try go_wp2_with (first | ((with_reducible refine gate_callee (f := 39) rfl ?_); refine goesL_ (some 23) rfl rfl Try.func39 (by kernel_rfl) rfl #[.slice A0 (l0.take (x3_2 : Int).toNat).length c0] rfl (by (try simp only [List.map_toArray, List.map_cons, List.map_nil]); first | done | (rw [show (l0.take (x3_2 : Int).toNat).length = x3_2.toNat from (by rw [List.length_take]; have h_ : (x3_2 : Int) ≤ (l0.length : Int) := od_; omega)] <;> rfl) | rfl | (simp only [List.length_drop, List.length_take]; rfl)) ?_; (with_reducible refine (spec_GcdOfList.calls k2 _ _ (l0.take (x3_2 : Int).toNat) t976 _ ?side1 ?side2 A10.out).mono ?_); (case side1 => exact ch_ HR975 HB); (case side2 => exact HC975.out); rintro e w' ⟨rfl, ⟨nd, rfl⟩⟩; refine ⟨_, rfl, ?_⟩; obtain ⟨i022, hi022, _, hsz22, _⟩ := info_parts info3; obtain ⟨hcut22, hA22, hC22⟩ := print_take_of (P := Try.prog) (Value.int .i64) 0 24 3 .i64 Try.underlying24 hi022 hsz22 A0 c0 l0 (ji11) (od_) (od_) HC0.out; have HR977 := Aside0.mk (Kd.C_of_reads (h1 := fun _ => rfl) (hA22 _ (Kd.reads_of_C HR0.out))); have HC977 := Aside0.mk hC22; clear hA22 hC22 hi022 hsz22) | ((with_reducible refine gate_callee (f := 39) rfl ?_); refine goesL_ (some 28) rfl rfl Try.func39 (by kernel_rfl) rfl #[.slice A0 (l0.take ((ji11) : Int).toNat).length c0] rfl (by (try simp only [List.map_toArray, List.map_cons, List.map_nil]); first | done | (rw [show (l0.take ((ji11) : Int).toNat).length = (ji11).toNat from (by rw [List.length_take]; have h_ : ((ji11) : Int) ≤ (l0.length : Int) := od_; omega)] <;> rfl) | (simp only [hji11]; rfl) | rfl | (simp only [List.length_drop, List.length_take]; rfl)) ?_; (with_reducible refine (spec_GcdOfList.calls k2 _ _ (l0.take ((ji11) : Int).toNat) t978 _ ?side1 ?side2 A14.out).mono ?_); (case side1 => exact Kd.C_below HR977.out (bl_ HB.out)); (case side2 => exact HC977.out); rintro e w' ⟨rfl, ⟨nd, rfl⟩⟩; refine ⟨_, rfl, ?_⟩))
     (try (rw [drewN_self wr]; generalize hq_ : World.drewN wr _ = wr; have n0_ : Aside0 (Below w.heap.size w wr) := ⟨by rw [← hq_]; exact (bl_ HB.out)⟩; clear HB hq_; have HB := n0_; clear n0_))
     replace HB := Aside0.mk (below_drew1 HB.out)
     obtain ⟨i024, hi024, _, hsz24, _⟩ := info_parts info3
     obtain ⟨hcut24, hA24, hC24⟩ := print_take_of (P := Try.prog) (Value.int .i64) 0 24 3 .i64 Try.underlying24 hi024 hsz24 A0 c0 l0 x3_2 (od_) (od_) HC0.out
     have HR979 := Aside0.mk (Kd.C_of_reads (h1 := fun _ => rfl) (hA24 _ (Kd.reads_of_C HR0.out)))
     have HC979 := Aside0.mk hC24
     clear hA24 hC24 hi024 hsz24
     have p983 : 0 ≤ (x3_2 : Int) := od_
     have q983 : x3_2 < (l0.length : Int) := od_
     obtain ⟨ad983, e983, hx983_0⟩ := Kd.at_int HR0.out x3_2 p983 q983
     have hw983_0 := hx983_0
     cases e983
     (try replace hx983_0 := (HB.out.cell (World.block_lt_of_cell? w _ hx983_0)).trans hx983_0)
     replace p983 := eq_true p983
     replace q983 := eq_true q983
     refine start_ (n := 13) (S := fun w' => w'.cell? (ad983.add (x3_2).toNat) = some (.int .i64 (rd l0 x3_2))) (ds := []) (B_ 0 13) (by kernel_rfl) rfl rfl (by first | exact hw983_0 | exact (HB.out.cell (World.block_lt_of_cell? w _ hw983_0)).trans hw983_0 | (obtain ⟨_, e_, h_⟩ := Kd.at_int HR0.out x3_2 (of_eq_true p983) (of_eq_true q983); cases e_; exact h_)) (fun hHeld => ?_); refine with_tabW spec_IsTelescopic.tab8 spec_IsTelescopic.bits8 (fun HT_ HW_ => ?_)
     generalize wr.drew = w23 at HB HR979 hx983_0 hHeld ⊢
     refine pu_ HT_ 0 29 (B_ 1 13) ?_
     refine pu_ HT_ 1 30 (B_ 3 13) ?_
     refine pu_ HT_ 2 31 (B_ 7 13) ?_
     refine pu_ HT_ 3 32 (B_ 15 13) ?_
     refine pu_ HT_ 5 34 (B_ 47 13) ?_
     refine pu_ HT_ 6 35 (B_ 111 13) ?_
     refine pu_ HT_ 7 36 (B_ 239 13) ?_
     refine pu_ HT_ 9 38 (B_ 751 13) ?_
     refine tk1_ HT_ HW_ hHeld 8 37 (B_ 1007 13) ?_
     refine pu_ HT_ 10 39 (B_ 2031 13) ?_
     refine on_ HT_ 4 33 (B_ 2047 13) (fun K hK => ?_)
     refine goes_ Try.func41 (by kernel_rfl) rfl #[.slice (some ad983) (l0.take (x3_2 : Int).toNat).length c0, .int .i64 t976] (by rfl) rfl rfl (by (try simp only [List.map_toArray, List.map_cons, List.map_nil]); first | done | (rw [show (l0.take (x3_2 : Int).toNat).length = x3_2.toNat from (by rw [List.length_take]; have h_ : (x3_2 : Int) ≤ (l0.length : Int) := od_; omega)] <;> rfl) | rfl | (simp only [List.length_drop, List.length_take]; rfl)) ?_
     with_reducible refine (spec_l22Over.calls k2 _ _ (l0.take (x3_2 : Int).toNat) t976 t980 _ ?side1 ?side2 A17.out).mono ?_
     (case side1 => exact ch_ HR979 HB)
     (case side2 => exact HC979.out)
     rintro e w25 ⟨v981, rfl, ho0, hb⟩
     refine ⟨_, rfl, ?_⟩
     have HO982 := Aside0.mk (Kd.R_lower ho0 (below_size (bl_ HB.out)))
     replace HB := bo_ HB hb
     (try clear hb)
     (try clear ho0)
     obtain ⟨Ao26, co26, eo26⟩ := Kd.R_slice HO982.out
     (first | subst eo26 | (injection eo26 with f1_ f2_ f3_; have f4_ := f1_.symm; have f5_ := f3_.symm; clear f1_ f2_ f3_; subst f4_; subst f5_))
     refine hK.out _ _ (by first | exact hw983_0 | exact (HB.out.cell (World.block_lt_of_cell? w _ hw983_0)).trans hw983_0 | (obtain ⟨_, e_, h_⟩ := Kd.at_int HR0.out x3_2 (of_eq_true p983) (of_eq_true q983); cases e_; exact h_)) (fun hHeld => ?_)
     clear hK K
     refine norm_ (a' := ?_) ?_ ?_
     rotate_left
     · show Act.put _ (some 33) _ = _
       simp only [Act.put, z1_, z2_, z3_, i64_w, i32_w]
       rfl
     refine on_ HT_ 11 40 (B_ 4095 13) (fun K hK => ?_)
     refine goes_ Try.func40 (by kernel_rfl) rfl #[.slice Ao26 t980.length co26, .int .i64 (wrap64 (Int.tdiv (rd l0 x3_2) t978))] (by rfl) rfl rfl (by (try simp only [List.map_toArray, List.map_cons, List.map_nil]); first | done | rfl | (simp only [List.length_drop, List.length_take]; rfl)) ?_
     with_reducible refine (spec_Generates.calls k2 _ _ t980 (wrap64 (Int.tdiv (rd l0 x3_2) t978)) true _ ?side1 ?side2 A19.out).mono ?_
     (case side1 => exact ce_ ((Kd.R_reads' HO982.out).2.2))
     (case side2 => exact (Kd.R_reads' HO982.out).2.1)
     rintro e w27 ⟨rfl, hb⟩
     refine ⟨_, rfl, ?_⟩
     replace HO982 := Aside0.mk (Kd.R_below (re_ HO982.out) hb)
     replace HB := bo_ HB hb
     (try clear hb)
     refine hK.out _ _ (by first | exact hw983_0 | exact (HB.out.cell (World.block_lt_of_cell? w _ hw983_0)).trans hw983_0 | (obtain ⟨_, e_, h_⟩ := Kd.at_int HR0.out x3_2 (of_eq_true p983) (of_eq_true q983); cases e_; exact h_)) (fun hHeld => ?_)
     clear hK K
     refine norm_ (a' := ?_) ?_ ?_
     rotate_left
     · show Act.put _ (some 40) _ = _
       simp only [Act.put, z1_, z2_, z3_, i64_w, i32_w]
       rfl
     refine pu_ HT_ 12 41 (B_ 8191 13) ?_
     refine done_ (done_of HT_.out (by kernel_rfl)) ?_
     try go_wp2
     go_roundg k2
     case measure => have := HJ1.out; have := HK2.out; omega
     case rel => exact ⟨(ji11), (by first | rfl | (simp; done) | (simp only [← hji11] <;> (first | rfl | simp)) | (simp [*]; done)), H', ⟨by have := HJ1.out; have := HK2.out; omega⟩, ⟨bl_ HB.out⟩⟩
def spec_TelescopicFrobenius.l0 : Nat → List Int → Int → Int → Option (Int)
 | 0, _, _, _ => none
 | k + 1, x0, x3, x4 => if x4 < (x0.length : Int) then (if 0 ≤ x4 then (if x4 ≤ (x0.length : Int) then ((spec_GcdOfList.f k (x0.take (x4 : Int).toNat)).bind fun t989 => (if 0 ≤ (wrap64 (x4 + 1)) then (if (wrap64 (x4 + 1)) ≤ (x0.length : Int) then ((spec_GcdOfList.f k (x0.take ((wrap64 (x4 + 1)) : Int).toNat)).bind fun t991 => (if t991 = 0 then (none) else (spec_TelescopicFrobenius.l0 k x0 (wrap64 ((wrap64 (x3 + (wrap64 (Int.tdiv (wrap64 ((rd x0 x4) * t989)) t991)))) - (rd x0 x4))) (wrap64 (x4 + 1))))) else (none)) else (none))) else (none)) else (none)) else (some x3)
def spec_TelescopicFrobenius.f (k : Nat) (l0 : List Int) : Option (Int) := (spec_IsTelescopic.f k l0).bind fun t985 => (if t985 = true then (if 0 < (l0.length : Int) then (spec_TelescopicFrobenius.l0 k l0 (wrap64 (-(rd l0 0))) 1) else (none)) else (some (-1)))
theorem spec_TelescopicFrobenius.calls (k : Nat) (A0 : Option Addr) (c0 : Nat) (l0 : List Int) (r : Int) (w : World) (hr0 : Kd.C (Kd.int .i64) w A0 l0.length l0) (hc0 : l0.length ≤ c0) (h : spec_TelescopicFrobenius.f k l0 = some r) :
 Calls Try.prog 15 #[.slice A0 l0.length c0] w fun e w' => e = .returned (.int .i64 r) ∧ Below w.heap.size w w' := by
 have HR0 := Aside0.mk hr0
 have HC0 := Aside0.mk hc0
 clear hr0 hc0
 have HB := Aside0.mk (Below.refl w.heap.size w)
 have H := h
 clear h
 unfold spec_TelescopicFrobenius.f at H
 obtain ⟨t985, A2, H⟩ := ob_ H
 by_cases c3 : t985 = true
 rotate_left
 · replace c3 := Bool.eq_false_iff.mpr c3
   subst c3
   rw [if_neg (show ¬ (false = true) by decide)] at H
   obtain rfl := Option.some.inj H
   go_enter Try.func15, Try.ntmps15
   go_wp2_with (first | (go_at_call 14; (with_reducible refine (spec_IsTelescopic.calls k _ _ l0 false _ ?side1 ?side2 A2.out).mono ?_); (case side1 => exact ce_ (HR0.out)); (case side2 => exact HC0.out); rintro e w18 ⟨rfl, hb⟩; replace HB := bo_ HB hb; (try clear hb)))
   repeat (go_quiet (first | (go_at_call 14; (with_reducible refine (spec_IsTelescopic.calls k _ _ l0 false _ ?side1 ?side2 A2.out).mono ?_); (case side1 => exact ce_ (HR0.out)); (case side2 => exact HC0.out); rintro e w18 ⟨rfl, hb⟩; replace HB := bo_ HB hb; (try clear hb))); try go_wp2_with (first | (go_at_call 14; (with_reducible refine (spec_IsTelescopic.calls k _ _ l0 false _ ?side1 ?side2 A2.out).mono ?_); (case side1 => exact ce_ (HR0.out)); (case side2 => exact HC0.out); rintro e w18 ⟨rfl, hb⟩; replace HB := bo_ HB hb; (try clear hb))))
   go_ret
   exact ⟨rf_, bl_ HB.out⟩
 subst c3
 rw [if_pos rfl] at H
 by_cases c4 : 0 < (l0.length : Int)
 rotate_left
 · rw [if_neg c4] at H
   cases H
 rw [if_pos c4] at H
 have c4b0 : decide (0 < (l0.length : Int)) = true := decide_eq_true c4
 have c4b1 : decide (0 < l0.length) = true := decide_eq_true (by omega)
 clear c4
 have H' := Aside0.mk H
 clear H
 go_enter Try.func15, Try.ntmps15
 go_wp2_with (first | (go_at_call 14; (with_reducible refine (spec_IsTelescopic.calls k _ _ l0 true _ ?side1 ?side2 A2.out).mono ?_); (case side1 => exact ce_ (HR0.out)); (case side2 => exact HC0.out); rintro e w5 ⟨rfl, hb⟩; replace HB := bo_ HB hb; (try clear hb); have p986 : 0 ≤ (0 : Int) := (by omega); have q986 : 0 < (l0.length : Int) := od_; obtain ⟨ad986, e986, hx986_0⟩ := Kd.at_int HR0.out 0 p986 q986; cases e986; have qi986 : (0 < l0.length) = True := eq_true (by omega); (try rw [show ((0 : Int)).toNat = 0 from rfl] at hx986_0); (try rw [Addr.add_zero'] at hx986_0); (try replace hx986_0 := (HB.out.cell (World.block_lt_of_cell? w _ hx986_0)).trans hx986_0); replace p986 := eq_true p986; replace q986 := eq_true q986))
 repeat (go_quiet (first | (go_at_call 14; (with_reducible refine (spec_IsTelescopic.calls k _ _ l0 true _ ?side1 ?side2 A2.out).mono ?_); (case side1 => exact ce_ (HR0.out)); (case side2 => exact HC0.out); rintro e w5 ⟨rfl, hb⟩; replace HB := bo_ HB hb; (try clear hb); have p986 : 0 ≤ (0 : Int) := (by omega); have q986 : 0 < (l0.length : Int) := od_; obtain ⟨ad986, e986, hx986_0⟩ := Kd.at_int HR0.out 0 p986 q986; cases e986; have qi986 : (0 < l0.length) = True := eq_true (by omega); (try rw [show ((0 : Int)).toNat = 0 from rfl] at hx986_0); (try rw [Addr.add_zero'] at hx986_0); (try replace hx986_0 := (HB.out.cell (World.block_lt_of_cell? w _ hx986_0)).trans hx986_0); replace p986 := eq_true p986; replace q986 := eq_true q986)); try go_wp2_with (first | (go_at_call 14; (with_reducible refine (spec_IsTelescopic.calls k _ _ l0 true _ ?side1 ?side2 A2.out).mono ?_); (case side1 => exact ce_ (HR0.out)); (case side2 => exact HC0.out); rintro e w5 ⟨rfl, hb⟩; replace HB := bo_ HB hb; (try clear hb); have p986 : 0 ≤ (0 : Int) := (by omega); have q986 : 0 < (l0.length : Int) := od_; obtain ⟨ad986, e986, hx986_0⟩ := Kd.at_int HR0.out 0 p986 q986; cases e986; have qi986 : (0 < l0.length) = True := eq_true (by omega); (try rw [show ((0 : Int)).toNat = 0 from rfl] at hx986_0); (try rw [Addr.add_zero'] at hx986_0); (try replace hx986_0 := (HB.out.cell (World.block_lt_of_cell? w _ hx986_0)).trans hx986_0); replace p986 := eq_true p986; replace q986 := eq_true q986)))
 go_loopg [3, 4] k (fun kq v3 v4 w' => ∃ (x3_1 : Int) (x4_1 : Int), v3 = .int .i64 x3_1 ∧ v4 = .int .i64 x4_1 ∧ Aside0 (spec_TelescopicFrobenius.l0 kq l0 x3_1 x4_1 = some r) ∧ Aside0 (kq ≤ k) ∧ Aside0 (Below w.heap.size w w'))
 case atStart => exact ⟨(wrap64 (-(rd l0 0))), (1), rs_, rs_, H', ⟨Nat.le_refl _⟩, ⟨bl_ HB.out⟩⟩
 case round =>
  clear H'
  try clear c1
  try clear p2
  try clear c3
  try clear c4
  try clear c4b0
  try clear c4b1
  try clear hx986_0
  try clear p986
  try clear q986
  obtain ⟨x3_1, x4_1, rfl, rfl, HA, HK1, HB⟩ := hrel
  cases gk with
  | zero => exact absurd HA.out (by simp [spec_TelescopicFrobenius.l0])
  | succ k1 =>
   have H := HA.out
   clear HA
   simp only [spec_TelescopicFrobenius.l0] at H
   by_cases c6 : x4_1 < (l0.length : Int)
   rotate_left
   · rw [if_neg c6] at H
     have c6b0 : decide (x4_1 < (l0.length : Int)) = false := decide_eq_false c6
     clear c6
     obtain rfl := Option.some.inj H
     go_wp2
     repeat (go_quiet (fail); try go_wp2)
     go_ret
     exact ⟨rf_, bl_ HB.out⟩
   rw [if_pos c6] at H
   have c6b0 : decide (x4_1 < (l0.length : Int)) = true := decide_eq_true c6
   clear c6
   by_cases c7 : 0 ≤ x4_1
   rotate_left
   · rw [if_neg c7] at H
     cases H
   rw [if_pos c7] at H
   have c7b0 : decide (0 ≤ x4_1) = true := decide_eq_true c7
   clear c7
   have c8b0 := eq_true (od_ : 0 ≤ x4_1)
   by_cases c9 : x4_1 ≤ (l0.length : Int)
   rotate_left
   · rw [if_neg c9] at H
     cases H
   rw [if_pos c9] at H
   have c9b0 := eq_true c9
   have c9b1 : decide (x4_1 ≤ (l0.length : Int)) = true := decide_eq_true c9
   clear c9
   obtain ⟨t989, A10, H⟩ := ob_ H
   obtain ⟨ji11, hji11⟩ : ∃ j_ : Int, (wrap64 (x4_1 + 1)) = j_ := ⟨_, rfl⟩
   replace H : (if 0 ≤ (ji11) then (if (ji11) ≤ (l0.length : Int) then ((spec_GcdOfList.f k1 (l0.take ((ji11) : Int).toNat)).bind fun t991 => (if t991 = 0 then (none) else (spec_TelescopicFrobenius.l0 k1 l0 (wrap64 ((wrap64 (x3_1 + (wrap64 (Int.tdiv (wrap64 ((rd l0 x4_1) * t989)) t991)))) - (rd l0 x4_1))) ji11))) else (none)) else (none)) = some r := by first | (rw [hji11] at H; exact H) | (simp only [hji11] at H ⊢; exact H)
   (try rw [hji11] at A10)
   have hji11w : (IntKind.i64.wrap (x4_1 + 1)) = ji11 := (i64_w _).trans hji11
   by_cases c12 : 0 ≤ (ji11)
   rotate_left
   · rw [if_neg c12] at H
     cases H
   rw [if_pos c12] at H
   have c12b0 := eq_true c12
   have c12b1 : decide (0 ≤ (ji11)) = true := decide_eq_true c12
   clear c12
   by_cases c13 : (ji11) ≤ (l0.length : Int)
   rotate_left
   · rw [if_neg c13] at H
     cases H
   rw [if_pos c13] at H
   have c13b0 := eq_true c13
   have c13b1 : decide ((ji11) ≤ (l0.length : Int)) = true := decide_eq_true c13
   clear c13
   obtain ⟨t991, A14, H⟩ := ob_ H
   by_cases c15 : t991 = 0
   · rw [if_pos c15] at H
     cases H
   rw [if_neg c15] at H
   have c15b0 : (t991 == 0) = false := beq_eq_false_iff_ne.mpr c15
   have c15b1 : (t991 != 0) = true := bne_iff_ne.mpr c15
   have H' := Aside0.mk H
   clear H
   have p987 : 0 ≤ (x4_1 : Int) := od_
   have q987 : x4_1 < (l0.length : Int) := od_
   obtain ⟨ad987, e987, hx987_0⟩ := Kd.at_int HR0.out x4_1 p987 q987
   obtain rfl : ad986 = ad987 := (by injection e987)
   (try replace hx987_0 := (HB.out.cell (World.block_lt_of_cell? w _ hx987_0)).trans hx987_0)
   replace p987 := eq_true p987
   replace q987 := eq_true q987
   obtain ⟨i016, hi016, _, hsz16, _⟩ := info_parts info3
   obtain ⟨hcut16, hA16, hC16⟩ := print_take_of (P := Try.prog) (Value.int .i64) 0 24 3 .i64 Try.underlying24 hi016 hsz16 (some ad986) c0 l0 x4_1 (od_) (od_) HC0.out
   have HR988 := Aside0.mk (Kd.C_of_reads (h1 := fun _ => rfl) (hA16 _ (Kd.reads_of_C HR0.out)))
   have HC988 := Aside0.mk hC16
   clear hA16 hC16 hi016 hsz16
   (obtain ⟨i017, hi017, _, hsz17, _⟩ := info_parts info3; obtain ⟨hcut17, hA17, hC17⟩ := print_take_of (P := Try.prog) (Value.int .i64) 0 24 3 .i64 Try.underlying24 hi017 hsz17 (some ad986) c0 l0 (ji11) (od_) (od_) HC0.out; have HR990 := Aside0.mk (Kd.C_of_reads (h1 := fun _ => rfl) (hA17 _ (Kd.reads_of_C HR0.out))); have HC990 := Aside0.mk hC17; clear hA17 hC17 hi017 hsz17)
   (have p992 : 0 ≤ (x4_1 : Int) := od_; have q992 : x4_1 < (l0.length : Int) := od_; obtain ⟨ad992, e992, hx992_0⟩ := Kd.at_int HR0.out x4_1 p992 q992; obtain rfl : ad986 = ad992 := (by injection e992); (try replace hx992_0 := (HB.out.cell (World.block_lt_of_cell? w _ hx992_0)).trans hx992_0); replace p992 := eq_true p992; replace q992 := eq_true q992)
   go_wp2_with (first | (go_at_call 39; (try rw [show (x4_1 : Int).toNat = (l0.take (x4_1 : Int).toNat).length from (by have h_ : x4_1 ≤ (l0.length : Int) := od_; rw [List.length_take]; omega)]); (with_reducible refine (spec_GcdOfList.calls k1 _ _ (l0.take (x4_1 : Int).toNat) t989 _ ?side1 ?side2 A10.out).mono ?_); (case side1 => exact ch_ HR988 HB); (case side2 => exact HC988.out); rintro e w' ⟨rfl, ⟨nd, rfl⟩⟩; (try first | exact ⟨rfl, _, World.drewN_drewN _ _ _⟩ | exact ⟨rfl, _, Eq.trans (World.drewN_drewN _ _ _) (congrArg (World.drewN _) (Nat.add_assoc _ _ _))⟩)) | (go_at_call 39; (try rw [show ((ji11) : Int).toNat = (l0.take ((ji11) : Int).toNat).length from (by have h_ : (ji11) ≤ (l0.length : Int) := od_; rw [List.length_take]; omega)]); (with_reducible refine (spec_GcdOfList.calls k1 _ _ (l0.take ((ji11) : Int).toNat) t991 _ ?side1 ?side2 A14.out).mono ?_); (case side1 => exact Kd.C_below HR990.out (bl_ HB.out)); (case side2 => exact HC990.out); rintro e w' ⟨rfl, ⟨nd, rfl⟩⟩; (try first | exact ⟨rfl, _, World.drewN_drewN _ _ _⟩ | exact ⟨rfl, _, Eq.trans (World.drewN_drewN _ _ _) (congrArg (World.drewN _) (Nat.add_assoc _ _ _))⟩)))
   repeat (go_quiet (first | (go_at_call 39; (try rw [show (x4_1 : Int).toNat = (l0.take (x4_1 : Int).toNat).length from (by have h_ : x4_1 ≤ (l0.length : Int) := od_; rw [List.length_take]; omega)]); (with_reducible refine (spec_GcdOfList.calls k1 _ _ (l0.take (x4_1 : Int).toNat) t989 _ ?side1 ?side2 A10.out).mono ?_); (case side1 => exact ch_ HR988 HB); (case side2 => exact HC988.out); rintro e w' ⟨rfl, ⟨nd, rfl⟩⟩; (try first | exact ⟨rfl, _, World.drewN_drewN _ _ _⟩ | exact ⟨rfl, _, Eq.trans (World.drewN_drewN _ _ _) (congrArg (World.drewN _) (Nat.add_assoc _ _ _))⟩)) | (go_at_call 39; (try rw [show ((ji11) : Int).toNat = (l0.take ((ji11) : Int).toNat).length from (by have h_ : (ji11) ≤ (l0.length : Int) := od_; rw [List.length_take]; omega)]); (with_reducible refine (spec_GcdOfList.calls k1 _ _ (l0.take ((ji11) : Int).toNat) t991 _ ?side1 ?side2 A14.out).mono ?_); (case side1 => exact Kd.C_below HR990.out (bl_ HB.out)); (case side2 => exact HC990.out); rintro e w' ⟨rfl, ⟨nd, rfl⟩⟩; (try first | exact ⟨rfl, _, World.drewN_drewN _ _ _⟩ | exact ⟨rfl, _, Eq.trans (World.drewN_drewN _ _ _) (congrArg (World.drewN _) (Nat.add_assoc _ _ _))⟩))); try go_wp2_with (first | (go_at_call 39; (try rw [show (x4_1 : Int).toNat = (l0.take (x4_1 : Int).toNat).length from (by have h_ : x4_1 ≤ (l0.length : Int) := od_; rw [List.length_take]; omega)]); (with_reducible refine (spec_GcdOfList.calls k1 _ _ (l0.take (x4_1 : Int).toNat) t989 _ ?side1 ?side2 A10.out).mono ?_); (case side1 => exact ch_ HR988 HB); (case side2 => exact HC988.out); rintro e w' ⟨rfl, ⟨nd, rfl⟩⟩; (try first | exact ⟨rfl, _, World.drewN_drewN _ _ _⟩ | exact ⟨rfl, _, Eq.trans (World.drewN_drewN _ _ _) (congrArg (World.drewN _) (Nat.add_assoc _ _ _))⟩)) | (go_at_call 39; (try rw [show ((ji11) : Int).toNat = (l0.take ((ji11) : Int).toNat).length from (by have h_ : (ji11) ≤ (l0.length : Int) := od_; rw [List.length_take]; omega)]); (with_reducible refine (spec_GcdOfList.calls k1 _ _ (l0.take ((ji11) : Int).toNat) t991 _ ?side1 ?side2 A14.out).mono ?_); (case side1 => exact Kd.C_below HR990.out (bl_ HB.out)); (case side2 => exact HC990.out); rintro e w' ⟨rfl, ⟨nd, rfl⟩⟩; (try first | exact ⟨rfl, _, World.drewN_drewN _ _ _⟩ | exact ⟨rfl, _, Eq.trans (World.drewN_drewN _ _ _) (congrArg (World.drewN _) (Nat.add_assoc _ _ _))⟩))))
   go_roundg k1
   case measure => have := HK1.out; omega
   case rel => exact ⟨(wrap64 ((wrap64 (x3_1 + (wrap64 (Int.tdiv (wrap64 ((rd l0 x4_1) * t989)) t991)))) - (rd l0 x4_1))), (ji11), rs_, (by first | rfl | (simp; done) | (simp only [← hji11] <;> (first | rfl | simp)) | (simp [*]; done)), H', ⟨by have := HK1.out; omega⟩, ⟨bl_ HB.out⟩⟩
mutual
def spec_l9Mirror.l0 : Nat → Bool → Int → Int → List Int → Option (Bool)
 | 0, _, _, _, _ => none
 | k + 1, x1, x5, x6, x994000 => if x6 ≤ x5 then (if x1 = true then (spec_l9Mirror.j1 k x1 x5 x6 ((wrap64 (2 * x6)) == x5) x994000) else (spec_l9Mirror.j1 k x1 x5 x6 false x994000)) else (some true)
def spec_l9Mirror.j1 : Nat → Bool → Int → Int → Bool → List Int → Option (Bool)
 | 0, _, _, _, _, _ => none
 | k + 1, x1, x5, x6, x20, x994000 => if x20 = true then (spec_l9Mirror.l0 k x1 x5 (wrap64 (x6 + 1)) x994000) else ((spec_l3Has.f k x994000 x6).bind fun t995 => ((spec_l3Has.f k x994000 (wrap64 (x5 - x6))).bind fun t996 => (if (t995 == t996) = true then (some false) else (spec_l9Mirror.l0 k x1 x5 (wrap64 (x6 + 1)) x994000))))
end
def spec_l9Mirror.f (k : Nat) (l0_0 : List Int) (a1 : Bool) : Option (Bool) := (spec_FrobeniusOf.f k l0_0).bind fun t994 => (spec_l9Mirror.l0 k a1 t994 0 l0_0)
def spec_l9Mirror.T6 : Bool × List (List Nat × List Nat) := (true, [([], []), ([], []), ([0, 1], [0, 1]), ([], []), ([], []), ([], []), ([4, 5], [4, 5]), ([3, 6, 2], [3, 6]), ([2, 7], [2, 7])])
def spec_l9Mirror.B6 : List Nat := [0, 0, 3, 0, 0, 0, 48, 127, 255]
theorem spec_l9Mirror.tab6 : rtab .any (opsOf Try.f44 6) = spec_l9Mirror.T6 := by kernel_rfl
theorem spec_l9Mirror.bits6 : waitsOk spec_l9Mirror.T6.2 spec_l9Mirror.B6 = true := by kernel_rfl
theorem spec_l9Mirror.calls (k : Nat) (A0_0 : Option Addr) (c0_0 : Nat) (l0_0 : List Int) (a1 : Bool) (r : Bool) (w : World) (hr0_0 : Kd.C (Kd.int .i64) w A0_0 l0_0.length l0_0) (hc0_0 : l0_0.length ≤ c0_0) (h : spec_l9Mirror.f k l0_0 a1 = some r) :
 Calls Try.prog 44 #[.agg #[.slice A0_0 l0_0.length c0_0], .bool a1] w fun e w' => e = .returned (.bool r) ∧ Below w.heap.size w w' := by
 have hu26 := Try.underlying26
 have HR0_0 := Aside0.mk hr0_0
 have HC0_0 := Aside0.mk hc0_0
 clear hr0_0 hc0_0
 have HB := Aside0.mk (Below.refl w.heap.size w)
 have H := h
 clear h
 unfold spec_l9Mirror.f at H
 obtain ⟨t994, A3, H⟩ := ob_ H
 have H' := Aside0.mk H
 clear H
 go_enter Try.func44, Try.ntmps44
 go_wp2_with (first | ((with_reducible refine gate_dst (N := 2) rfl ?_); refine bx_ 2 #[.slice A0_0 l0_0.length c0_0] 26 ?_; intro gb993 hg w4 hbox hb; have BK993 := Aside0.mk (hbox); have GW993 := gw_ hg HB; have GE993 := gw_ hg HB; replace HB := bo_ HB hb; clear hb hbox hg; have hcz5_0 := cz_ BK993; have hfz5_0 := blk_frozen BK993.out 0) | ((with_reducible refine gate_callee (f := 16) rfl ?_); refine gL_ (some 8) Try.func16 #[.agg #[.slice A0_0 l0_0.length c0_0]] ?_; (with_reducible refine (spec_FrobeniusOf.calls k _ _ l0_0 t994 _ ?side1 ?side2 A3.out).mono ?_); (case side1 => exact ch_ HR0_0 HB); (case side2 => exact HC0_0.out); rintro e w6 ⟨rfl, hb⟩; refine ⟨_, rfl, ?_⟩; replace BK993 := bk_ BK993 hb; replace HB := bp_ HB hb; (try clear hb)))
 go_loopg [6] k (fun kq v6 w' => ∃ (x6_1 : Int), v6 = .int .i64 x6_1 ∧ Aside0 (spec_l9Mirror.l0 kq a1 t994 x6_1 l0_0 = some r) ∧ Aside0 (kq ≤ k) ∧ Aside0 (w'.heap[gb993]? = some (.cells #[(.slice A0_0 l0_0.length c0_0)] 26 (0, 0))) ∧ Aside0 (Below w.heap.size w w'))
 case atStart => exact ⟨(0), rs_, H', ⟨Nat.le_refl _⟩, ⟨be_ BK993.out⟩, ⟨bq_ HB⟩⟩
 case round =>
  clear H'
  try clear c1
  try clear p2
  try clear c4
  try clear hcz5_0
  try clear hfz5_0
  obtain ⟨x6_1, rfl, HA, HK1, BK993, HB⟩ := hrel
  cases gk with
  | zero => exact absurd HA.out (by simp [spec_l9Mirror.l0])
  | succ k1 =>
   have H := HA.out
   clear HA
   simp only [spec_l9Mirror.l0] at H
   by_cases c7 : x6_1 ≤ t994
   rotate_left
   · rw [if_neg c7] at H
     have c7b0 : decide (x6_1 ≤ t994) = false := decide_eq_false c7
     clear c7
     obtain rfl := Option.some.inj H
     go_wp2
     go_ret
     exact ⟨rf_, bq_ HB⟩
   rw [if_pos c7] at H
   have c7b0 : decide (x6_1 ≤ t994) = true := decide_eq_true c7
   clear c7
   have HC8 := Aside0.mk H
   clear H
   go_upto_region 5 with (fail)
   go_cut [20] (fun v20 wc => ∃ (kq : Nat) (x20_7 : Bool), v20 = .bool x20_7 ∧ Aside0 (spec_l9Mirror.j1 kq a1 t994 x6_1 x20_7 l0_0 = some r) ∧ Aside0 (kq ≤ k1) ∧ Aside0 (wc.heap[gb993]? = some (.cells #[(.slice A0_0 l0_0.length c0_0)] 26 (0, 0))) ∧ Aside0 (Below w.heap.size w wc))
   case first =>
    have H := HC8.out
    clear HC8
    by_cases c9 : a1 = true
    · subst c9
      rw [if_pos rfl] at H
      have H' := Aside0.mk H
      clear H
      go_wp2
      go_meet
      case rel => exact ⟨_, (((wrap64 (2 * x6_1)) == t994)), rs_, H', ⟨by have := HK1.out; first | omega | exact Nat.le_refl _⟩, ⟨be_ BK993.out⟩, ⟨bq_ HB⟩⟩
    replace c9 := Bool.eq_false_iff.mpr c9
    subst c9
    rw [if_neg (show ¬ (false = true) by decide)] at H
    have H' := Aside0.mk H
    clear H
    go_wp2
    go_meet
    case rel => exact ⟨_, (false), rs_, H', ⟨by have := HK1.out; first | omega | exact Nat.le_refl _⟩, ⟨be_ BK993.out⟩, ⟨bq_ HB⟩⟩
   case rest =>
    clear HC8
    try clear c1
    try clear p2
    try clear c4
    try clear p6
    try clear c7
    try clear c7b0
    try clear c9
    try clear hcz5_0
    try clear hfz5_0
    try clear p2
    obtain ⟨kq, x20_7, rfl, HA, HJ7, BK993, HB⟩ := hcut
    cases kq with
    | zero => exact absurd HA.out (by simp [spec_l9Mirror.j1])
    | succ kj7 =>
     have H := HA.out
     clear HA
     simp only [spec_l9Mirror.j1] at H
     by_cases c10 : x20_7 = true
     · subst c10
       rw [if_pos rfl] at H
       have H' := Aside0.mk H
       clear H
       go_wp2
       go_roundg kj7
       case measure => have := HK1.out; have := HJ7.out; omega
       case rel => exact ⟨(wrap64 (x6_1 + 1)), rs_, H', ⟨by have := HK1.out; have := HJ7.out; omega⟩, ⟨be_ BK993.out⟩, ⟨bq_ HB⟩⟩
     replace c10 := Bool.eq_false_iff.mpr c10
     subst c10
     rw [if_neg (show ¬ (false = true) by decide)] at H
     obtain ⟨t995, A11, H⟩ := ob_ H
     obtain ⟨t996, A12, H⟩ := ob_ H
     by_cases c13 : (t995 == t996) = true
     · rw [if_pos c13] at H
       have c13b0 : (t995 == t996) = true := c13
       (try (have c13b1 : decide (t995 = t996) = true := by simpa using c13))
       (try (have c13b2 : (t995 == t996) = true := by simpa using c13))
       clear c13
       obtain rfl := Option.some.inj H
       try go_wp2
       replace BK993 := Aside0.mk (blk_drew BK993.out)
       replace HB := Aside0.mk (below_drew1 HB.out)
       refine start_ (n := 9) (S := fun w' => w'.cell? ⟨gb993, 0, none⟩ = some (.slice A0_0 l0_0.length c0_0)) (ds := []) (B_ 0 9) (by kernel_rfl) rfl rfl ((blk_cell BK993.out 0).trans rfl) (fun hHeld => ?_); refine with_tabW spec_l9Mirror.tab6 spec_l9Mirror.bits6 (fun HT_ HW_ => ?_)
       generalize wc.drew = w14 at BK993 HB hHeld ⊢
       refine pu_ HT_ 1 22 (B_ 2 9) ?_
       refine pu_ HT_ 4 25 (B_ 18 9) ?_
       refine pu_ HT_ 5 26 (B_ 50 9) ?_
       refine pu_ HT_ 6 27 (B_ 114 9) ?_
       refine tk1_ HT_ HW_ hHeld 0 21 (B_ 115 9) ?_
       refine tk1_ HT_ HW_ hHeld 3 24 (B_ 123 9) ?_
       refine on_ HT_ 2 23 (B_ 127 9) (fun K hK => ?_)
       refine goes_ Try.func58 (by kernel_rfl) rfl #[.agg #[.slice A0_0 l0_0.length c0_0], .int .i64 x6_1] (by rfl) rfl rfl (by (try simp only [List.map_toArray, List.map_cons, List.map_nil]); first | done | rfl | (simp only [List.length_drop, List.length_take]; rfl)) ?_
       with_reducible refine (spec_l3Has.calls kj7 _ _ l0_0 x6_1 t995 _ ?side1 ?side2 A11.out).mono ?_
       (case side1 => exact ch_ HR0_0 HB)
       (case side2 => exact HC0_0.out)
       rintro e w15 ⟨rfl, hb⟩
       refine ⟨_, rfl, ?_⟩
       replace BK993 := bk_ BK993 hb
       replace HB := bp_ HB hb
       (try clear hb)
       refine hK.out _ _ ((blk_cell BK993.out 0).trans rfl) (fun hHeld => ?_)
       clear hK K
       refine norm_ (a' := ?_) ?_ ?_
       rotate_left
       · show Act.put _ (some 23) _ = _
         simp only [Act.put, z1_, z2_, z3_, i64_w, i32_w]
         rfl
       refine on_ HT_ 7 28 (B_ 255 9) (fun K hK => ?_)
       refine goes_ Try.func58 (by kernel_rfl) rfl #[.agg #[.slice A0_0 l0_0.length c0_0], .int .i64 (wrap64 (t994 - x6_1))] (by rfl) rfl rfl (by (try simp only [List.map_toArray, List.map_cons, List.map_nil]); first | done | rfl | (simp only [List.length_drop, List.length_take]; rfl)) ?_
       with_reducible refine (spec_l3Has.calls kj7 _ _ l0_0 (wrap64 (t994 - x6_1)) t996 _ ?side1 ?side2 A12.out).mono ?_
       (case side1 => exact ch_ HR0_0 HB)
       (case side2 => exact HC0_0.out)
       rintro e w16 ⟨rfl, hb⟩
       refine ⟨_, rfl, ?_⟩
       replace BK993 := bk_ BK993 hb
       replace HB := bp_ HB hb
       (try clear hb)
       refine hK.out _ _ ((blk_cell BK993.out 0).trans rfl) (fun hHeld => ?_)
       clear hK K
       refine norm_ (a' := ?_) ?_ ?_
       rotate_left
       · show Act.put _ (some 28) _ = _
         simp only [Act.put, z1_, z2_, z3_, i64_w, i32_w]
         rfl
       refine pu_ HT_ 8 29 (B_ 511 9) ?_
       refine done_ (done_of HT_.out (by kernel_rfl)) ?_
       try go_wp2
       go_ret
       exact ⟨rf_, bq_ HB⟩
     rw [if_neg c13] at H
     have c13b0 : (t995 == t996) = false := by simpa using c13
     (try (have c13b1 : decide (t995 = t996) = false := by simpa using c13))
     (try (have c13b2 : (t995 == t996) = false := by simpa using c13))
     (try (have c13b3 : ¬ (t995 = t996) := by simpa using c13))
     clear c13
     have H' := Aside0.mk H
     clear H
     try go_wp2
     replace BK993 := Aside0.mk (blk_drew BK993.out)
     replace HB := Aside0.mk (below_drew1 HB.out)
     refine start_ (n := 9) (S := fun w' => w'.cell? ⟨gb993, 0, none⟩ = some (.slice A0_0 l0_0.length c0_0)) (ds := []) (B_ 0 9) (by kernel_rfl) rfl rfl ((blk_cell BK993.out 0).trans rfl) (fun hHeld => ?_); refine with_tabW spec_l9Mirror.tab6 spec_l9Mirror.bits6 (fun HT_ HW_ => ?_)
     generalize wc.drew = w17 at BK993 HB hHeld ⊢
     refine pu_ HT_ 1 22 (B_ 2 9) ?_
     refine pu_ HT_ 4 25 (B_ 18 9) ?_
     refine pu_ HT_ 5 26 (B_ 50 9) ?_
     refine pu_ HT_ 6 27 (B_ 114 9) ?_
     refine tk1_ HT_ HW_ hHeld 0 21 (B_ 115 9) ?_
     refine tk1_ HT_ HW_ hHeld 3 24 (B_ 123 9) ?_
     refine on_ HT_ 2 23 (B_ 127 9) (fun K hK => ?_)
     refine goes_ Try.func58 (by kernel_rfl) rfl #[.agg #[.slice A0_0 l0_0.length c0_0], .int .i64 x6_1] (by rfl) rfl rfl (by (try simp only [List.map_toArray, List.map_cons, List.map_nil]); first | done | rfl | (simp only [List.length_drop, List.length_take]; rfl)) ?_
     with_reducible refine (spec_l3Has.calls kj7 _ _ l0_0 x6_1 t995 _ ?side1 ?side2 A11.out).mono ?_
     (case side1 => exact ch_ HR0_0 HB)
     (case side2 => exact HC0_0.out)
     rintro e w18 ⟨rfl, hb⟩
     refine ⟨_, rfl, ?_⟩
     replace BK993 := bk_ BK993 hb
     replace HB := bp_ HB hb
     (try clear hb)
     refine hK.out _ _ ((blk_cell BK993.out 0).trans rfl) (fun hHeld => ?_)
     clear hK K
     refine norm_ (a' := ?_) ?_ ?_
     rotate_left
     · show Act.put _ (some 23) _ = _
       simp only [Act.put, z1_, z2_, z3_, i64_w, i32_w]
       rfl
     refine on_ HT_ 7 28 (B_ 255 9) (fun K hK => ?_)
     refine goes_ Try.func58 (by kernel_rfl) rfl #[.agg #[.slice A0_0 l0_0.length c0_0], .int .i64 (wrap64 (t994 - x6_1))] (by rfl) rfl rfl (by (try simp only [List.map_toArray, List.map_cons, List.map_nil]); first | done | rfl | (simp only [List.length_drop, List.length_take]; rfl)) ?_
     with_reducible refine (spec_l3Has.calls kj7 _ _ l0_0 (wrap64 (t994 - x6_1)) t996 _ ?side1 ?side2 A12.out).mono ?_
     (case side1 => exact ch_ HR0_0 HB)
     (case side2 => exact HC0_0.out)
     rintro e w19 ⟨rfl, hb⟩
     refine ⟨_, rfl, ?_⟩
     replace BK993 := bk_ BK993 hb
     replace HB := bp_ HB hb
     (try clear hb)
     refine hK.out _ _ ((blk_cell BK993.out 0).trans rfl) (fun hHeld => ?_)
     clear hK K
     refine norm_ (a' := ?_) ?_ ?_
     rotate_left
     · show Act.put _ (some 28) _ = _
       simp only [Act.put, z1_, z2_, z3_, i64_w, i32_w]
       rfl
     refine pu_ HT_ 8 29 (B_ 511 9) ?_
     refine done_ (done_of HT_.out (by kernel_rfl)) ?_
     try go_wp2
     go_roundg kj7
     case measure => have := HK1.out; have := HJ7.out; omega
     case rel => exact ⟨(wrap64 (x6_1 + 1)), rs_, H', ⟨by have := HK1.out; have := HJ7.out; omega⟩, ⟨be_ BK993.out⟩, ⟨bq_ HB⟩⟩
def spec_IsSymmetric.f (k : Nat) (l0_0 : List Int) : Option (Bool) := (spec_IsSemigroup.f k l0_0).bind fun t998 => (if t998 = true then ((spec_l9Mirror.f k l0_0 false).bind fun t999 => (some t999)) else (some false))
theorem spec_IsSymmetric.calls (k : Nat) (A0_0 : Option Addr) (c0_0 : Nat) (l0_0 : List Int) (r : Bool) (w : World) (hr0_0 : Kd.C (Kd.int .i64) w A0_0 l0_0.length l0_0) (hc0_0 : l0_0.length ≤ c0_0) (h : spec_IsSymmetric.f k l0_0 = some r) :
 Calls Try.prog 17 #[.agg #[.slice A0_0 l0_0.length c0_0]] w fun e w' => e = .returned (.bool r) ∧ Below w.heap.size w w' := by
 have hu26 := Try.underlying26
 have HR0_0 := Aside0.mk hr0_0
 have HC0_0 := Aside0.mk hc0_0
 clear hr0_0 hc0_0
 have HB := Aside0.mk (Below.refl w.heap.size w)
 have H := h
 clear h
 unfold spec_IsSymmetric.f at H
 obtain ⟨t998, A2, H⟩ := ob_ H
 by_cases c3 : t998 = true
 rotate_left
 · replace c3 := Bool.eq_false_iff.mpr c3
   subst c3
   rw [if_neg (show ¬ (false = true) by decide)] at H
   obtain rfl := Option.some.inj H
   go_enter Try.func17, Try.ntmps17
   go_wp2_with (first | ((with_reducible refine gate_dst (N := 1) rfl ?_); refine bx_ 1 #[.slice A0_0 l0_0.length c0_0] 26 ?_; intro gb997 hg w10 hbox hb; have BK997 := Aside0.mk (hbox); have GW997 := gw_ hg HB; have GE997 := gw_ hg HB; replace HB := bo_ HB hb; clear hb hbox hg; have hcz11_0 := cz_ BK997; have hfz11_0 := blk_frozen BK997.out 0) | ((with_reducible refine gate_callee (f := 43) rfl ?_); refine gL_ (some 4) Try.func43 #[.agg #[.slice A0_0 l0_0.length c0_0]] ?_; (with_reducible refine (spec_IsSemigroup.calls k _ _ l0_0 false _ ?side1 ?side2 A2.out).mono ?_); (case side1 => exact ch_ HR0_0 HB); (case side2 => exact HC0_0.out); rintro e w12 ⟨rfl, hb⟩; refine ⟨_, rfl, ?_⟩; replace BK997 := bk_ BK997 hb; replace HB := bp_ HB hb; (try clear hb)))
   go_ret
   exact ⟨rf_, bq_ HB⟩
 subst c3
 rw [if_pos rfl] at H
 obtain ⟨t999, A4, H⟩ := ob_ H
 obtain rfl := Option.some.inj H
 go_enter Try.func17, Try.ntmps17
 go_wp2_with (first | ((with_reducible refine gate_dst (N := 1) rfl ?_); refine bx_ 1 #[.slice A0_0 l0_0.length c0_0] 26 ?_; intro gb997 hg w5 hbox hb; have BK997 := Aside0.mk (hbox); have GW997 := gw_ hg HB; have GE997 := gw_ hg HB; replace HB := bo_ HB hb; clear hb hbox hg; have hcz6_0 := cz_ BK997; have hfz6_0 := blk_frozen BK997.out 0) | ((with_reducible refine gate_callee (f := 43) rfl ?_); refine gL_ (some 4) Try.func43 #[.agg #[.slice A0_0 l0_0.length c0_0]] ?_; (with_reducible refine (spec_IsSemigroup.calls k _ _ l0_0 true _ ?side1 ?side2 A2.out).mono ?_); (case side1 => exact ch_ HR0_0 HB); (case side2 => exact HC0_0.out); rintro e w7 ⟨rfl, hb⟩; refine ⟨_, rfl, ?_⟩; replace BK997 := bk_ BK997 hb; replace HB := bp_ HB hb; (try clear hb); have hcz8_0 := cz_ BK997; have hfz8_0 := blk_frozen BK997.out 0) | (go_at_call 44; (with_reducible refine (spec_l9Mirror.calls k _ _ l0_0 false t999 _ ?side1 ?side2 A4.out).mono ?_); (case side1 => exact ch_ HR0_0 HB); (case side2 => exact HC0_0.out); rintro e w9 ⟨rfl, hb⟩; replace BK997 := bk_ BK997 hb; replace HB := bp_ HB hb; (try clear hb)))
 go_ret
 exact ⟨rf_, bq_ HB⟩
end Go.Proofs.Ytjjajcldmkmgkaa.PA
end
