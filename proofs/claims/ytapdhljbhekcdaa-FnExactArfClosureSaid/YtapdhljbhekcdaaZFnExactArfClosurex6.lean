-- Bundled by shake.py from this session's printed and written texts; Lean checks it.
import Derived.Test.YtapdhljbhekcdaaZFnExactArfClosurex1
import Derived.Test.YtapdhljbhekcdaaZFnExactArfClosurex3
import Derived.Test.YtapdhljbhekcdaaZFnExactArfClosurex4
import Derived.Test.YtapdhljbhekcdaaZFnExactArfClosurex5
section
namespace Go.Proofs.Ytapdhljbhekcdaa.PB
open Go.RowKit Go.Proofs.YtapdhljbhekcdaaW.PrintWords Go.Proofs.YtapdhljbhekcdaaW.PrintLast Go.Proofs.YtapdhljbhekcdaaW.PrintMore
set_option linter.unusedVariables false
set_option linter.unusedSimpArgs false
mutual
def spec_ArfClosure.l0 : Nat → List Int → Int → List Bool → Int → Option (List Int × Bool)
 | 0, _, _, _, _ => none
 | k + 1, x4, x5, x6, x7 => if x7 < x5 then ((spec_HasNumber.f k x4 x7).bind fun t779 => (if 0 ≤ x7 then (if x7 < (x6.length : Int) then (spec_ArfClosure.l0 k x4 x5 (x6.set (x7 : Int).toNat (!t779)) (wrap64 (x7 + 1))) else (none)) else (none))) else (spec_ArfClosure.l1 k x5 x6 true)
def spec_ArfClosure.l1 : Nat → Int → List Bool → Bool → Option (List Int × Bool)
 | 0, _, _, _ => none
 | k + 1, x5, x6, x8 => if x8 = true then (spec_ArfClosure.l2 k x5 x6 false 0) else (spec_ArfClosure.l5 k x5 x6 (([] : List Int)) 1)
def spec_ArfClosure.l2 : Nat → Int → List Bool → Bool → Int → Option (List Int × Bool)
 | 0, _, _, _, _ => none
 | k + 1, x5, x6, x8, x9 => if x9 < x5 then (spec_ArfClosure.l3 k x5 x6 x8 x9 0) else (spec_ArfClosure.l1 k x5 x6 x8)
def spec_ArfClosure.l3 : Nat → Int → List Bool → Bool → Int → Int → Option (List Int × Bool)
 | 0, _, _, _, _, _ => none
 | k + 1, x5, x6, x8, x9, x10 => if x10 ≤ x9 then (if 0 ≤ x9 then (if x9 < (x6.length : Int) then (spec_ArfClosure.j4 k x5 x6 x8 x9 x10 (rdOf false x6 x9)) else (none)) else (none)) else (spec_ArfClosure.j4 k x5 x6 x8 x9 x10 false)
def spec_ArfClosure.j4 : Nat → Int → List Bool → Bool → Int → Int → Bool → Option (List Int × Bool)
 | 0, _, _, _, _, _, _ => none
 | k + 1, x5, x6, x8, x9, x10, x54 => if x54 = true then (spec_ArfClosure.l4 k x5 x6 x8 x9 x10 0) else (spec_ArfClosure.l2 k x5 x6 x8 (wrap64 (x9 + 1)))
def spec_ArfClosure.l4 : Nat → Int → List Bool → Bool → Int → Int → Int → Option (List Int × Bool)
 | 0, _, _, _, _, _, _ => none
 | k + 1, x5, x6, x8, x9, x10, x11 => if x11 ≤ x10 then (if 0 ≤ x10 then (if x10 < (x6.length : Int) then (spec_ArfClosure.j6 k x5 x6 x8 x9 x10 x11 (rdOf false x6 x10)) else (none)) else (none)) else (spec_ArfClosure.j6 k x5 x6 x8 x9 x10 x11 false)
def spec_ArfClosure.j6 : Nat → Int → List Bool → Bool → Int → Int → Int → Bool → Option (List Int × Bool)
 | 0, _, _, _, _, _, _, _ => none
 | k + 1, x5, x6, x8, x9, x10, x11, x65 => if x65 = true then (if 0 ≤ x11 then (if x11 < (x6.length : Int) then (if rdOf false x6 x11 = true then (if (wrap64 ((wrap64 (x9 + x10)) - x11)) < x5 then (if 0 ≤ (wrap64 ((wrap64 (x9 + x10)) - x11)) then (if (wrap64 ((wrap64 (x9 + x10)) - x11)) < (x6.length : Int) then (if (rdOf false x6 (wrap64 ((wrap64 (x9 + x10)) - x11)) = true) then (spec_ArfClosure.l4 k x5 x6 x8 x9 x10 (wrap64 (x11 + 1))) else (spec_ArfClosure.l4 k x5 (x6.set ((wrap64 ((wrap64 (x9 + x10)) - x11)) : Int).toNat true) true x9 x10 (wrap64 (x11 + 1)))) else (none)) else (none)) else (spec_ArfClosure.l4 k x5 x6 x8 x9 x10 (wrap64 (x11 + 1)))) else (spec_ArfClosure.l4 k x5 x6 x8 x9 x10 (wrap64 (x11 + 1)))) else (none)) else (none)) else (spec_ArfClosure.l3 k x5 x6 x8 x9 (wrap64 (x10 + 1)))
def spec_ArfClosure.l5 : Nat → Int → List Bool → List Int → Int → Option (List Int × Bool)
 | 0, _, _, _, _ => none
 | k + 1, x5, x6, x13, x14 => if x14 < x5 then (if 0 ≤ x14 then (if x14 < (x6.length : Int) then (if rdOf false x6 x14 = true then (spec_ArfClosure.l5 k x5 x6 x13 (wrap64 (x14 + 1))) else (if x13.length < 17592186044416 then (spec_ArfClosure.l5 k x5 x6 (x13 ++ [x14]) (wrap64 (x14 + 1))) else (none))) else (none)) else (none)) else ((spec_FromGaps.f k x13).bind fun bt793 => (some (bt793.1, bt793.2)))
end
def spec_ArfClosure.f (k : Nat) (l0_0 : List Int) : Option (List Int × Bool) := (spec_IsSemigroup.f k l0_0).bind fun t771 => (if t771 = true then ((spec_l4Gaps.f k l0_0).bind fun t772 => ((spec_ConductorOf.f k l0_0).bind fun t775 => (if 0 ≤ (wrap64 (t775 + 1)) then (if (wrap64 (t775 + 1) : Int).toNat ≤ 281474976710656 then (spec_ArfClosure.l0 k t772 t775 (List.replicate (wrap64 (t775 + 1) : Int).toNat false) 0) else (none)) else (none)))) else (some (([] : List Int), false)))
set_option maxHeartbeats 8000000 in
set_option maxRecDepth 100000 in
theorem spec_ArfClosure.calls (k : Nat) (A0_0 : Option Addr) (c0_0 : Nat) (l0_0 : List Int) (r1 : List Int) (r2 : Bool) (w : World) (hr0_0 : Kd.C (Kd.int .i64) w A0_0 l0_0.length l0_0) (hc0_0 : l0_0.length ≤ c0_0) (h : spec_ArfClosure.f k l0_0 = some (r1, r2)) :
 Calls Try.prog 45 #[.agg #[.slice A0_0 l0_0.length c0_0]] w fun e w' => ∃ v0_ : Value, e = .returned (.tuple #[.agg #[v0_], .bool r2]) ∧ Kd.R (Kd.int .i64) 3 w' w.heap.size (fun _ => True) v0_ r1 ∧ Below w.heap.size w w' := by
 have hu27 := Try.underlying27
 have HR0_0 := Aside0.mk hr0_0
 have HC0_0 := Aside0.mk hc0_0
 clear hr0_0 hc0_0
 have HB := Aside0.mk (Below.refl w.heap.size w)
 have H : ((spec_IsSemigroup.f k l0_0).bind fun t771 => (if t771 = true then ((spec_l4Gaps.f k l0_0).bind fun t772 => ((spec_ConductorOf.f k l0_0).bind fun t775 => (if 0 ≤ (wrap64 (t775 + 1)) then (if (wrap64 (t775 + 1) : Int).toNat ≤ 281474976710656 then (spec_ArfClosure.l0 k t772 t775 (List.replicate (wrap64 (t775 + 1) : Int).toNat false) 0) else (none)) else (none)))) else (some (([] : List Int), false)))) = some (r1, r2) := h
 clear h
 replace H := Option.bind_eq_some_iff.mp H
 obtain ⟨t771, A20, H⟩ := H
 replace H : (if t771 = true then ((spec_l4Gaps.f k l0_0).bind fun t772 => ((spec_ConductorOf.f k l0_0).bind fun t775 => (if 0 ≤ (wrap64 (t775 + 1)) then (if (wrap64 (t775 + 1) : Int).toNat ≤ 281474976710656 then (spec_ArfClosure.l0 k t772 t775 (List.replicate (wrap64 (t775 + 1) : Int).toNat false) 0) else (none)) else (none)))) else (some (([] : List Int), false))) = some (r1, r2) := H
 have A2 := Aside0.mk A20
 clear A20
 by_cases c3 : t771 = true
 · subst c3
   have H1 : ((spec_l4Gaps.f k l0_0).bind fun t772 => ((spec_ConductorOf.f k l0_0).bind fun t775 => (if 0 ≤ (wrap64 (t775 + 1)) then (if (wrap64 (t775 + 1) : Int).toNat ≤ 281474976710656 then (spec_ArfClosure.l0 k t772 t775 (List.replicate (wrap64 (t775 + 1) : Int).toNat false) 0) else (none)) else (none)))) = some (r1, r2) := by rw [if_pos rfl] at H; exact H
   clear H
   have H := H1
   clear H1
   replace H := Option.bind_eq_some_iff.mp H
   obtain ⟨t772, A40, H⟩ := H
   replace H : ((spec_ConductorOf.f k l0_0).bind fun t775 => (if 0 ≤ (wrap64 (t775 + 1)) then (if (wrap64 (t775 + 1) : Int).toNat ≤ 281474976710656 then (spec_ArfClosure.l0 k t772 t775 (List.replicate (wrap64 (t775 + 1) : Int).toNat false) 0) else (none)) else (none))) = some (r1, r2) := H
   have A4 := Aside0.mk A40
   clear A40
   replace H := Option.bind_eq_some_iff.mp H
   obtain ⟨t775, A50, H⟩ := H
   replace H : (if 0 ≤ (wrap64 (t775 + 1)) then (if (wrap64 (t775 + 1) : Int).toNat ≤ 281474976710656 then (spec_ArfClosure.l0 k t772 t775 (List.replicate (wrap64 (t775 + 1) : Int).toNat false) 0) else (none)) else (none)) = some (r1, r2) := H
   have A5 := Aside0.mk A50
   clear A50
   obtain ⟨ji6, hji6⟩ : ∃ j_ : Int, (wrap64 (t775 + 1)) = j_ := ⟨_, rfl⟩
   replace H : (if 0 ≤ (ji6) then (if (ji6 : Int).toNat ≤ 281474976710656 then (spec_ArfClosure.l0 k t772 t775 (List.replicate (ji6 : Int).toNat false) 0) else (none)) else (none)) = some (r1, r2) := by first | (rw [hji6] at H; exact H) | (simp only [hji6] at H ⊢; exact H)
   (try rw [hji6] at A2)
   (try rw [hji6] at A4)
   (try rw [hji6] at A5)
   have hji6w : (IntKind.i64.wrap (t775 + 1)) = ji6 := (i64_w _).trans hji6
   by_cases c7 : 0 ≤ (ji6)
   · rw [if_pos c7] at H
     have c7b0 := eq_true c7
     have c7b1 : decide (0 ≤ (ji6)) = true := decide_eq_true c7
     clear c7
     by_cases c8 : (ji6 : Int).toNat ≤ 281474976710656
     · rw [if_pos c8] at H
       have c8b0 := eq_true c8
       have c8b1 : decide ((ji6 : Int).toNat ≤ 281474976710656) = true := decide_eq_true c8
       clear c8
       obtain ⟨y776, hy776⟩ : ∃ y_ : List Bool, y_ = (List.replicate (ji6 : Int).toNat false) := ⟨_, rfl⟩
       replace H : (spec_ArfClosure.l0 k t772 t775 y776 0) = some (r1, r2) := by first | (rw [hy776]; with_reducible exact H) | (have H2_ := (Option.bind_some _ _).symm.trans H; rw [hy776]; with_reducible exact H2_) | (have H2_ := (Option.bind_some _ _).symm.trans H; with_reducible exact H2_) | with_reducible exact H | (rw [hy776]; exact H) | exact H
       have Ny776 := Aside0.mk hy776
       clear hy776
       have H' := Aside0.mk H
       clear H
       go_enter Try.func45, Try.ntmps45
       go_wp2_with (first | ((with_reducible refine gate_dst (N := 1) rfl ?_); refine box_event ?hg (N := 1) ?hd (cs := #[.slice A0_0 l0_0.length c0_0]) (t := 27) ?hr ?_; (case hd => rfl); (case hg => rfl); (case hr => first | (go_simp; done) | (go_simp; rfl)); intro gb769 hg w9 hbox hb; have n0_ := Aside0.mk (below_step (bl_ HB.out) hb); have n1_ := Aside0.mk (hbox); have n2_ := Aside0.mk ((by rw [hg]; exact (below_size (bl_ HB.out)) : w.heap.size ≤ gb769)); have n3_ := Aside0.mk ((by rw [hg]; exact (below_size (bl_ HB.out)) : w.heap.size ≤ gb769)); clear HB; have HB := n0_; have BK769 := n1_; have GW769 := n2_; have GE769 := n3_; clear n0_ n1_ n2_ n3_; clear hb hbox hg) | ((with_reducible refine gate_dst (N := 2) rfl ?_); refine box_event ?hg (N := 2) ?hd (cs := #[.slice none 0 0]) (t := 27) ?hr ?_; (case hd => rfl); (case hg => rfl); (case hr => first | (go_simp; done) | (go_simp; rfl)); intro gb770 hg w10 hbox hb; have n0_ := Aside0.mk (blk_below (g := gb769) (o := .cells #[.slice A0_0 l0_0.length c0_0] 27 (0, 0)) (be_ BK769.out) hb); have n1_ := Aside0.mk (below_step (by repeat (first | (with_reducible first | exact HB.out | apply below_alloc | apply pw_below_drewN | apply below_drew1 | refine below_set ?_ GE769.out) | exact HB.out)) hb); have n2_ := Aside0.mk (hbox); have n3_ := Aside0.mk ((by rw [hg]; exact (below_size (by repeat (first | (with_reducible first | exact HB.out | apply below_alloc | apply pw_below_drewN | apply below_drew1 | refine below_set ?_ GE769.out) | exact HB.out))) : w.heap.size ≤ gb770)); have n4_ := Aside0.mk ((by rw [hg]; exact (below_size (by repeat (first | (with_reducible first | exact HB.out | apply below_alloc | apply pw_below_drewN | apply below_drew1 | refine below_set ?_ GE769.out) | exact HB.out))) : w.heap.size ≤ gb770)); have n5_ := Aside0.mk ((by rw [hg]; exact Nat.ne_of_lt (blk_lt (g := gb769) (o := .cells #[.slice A0_0 l0_0.length c0_0] 27 (0, 0)) (be_ BK769.out)) : gb769 ≠ gb770)); have n6_ := Aside0.mk ((by rw [hg]; exact Nat.ne_of_gt (blk_lt (g := gb769) (o := .cells #[.slice A0_0 l0_0.length c0_0] 27 (0, 0)) (be_ BK769.out)) : gb770 ≠ gb769)); clear BK769; clear HB; have BK769 := n0_; have HB := n1_; have BK770 := n2_; have GW770 := n3_; have GE770 := n4_; have NB769_770 := n5_; have NB770_769 := n6_; clear n0_ n1_ n2_ n3_ n4_ n5_ n6_; clear hb hbox hg; have hnb11 := NB769_770.out; have hnc11 := NB770_769.out; have hcz12_0 : w10.cell? ⟨gb769, 0, none⟩ = some (.slice A0_0 l0_0.length c0_0) := (blk_cell BK769.out 0).trans rfl; have hfz12_0 := blk_frozen BK769.out 0) | ((with_reducible refine gate_callee (f := 42) rfl ?_); refine goesL_ (some 18) rfl rfl Try.func42 (by kernel_rfl) rfl #[.agg #[.slice A0_0 l0_0.length c0_0]] rfl (by (try simp only [List.map_toArray, List.map_cons, List.map_nil]); first | done | rfl | (simp only [List.length_drop, List.length_take]; rfl)) ?_; (with_reducible refine (spec_IsSemigroup.calls k _ _ l0_0 true _ ?side1 ?side2 A2.out).mono ?_); (case side1 => exact ce_ ((Kd.C_below HR0_0.out HB.out))); (case side2 => exact HC0_0.out); rintro e w13 ⟨rfl, hb⟩; refine ⟨_, rfl, ?_⟩; have n0_ := Aside0.mk (blk_below (g := gb769) (o := .cells #[.slice A0_0 l0_0.length c0_0] 27 (0, 0)) (be_ BK769.out) hb); have n1_ := Aside0.mk (blk_below (g := gb770) (o := .cells #[.slice none 0 0] 27 (0, 0)) (be_ BK770.out) hb); have n2_ := Aside0.mk (below_step (by repeat (first | (with_reducible first | exact HB.out | apply below_alloc | apply pw_below_drewN | apply below_drew1 | refine below_set ?_ GE769.out | refine below_set ?_ GE770.out) | exact HB.out)) hb); clear BK769; clear BK770; clear HB; have BK769 := n0_; have BK770 := n1_; have HB := n2_; clear n0_ n1_ n2_; (try clear hb); (try clear hb2); (try clear hk); (try clear hi); have hcz14_0 : w13.cell? ⟨gb769, 0, none⟩ = some (.slice A0_0 l0_0.length c0_0) := (blk_cell BK769.out 0).trans rfl; have hfz14_0 := blk_frozen BK769.out 0) | ((with_reducible refine gate_callee (f := 85) rfl ?_); refine goesL_ (some 22) rfl rfl Try.func85 (by kernel_rfl) rfl #[.agg #[.slice A0_0 l0_0.length c0_0]] rfl (by (try simp only [List.map_toArray, List.map_cons, List.map_nil]); first | done | rfl | (simp only [List.length_drop, List.length_take]; rfl)) ?_; (with_reducible refine (spec_l4Gaps.calls k _ _ l0_0 t772 _ ?side1 ?side2 A4.out).mono ?_); (case side1 => exact ce_ ((Kd.C_below HR0_0.out HB.out))); (case side2 => exact HC0_0.out); rintro e w15 ⟨v773, rfl, ho0, hb⟩; refine ⟨_, rfl, ?_⟩; have n0_ := Aside0.mk (Kd.R_lower ho0 (below_size (by repeat (first | (with_reducible first | exact HB.out | apply below_alloc | apply pw_below_drewN | apply below_drew1 | refine below_set ?_ GE769.out | refine below_set ?_ GE770.out) | exact HB.out)))); have n1_ := Aside0.mk (blk_below (g := gb769) (o := .cells #[.slice A0_0 l0_0.length c0_0] 27 (0, 0)) (be_ BK769.out) hb); have n2_ := Aside0.mk (blk_below (g := gb770) (o := .cells #[.slice none 0 0] 27 (0, 0)) (be_ BK770.out) hb); have n3_ := Aside0.mk (below_step (by repeat (first | (with_reducible first | exact HB.out | apply below_alloc | apply pw_below_drewN | apply below_drew1 | refine below_set ?_ GE769.out | refine below_set ?_ GE770.out) | exact HB.out)) hb); clear BK769; clear BK770; clear HB; have HO774 := n0_; have BK769 := n1_; have BK770 := n2_; have HB := n3_; clear n0_ n1_ n2_ n3_; (try clear hb); (try clear hb2); (try clear hk); (try clear hi); (try clear ho0); have hcz16_0 : w15.cell? ⟨gb769, 0, none⟩ = some (.slice A0_0 l0_0.length c0_0) := (blk_cell BK769.out 0).trans rfl; have hfz16_0 := blk_frozen BK769.out 0) | ((with_reducible refine gate_callee (f := 43) rfl ?_); refine goesL_ (some 24) rfl rfl Try.func43 (by kernel_rfl) rfl #[.agg #[.slice A0_0 l0_0.length c0_0]] rfl (by (try simp only [List.map_toArray, List.map_cons, List.map_nil]); first | done | rfl | (simp only [List.length_drop, List.length_take]; rfl)) ?_; (with_reducible refine (spec_ConductorOf.calls k _ _ l0_0 t775 _ ?side1 ?side2 A5.out).mono ?_); (case side1 => exact ce_ ((Kd.C_below HR0_0.out HB.out))); (case side2 => exact HC0_0.out); rintro e w17 ⟨rfl, hb⟩; refine ⟨_, rfl, ?_⟩; have n0_ := Aside0.mk (Kd.R_below (re_ HO774.out) hb); have n1_ := Aside0.mk (blk_below (g := gb769) (o := .cells #[.slice A0_0 l0_0.length c0_0] 27 (0, 0)) (be_ BK769.out) hb); have n2_ := Aside0.mk (blk_below (g := gb770) (o := .cells #[.slice none 0 0] 27 (0, 0)) (be_ BK770.out) hb); have n3_ := Aside0.mk (below_step (by repeat (first | (with_reducible first | exact HB.out | apply below_alloc | apply pw_below_drewN | apply below_drew1 | refine below_set ?_ GE769.out | refine below_set ?_ GE770.out) | exact HB.out)) hb); clear HO774; clear BK769; clear BK770; clear HB; have HO774 := n0_; have BK769 := n1_; have BK770 := n2_; have HB := n3_; clear n0_ n1_ n2_ n3_; (try clear hb); (try clear hb2); (try clear hk); (try clear hi)) | ((with_reducible refine gate_dst (N := 27) rfl ?_); refine Kd.R_make Kd.bool _ 4 rfl (N := 27) rfl 52 _ _ rfl ji6 rfl rfl Try.underlying52 (.bool false) 1 info4 rfl (by decide) (by omega) false (ok := fun _ => True) (okp := fun _ => True) rfl (fun _ hk => hk) trivial (of_decide_eq_true (by first | (with_reducible assumption) | assumption)) (Nat.le_trans (Nat.mul_le_mul_right _ (of_decide_eq_true (by first | (with_reducible assumption) | assumption) : ji6.toNat ≤ 281474976710656)) (by omega)) (Below.refl _ _) (Nat.le_refl _) ?_; intro v777 w18 ho19 hb hg_ hnew_; clear hg_ hnew_; (first | rw [← Ny776.out] at ho19 | (simp only [Int.reduceToNat] at ho19; rw [← Ny776.out] at ho19)); have n0_ := Aside0.mk (Kd.R_below (re_ HO774.out) hb); have n1_ := Aside0.mk (Kd.R_lower ho19 (below_size (by repeat (first | (with_reducible first | exact HB.out | apply below_alloc | apply pw_below_drewN | apply below_drew1 | refine below_set ?_ GE769.out | refine below_set ?_ GE770.out) | exact HB.out)))); have n2_ := Aside0.mk (blk_below (g := gb769) (o := .cells #[.slice A0_0 l0_0.length c0_0] 27 (0, 0)) (be_ BK769.out) hb); have n3_ := Aside0.mk (blk_below (g := gb770) (o := .cells #[.slice none 0 0] 27 (0, 0)) (be_ BK770.out) hb); have n4_ := Aside0.mk (below_step (by repeat (first | (with_reducible first | exact HB.out | apply below_alloc | apply pw_below_drewN | apply below_drew1 | refine below_set ?_ GE769.out | refine below_set ?_ GE770.out) | exact HB.out)) hb); clear HO774; clear BK769; clear BK770; clear HB; have HO774 := n0_; have HO778 := n1_; have BK769 := n2_; have BK770 := n3_; have HB := n4_; clear n0_ n1_ n2_ n3_ n4_; clear hb ho19))
       go_loopg [7] k (fun kq v7 w' => ∃ (x6_1 : List Bool) (x7_1 : Int), v7 = .int .i64 x7_1 ∧ Aside0 (spec_ArfClosure.l0 kq t772 t775 x6_1 x7_1 = some (r1, r2)) ∧ Aside0 (kq ≤ k) ∧ Aside0 (Kd.R (Kd.int .i64) 3 w' w.heap.size (fun _ => True) v773 t772) ∧ Aside0 (Kd.R Kd.bool 4 w' w.heap.size (fun _ => True) v777 x6_1) ∧ Aside0 (w'.heap[gb769]? = some (.cells #[(.slice A0_0 l0_0.length c0_0)] 27 (0, 0))) ∧ Aside0 (w'.heap[gb770]? = some (.cells #[(.slice none 0 0)] 27 (0, 0))) ∧ Aside0 (Below w.heap.size w w'))
       case atStart => exact ⟨(y776), (0), (by first | rfl | (simp; done) | (simp [*]; done)), H', ⟨Nat.le_refl _⟩, ⟨re_ HO774.out⟩, ⟨re_ HO778.out⟩, ⟨be_ BK769.out⟩, ⟨be_ BK770.out⟩, ⟨by repeat (first | (with_reducible first | exact HB.out | apply below_alloc | apply pw_below_drewN | apply below_drew1 | refine below_set ?_ GE769.out | refine below_set ?_ GE770.out) | exact HB.out)⟩⟩
       case round =>
        clear H'
        try clear c1
        try clear p2
        try clear c3
        try clear c4
        try clear p6
        try clear c7
        try clear c7b0
        try clear c7b1
        try clear c8
        try clear c8b0
        try clear c8b1
        try clear c11
        try clear hcz12_0
        try clear hcz14_0
        try clear hcz16_0
        try clear hfz12_0
        try clear hfz14_0
        try clear hfz16_0
        obtain ⟨x6_1, x7_1, rfl, HA, HK1, HO_4, HO_6, BK769, BK770, HB⟩ := hrel
        cases gk with
        | zero => exact absurd HA.out (by simp [spec_ArfClosure.l0])
        | succ k1 =>
         have H := HA.out
         clear HA
         simp only [spec_ArfClosure.l0] at H
         by_cases c20 : x7_1 < t775
         · rw [if_pos c20] at H
           have c20b0 : decide (x7_1 < t775) = true := decide_eq_true c20
           clear c20
           replace H := Option.bind_eq_some_iff.mp H
           obtain ⟨t779, A210, H⟩ := H
           replace H : (if 0 ≤ x7_1 then (if x7_1 < (x6_1.length : Int) then (spec_ArfClosure.l0 k1 t772 t775 (x6_1.set (x7_1 : Int).toNat (!t779)) (wrap64 (x7_1 + 1))) else (none)) else (none)) = some (r1, r2) := H
           have A21 := Aside0.mk A210
           clear A210
           by_cases c22 : 0 ≤ x7_1
           · rw [if_pos c22] at H
             have c22b0 : decide (0 ≤ x7_1) = true := decide_eq_true c22
             clear c22
             by_cases c23 : x7_1 < (x6_1.length : Int)
             · rw [if_pos c23] at H
               have c23b0 : decide (x7_1 < (x6_1.length : Int)) = true := decide_eq_true c23
               clear c23
               obtain ⟨y780, hy780⟩ : ∃ y_ : List Bool, y_ = (x6_1.set (x7_1 : Int).toNat (!t779)) := ⟨_, rfl⟩
               replace H : (spec_ArfClosure.l0 k1 t772 t775 y780 (wrap64 (x7_1 + 1))) = some (r1, r2) := by first | (rw [hy780]; with_reducible exact H) | (have H2_ := (Option.bind_some _ _).symm.trans H; rw [hy780]; with_reducible exact H2_) | (have H2_ := (Option.bind_some _ _).symm.trans H; with_reducible exact H2_) | with_reducible exact H | (rw [hy780]; exact H) | exact H
               have Ny780 := Aside0.mk hy780
               clear hy780
               have H' := Aside0.mk H
               clear H
               obtain ⟨Ao25, co25, eo25⟩ := Kd.R_slice HO_4.out
               subst eo25
               go_wp2_with (first | ((with_reducible refine gate_callee (f := 86) rfl ?_); refine goesL_ (some 37) rfl rfl Try.func86 (by kernel_rfl) rfl #[.slice Ao25 t772.length co25, .int .i64 x7_1] rfl (by (try simp only [List.map_toArray, List.map_cons, List.map_nil]); first | done | rfl | (simp only [List.length_drop, List.length_take]; rfl)) ?_; (with_reducible refine (spec_HasNumber.calls k1 _ _ t772 x7_1 t779 _ ?side1 ?side2 A21.out).mono ?_); (case side1 => exact ce_ ((Kd.R_reads' HO_4.out).2.2)); (case side2 => exact (Kd.R_reads' HO_4.out).2.1); rintro e w' ⟨rfl, ⟨nd, rfl⟩⟩; refine ⟨_, rfl, ?_⟩; (try (rw [drewN_self wr]; generalize hq_ : World.drewN wr _ = wr; have n0_ : Aside0 (Kd.R (Kd.int .i64) 3 wr w.heap.size (fun _ => True) (.slice Ao25 t772.length co25) t772) := ⟨by rw [← hq_]; exact (re_ HO_4.out)⟩; have n1_ : Aside0 (Kd.R Kd.bool 4 wr w.heap.size (fun _ => True) v777 x6_1) := ⟨by rw [← hq_]; exact (re_ HO_6.out)⟩; have n2_ : Aside0 (wr.heap[gb769]? = some (.cells #[.slice A0_0 l0_0.length c0_0] 27 (0, 0))) := ⟨by rw [← hq_]; exact (be_ BK769.out)⟩; have n3_ : Aside0 (wr.heap[gb770]? = some (.cells #[.slice none 0 0] 27 (0, 0))) := ⟨by rw [← hq_]; exact (be_ BK770.out)⟩; have n4_ : Aside0 (Below w.heap.size w wr) := ⟨by rw [← hq_]; exact (by repeat (first | (with_reducible first | exact HB.out | apply below_alloc | apply pw_below_drewN | apply below_drew1 | refine below_set ?_ GE769.out | refine below_set ?_ GE770.out) | exact HB.out))⟩; clear HO_4 HO_6 BK769 BK770 HB hq_; have HO_4 := n0_; have HO_6 := n1_; have BK769 := n2_; have BK770 := n3_; have HB := n4_; clear n0_ n1_ n2_ n3_ n4_)); have p24 : 0 ≤ (x7_1 : Int) := of_decide_eq_true (by first | (with_reducible assumption) | assumption); have q24 : (x7_1 : Int) < ((x6_1.length : Int) : Int) := of_decide_eq_true (by first | (with_reducible assumption) | assumption); obtain ⟨go24, co24, eo24, gb24, gl24, cl24, HG24⟩ := Kd.R_form HO_6.out (by omega); (first | cases eo24 | (injection eo24 with ea_ en_ ec_; (first | subst ea_ | (injection ea_ with ea_; subst ea_)); subst ec_; clear en_)); have GB24 := Aside0.mk gb24; have GG24 := Aside0.mk HG24; clear gb24 gl24 HG24; obtain ⟨hx24_0, hf24_0⟩ := Kd.R_celln false HO_6.out (x7_1 : Int) p24 q24; replace p24 := eq_true p24; replace q24 := eq_true q24; obtain ⟨hy26_, hz26_⟩ := Kd.R_celln false HO_6.out (x7_1 : Int) (of_decide_eq_true (by first | (with_reducible assumption) | assumption)) (of_decide_eq_true (by first | (with_reducible assumption) | assumption)); have HP26 := Kd.R_putg HO_6.out (x7_1 : Int) (!t779)) | ((with_reducible refine gate_store (t := 4) (p := 39) rfl ?_); refine store_event (t := 4) (p := 39) (v := ?vo_w27) (w1 := (wr.setCell ⟨go24, (x7_1 : Int).toNat, none⟩ (.bool (!t779)))) ?hg ?ho ?hn ?hr ?_; (case ho => rfl); (case hg => rfl); (case hn => rfl); (case hr => first | (go_simp; done) | (go_simp; rfl)); intro w27 hw; have hg : wr.grownBy w27 (some go24) := (by rw [hw]; exact HP26.2); have hp_ : Kd.R Kd.bool 4 w27 w.heap.size (fun _ => True) (.slice (some ⟨go24, 0, none⟩) x6_1.length co24) y780 := (by rw [hw, Ny780.out]; exact HP26.1); clear HP26; have n0_ := Aside0.mk (Kd.R_over' (v := (.slice (some ⟨go24, 0, none⟩) x6_1.length co24)) (re_ HO_4.out) (Kd.R_typed HO_6.out) (by decide) hg); have n1_ := Aside0.mk (hp_); have n2_ := Aside0.mk (blk_grown (g := gb769) (o := .cells #[.slice A0_0 l0_0.length c0_0] 27 (0, 0)) (be_ BK769.out) hg (Kd.R_ne HO_6.out BK769.out (by decide))); have n3_ := Aside0.mk (blk_grown (g := gb770) (o := .cells #[.slice none 0 0] 27 (0, 0)) (be_ BK770.out) hg (Kd.R_ne HO_6.out BK770.out (by decide))); have n4_ := Aside0.mk ((by rw [hw]; exact below_set (HB.out) GB24.out : Below w.heap.size w w27)); clear HO_4; clear HO_6; clear BK769; clear BK770; clear HB; have HO_4 := n0_; have HO_6 := n1_; have BK769 := n2_; have BK770 := n3_; have HB := n4_; clear n0_ n1_ n2_ n3_ n4_; clear hg hw hp_))
               go_roundg k1
               case measure => have := HK1.out; omega
               case rel => exact ⟨(y780), (wrap64 (x7_1 + 1)), (by first | rfl | (simp; done) | (simp [*]; done)), H', ⟨by have := HK1.out; omega⟩, ⟨re_ HO_4.out⟩, ⟨re_ HO_6.out⟩, ⟨be_ BK769.out⟩, ⟨be_ BK770.out⟩, ⟨by repeat (first | (with_reducible first | exact HB.out | apply below_alloc | apply pw_below_drewN | apply below_drew1 | refine below_set ?_ GE769.out | refine below_set ?_ GE770.out) | exact HB.out)⟩⟩
             · rw [if_neg c23] at H
               exact absurd H (by simp)
           · rw [if_neg c22] at H
             exact absurd H (by simp)
         · rw [if_neg c20] at H
           have c20b0 : decide (x7_1 < t775) = false := decide_eq_false c20
           clear c20
           have H' := Aside0.mk H
           clear H
           go_wp2
           go_loopg [8] k1 (fun kq v8 w' => ∃ (x6_2 : List Bool) (x8_2 : Bool), v8 = .bool x8_2 ∧ Aside0 (spec_ArfClosure.l1 kq t775 x6_2 x8_2 = some (r1, r2)) ∧ Aside0 (kq ≤ k1) ∧ Aside0 (Kd.R Kd.bool 4 w' w.heap.size (fun _ => True) v777 x6_2) ∧ Aside0 (w'.heap[gb769]? = some (.cells #[(.slice A0_0 l0_0.length c0_0)] 27 (0, 0))) ∧ Aside0 (w'.heap[gb770]? = some (.cells #[(.slice none 0 0)] 27 (0, 0))) ∧ Aside0 (Below w.heap.size w w'))
           case atStart => exact ⟨(x6_1), (true), (by first | rfl | (simp; done) | (simp [*]; done)), H', ⟨Nat.le_refl _⟩, ⟨re_ HO_6.out⟩, ⟨be_ BK769.out⟩, ⟨be_ BK770.out⟩, ⟨by repeat (first | (with_reducible first | exact HB.out | apply below_alloc | apply pw_below_drewN | apply below_drew1 | refine below_set ?_ GE769.out | refine below_set ?_ GE770.out) | exact HB.out)⟩⟩
           case round =>
            clear H'
            try clear c1
            try clear c2
            try clear p2
            try clear q2
            try clear hx2
            try clear hf2
            try clear c3
            try clear c4
            try clear p6
            try clear c7
            try clear c7b0
            try clear c7b1
            try clear c8
            try clear c8b0
            try clear c8b1
            try clear c11
            try clear c20
            try clear c20b0
            try clear c22
            try clear c22b0
            try clear c23
            try clear c23b0
            try clear p24
            try clear q24
            try clear hx24
            try clear hf24
            try clear hcz12_0
            try clear hcz14_0
            try clear hcz16_0
            try clear hfz12_0
            try clear hfz14_0
            try clear hfz16_0
            try clear hx24_0
            try clear p2
            try clear p24
            try clear p6
            try clear q24
            obtain ⟨x6_2, x8_2, rfl, HA, HK2, HO_6, BK769, BK770, HB⟩ := hrel
            cases gk with
            | zero => exact absurd HA.out (by simp [spec_ArfClosure.l1])
            | succ k2 =>
             have H := HA.out
             clear HA
             simp only [spec_ArfClosure.l1] at H
             by_cases c28 : x8_2 = true
             · subst c28
               have H1 : (spec_ArfClosure.l2 k2 t775 x6_2 false 0) = some (r1, r2) := by rw [if_pos rfl] at H; exact H
               clear H
               have H := H1
               clear H1
               have H' := Aside0.mk H
               clear H
               go_wp2
               go_loopg [8, 9] k2 (fun kq v8 v9 w' => ∃ (x6_3 : List Bool) (x8_3 : Bool) (x9_3 : Int), v8 = .bool x8_3 ∧ v9 = .int .i64 x9_3 ∧ Aside0 (spec_ArfClosure.l2 kq t775 x6_3 x8_3 x9_3 = some (r1, r2)) ∧ Aside0 (kq ≤ k2) ∧ Aside0 (Kd.R Kd.bool 4 w' w.heap.size (fun _ => True) v777 x6_3) ∧ Aside0 (w'.heap[gb769]? = some (.cells #[(.slice A0_0 l0_0.length c0_0)] 27 (0, 0))) ∧ Aside0 (w'.heap[gb770]? = some (.cells #[(.slice none 0 0)] 27 (0, 0))) ∧ Aside0 (Below w.heap.size w w'))
               case atStart => exact ⟨(x6_2), (false), (0), (by first | rfl | (simp; done) | (simp [*]; done)), (by first | rfl | (simp; done) | (simp [*]; done)), H', ⟨Nat.le_refl _⟩, ⟨re_ HO_6.out⟩, ⟨be_ BK769.out⟩, ⟨be_ BK770.out⟩, ⟨by repeat (first | (with_reducible first | exact HB.out | apply below_alloc | apply pw_below_drewN | apply below_drew1 | refine below_set ?_ GE769.out | refine below_set ?_ GE770.out) | exact HB.out)⟩⟩
               case round =>
                clear H'
                try clear c1
                try clear c2
                try clear p2
                try clear q2
                try clear hx2
                try clear hf2
                try clear c3
                try clear c4
                try clear p6
                try clear c7
                try clear c7b0
                try clear c7b1
                try clear c8
                try clear c8b0
                try clear c8b1
                try clear c11
                try clear c20
                try clear c20b0
                try clear c22
                try clear c22b0
                try clear c23
                try clear c23b0
                try clear p24
                try clear q24
                try clear hx24
                try clear hf24
                try clear c28
                try clear hcz12_0
                try clear hcz14_0
                try clear hcz16_0
                try clear hfz12_0
                try clear hfz14_0
                try clear hfz16_0
                try clear hx24_0
                try clear p2
                try clear p24
                try clear p6
                try clear q2
                try clear q24
                obtain ⟨x6_3, x8_3, x9_3, rfl, rfl, HA, HK3, HO_6, BK769, BK770, HB⟩ := hrel
                cases gk with
                | zero => exact absurd HA.out (by simp [spec_ArfClosure.l2])
                | succ k3 =>
                 have H := HA.out
                 clear HA
                 simp only [spec_ArfClosure.l2] at H
                 by_cases c29 : x9_3 < t775
                 · rw [if_pos c29] at H
                   have c29b0 : decide (x9_3 < t775) = true := decide_eq_true c29
                   clear c29
                   have H' := Aside0.mk H
                   clear H
                   go_wp2
                   go_loopg [8, 10] k3 (fun kq v8 v10 w' => ∃ (x6_4 : List Bool) (x8_4 : Bool) (x10_4 : Int), v8 = .bool x8_4 ∧ v10 = .int .i64 x10_4 ∧ Aside0 (spec_ArfClosure.l3 kq t775 x6_4 x8_4 x9_3 x10_4 = some (r1, r2)) ∧ Aside0 (kq ≤ k3) ∧ Aside0 (Kd.R Kd.bool 4 w' w.heap.size (fun _ => True) v777 x6_4) ∧ Aside0 (w'.heap[gb769]? = some (.cells #[(.slice A0_0 l0_0.length c0_0)] 27 (0, 0))) ∧ Aside0 (w'.heap[gb770]? = some (.cells #[(.slice none 0 0)] 27 (0, 0))) ∧ Aside0 (Below w.heap.size w w'))
                   case atStart => exact ⟨(x6_3), (x8_3), (0), (by first | rfl | (simp; done) | (simp [*]; done)), (by first | rfl | (simp; done) | (simp [*]; done)), H', ⟨Nat.le_refl _⟩, ⟨re_ HO_6.out⟩, ⟨be_ BK769.out⟩, ⟨be_ BK770.out⟩, ⟨by repeat (first | (with_reducible first | exact HB.out | apply below_alloc | apply pw_below_drewN | apply below_drew1 | refine below_set ?_ GE769.out | refine below_set ?_ GE770.out) | exact HB.out)⟩⟩
                   case round =>
                    clear H'
                    try clear c1
                    try clear c2
                    try clear p2
                    try clear q2
                    try clear hx2
                    try clear hf2
                    try clear c3
                    try clear c4
                    try clear p6
                    try clear c7
                    try clear c7b0
                    try clear c7b1
                    try clear c8
                    try clear c8b0
                    try clear c8b1
                    try clear c11
                    try clear c20
                    try clear c20b0
                    try clear c22
                    try clear c22b0
                    try clear c23
                    try clear c23b0
                    try clear p24
                    try clear q24
                    try clear hx24
                    try clear hf24
                    try clear c28
                    try clear c29
                    try clear c29b0
                    try clear hcz12_0
                    try clear hcz14_0
                    try clear hcz16_0
                    try clear hfz12_0
                    try clear hfz14_0
                    try clear hfz16_0
                    try clear hx24_0
                    try clear p2
                    try clear p24
                    try clear p6
                    try clear q2
                    try clear q24
                    obtain ⟨x6_4, x8_4, x10_4, rfl, rfl, HA, HK4, HO_6, BK769, BK770, HB⟩ := hrel
                    cases gk with
                    | zero => exact absurd HA.out (by simp [spec_ArfClosure.l3])
                    | succ k4 =>
                     have H := HA.out
                     clear HA
                     simp only [spec_ArfClosure.l3] at H
                     have HC30 := Aside0.mk H
                     clear H
                     go_upto_region 17 with (fail)
                     go_cut [54] (fun v54 wc => ∃ (kq : Nat) (x54_29 : Bool), v54 = .bool x54_29 ∧ Aside0 (spec_ArfClosure.j4 kq t775 x6_4 x8_4 x9_3 x10_4 x54_29 = some (r1, r2)) ∧ Aside0 (kq ≤ k4) ∧ Aside0 (Kd.R Kd.bool 4 wc w.heap.size (fun _ => True) v777 x6_4) ∧ Aside0 (wc.heap[gb769]? = some (.cells #[(.slice A0_0 l0_0.length c0_0)] 27 (0, 0))) ∧ Aside0 (wc.heap[gb770]? = some (.cells #[(.slice none 0 0)] 27 (0, 0))) ∧ Aside0 (Below w.heap.size w wc))
                     case first =>
                      have H := HC30.out
                      clear HC30
                      by_cases c31 : x10_4 ≤ x9_3
                      · rw [if_pos c31] at H
                        have c31b0 : decide (x10_4 ≤ x9_3) = true := decide_eq_true c31
                        clear c31
                        (first | rw [c31b0] | (simp only [i64_w, i32_w]; rw [c31b0]) | skip)
                        by_cases c32 : 0 ≤ x9_3
                        · rw [if_pos c32] at H
                          have c32b0 : decide (0 ≤ x9_3) = true := decide_eq_true c32
                          clear c32
                          by_cases c33 : x9_3 < (x6_4.length : Int)
                          · rw [if_pos c33] at H
                            have c33b0 : decide (x9_3 < (x6_4.length : Int)) = true := decide_eq_true c33
                            clear c33
                            have H' := Aside0.mk H
                            clear H
                            obtain ⟨Ao34, co34, eo34⟩ := Kd.R_slice HO_6.out
                            subst eo34
                            have p781 : 0 ≤ (x9_3 : Int) := of_decide_eq_true (by first | (with_reducible assumption) | assumption)
                            have q781 : x9_3 < (x6_4.length : Int) := of_decide_eq_true (by first | (with_reducible assumption) | assumption)
                            obtain ⟨ad781, e781, hx781_0⟩ := Kd.at_bool (Kd.R_reads' HO_6.out).2.2 x9_3 p781 q781
                            cases e781
                            replace p781 := eq_true p781
                            replace q781 := eq_true q781
                            go_wp2
                            go_meet
                            case rel => exact ⟨_, (rdOf false x6_4 x9_3), (by first | rfl | (simp; done) | (simp [*]; done)), H', ⟨by have := HK1.out; have := HK2.out; have := HK3.out; have := HK4.out; first | omega | exact Nat.le_refl _⟩, ⟨re_ HO_6.out⟩, ⟨be_ BK769.out⟩, ⟨be_ BK770.out⟩, ⟨by repeat (first | (with_reducible first | exact HB.out | apply below_alloc | apply pw_below_drewN | apply below_drew1 | refine below_set ?_ GE769.out | refine below_set ?_ GE770.out) | exact HB.out)⟩⟩
                          · rw [if_neg c33] at H
                            exact absurd H (by simp)
                        · rw [if_neg c32] at H
                          exact absurd H (by simp)
                      · rw [if_neg c31] at H
                        have c31b0 : decide (x10_4 ≤ x9_3) = false := decide_eq_false c31
                        clear c31
                        (first | rw [c31b0] | (simp only [i64_w, i32_w]; rw [c31b0]) | skip)
                        have H' := Aside0.mk H
                        clear H
                        go_wp2
                        go_meet
                        case rel => exact ⟨_, (false), (by first | rfl | (simp; done) | (simp [*]; done)), H', ⟨by have := HK1.out; have := HK2.out; have := HK3.out; have := HK4.out; first | omega | exact Nat.le_refl _⟩, ⟨re_ HO_6.out⟩, ⟨be_ BK769.out⟩, ⟨be_ BK770.out⟩, ⟨by repeat (first | (with_reducible first | exact HB.out | apply below_alloc | apply pw_below_drewN | apply below_drew1 | refine below_set ?_ GE769.out | refine below_set ?_ GE770.out) | exact HB.out)⟩⟩
                     case rest =>
                      clear HC30
                      try clear c1
                      try clear c2
                      try clear p2
                      try clear q2
                      try clear hx2
                      try clear hf2
                      try clear c3
                      try clear c4
                      try clear p6
                      try clear c7
                      try clear c7b0
                      try clear c7b1
                      try clear p7
                      try clear q7
                      try clear hx7
                      try clear c8
                      try clear c8b0
                      try clear c8b1
                      try clear c11
                      try clear c20
                      try clear c20b0
                      try clear c22
                      try clear c22b0
                      try clear c23
                      try clear c23b0
                      try clear p24
                      try clear q24
                      try clear hx24
                      try clear hf24
                      try clear c28
                      try clear c29
                      try clear c29b0
                      try clear c31
                      try clear c31b0
                      try clear c32
                      try clear c32b0
                      try clear c33
                      try clear c33b0
                      try clear hcz12_0
                      try clear hcz14_0
                      try clear hcz16_0
                      try clear hfz12_0
                      try clear hfz14_0
                      try clear hfz16_0
                      try clear hx24_0
                      try clear hx781_0
                      try clear p2
                      try clear p24
                      try clear p6
                      try clear p781
                      try clear q2
                      try clear q24
                      try clear q781
                      obtain ⟨kq, x54_29, rfl, HA, HJ29, HO_6, BK769, BK770, HB⟩ := hcut
                      cases kq with
                      | zero => exact absurd HA.out (by simp [spec_ArfClosure.j4])
                      | succ kj29 =>
                       have H := HA.out
                       clear HA
                       simp only [spec_ArfClosure.j4] at H
                       by_cases c35 : x54_29 = true
                       · subst c35
                         have H1 : (spec_ArfClosure.l4 kj29 t775 x6_4 x8_4 x9_3 x10_4 0) = some (r1, r2) := by rw [if_pos rfl] at H; exact H
                         clear H
                         have H := H1
                         clear H1
                         have H' := Aside0.mk H
                         clear H
                         go_wp2
                         go_loopg [8, 11] kj29 (fun kq v8 v11 w' => ∃ (x6_6 : List Bool) (x8_6 : Bool) (x11_6 : Int), v8 = .bool x8_6 ∧ v11 = .int .i64 x11_6 ∧ Aside0 (spec_ArfClosure.l4 kq t775 x6_6 x8_6 x9_3 x10_4 x11_6 = some (r1, r2)) ∧ Aside0 (kq ≤ kj29) ∧ Aside0 (Kd.R Kd.bool 4 w' w.heap.size (fun _ => True) v777 x6_6) ∧ Aside0 (w'.heap[gb769]? = some (.cells #[(.slice A0_0 l0_0.length c0_0)] 27 (0, 0))) ∧ Aside0 (w'.heap[gb770]? = some (.cells #[(.slice none 0 0)] 27 (0, 0))) ∧ Aside0 (Below w.heap.size w w'))
                         case atStart => exact ⟨(x6_4), (x8_4), (0), (by first | rfl | (simp; done) | (simp [*]; done)), (by first | rfl | (simp; done) | (simp [*]; done)), H', ⟨Nat.le_refl _⟩, ⟨re_ HO_6.out⟩, ⟨be_ BK769.out⟩, ⟨be_ BK770.out⟩, ⟨by repeat (first | (with_reducible first | exact HB.out | apply below_alloc | apply pw_below_drewN | apply below_drew1 | refine below_set ?_ GE769.out | refine below_set ?_ GE770.out) | exact HB.out)⟩⟩
                         case round =>
                          clear H'
                          try clear c1
                          try clear c2
                          try clear p2
                          try clear q2
                          try clear hx2
                          try clear hf2
                          try clear c3
                          try clear c4
                          try clear p6
                          try clear c7
                          try clear c7b0
                          try clear c7b1
                          try clear p7
                          try clear q7
                          try clear hx7
                          try clear c8
                          try clear c8b0
                          try clear c8b1
                          try clear c11
                          try clear c20
                          try clear c20b0
                          try clear c22
                          try clear c22b0
                          try clear c23
                          try clear c23b0
                          try clear p24
                          try clear q24
                          try clear hx24
                          try clear hf24
                          try clear c28
                          try clear c29
                          try clear c29b0
                          try clear c31
                          try clear c31b0
                          try clear c32
                          try clear c32b0
                          try clear c33
                          try clear c33b0
                          try clear c35
                          try clear hcz12_0
                          try clear hcz14_0
                          try clear hcz16_0
                          try clear hfz12_0
                          try clear hfz14_0
                          try clear hfz16_0
                          try clear hx24_0
                          try clear hx781_0
                          try clear p2
                          try clear p24
                          try clear p6
                          try clear p7
                          try clear p781
                          try clear q2
                          try clear q24
                          try clear q7
                          try clear q781
                          obtain ⟨x6_6, x8_6, x11_6, rfl, rfl, HA, HK6, HO_6, BK769, BK770, HB⟩ := hrel
                          cases gk with
                          | zero => exact absurd HA.out (by simp [spec_ArfClosure.l4])
                          | succ k6 =>
                           have H := HA.out
                           clear HA
                           simp only [spec_ArfClosure.l4] at H
                           have HC36 := Aside0.mk H
                           clear H
                           go_upto_region 20 with (fail)
                           go_cut [65] (fun v65 wc => ∃ (kq : Nat) (x65_35 : Bool), v65 = .bool x65_35 ∧ Aside0 (spec_ArfClosure.j6 kq t775 x6_6 x8_6 x9_3 x10_4 x11_6 x65_35 = some (r1, r2)) ∧ Aside0 (kq ≤ k6) ∧ Aside0 (Kd.R Kd.bool 4 wc w.heap.size (fun _ => True) v777 x6_6) ∧ Aside0 (wc.heap[gb769]? = some (.cells #[(.slice A0_0 l0_0.length c0_0)] 27 (0, 0))) ∧ Aside0 (wc.heap[gb770]? = some (.cells #[(.slice none 0 0)] 27 (0, 0))) ∧ Aside0 (Below w.heap.size w wc))
                           case first =>
                            have H := HC36.out
                            clear HC36
                            by_cases c37 : x11_6 ≤ x10_4
                            · rw [if_pos c37] at H
                              have c37b0 : decide (x11_6 ≤ x10_4) = true := decide_eq_true c37
                              clear c37
                              (first | rw [c37b0] | (simp only [i64_w, i32_w]; rw [c37b0]) | skip)
                              by_cases c38 : 0 ≤ x10_4
                              · rw [if_pos c38] at H
                                have c38b0 : decide (0 ≤ x10_4) = true := decide_eq_true c38
                                clear c38
                                by_cases c39 : x10_4 < (x6_6.length : Int)
                                · rw [if_pos c39] at H
                                  have c39b0 : decide (x10_4 < (x6_6.length : Int)) = true := decide_eq_true c39
                                  clear c39
                                  have H' := Aside0.mk H
                                  clear H
                                  obtain ⟨Ao40, co40, eo40⟩ := Kd.R_slice HO_6.out
                                  subst eo40
                                  have p782 : 0 ≤ (x10_4 : Int) := of_decide_eq_true (by first | (with_reducible assumption) | assumption)
                                  have q782 : x10_4 < (x6_6.length : Int) := of_decide_eq_true (by first | (with_reducible assumption) | assumption)
                                  obtain ⟨ad782, e782, hx782_0⟩ := Kd.at_bool (Kd.R_reads' HO_6.out).2.2 x10_4 p782 q782
                                  cases e782
                                  replace p782 := eq_true p782
                                  replace q782 := eq_true q782
                                  go_wp2
                                  go_meet
                                  case rel => exact ⟨_, (rdOf false x6_6 x10_4), (by first | rfl | (simp; done) | (simp [*]; done)), H', ⟨by have := HK1.out; have := HK2.out; have := HK3.out; have := HK4.out; have := HJ29.out; have := HK6.out; first | omega | exact Nat.le_refl _⟩, ⟨re_ HO_6.out⟩, ⟨be_ BK769.out⟩, ⟨be_ BK770.out⟩, ⟨by repeat (first | (with_reducible first | exact HB.out | apply below_alloc | apply pw_below_drewN | apply below_drew1 | refine below_set ?_ GE769.out | refine below_set ?_ GE770.out) | exact HB.out)⟩⟩
                                · rw [if_neg c39] at H
                                  exact absurd H (by simp)
                              · rw [if_neg c38] at H
                                exact absurd H (by simp)
                            · rw [if_neg c37] at H
                              have c37b0 : decide (x11_6 ≤ x10_4) = false := decide_eq_false c37
                              clear c37
                              (first | rw [c37b0] | (simp only [i64_w, i32_w]; rw [c37b0]) | skip)
                              have H' := Aside0.mk H
                              clear H
                              go_wp2
                              go_meet
                              case rel => exact ⟨_, (false), (by first | rfl | (simp; done) | (simp [*]; done)), H', ⟨by have := HK1.out; have := HK2.out; have := HK3.out; have := HK4.out; have := HJ29.out; have := HK6.out; first | omega | exact Nat.le_refl _⟩, ⟨re_ HO_6.out⟩, ⟨be_ BK769.out⟩, ⟨be_ BK770.out⟩, ⟨by repeat (first | (with_reducible first | exact HB.out | apply below_alloc | apply pw_below_drewN | apply below_drew1 | refine below_set ?_ GE769.out | refine below_set ?_ GE770.out) | exact HB.out)⟩⟩
                           case rest =>
                            clear HC36
                            try clear c1
                            try clear c2
                            try clear p2
                            try clear q2
                            try clear hx2
                            try clear hf2
                            try clear c3
                            try clear c4
                            try clear p6
                            try clear c7
                            try clear c7b0
                            try clear c7b1
                            try clear p7
                            try clear q7
                            try clear hx7
                            try clear c8
                            try clear c8b0
                            try clear c8b1
                            try clear c11
                            try clear c20
                            try clear c20b0
                            try clear c22
                            try clear c22b0
                            try clear c23
                            try clear c23b0
                            try clear p24
                            try clear q24
                            try clear hx24
                            try clear hf24
                            try clear c28
                            try clear c29
                            try clear c29b0
                            try clear c31
                            try clear c31b0
                            try clear c32
                            try clear c32b0
                            try clear c33
                            try clear c33b0
                            try clear c35
                            try clear c37
                            try clear c37b0
                            try clear c38
                            try clear c38b0
                            try clear c39
                            try clear c39b0
                            try clear hcz12_0
                            try clear hcz14_0
                            try clear hcz16_0
                            try clear hfz12_0
                            try clear hfz14_0
                            try clear hfz16_0
                            try clear hx24_0
                            try clear hx781_0
                            try clear hx782_0
                            try clear p2
                            try clear p24
                            try clear p6
                            try clear p7
                            try clear p781
                            try clear p782
                            try clear q2
                            try clear q24
                            try clear q7
                            try clear q781
                            try clear q782
                            obtain ⟨kq, x65_35, rfl, HA, HJ35, HO_6, BK769, BK770, HB⟩ := hcut
                            cases kq with
                            | zero => exact absurd HA.out (by simp [spec_ArfClosure.j6])
                            | succ kj35 =>
                             have H := HA.out
                             clear HA
                             simp only [spec_ArfClosure.j6] at H
                             by_cases c41 : x65_35 = true
                             · subst c41
                               have H1 : (if 0 ≤ x11_6 then (if x11_6 < (x6_6.length : Int) then (if rdOf false x6_6 x11_6 = true then (if (wrap64 ((wrap64 (x9_3 + x10_4)) - x11_6)) < t775 then (if 0 ≤ (wrap64 ((wrap64 (x9_3 + x10_4)) - x11_6)) then (if (wrap64 ((wrap64 (x9_3 + x10_4)) - x11_6)) < (x6_6.length : Int) then (if (rdOf false x6_6 (wrap64 ((wrap64 (x9_3 + x10_4)) - x11_6)) = true) then (spec_ArfClosure.l4 kj35 t775 x6_6 x8_6 x9_3 x10_4 (wrap64 (x11_6 + 1))) else (spec_ArfClosure.l4 kj35 t775 (x6_6.set ((wrap64 ((wrap64 (x9_3 + x10_4)) - x11_6)) : Int).toNat true) true x9_3 x10_4 (wrap64 (x11_6 + 1)))) else (none)) else (none)) else (spec_ArfClosure.l4 kj35 t775 x6_6 x8_6 x9_3 x10_4 (wrap64 (x11_6 + 1)))) else (spec_ArfClosure.l4 kj35 t775 x6_6 x8_6 x9_3 x10_4 (wrap64 (x11_6 + 1)))) else (none)) else (none)) = some (r1, r2) := by rw [if_pos rfl] at H; exact H
                               clear H
                               have H := H1
                               clear H1
                               by_cases c42 : 0 ≤ x11_6
                               · rw [if_pos c42] at H
                                 have c42b0 : decide (0 ≤ x11_6) = true := decide_eq_true c42
                                 clear c42
                                 by_cases c43 : x11_6 < (x6_6.length : Int)
                                 · rw [if_pos c43] at H
                                   have c43b0 : decide (x11_6 < (x6_6.length : Int)) = true := decide_eq_true c43
                                   clear c43
                                   obtain ⟨bq44, hbq44⟩ : ∃ b_ : Bool, b_ = (rdOf false x6_6 x11_6) := ⟨_, rfl⟩
                                   replace H : (if bq44 = true then (if (wrap64 ((wrap64 (x9_3 + x10_4)) - x11_6)) < t775 then (if 0 ≤ (wrap64 ((wrap64 (x9_3 + x10_4)) - x11_6)) then (if (wrap64 ((wrap64 (x9_3 + x10_4)) - x11_6)) < (x6_6.length : Int) then (if (rdOf false x6_6 (wrap64 ((wrap64 (x9_3 + x10_4)) - x11_6)) = true) then (spec_ArfClosure.l4 kj35 t775 x6_6 x8_6 x9_3 x10_4 (wrap64 (x11_6 + 1))) else (spec_ArfClosure.l4 kj35 t775 (x6_6.set ((wrap64 ((wrap64 (x9_3 + x10_4)) - x11_6)) : Int).toNat true) true x9_3 x10_4 (wrap64 (x11_6 + 1)))) else (none)) else (none)) else (spec_ArfClosure.l4 kj35 t775 x6_6 x8_6 x9_3 x10_4 (wrap64 (x11_6 + 1)))) else (spec_ArfClosure.l4 kj35 t775 x6_6 x8_6 x9_3 x10_4 (wrap64 (x11_6 + 1)))) = some (r1, r2) := by rw [← hbq44] at H; exact H
                                   have Nbq44 := Aside0.mk hbq44
                                   clear hbq44
                                   by_cases c45 : bq44 = true
                                   · subst c45
                                     have H1 : (if (wrap64 ((wrap64 (x9_3 + x10_4)) - x11_6)) < t775 then (if 0 ≤ (wrap64 ((wrap64 (x9_3 + x10_4)) - x11_6)) then (if (wrap64 ((wrap64 (x9_3 + x10_4)) - x11_6)) < (x6_6.length : Int) then (if (rdOf false x6_6 (wrap64 ((wrap64 (x9_3 + x10_4)) - x11_6)) = true) then (spec_ArfClosure.l4 kj35 t775 x6_6 x8_6 x9_3 x10_4 (wrap64 (x11_6 + 1))) else (spec_ArfClosure.l4 kj35 t775 (x6_6.set ((wrap64 ((wrap64 (x9_3 + x10_4)) - x11_6)) : Int).toNat true) true x9_3 x10_4 (wrap64 (x11_6 + 1)))) else (none)) else (none)) else (spec_ArfClosure.l4 kj35 t775 x6_6 x8_6 x9_3 x10_4 (wrap64 (x11_6 + 1)))) = some (r1, r2) := by rw [if_pos rfl] at H; exact H
                                     clear H
                                     have H := H1
                                     clear H1
                                     by_cases c46 : (wrap64 ((wrap64 (x9_3 + x10_4)) - x11_6)) < t775
                                     · rw [if_pos c46] at H
                                       have c46b0 : decide ((wrap64 ((wrap64 (x9_3 + x10_4)) - x11_6)) < t775) = true := decide_eq_true c46
                                       clear c46
                                       obtain ⟨ji47, hji47⟩ : ∃ j_ : Int, (wrap64 ((wrap64 (x9_3 + x10_4)) - x11_6)) = j_ := ⟨_, rfl⟩
                                       replace H : (if 0 ≤ (ji47) then (if (ji47) < (x6_6.length : Int) then (if (rdOf false x6_6 (ji47) = true) then (spec_ArfClosure.l4 kj35 t775 x6_6 x8_6 x9_3 x10_4 (wrap64 (x11_6 + 1))) else (spec_ArfClosure.l4 kj35 t775 (x6_6.set ((ji47) : Int).toNat true) true x9_3 x10_4 (wrap64 (x11_6 + 1)))) else (none)) else (none)) = some (r1, r2) := by first | (rw [hji47] at H; exact H) | (simp only [hji47] at H ⊢; exact H)
                                       (try rw [hji47] at c46b0)
                                       have hji47w : (IntKind.i64.wrap ((wrap64 (x9_3 + x10_4)) - x11_6)) = ji47 := (i64_w _).trans hji47
                                       by_cases c48 : 0 ≤ (ji47)
                                       · rw [if_pos c48] at H
                                         have c48b0 : decide (0 ≤ (ji47)) = true := decide_eq_true c48
                                         clear c48
                                         by_cases c49 : (ji47) < (x6_6.length : Int)
                                         · rw [if_pos c49] at H
                                           have c49b0 : decide ((ji47) < (x6_6.length : Int)) = true := decide_eq_true c49
                                           clear c49
                                           obtain ⟨bq50, hbq50⟩ : ∃ b_ : Bool, b_ = (rdOf false x6_6 (ji47)) := ⟨_, rfl⟩
                                           replace H : (if (bq50 = true) then (spec_ArfClosure.l4 kj35 t775 x6_6 x8_6 x9_3 x10_4 (wrap64 (x11_6 + 1))) else (spec_ArfClosure.l4 kj35 t775 (x6_6.set ((ji47) : Int).toNat true) true x9_3 x10_4 (wrap64 (x11_6 + 1)))) = some (r1, r2) := by rw [← hbq50] at H; exact H
                                           have Nbq50 := Aside0.mk hbq50
                                           clear hbq50
                                           by_cases c51 : (bq50 = true)
                                           · subst c51
                                             have H1 : (spec_ArfClosure.l4 kj35 t775 x6_6 x8_6 x9_3 x10_4 (wrap64 (x11_6 + 1))) = some (r1, r2) := by rw [if_pos rfl] at H; exact H
                                             clear H
                                             have H := H1
                                             clear H1
                                             have H' := Aside0.mk H
                                             clear H
                                             obtain ⟨Ao52, co52, eo52⟩ := Kd.R_slice HO_6.out
                                             subst eo52
                                             have p783 : 0 ≤ (x11_6 : Int) := of_decide_eq_true (by first | (with_reducible assumption) | assumption)
                                             have q783 : x11_6 < (x6_6.length : Int) := of_decide_eq_true (by first | (with_reducible assumption) | assumption)
                                             obtain ⟨ad783, e783, hx783_0⟩ := Kd.at_bool (Kd.R_reads' HO_6.out).2.2 x11_6 p783 q783
                                             (try rw [← Nbq44.out] at hx783_0)
                                             (try rw [← Nbq50.out] at hx783_0)
                                             cases e783
                                             replace p783 := eq_true p783
                                             replace q783 := eq_true q783
                                             have p784 : 0 ≤ ((ji47) : Int) := of_decide_eq_true (by first | (with_reducible assumption) | assumption)
                                             have q784 : (ji47) < (x6_6.length : Int) := of_decide_eq_true (by first | (with_reducible assumption) | assumption)
                                             obtain ⟨ad784, e784, hx784_0⟩ := Kd.at_bool (Kd.R_reads' HO_6.out).2.2 (ji47) p784 q784
                                             (try rw [← Nbq44.out] at hx784_0)
                                             (try rw [← Nbq50.out] at hx784_0)
                                             obtain rfl : ad783 = ad784 := (by injection e784)
                                             replace p784 := eq_true p784
                                             replace q784 := eq_true q784
                                             go_wp2
                                             go_roundg kj35
                                             case measure => have := HK1.out; have := HK2.out; have := HK3.out; have := HK4.out; have := HJ29.out; have := HK6.out; have := HJ35.out; omega
                                             case rel => exact ⟨(x6_6), (x8_6), (wrap64 (x11_6 + 1)), (by first | rfl | (simp; done) | (simp [*]; done)), (by first | rfl | (simp; done) | (simp [*]; done)), H', ⟨by have := HK1.out; have := HK2.out; have := HK3.out; have := HK4.out; have := HJ29.out; have := HK6.out; have := HJ35.out; omega⟩, ⟨re_ HO_6.out⟩, ⟨be_ BK769.out⟩, ⟨be_ BK770.out⟩, ⟨by repeat (first | (with_reducible first | exact HB.out | apply below_alloc | apply pw_below_drewN | apply below_drew1 | refine below_set ?_ GE769.out | refine below_set ?_ GE770.out) | exact HB.out)⟩⟩
                                           · replace c51 := Bool.eq_false_iff.mpr c51
                                             subst c51
                                             have H1 : (spec_ArfClosure.l4 kj35 t775 (x6_6.set ((ji47) : Int).toNat true) true x9_3 x10_4 (wrap64 (x11_6 + 1))) = some (r1, r2) := by rw [if_neg (show ¬ (false = true) by decide)] at H; exact H
                                             clear H
                                             have H := H1
                                             clear H1
                                             obtain ⟨y785, hy785⟩ : ∃ y_ : List Bool, y_ = (x6_6.set ((ji47) : Int).toNat true) := ⟨_, rfl⟩
                                             replace H : (spec_ArfClosure.l4 kj35 t775 y785 true x9_3 x10_4 (wrap64 (x11_6 + 1))) = some (r1, r2) := by first | (rw [hy785]; with_reducible exact H) | (have H2_ := (Option.bind_some _ _).symm.trans H; rw [hy785]; with_reducible exact H2_) | (have H2_ := (Option.bind_some _ _).symm.trans H; with_reducible exact H2_) | with_reducible exact H | (rw [hy785]; exact H) | exact H
                                             have Ny785 := Aside0.mk hy785
                                             clear hy785
                                             have H' := Aside0.mk H
                                             clear H
                                             obtain ⟨Ao54, co54, eo54⟩ := Kd.R_slice HO_6.out
                                             subst eo54
                                             have p783 : 0 ≤ (x11_6 : Int) := of_decide_eq_true (by first | (with_reducible assumption) | assumption)
                                             have q783 : x11_6 < (x6_6.length : Int) := of_decide_eq_true (by first | (with_reducible assumption) | assumption)
                                             obtain ⟨ad783, e783, hx783_0⟩ := Kd.at_bool (Kd.R_reads' HO_6.out).2.2 x11_6 p783 q783
                                             (try rw [← Nbq44.out] at hx783_0)
                                             (try rw [← Nbq50.out] at hx783_0)
                                             cases e783
                                             replace p783 := eq_true p783
                                             replace q783 := eq_true q783
                                             have p784 : 0 ≤ ((ji47) : Int) := of_decide_eq_true (by first | (with_reducible assumption) | assumption)
                                             have q784 : (ji47) < (x6_6.length : Int) := of_decide_eq_true (by first | (with_reducible assumption) | assumption)
                                             obtain ⟨ad784, e784, hx784_0⟩ := Kd.at_bool (Kd.R_reads' HO_6.out).2.2 (ji47) p784 q784
                                             (try rw [← Nbq44.out] at hx784_0)
                                             (try rw [← Nbq50.out] at hx784_0)
                                             obtain rfl : ad783 = ad784 := (by injection e784)
                                             replace p784 := eq_true p784
                                             replace q784 := eq_true q784
                                             have p53 : 0 ≤ ((ji47) : Int) := of_decide_eq_true (by first | (with_reducible assumption) | assumption)
                                             have q53 : ((ji47) : Int) < ((x6_6.length : Int) : Int) := of_decide_eq_true (by first | (with_reducible assumption) | assumption)
                                             obtain ⟨go53, co53, eo53, gb53, gl53, cl53, HG53⟩ := Kd.R_form HO_6.out (by omega)
                                             (first | cases eo53 | (injection eo53 with ea_ en_ ec_; (first | subst ea_ | (injection ea_ with ea_; subst ea_)); subst ec_; clear en_))
                                             have GB53 := Aside0.mk gb53
                                             have GG53 := Aside0.mk HG53
                                             clear gb53 gl53 HG53
                                             (first | simp only [add_plain] at hx783_0 | skip)
                                             (first | simp only [add_plain] at hx784_0 | skip)
                                             obtain ⟨hx53_0, hf53_0⟩ := Kd.R_celln false HO_6.out ((ji47) : Int) p53 q53
                                             replace p53 := eq_true p53
                                             replace q53 := eq_true q53
                                             have HP55 := Kd.R_putg HO_6.out ((ji47) : Int) true
                                             go_wp2_with (first | ((with_reducible refine gate_store (t := 4) (p := 91) rfl ?_); refine store_event (t := 4) (p := 91) (v := ?vo_w56) (w1 := (wc.setCell ⟨go53, ((ji47) : Int).toNat, none⟩ (.bool true))) ?hg ?ho ?hn ?hr ?_; (case ho => rfl); (case hg => rfl); (case hn => rfl); (case hr => first | (go_simp; done) | (go_simp; rfl)); intro w56 hw; have hg : wc.grownBy w56 (some go53) := (by rw [hw]; exact HP55.2); have hp_ : Kd.R Kd.bool 4 w56 w.heap.size (fun _ => True) (.slice (some ⟨go53, 0, none⟩) x6_6.length co54) y785 := (by rw [hw, Ny785.out]; exact HP55.1); clear HP55; have n0_ := Aside0.mk (hp_); have n1_ := Aside0.mk (blk_grown (g := gb769) (o := .cells #[.slice A0_0 l0_0.length c0_0] 27 (0, 0)) (be_ BK769.out) hg (Kd.R_ne HO_6.out BK769.out (by decide))); have n2_ := Aside0.mk (blk_grown (g := gb770) (o := .cells #[.slice none 0 0] 27 (0, 0)) (be_ BK770.out) hg (Kd.R_ne HO_6.out BK770.out (by decide))); have n3_ := Aside0.mk ((by rw [hw]; exact below_set (HB.out) GB53.out : Below w.heap.size w w56)); clear HO_6; clear BK769; clear BK770; clear HB; have HO_6 := n0_; have BK769 := n1_; have BK770 := n2_; have HB := n3_; clear n0_ n1_ n2_ n3_; clear hg hw hp_))
                                             go_roundg kj35
                                             case measure => have := HK1.out; have := HK2.out; have := HK3.out; have := HK4.out; have := HJ29.out; have := HK6.out; have := HJ35.out; omega
                                             case rel => exact ⟨(y785), (true), (wrap64 (x11_6 + 1)), (by first | rfl | (simp; done) | (simp [*]; done)), (by first | rfl | (simp; done) | (simp [*]; done)), H', ⟨by have := HK1.out; have := HK2.out; have := HK3.out; have := HK4.out; have := HJ29.out; have := HK6.out; have := HJ35.out; omega⟩, ⟨re_ HO_6.out⟩, ⟨be_ BK769.out⟩, ⟨be_ BK770.out⟩, ⟨by repeat (first | (with_reducible first | exact HB.out | apply below_alloc | apply pw_below_drewN | apply below_drew1 | refine below_set ?_ GE769.out | refine below_set ?_ GE770.out) | exact HB.out)⟩⟩
                                         · rw [if_neg c49] at H
                                           exact absurd H (by simp)
                                       · rw [if_neg c48] at H
                                         exact absurd H (by simp)
                                     · rw [if_neg c46] at H
                                       have c46b0 : decide ((wrap64 ((wrap64 (x9_3 + x10_4)) - x11_6)) < t775) = false := decide_eq_false c46
                                       clear c46
                                       have H' := Aside0.mk H
                                       clear H
                                       obtain ⟨Ao57, co57, eo57⟩ := Kd.R_slice HO_6.out
                                       subst eo57
                                       have p783 : 0 ≤ (x11_6 : Int) := of_decide_eq_true (by first | (with_reducible assumption) | assumption)
                                       have q783 : x11_6 < (x6_6.length : Int) := of_decide_eq_true (by first | (with_reducible assumption) | assumption)
                                       obtain ⟨ad783, e783, hx783_0⟩ := Kd.at_bool (Kd.R_reads' HO_6.out).2.2 x11_6 p783 q783
                                       (try rw [← Nbq44.out] at hx783_0)
                                       cases e783
                                       replace p783 := eq_true p783
                                       replace q783 := eq_true q783
                                       go_wp2
                                       go_roundg kj35
                                       case measure => have := HK1.out; have := HK2.out; have := HK3.out; have := HK4.out; have := HJ29.out; have := HK6.out; have := HJ35.out; omega
                                       case rel => exact ⟨(x6_6), (x8_6), (wrap64 (x11_6 + 1)), (by first | rfl | (simp; done) | (simp [*]; done)), (by first | rfl | (simp; done) | (simp [*]; done)), H', ⟨by have := HK1.out; have := HK2.out; have := HK3.out; have := HK4.out; have := HJ29.out; have := HK6.out; have := HJ35.out; omega⟩, ⟨re_ HO_6.out⟩, ⟨be_ BK769.out⟩, ⟨be_ BK770.out⟩, ⟨by repeat (first | (with_reducible first | exact HB.out | apply below_alloc | apply pw_below_drewN | apply below_drew1 | refine below_set ?_ GE769.out | refine below_set ?_ GE770.out) | exact HB.out)⟩⟩
                                   · replace c45 := Bool.eq_false_iff.mpr c45
                                     subst c45
                                     have H1 : (spec_ArfClosure.l4 kj35 t775 x6_6 x8_6 x9_3 x10_4 (wrap64 (x11_6 + 1))) = some (r1, r2) := by rw [if_neg (show ¬ (false = true) by decide)] at H; exact H
                                     clear H
                                     have H := H1
                                     clear H1
                                     have H' := Aside0.mk H
                                     clear H
                                     obtain ⟨Ao58, co58, eo58⟩ := Kd.R_slice HO_6.out
                                     subst eo58
                                     have p783 : 0 ≤ (x11_6 : Int) := of_decide_eq_true (by first | (with_reducible assumption) | assumption)
                                     have q783 : x11_6 < (x6_6.length : Int) := of_decide_eq_true (by first | (with_reducible assumption) | assumption)
                                     obtain ⟨ad783, e783, hx783_0⟩ := Kd.at_bool (Kd.R_reads' HO_6.out).2.2 x11_6 p783 q783
                                     (try rw [← Nbq44.out] at hx783_0)
                                     cases e783
                                     replace p783 := eq_true p783
                                     replace q783 := eq_true q783
                                     go_wp2
                                     go_roundg kj35
                                     case measure => have := HK1.out; have := HK2.out; have := HK3.out; have := HK4.out; have := HJ29.out; have := HK6.out; have := HJ35.out; omega
                                     case rel => exact ⟨(x6_6), (x8_6), (wrap64 (x11_6 + 1)), (by first | rfl | (simp; done) | (simp [*]; done)), (by first | rfl | (simp; done) | (simp [*]; done)), H', ⟨by have := HK1.out; have := HK2.out; have := HK3.out; have := HK4.out; have := HJ29.out; have := HK6.out; have := HJ35.out; omega⟩, ⟨re_ HO_6.out⟩, ⟨be_ BK769.out⟩, ⟨be_ BK770.out⟩, ⟨by repeat (first | (with_reducible first | exact HB.out | apply below_alloc | apply pw_below_drewN | apply below_drew1 | refine below_set ?_ GE769.out | refine below_set ?_ GE770.out) | exact HB.out)⟩⟩
                                 · rw [if_neg c43] at H
                                   exact absurd H (by simp)
                               · rw [if_neg c42] at H
                                 exact absurd H (by simp)
                             · replace c41 := Bool.eq_false_iff.mpr c41
                               subst c41
                               have H1 : (spec_ArfClosure.l3 kj35 t775 x6_6 x8_6 x9_3 (wrap64 (x10_4 + 1))) = some (r1, r2) := by rw [if_neg (show ¬ (false = true) by decide)] at H; exact H
                               clear H
                               have H := H1
                               clear H1
                               have H' := Aside0.mk H
                               clear H
                               go_wp2
                               go_roundg kj35
                               case measure => have := HK1.out; have := HK2.out; have := HK3.out; have := HK4.out; have := HJ29.out; have := HK6.out; have := HJ35.out; omega
                               case rel => exact ⟨(x6_6), (x8_6), (wrap64 (x10_4 + 1)), (by first | rfl | (simp; done) | (simp [*]; done)), (by first | rfl | (simp; done) | (simp [*]; done)), H', ⟨by have := HK1.out; have := HK2.out; have := HK3.out; have := HK4.out; have := HJ29.out; have := HK6.out; have := HJ35.out; omega⟩, ⟨re_ HO_6.out⟩, ⟨be_ BK769.out⟩, ⟨be_ BK770.out⟩, ⟨by repeat (first | (with_reducible first | exact HB.out | apply below_alloc | apply pw_below_drewN | apply below_drew1 | refine below_set ?_ GE769.out | refine below_set ?_ GE770.out) | exact HB.out)⟩⟩
                       · replace c35 := Bool.eq_false_iff.mpr c35
                         subst c35
                         have H1 : (spec_ArfClosure.l2 kj29 t775 x6_4 x8_4 (wrap64 (x9_3 + 1))) = some (r1, r2) := by rw [if_neg (show ¬ (false = true) by decide)] at H; exact H
                         clear H
                         have H := H1
                         clear H1
                         have H' := Aside0.mk H
                         clear H
                         go_wp2
                         go_roundg kj29
                         case measure => have := HK1.out; have := HK2.out; have := HK3.out; have := HK4.out; have := HJ29.out; omega
                         case rel => exact ⟨(x6_4), (x8_4), (wrap64 (x9_3 + 1)), (by first | rfl | (simp; done) | (simp [*]; done)), (by first | rfl | (simp; done) | (simp [*]; done)), H', ⟨by have := HK1.out; have := HK2.out; have := HK3.out; have := HK4.out; have := HJ29.out; omega⟩, ⟨re_ HO_6.out⟩, ⟨be_ BK769.out⟩, ⟨be_ BK770.out⟩, ⟨by repeat (first | (with_reducible first | exact HB.out | apply below_alloc | apply pw_below_drewN | apply below_drew1 | refine below_set ?_ GE769.out | refine below_set ?_ GE770.out) | exact HB.out)⟩⟩
                 · rw [if_neg c29] at H
                   have c29b0 : decide (x9_3 < t775) = false := decide_eq_false c29
                   clear c29
                   have H' := Aside0.mk H
                   clear H
                   go_wp2
                   go_roundg k3
                   case measure => have := HK1.out; have := HK2.out; have := HK3.out; omega
                   case rel => exact ⟨(x6_3), (x8_3), (by first | rfl | (simp; done) | (simp [*]; done)), H', ⟨by have := HK1.out; have := HK2.out; have := HK3.out; omega⟩, ⟨re_ HO_6.out⟩, ⟨be_ BK769.out⟩, ⟨be_ BK770.out⟩, ⟨by repeat (first | (with_reducible first | exact HB.out | apply below_alloc | apply pw_below_drewN | apply below_drew1 | refine below_set ?_ GE769.out | refine below_set ?_ GE770.out) | exact HB.out)⟩⟩
             · replace c28 := Bool.eq_false_iff.mpr c28
               subst c28
               have H1 : (spec_ArfClosure.l5 k2 t775 x6_2 (([] : List Int)) 1) = some (r1, r2) := by rw [if_neg (show ¬ (false = true) by decide)] at H; exact H
               clear H
               have H := H1
               clear H1
               obtain ⟨y786, hy786⟩ : ∃ y_ : List Int, y_ = (([] : List Int)) := ⟨_, rfl⟩
               replace H : (spec_ArfClosure.l5 k2 t775 x6_2 y786 1) = some (r1, r2) := by first | (rw [hy786]; with_reducible exact H) | (have H2_ := (Option.bind_some _ _).symm.trans H; rw [hy786]; with_reducible exact H2_) | (have H2_ := (Option.bind_some _ _).symm.trans H; with_reducible exact H2_) | with_reducible exact H | (rw [hy786]; exact H) | exact H
               have Ny786 := Aside0.mk hy786
               clear hy786
               have H' := Aside0.mk H
               clear H
               go_wp2_with (first | ((with_reducible refine gate_dst (N := 92) rfl ?_); refine Kd.R_lit (Kd.int .i64) _ 3 ?hg (N := 92) ?hd (xs := ([] : List Int)) (inner := []) (ok := fun _ => True) (okp := fun _ => True) ?hr ?hp (fun _ hk => hk) trivial (Below.refl _ _) (Nat.le_refl _) (by simp) ?_; (case hd => rfl); (case hg => rfl); (case hr => first | (go_simp; done) | (go_simp; rfl)); (case hp => exact (Reps.none _ _)); intro v787 w59 ho60 hb hg_ hnew_; clear hg_ hnew_; (first | rw [← Ny786.out] at ho60 | (simp only [Int.reduceToNat] at ho60; rw [← Ny786.out] at ho60)); have n0_ := Aside0.mk (Kd.R_below (re_ HO_6.out) hb); have n1_ := Aside0.mk (Kd.R_lower ho60 (below_size (by repeat (first | (with_reducible first | exact HB.out | apply below_alloc | apply pw_below_drewN | apply below_drew1 | refine below_set ?_ GE769.out | refine below_set ?_ GE770.out) | exact HB.out)))); have n2_ := Aside0.mk (blk_below (g := gb769) (o := .cells #[.slice A0_0 l0_0.length c0_0] 27 (0, 0)) (be_ BK769.out) hb); have n3_ := Aside0.mk (blk_below (g := gb770) (o := .cells #[.slice none 0 0] 27 (0, 0)) (be_ BK770.out) hb); have n4_ := Aside0.mk (below_step (by repeat (first | (with_reducible first | exact HB.out | apply below_alloc | apply pw_below_drewN | apply below_drew1 | refine below_set ?_ GE769.out | refine below_set ?_ GE770.out) | exact HB.out)) hb); clear HO_6; clear BK769; clear BK770; clear HB; have HO_6 := n0_; have HO788 := n1_; have BK769 := n2_; have BK770 := n3_; have HB := n4_; clear n0_ n1_ n2_ n3_ n4_; clear hb ho60))
               go_loopg [13, 14] k2 (fun kq v13 v14 w' => ∃ (x13_3 : List Int) (x14_3 : Int), v14 = .int .i64 x14_3 ∧ Aside0 (spec_ArfClosure.l5 kq t775 x6_2 x13_3 x14_3 = some (r1, r2)) ∧ Aside0 (kq ≤ k2) ∧ Aside0 (Kd.R Kd.bool 4 w' w.heap.size (fun _ => True) v777 x6_2) ∧ Aside0 (Kd.R (Kd.int .i64) 3 w' w.heap.size (fun _ => True) v13 x13_3) ∧ Aside0 (w'.heap[gb769]? = some (.cells #[(.slice A0_0 l0_0.length c0_0)] 27 (0, 0))) ∧ Aside0 (w'.heap[gb770]? = some (.cells #[(.slice none 0 0)] 27 (0, 0))) ∧ Aside0 (Below w.heap.size w w'))
               case atStart => exact ⟨(y786), (1), (by first | rfl | (simp; done) | (simp [*]; done)), H', ⟨Nat.le_refl _⟩, ⟨re_ HO_6.out⟩, ⟨re_ HO788.out⟩, ⟨be_ BK769.out⟩, ⟨be_ BK770.out⟩, ⟨by repeat (first | (with_reducible first | exact HB.out | apply below_alloc | apply pw_below_drewN | apply below_drew1 | refine below_set ?_ GE769.out | refine below_set ?_ GE770.out) | exact HB.out)⟩⟩
               case round =>
                clear H'
                try clear c1
                try clear c2
                try clear p2
                try clear q2
                try clear hx2
                try clear hf2
                try clear c3
                try clear c4
                try clear q4
                try clear c5
                try clear p5
                try clear q5
                try clear hx5
                try clear hf5
                try clear p6
                try clear c7
                try clear c7b0
                try clear c7b1
                try clear p7
                try clear q7
                try clear hx7
                try clear c8
                try clear c8b0
                try clear c8b1
                try clear c11
                try clear c20
                try clear c20b0
                try clear c22
                try clear c22b0
                try clear c23
                try clear c23b0
                try clear p24
                try clear q24
                try clear hx24
                try clear hf24
                try clear c28
                try clear c29
                try clear c29b0
                try clear c31
                try clear c31b0
                try clear c32
                try clear c32b0
                try clear c33
                try clear c33b0
                try clear c35
                try clear c37
                try clear c37b0
                try clear c38
                try clear c38b0
                try clear c39
                try clear c39b0
                try clear c41
                try clear c42
                try clear c42b0
                try clear c43
                try clear c43b0
                try clear q44
                try clear c45
                try clear c46
                try clear c46b0
                try clear c48
                try clear c48b0
                try clear c49
                try clear c49b0
                try clear q50
                try clear c51
                try clear p53
                try clear q53
                try clear hx53
                try clear hf53
                try clear hcz12_0
                try clear hcz14_0
                try clear hcz16_0
                try clear hfz12_0
                try clear hfz14_0
                try clear hfz16_0
                try clear hx24_0
                try clear hx53_0
                try clear hx781_0
                try clear hx782_0
                try clear hx783_0
                try clear hx784_0
                try clear p2
                try clear p24
                try clear p53
                try clear p6
                try clear p7
                try clear p781
                try clear p782
                try clear p783
                try clear p784
                try clear q2
                try clear q24
                try clear q53
                try clear q7
                try clear q781
                try clear q782
                try clear q783
                try clear q784
                obtain ⟨x13_3, x14_3, rfl, HA, HK3, HO_6, HO_13, BK769, BK770, HB⟩ := hrel
                cases gk with
                | zero => exact absurd HA.out (by simp [spec_ArfClosure.l5])
                | succ k3 =>
                 have H := HA.out
                 clear HA
                 simp only [spec_ArfClosure.l5] at H
                 by_cases c61 : x14_3 < t775
                 · rw [if_pos c61] at H
                   have c61b0 : decide (x14_3 < t775) = true := decide_eq_true c61
                   clear c61
                   by_cases c62 : 0 ≤ x14_3
                   · rw [if_pos c62] at H
                     have c62b0 : decide (0 ≤ x14_3) = true := decide_eq_true c62
                     clear c62
                     by_cases c63 : x14_3 < (x6_2.length : Int)
                     · rw [if_pos c63] at H
                       have c63b0 : decide (x14_3 < (x6_2.length : Int)) = true := decide_eq_true c63
                       clear c63
                       obtain ⟨bq64, hbq64⟩ : ∃ b_ : Bool, b_ = (rdOf false x6_2 x14_3) := ⟨_, rfl⟩
                       replace H : (if bq64 = true then (spec_ArfClosure.l5 k3 t775 x6_2 x13_3 (wrap64 (x14_3 + 1))) else (if x13_3.length < 17592186044416 then (spec_ArfClosure.l5 k3 t775 x6_2 (x13_3 ++ [x14_3]) (wrap64 (x14_3 + 1))) else (none))) = some (r1, r2) := by rw [← hbq64] at H; exact H
                       have Nbq64 := Aside0.mk hbq64
                       clear hbq64
                       by_cases c65 : bq64 = true
                       · subst c65
                         have H1 : (spec_ArfClosure.l5 k3 t775 x6_2 x13_3 (wrap64 (x14_3 + 1))) = some (r1, r2) := by rw [if_pos rfl] at H; exact H
                         clear H
                         have H := H1
                         clear H1
                         have H' := Aside0.mk H
                         clear H
                         obtain ⟨Ao66, co66, eo66⟩ := Kd.R_slice HO_6.out
                         subst eo66
                         have p789 : 0 ≤ (x14_3 : Int) := of_decide_eq_true (by first | (with_reducible assumption) | assumption)
                         have q789 : x14_3 < (x6_2.length : Int) := of_decide_eq_true (by first | (with_reducible assumption) | assumption)
                         obtain ⟨ad789, e789, hx789_0⟩ := Kd.at_bool (Kd.R_reads' HO_6.out).2.2 x14_3 p789 q789
                         (try rw [← Nbq64.out] at hx789_0)
                         cases e789
                         replace p789 := eq_true p789
                         replace q789 := eq_true q789
                         go_wp2
                         go_roundg k3
                         case measure => have := HK1.out; have := HK2.out; have := HK3.out; omega
                         case rel => exact ⟨(x13_3), (wrap64 (x14_3 + 1)), (by first | rfl | (simp; done) | (simp [*]; done)), H', ⟨by have := HK1.out; have := HK2.out; have := HK3.out; omega⟩, ⟨re_ HO_6.out⟩, ⟨re_ HO_13.out⟩, ⟨be_ BK769.out⟩, ⟨be_ BK770.out⟩, ⟨by repeat (first | (with_reducible first | exact HB.out | apply below_alloc | apply pw_below_drewN | apply below_drew1 | refine below_set ?_ GE769.out | refine below_set ?_ GE770.out) | exact HB.out)⟩⟩
                       · replace c65 := Bool.eq_false_iff.mpr c65
                         subst c65
                         have H1 : (if x13_3.length < 17592186044416 then (spec_ArfClosure.l5 k3 t775 x6_2 (x13_3 ++ [x14_3]) (wrap64 (x14_3 + 1))) else (none)) = some (r1, r2) := by rw [if_neg (show ¬ (false = true) by decide)] at H; exact H
                         clear H
                         have H := H1
                         clear H1
                         by_cases c67 : x13_3.length < 17592186044416
                         · rw [if_pos c67] at H
                           have LMc67 := Aside0.mk c67
                           clear c67
                           obtain ⟨y790, hy790⟩ : ∃ y_ : List Int, y_ = (x13_3 ++ [x14_3]) := ⟨_, rfl⟩
                           replace H : (spec_ArfClosure.l5 k3 t775 x6_2 y790 (wrap64 (x14_3 + 1))) = some (r1, r2) := by first | (rw [hy790]; with_reducible exact H) | (have H2_ := (Option.bind_some _ _).symm.trans H; rw [hy790]; with_reducible exact H2_) | (have H2_ := (Option.bind_some _ _).symm.trans H; with_reducible exact H2_) | with_reducible exact H | (rw [hy790]; exact H) | exact H
                           have Ny790 := Aside0.mk hy790
                           clear hy790
                           have H' := Aside0.mk H
                           clear H
                           obtain ⟨Ao68, co68, eo68⟩ := Kd.R_slice HO_6.out
                           subst eo68
                           have p789 : 0 ≤ (x14_3 : Int) := of_decide_eq_true (by first | (with_reducible assumption) | assumption)
                           have q789 : x14_3 < (x6_2.length : Int) := of_decide_eq_true (by first | (with_reducible assumption) | assumption)
                           obtain ⟨ad789, e789, hx789_0⟩ := Kd.at_bool (Kd.R_reads' HO_6.out).2.2 x14_3 p789 q789
                           (try rw [← Nbq64.out] at hx789_0)
                           cases e789
                           replace p789 := eq_true p789
                           replace q789 := eq_true q789
                           go_wp2_with (first | ((with_reducible refine gate_builtin (b := .append) (xs := #[.tmp 103, .tmp 105]) rfl ?_); at_builtin; refine Kd.R_append (Kd.int .i64) (w0 := w) w.heap.size rfl (.tmp 103) (.tmp 105) 22 3 (.int .i64 0) 8 rfl Try.underlying22 info3 rfl (by decide) (by omega) u13 x13_3 x14_3 [.int .i64 x14_3] (fun _ => True) (fun _ => False) rfl rfl ?aP (fun _ hk => hk.elim) ?aF ?aO ?aB ?aS ?aL ?_; (case aP => exact rfl); (case aB => exact (by repeat (first | (with_reducible first | exact HB.out | apply below_alloc | apply pw_below_drewN | apply below_drew1 | refine below_set ?_ GE769.out | refine below_set ?_ GE770.out) | exact HB.out))); (case aF => exact (fun _ _ => trivial)); (case aO => exact (re_ HO_13.out)); (case aS => exact (below_size (by repeat (first | (with_reducible first | exact HB.out | apply below_alloc | apply pw_below_drewN | apply below_drew1 | refine below_set ?_ GE769.out | refine below_set ?_ GE770.out) | exact HB.out)))); (case aL => have := LMc67.out; omega); intro v791 w69 ho hb hg hat; rw [← Ny790.out] at ho; have n0_ := Aside0.mk (Kd.R_over' (re_ HO_6.out) (Kd.R_typed (re_ HO_13.out)) (by decide) hg); have n1_ := Aside0.mk (blk_grown (g := gb769) (o := .cells #[.slice A0_0 l0_0.length c0_0] 27 (0, 0)) (be_ BK769.out) hg (Kd.R_ne HO_13.out BK769.out (by decide))); have n2_ := Aside0.mk (blk_grown (g := gb770) (o := .cells #[.slice none 0 0] 27 (0, 0)) (be_ BK770.out) hg (Kd.R_ne HO_13.out BK770.out (by decide))); have n3_ := Aside0.mk (hb); have n4_ := Aside0.mk (ho); clear HO_6; clear BK769; clear BK770; clear HB; clear HO_13; have HO_6 := n0_; have BK769 := n1_; have BK770 := n2_; have HB := n3_; have HO792 := n4_; clear n0_ n1_ n2_ n3_ n4_; clear ho hb hg hat))
                           go_roundg k3
                           case measure => have := HK1.out; have := HK2.out; have := HK3.out; omega
                           case rel => exact ⟨(y790), (wrap64 (x14_3 + 1)), (by first | rfl | (simp; done) | (simp [*]; done)), H', ⟨by have := HK1.out; have := HK2.out; have := HK3.out; omega⟩, ⟨re_ HO_6.out⟩, ⟨re_ HO792.out⟩, ⟨be_ BK769.out⟩, ⟨be_ BK770.out⟩, ⟨by repeat (first | (with_reducible first | exact HB.out | apply below_alloc | apply pw_below_drewN | apply below_drew1 | refine below_set ?_ GE769.out | refine below_set ?_ GE770.out) | exact HB.out)⟩⟩
                         · rw [if_neg c67] at H
                           exact absurd H (by simp)
                     · rw [if_neg c63] at H
                       exact absurd H (by simp)
                   · rw [if_neg c62] at H
                     exact absurd H (by simp)
                 · rw [if_neg c61] at H
                   have c61b0 : decide (x14_3 < t775) = false := decide_eq_false c61
                   clear c61
                   replace H := Option.bind_eq_some_iff.mp H
                   obtain ⟨⟨t793, t796⟩, A700, H⟩ := H
                   replace H : (some (t793, t796)) = some (r1, r2) := H
                   have A70 := Aside0.mk A700
                   clear A700
                   simp only [Option.some.injEq, Prod.mk.injEq] at H
                   obtain ⟨rfl, rfl⟩ := H
                   obtain ⟨Ao71, co71, eo71⟩ := Kd.R_slice HO_13.out
                   subst eo71
                   go_wp2_with (first | ((with_reducible refine gate_callee (f := 87) rfl ?_); refine goesL_ (some 109) rfl rfl Try.func87 (by kernel_rfl) rfl #[.slice Ao71 x13_3.length co71] rfl (by (try simp only [List.map_toArray, List.map_cons, List.map_nil]); first | done | rfl | (simp only [List.length_drop, List.length_take]; rfl)) ?_; (with_reducible refine (spec_FromGaps.calls k3 _ _ x13_3 t793 t796 _ ?side1 ?side2 A70.out).mono ?_); (case side1 => exact ce_ ((Kd.R_reads' HO_13.out).2.2)); (case side2 => exact (Kd.R_reads' HO_13.out).2.1); rintro e w72 ⟨v794, rfl, ho0, hb⟩; refine ⟨_, rfl, ?_⟩; have n0_ := Aside0.mk (Kd.R_below (re_ HO_6.out) hb); have n1_ := Aside0.mk (Kd.R_elder' (re_ HO_13.out) (Kd.R_base ho0) hb); have n2_ := Aside0.mk (Kd.R_lower (Kd.R_new' ho0 (Kd.R_lt (re_ HO_13.out))) (below_size (by repeat (first | (with_reducible first | exact HB.out | apply below_alloc | apply pw_below_drewN | apply below_drew1 | refine below_set ?_ GE769.out | refine below_set ?_ GE770.out) | exact HB.out)))); have n3_ := Aside0.mk (blk_below (g := gb769) (o := .cells #[.slice A0_0 l0_0.length c0_0] 27 (0, 0)) (be_ BK769.out) hb); have n4_ := Aside0.mk (blk_below (g := gb770) (o := .cells #[.slice none 0 0] 27 (0, 0)) (be_ BK770.out) hb); have n5_ := Aside0.mk (below_step (by repeat (first | (with_reducible first | exact HB.out | apply below_alloc | apply pw_below_drewN | apply below_drew1 | refine below_set ?_ GE769.out | refine below_set ?_ GE770.out) | exact HB.out)) hb); clear HO_6; clear HO_13; clear BK769; clear BK770; clear HB; have HO_6 := n0_; have HO_13 := n1_; have HO795 := n2_; have BK769 := n3_; have BK770 := n4_; have HB := n5_; clear n0_ n1_ n2_ n3_ n4_ n5_; (try clear hb); (try clear hb2); (try clear hk); (try clear hi); (try clear ho0)) | ((with_reducible refine gate_dst (N := 15) rfl ?_); refine box_event ?hg (N := 15) ?hd (cs := #[.slice none 0 0]) (t := 27) ?hr ?_; (case hd => rfl); (case hg => rfl); (case hr => first | (go_simp; done) | (go_simp; rfl)); intro gb797 hg w73 hbox hb; have n0_ := Aside0.mk (Kd.R_below (re_ HO_6.out) hb); have n1_ := Aside0.mk (Kd.R_below (re_ HO_13.out) hb); have n2_ := Aside0.mk (Kd.R_below (re_ HO795.out) hb); have n3_ := Aside0.mk (blk_below (g := gb769) (o := .cells #[.slice A0_0 l0_0.length c0_0] 27 (0, 0)) (be_ BK769.out) hb); have n4_ := Aside0.mk (blk_below (g := gb770) (o := .cells #[.slice none 0 0] 27 (0, 0)) (be_ BK770.out) hb); have n5_ := Aside0.mk (below_step (by repeat (first | (with_reducible first | exact HB.out | apply below_alloc | apply pw_below_drewN | apply below_drew1 | refine below_set ?_ GE769.out | refine below_set ?_ GE770.out) | exact HB.out)) hb); have n6_ := Aside0.mk (hbox); have n7_ := Aside0.mk ((by rw [hg]; exact (below_size (by repeat (first | (with_reducible first | exact HB.out | apply below_alloc | apply pw_below_drewN | apply below_drew1 | refine below_set ?_ GE769.out | refine below_set ?_ GE770.out) | exact HB.out))) : w.heap.size ≤ gb797)); have n8_ := Aside0.mk ((by rw [hg]; exact (below_size (by repeat (first | (with_reducible first | exact HB.out | apply below_alloc | apply pw_below_drewN | apply below_drew1 | refine below_set ?_ GE769.out | refine below_set ?_ GE770.out) | exact HB.out))) : w.heap.size ≤ gb797)); have n9_ := Aside0.mk ((by rw [hg]; exact Nat.ne_of_lt (blk_lt (g := gb769) (o := .cells #[.slice A0_0 l0_0.length c0_0] 27 (0, 0)) (be_ BK769.out)) : gb769 ≠ gb797)); have n10_ := Aside0.mk ((by rw [hg]; exact Nat.ne_of_gt (blk_lt (g := gb769) (o := .cells #[.slice A0_0 l0_0.length c0_0] 27 (0, 0)) (be_ BK769.out)) : gb797 ≠ gb769)); have n11_ := Aside0.mk ((by rw [hg]; exact Nat.ne_of_lt (blk_lt (g := gb770) (o := .cells #[.slice none 0 0] 27 (0, 0)) (be_ BK770.out)) : gb770 ≠ gb797)); have n12_ := Aside0.mk ((by rw [hg]; exact Nat.ne_of_gt (blk_lt (g := gb770) (o := .cells #[.slice none 0 0] 27 (0, 0)) (be_ BK770.out)) : gb797 ≠ gb770)); clear HO_6; clear HO_13; clear HO795; clear BK769; clear BK770; clear HB; have HO_6 := n0_; have HO_13 := n1_; have HO795 := n2_; have BK769 := n3_; have BK770 := n4_; have HB := n5_; have BK797 := n6_; have GW797 := n7_; have GE797 := n8_; have NB769_797 := n9_; have NB797_769 := n10_; have NB770_797 := n11_; have NB797_770 := n12_; clear n0_ n1_ n2_ n3_ n4_ n5_ n6_ n7_ n8_ n9_ n10_ n11_ n12_; clear hb hbox hg; obtain ⟨Ao74, co74, eo74⟩ := Kd.R_slice HO795.out; subst eo74; have hnb75 := NB797_769.out; have hnc75 := NB769_797.out; have hnb76 := NB797_770.out; have hnc76 := NB770_797.out; have hcz77_0 : w73.cell? ⟨gb797, 0, none⟩ = some (.slice none 0 0) := (blk_cell BK797.out 0).trans rfl; have hfz77_0 := blk_frozen BK797.out 0; have hnb78 := NB770_769.out; have hnc78 := NB769_770.out; have hcz79_0 : w73.cell? ⟨gb770, 0, none⟩ = some (.slice none 0 0) := (blk_cell BK770.out 0).trans rfl; have hfz79_0 := blk_frozen BK770.out 0))
                   refine bodyPost_ret (results_ct rfl _ _ gb770 27 #[.slice Ao74 t793.length co74] (0, 0) _ rfl (by (with_reducible repeat (first | refine blk_drewN ?_ _ | refine blk_drew ?_ | refine blk_alloc ?_ _)); refine blk_put (cs := #[.slice none 0 0]) ?_ 0 _ rfl; (with_reducible repeat (first | refine blk_drewN ?_ _ | refine blk_drew ?_ | refine blk_alloc ?_ _)); refine blk_far ?_ NB770_797.out _; (with_reducible repeat (first | refine blk_drewN ?_ _ | refine blk_drew ?_ | refine blk_alloc ?_ _)); exact BK770.out) Try.underlying27 rfl (by kernel_rfl)) rfl ?_
                   exact ⟨_, by first | rfl | (simp [errW_none, errW_some] <;> rfl) | (simp only [← hji6]; first | rfl | (simp [errW_none, errW_some] <;> rfl)) | (simp [*, errW_none, errW_some] <;> rfl), by (with_reducible repeat (first | apply Kd.R_alloc | apply Kd.R_drewN | apply Kd.R_drew)); exact Kd.R_mono (Kd.R_far (p := ⟨gb770, 0, none⟩) (Kd.R_far (p := ⟨gb797, 0, none⟩) (Kd.R_types (Kd.R_types HO795.out BK797.out (by decide)) BK770.out (by decide)) (fun _ hk => hk.1.2) (.slice Ao74 t793.length co74)) (fun _ hk => hk.2) (.slice Ao74 t793.length co74)) (fun _ hk => trivial), by repeat (first | (with_reducible first | exact HB.out | apply below_alloc | apply pw_below_drewN | apply below_drew1 | refine below_set ?_ GE769.out | refine below_set ?_ GE770.out | refine below_set ?_ GE797.out) | exact HB.out)⟩
     · rw [if_neg c8] at H
       exact absurd H (by simp)
   · rw [if_neg c7] at H
     exact absurd H (by simp)
 · replace c3 := Bool.eq_false_iff.mpr c3
   subst c3
   have H1 : (some (([] : List Int), false)) = some (r1, r2) := by rw [if_neg (show ¬ (false = true) by decide)] at H; exact H
   clear H
   have H := H1
   clear H1
   simp only [Option.some.injEq, Prod.mk.injEq] at H
   obtain ⟨rfl, rfl⟩ := H
   go_enter Try.func45, Try.ntmps45
   go_wp2_with (first | ((with_reducible refine gate_dst (N := 1) rfl ?_); refine box_event ?hg (N := 1) ?hd (cs := #[.slice A0_0 l0_0.length c0_0]) (t := 27) ?hr ?_; (case hd => rfl); (case hg => rfl); (case hr => first | (go_simp; done) | (go_simp; rfl)); intro gb769 hg w80 hbox hb; have n0_ := Aside0.mk (below_step (bl_ HB.out) hb); have n1_ := Aside0.mk (hbox); have n2_ := Aside0.mk ((by rw [hg]; exact (below_size (bl_ HB.out)) : w.heap.size ≤ gb769)); have n3_ := Aside0.mk ((by rw [hg]; exact (below_size (bl_ HB.out)) : w.heap.size ≤ gb769)); clear HB; have HB := n0_; have BK769 := n1_; have GW769 := n2_; have GE769 := n3_; clear n0_ n1_ n2_ n3_; clear hb hbox hg) | ((with_reducible refine gate_dst (N := 2) rfl ?_); refine box_event ?hg (N := 2) ?hd (cs := #[.slice none 0 0]) (t := 27) ?hr ?_; (case hd => rfl); (case hg => rfl); (case hr => first | (go_simp; done) | (go_simp; rfl)); intro gb770 hg w81 hbox hb; have n0_ := Aside0.mk (blk_below (g := gb769) (o := .cells #[.slice A0_0 l0_0.length c0_0] 27 (0, 0)) (be_ BK769.out) hb); have n1_ := Aside0.mk (below_step (by repeat (first | (with_reducible first | exact HB.out | apply below_alloc | apply pw_below_drewN | apply below_drew1 | refine below_set ?_ GE769.out) | exact HB.out)) hb); have n2_ := Aside0.mk (hbox); have n3_ := Aside0.mk ((by rw [hg]; exact (below_size (by repeat (first | (with_reducible first | exact HB.out | apply below_alloc | apply pw_below_drewN | apply below_drew1 | refine below_set ?_ GE769.out) | exact HB.out))) : w.heap.size ≤ gb770)); have n4_ := Aside0.mk ((by rw [hg]; exact (below_size (by repeat (first | (with_reducible first | exact HB.out | apply below_alloc | apply pw_below_drewN | apply below_drew1 | refine below_set ?_ GE769.out) | exact HB.out))) : w.heap.size ≤ gb770)); have n5_ := Aside0.mk ((by rw [hg]; exact Nat.ne_of_lt (blk_lt (g := gb769) (o := .cells #[.slice A0_0 l0_0.length c0_0] 27 (0, 0)) (be_ BK769.out)) : gb769 ≠ gb770)); have n6_ := Aside0.mk ((by rw [hg]; exact Nat.ne_of_gt (blk_lt (g := gb769) (o := .cells #[.slice A0_0 l0_0.length c0_0] 27 (0, 0)) (be_ BK769.out)) : gb770 ≠ gb769)); clear BK769; clear HB; have BK769 := n0_; have HB := n1_; have BK770 := n2_; have GW770 := n3_; have GE770 := n4_; have NB769_770 := n5_; have NB770_769 := n6_; clear n0_ n1_ n2_ n3_ n4_ n5_ n6_; clear hb hbox hg; have hnb82 := NB769_770.out; have hnc82 := NB770_769.out; have hcz83_0 : w81.cell? ⟨gb769, 0, none⟩ = some (.slice A0_0 l0_0.length c0_0) := (blk_cell BK769.out 0).trans rfl; have hfz83_0 := blk_frozen BK769.out 0) | ((with_reducible refine gate_callee (f := 42) rfl ?_); refine goesL_ (some 18) rfl rfl Try.func42 (by kernel_rfl) rfl #[.agg #[.slice A0_0 l0_0.length c0_0]] rfl (by (try simp only [List.map_toArray, List.map_cons, List.map_nil]); first | done | rfl | (simp only [List.length_drop, List.length_take]; rfl)) ?_; (with_reducible refine (spec_IsSemigroup.calls k _ _ l0_0 false _ ?side1 ?side2 A2.out).mono ?_); (case side1 => exact ce_ ((Kd.C_below HR0_0.out HB.out))); (case side2 => exact HC0_0.out); rintro e w84 ⟨rfl, hb⟩; refine ⟨_, rfl, ?_⟩; have n0_ := Aside0.mk (blk_below (g := gb769) (o := .cells #[.slice A0_0 l0_0.length c0_0] 27 (0, 0)) (be_ BK769.out) hb); have n1_ := Aside0.mk (blk_below (g := gb770) (o := .cells #[.slice none 0 0] 27 (0, 0)) (be_ BK770.out) hb); have n2_ := Aside0.mk (below_step (by repeat (first | (with_reducible first | exact HB.out | apply below_alloc | apply pw_below_drewN | apply below_drew1 | refine below_set ?_ GE769.out | refine below_set ?_ GE770.out) | exact HB.out)) hb); clear BK769; clear BK770; clear HB; have BK769 := n0_; have BK770 := n1_; have HB := n2_; clear n0_ n1_ n2_; (try clear hb); (try clear hb2); (try clear hk); (try clear hi); have hcz85_0 : w84.cell? ⟨gb770, 0, none⟩ = some (.slice none 0 0) := (blk_cell BK770.out 0).trans rfl; have hfz85_0 := blk_frozen BK770.out 0))
   refine bodyPost_ret (results_ct rfl _ _ gb770 27 #[.slice none 0 0] (0, 0) _ rfl (by (with_reducible repeat (first | refine blk_drewN ?_ _ | refine blk_drew ?_ | refine blk_alloc ?_ _)); refine blk_put (cs := #[.slice none 0 0]) ?_ 0 _ rfl; (with_reducible repeat (first | refine blk_drewN ?_ _ | refine blk_drew ?_ | refine blk_alloc ?_ _)); exact BK770.out) Try.underlying27 rfl (by kernel_rfl)) rfl ?_
   exact ⟨_, by first | rfl | (simp [errW_none, errW_some] <;> rfl) | (simp [*, errW_none, errW_some] <;> rfl), by first | exact Kd.R_nil _ _ _ _ _ | exact Kd.N_nil _ _ _ _ _ | exact Kd.V_nil _ _ _ _ _ | exact Kd.Q_nil _ _ _ _ _ | exact Kd.S_nil _ _ _ _ _, by repeat (first | (with_reducible first | exact HB.out | apply below_alloc | apply pw_below_drewN | apply below_drew1 | refine below_set ?_ GE769.out | refine below_set ?_ GE770.out) | exact HB.out)⟩
end Go.Proofs.Ytapdhljbhekcdaa.PB
end
