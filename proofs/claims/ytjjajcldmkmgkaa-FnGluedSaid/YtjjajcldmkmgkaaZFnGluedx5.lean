-- Bundled by shake.py from this session's printed and written texts; Lean checks it.
import Derived.Test.YtjjajcldmkmgkaaZFnGluedx1
import Derived.Test.YtjjajcldmkmgkaaZFnGluedx4
section
namespace Go.Proofs.Ytjjajcldmkmgkaa.PA
open Go.RowKit Go.Proofs.YtjjajcldmkmgkaaW.PrintWords Go.Proofs.YtjjajcldmkmgkaaW.PrintLast Go.Proofs.YtjjajcldmkmgkaaW.PrintMore
attribute [local go_sem] max2_int min2_int max_two min_two max_three min_three max_four min_four
set_option linter.unusedVariables false
set_option linter.unusedSimpArgs false
set_option maxHeartbeats 8000000
set_option maxRecDepth 100000
def spec_l3List.f (s0_0 : List Int) (s0_1 : Int) (s0_2 : Int) : Option (List Int × Int × Int) := (spec_l1Below.f s0_0 s0_1 s0_2 8).bind fun bt312 => (if bt312.1 = 0 then (some ((([1] : List Int)), bt312.2.1, bt312.2.2)) else (if bt312.1 = 1 then (some ((([3, 5] : List Int)), bt312.2.1, bt312.2.2)) else (if bt312.1 = 2 then (some ((([4, 6, 9] : List Int)), bt312.2.1, bt312.2.2)) else (if bt312.1 = 3 then (some ((([3, 4, 5] : List Int)), bt312.2.1, bt312.2.2)) else (if bt312.1 = 4 then (some ((([6, 9, 20] : List Int)), bt312.2.1, bt312.2.2)) else (if bt312.1 = 5 then (some ((([5, 7, 9, 11] : List Int)), bt312.2.1, bt312.2.2)) else (if bt312.1 = 6 then (some ((([2, 3] : List Int)), bt312.2.1, bt312.2.2)) else (some ((([4, 5, 11] : List Int)), bt312.2.1, bt312.2.2)))))))))
theorem spec_l3List.calls (g : Nat) (s0_0 : List Int) (s0_1 : Int) (s0_2 : Int) (r1 : List Int) (r2 : Int) (r3 : Int) (w0 w : World) (hI : IsS64 w0 w g s0_0 s0_1 s0_2) (hB : Below w0.heap.size w0 w) (h : spec_l3List.f s0_0 s0_1 s0_2 = some (r1, r2, r3)) :
 Calls Try.prog 76 #[.pointer (some ⟨g, 0, none⟩)] w fun e w' => ∃ v0_ : Value, e = .returned (v0_) ∧ Kd.R (Kd.int .i64) 3 w' w.heap.size (fun _ => True) v0_ r1 ∧ IsS64 w0 w' g s0_0 r2 r3 ∧ Below w0.heap.size w0 w' ∧ KeepBut w w' g none := by
 have HI0 := Aside0.mk hI
 have HK := Aside0.mk (KeepBut.refl w g none)
 have HL := Aside0.mk hB.size
 clear hI
 have HW0 := Aside0.mk hB.size
 have HB := Aside0.mk hB
 clear hB
 have H := h
 clear h
 unfold spec_l3List.f at H
 obtain ⟨⟨t312, t313, t314⟩, A2, H⟩ := ob_ H
 (try dsimp only at H)
 by_cases c3 : t312 = 0
 · rw [if_pos c3] at H
   have c3b0 : (t312 == 0) = true := beq_iff_eq.mpr c3
   have c3b1 : (t312 != 0) = false := bne_eq_false_iff_eq.mpr c3
   clear c3
   obtain ⟨y315, hy315⟩ : ∃ y_ : List Int, y_ = (([1] : List Int)) := ⟨_, rfl⟩
   replace H : (some (y315, t313, t314)) = some (r1, r2, r3) := by subst hy315; exact H
   have Ny315 := Aside0.mk hy315
   clear hy315
   simp only [Option.some.injEq, Prod.mk.injEq] at H
   obtain ⟨rfl, rfl, rfl⟩ := H
   go_enter Try.func76, Try.ntmps76
   go_wp2_with (first | ((with_reducible refine gate_callee (f := 49) rfl ?_); refine gL_ (some 4) Try.func49 #[.pointer (some ⟨g, 0, none⟩), .int .i64 8] ?_; (with_reducible refine (spec_l1Below.calls g s0_0 s0_1 s0_2 8 t312 t313 t314 w0 _ ?side1 ?side2 A2.out).mono ?_); (case side1 => exact IsS64.q_ HI0); (case side2 => exact bi_ HB (IsS64.ge HI0.out)); rintro e w4 ⟨rfl, hi, hb, hk⟩; refine ⟨_, rfl, ?_⟩; replace HK := Aside0.mk (KeepBut.trans (kq_ HK) hk (.inl rfl)); replace HB := Aside0.mk (hb); replace HI0 := Aside0.mk (hi); (try clear hb); (try clear hk); (try clear hi)) | ((with_reducible refine gate_dst (N := 7) rfl ?_); refine Kd.R_lit (Kd.int .i64) _ 3 ?hg (N := 7) ?hd (xs := ([1] : List Int)) (inner := [.int .i64 1]) (ok := fun _ => True) (okp := fun _ => True) ?hr ?hp (fun _ hk => hk) trivial (Below.refl _ _) (Nat.le_refl _) (by simp) ?_; (case hd => rfl); (case hg => rfl); (case hr => first | (go_simp; done) | (go_simp; rfl)); (case hp => exact (Reps.one (show Kd.M (Kd.int .i64) _ _ _ 1 [.int .i64 1] from rfl) (Reps.none _ _))); intro v316 w5 ho6 hb hg_ hnew_; clear hg_ hnew_; (first | rw [← Ny315.out] at ho6 | (simp only [Int.reduceToNat] at ho6; rw [← Ny315.out] at ho6)); have HO317 := Aside0.mk (Kd.R_lower ho6 (keep_size (w := w) (g := g) (row := none) (kq_ HK))); replace HK := Aside0.mk (KeepBut.trans (kq_ HK) (KeepBut.of_below hb g none) (.inl rfl)); replace HB := Aside0.mk (below_step (bi_ HB (IsS64.ge HI0.out)) hb); replace HI0 := Aside0.mk (IsS64.below (IsS64.q_ HI0) hb); clear hb ho6))
   go_ret
   exact ⟨_, rf_, re_ HO317.out, IsS64.q_ HI0, bi_ HB (IsS64.ge HI0.out), kq_ HK⟩
 rw [if_neg c3] at H
 have c3b0 : (t312 == 0) = false := beq_eq_false_iff_ne.mpr c3
 have c3b1 : (t312 != 0) = true := bne_iff_ne.mpr c3
 by_cases c7 : t312 = 1
 · rw [if_pos c7] at H
   have c7b0 : (t312 == 1) = true := beq_iff_eq.mpr c7
   have c7b1 : (t312 != 1) = false := bne_eq_false_iff_eq.mpr c7
   clear c7
   obtain ⟨y318, hy318⟩ : ∃ y_ : List Int, y_ = (([3, 5] : List Int)) := ⟨_, rfl⟩
   replace H : (some (y318, t313, t314)) = some (r1, r2, r3) := by subst hy318; exact H
   have Ny318 := Aside0.mk hy318
   clear hy318
   simp only [Option.some.injEq, Prod.mk.injEq] at H
   obtain ⟨rfl, rfl, rfl⟩ := H
   go_enter Try.func76, Try.ntmps76
   go_wp2_with (first | ((with_reducible refine gate_callee (f := 49) rfl ?_); refine gL_ (some 4) Try.func49 #[.pointer (some ⟨g, 0, none⟩), .int .i64 8] ?_; (with_reducible refine (spec_l1Below.calls g s0_0 s0_1 s0_2 8 t312 t313 t314 w0 _ ?side1 ?side2 A2.out).mono ?_); (case side1 => exact IsS64.q_ HI0); (case side2 => exact bi_ HB (IsS64.ge HI0.out)); rintro e w8 ⟨rfl, hi, hb, hk⟩; refine ⟨_, rfl, ?_⟩; replace HK := Aside0.mk (KeepBut.trans (kq_ HK) hk (.inl rfl)); replace HB := Aside0.mk (hb); replace HI0 := Aside0.mk (hi); (try clear hb); (try clear hk); (try clear hi)) | ((with_reducible refine gate_dst (N := 10) rfl ?_); refine Kd.R_lit (Kd.int .i64) _ 3 ?hg (N := 10) ?hd (xs := ([3, 5] : List Int)) (inner := [.int .i64 3, .int .i64 5]) (ok := fun _ => True) (okp := fun _ => True) ?hr ?hp (fun _ hk => hk) trivial (Below.refl _ _) (Nat.le_refl _) (by simp) ?_; (case hd => rfl); (case hg => rfl); (case hr => first | (go_simp; done) | (go_simp; rfl)); (case hp => exact (Reps.one (show Kd.M (Kd.int .i64) _ _ _ 3 [.int .i64 3] from rfl) (Reps.one (show Kd.M (Kd.int .i64) _ _ _ 5 [.int .i64 5] from rfl) (Reps.none _ _)))); intro v319 w9 ho10 hb hg_ hnew_; clear hg_ hnew_; (first | rw [← Ny318.out] at ho10 | (simp only [Int.reduceToNat] at ho10; rw [← Ny318.out] at ho10)); have HO320 := Aside0.mk (Kd.R_lower ho10 (keep_size (w := w) (g := g) (row := none) (kq_ HK))); replace HK := Aside0.mk (KeepBut.trans (kq_ HK) (KeepBut.of_below hb g none) (.inl rfl)); replace HB := Aside0.mk (below_step (bi_ HB (IsS64.ge HI0.out)) hb); replace HI0 := Aside0.mk (IsS64.below (IsS64.q_ HI0) hb); clear hb ho10))
   go_ret
   exact ⟨_, rf_, re_ HO320.out, IsS64.q_ HI0, bi_ HB (IsS64.ge HI0.out), kq_ HK⟩
 rw [if_neg c7] at H
 have c7b0 : (t312 == 1) = false := beq_eq_false_iff_ne.mpr c7
 have c7b1 : (t312 != 1) = true := bne_iff_ne.mpr c7
 by_cases c11 : t312 = 2
 · rw [if_pos c11] at H
   have c11b0 : (t312 == 2) = true := beq_iff_eq.mpr c11
   have c11b1 : (t312 != 2) = false := bne_eq_false_iff_eq.mpr c11
   clear c11
   obtain ⟨y321, hy321⟩ : ∃ y_ : List Int, y_ = (([4, 6, 9] : List Int)) := ⟨_, rfl⟩
   replace H : (some (y321, t313, t314)) = some (r1, r2, r3) := by subst hy321; exact H
   have Ny321 := Aside0.mk hy321
   clear hy321
   simp only [Option.some.injEq, Prod.mk.injEq] at H
   obtain ⟨rfl, rfl, rfl⟩ := H
   go_enter Try.func76, Try.ntmps76
   go_wp2_with (first | ((with_reducible refine gate_callee (f := 49) rfl ?_); refine gL_ (some 4) Try.func49 #[.pointer (some ⟨g, 0, none⟩), .int .i64 8] ?_; (with_reducible refine (spec_l1Below.calls g s0_0 s0_1 s0_2 8 t312 t313 t314 w0 _ ?side1 ?side2 A2.out).mono ?_); (case side1 => exact IsS64.q_ HI0); (case side2 => exact bi_ HB (IsS64.ge HI0.out)); rintro e w12 ⟨rfl, hi, hb, hk⟩; refine ⟨_, rfl, ?_⟩; replace HK := Aside0.mk (KeepBut.trans (kq_ HK) hk (.inl rfl)); replace HB := Aside0.mk (hb); replace HI0 := Aside0.mk (hi); (try clear hb); (try clear hk); (try clear hi)) | ((with_reducible refine gate_dst (N := 13) rfl ?_); refine Kd.R_lit (Kd.int .i64) _ 3 ?hg (N := 13) ?hd (xs := ([4, 6, 9] : List Int)) (inner := [.int .i64 4, .int .i64 6, .int .i64 9]) (ok := fun _ => True) (okp := fun _ => True) ?hr ?hp (fun _ hk => hk) trivial (Below.refl _ _) (Nat.le_refl _) (by simp) ?_; (case hd => rfl); (case hg => rfl); (case hr => first | (go_simp; done) | (go_simp; rfl)); (case hp => exact (Reps.one (show Kd.M (Kd.int .i64) _ _ _ 4 [.int .i64 4] from rfl) (Reps.one (show Kd.M (Kd.int .i64) _ _ _ 6 [.int .i64 6] from rfl) (Reps.one (show Kd.M (Kd.int .i64) _ _ _ 9 [.int .i64 9] from rfl) (Reps.none _ _))))); intro v322 w13 ho14 hb hg_ hnew_; clear hg_ hnew_; (first | rw [← Ny321.out] at ho14 | (simp only [Int.reduceToNat] at ho14; rw [← Ny321.out] at ho14)); have HO323 := Aside0.mk (Kd.R_lower ho14 (keep_size (w := w) (g := g) (row := none) (kq_ HK))); replace HK := Aside0.mk (KeepBut.trans (kq_ HK) (KeepBut.of_below hb g none) (.inl rfl)); replace HB := Aside0.mk (below_step (bi_ HB (IsS64.ge HI0.out)) hb); replace HI0 := Aside0.mk (IsS64.below (IsS64.q_ HI0) hb); clear hb ho14))
   go_ret
   exact ⟨_, rf_, re_ HO323.out, IsS64.q_ HI0, bi_ HB (IsS64.ge HI0.out), kq_ HK⟩
 rw [if_neg c11] at H
 have c11b0 : (t312 == 2) = false := beq_eq_false_iff_ne.mpr c11
 have c11b1 : (t312 != 2) = true := bne_iff_ne.mpr c11
 by_cases c15 : t312 = 3
 · rw [if_pos c15] at H
   have c15b0 : (t312 == 3) = true := beq_iff_eq.mpr c15
   have c15b1 : (t312 != 3) = false := bne_eq_false_iff_eq.mpr c15
   clear c15
   obtain ⟨y324, hy324⟩ : ∃ y_ : List Int, y_ = (([3, 4, 5] : List Int)) := ⟨_, rfl⟩
   replace H : (some (y324, t313, t314)) = some (r1, r2, r3) := by subst hy324; exact H
   have Ny324 := Aside0.mk hy324
   clear hy324
   simp only [Option.some.injEq, Prod.mk.injEq] at H
   obtain ⟨rfl, rfl, rfl⟩ := H
   go_enter Try.func76, Try.ntmps76
   go_wp2_with (first | ((with_reducible refine gate_callee (f := 49) rfl ?_); refine gL_ (some 4) Try.func49 #[.pointer (some ⟨g, 0, none⟩), .int .i64 8] ?_; (with_reducible refine (spec_l1Below.calls g s0_0 s0_1 s0_2 8 t312 t313 t314 w0 _ ?side1 ?side2 A2.out).mono ?_); (case side1 => exact IsS64.q_ HI0); (case side2 => exact bi_ HB (IsS64.ge HI0.out)); rintro e w16 ⟨rfl, hi, hb, hk⟩; refine ⟨_, rfl, ?_⟩; replace HK := Aside0.mk (KeepBut.trans (kq_ HK) hk (.inl rfl)); replace HB := Aside0.mk (hb); replace HI0 := Aside0.mk (hi); (try clear hb); (try clear hk); (try clear hi)) | ((with_reducible refine gate_dst (N := 16) rfl ?_); refine Kd.R_lit (Kd.int .i64) _ 3 ?hg (N := 16) ?hd (xs := ([3, 4, 5] : List Int)) (inner := [.int .i64 3, .int .i64 4, .int .i64 5]) (ok := fun _ => True) (okp := fun _ => True) ?hr ?hp (fun _ hk => hk) trivial (Below.refl _ _) (Nat.le_refl _) (by simp) ?_; (case hd => rfl); (case hg => rfl); (case hr => first | (go_simp; done) | (go_simp; rfl)); (case hp => exact (Reps.one (show Kd.M (Kd.int .i64) _ _ _ 3 [.int .i64 3] from rfl) (Reps.one (show Kd.M (Kd.int .i64) _ _ _ 4 [.int .i64 4] from rfl) (Reps.one (show Kd.M (Kd.int .i64) _ _ _ 5 [.int .i64 5] from rfl) (Reps.none _ _))))); intro v325 w17 ho18 hb hg_ hnew_; clear hg_ hnew_; (first | rw [← Ny324.out] at ho18 | (simp only [Int.reduceToNat] at ho18; rw [← Ny324.out] at ho18)); have HO326 := Aside0.mk (Kd.R_lower ho18 (keep_size (w := w) (g := g) (row := none) (kq_ HK))); replace HK := Aside0.mk (KeepBut.trans (kq_ HK) (KeepBut.of_below hb g none) (.inl rfl)); replace HB := Aside0.mk (below_step (bi_ HB (IsS64.ge HI0.out)) hb); replace HI0 := Aside0.mk (IsS64.below (IsS64.q_ HI0) hb); clear hb ho18))
   go_ret
   exact ⟨_, rf_, re_ HO326.out, IsS64.q_ HI0, bi_ HB (IsS64.ge HI0.out), kq_ HK⟩
 rw [if_neg c15] at H
 have c15b0 : (t312 == 3) = false := beq_eq_false_iff_ne.mpr c15
 have c15b1 : (t312 != 3) = true := bne_iff_ne.mpr c15
 by_cases c19 : t312 = 4
 · rw [if_pos c19] at H
   have c19b0 : (t312 == 4) = true := beq_iff_eq.mpr c19
   have c19b1 : (t312 != 4) = false := bne_eq_false_iff_eq.mpr c19
   clear c19
   obtain ⟨y327, hy327⟩ : ∃ y_ : List Int, y_ = (([6, 9, 20] : List Int)) := ⟨_, rfl⟩
   replace H : (some (y327, t313, t314)) = some (r1, r2, r3) := by subst hy327; exact H
   have Ny327 := Aside0.mk hy327
   clear hy327
   simp only [Option.some.injEq, Prod.mk.injEq] at H
   obtain ⟨rfl, rfl, rfl⟩ := H
   go_enter Try.func76, Try.ntmps76
   go_wp2_with (first | ((with_reducible refine gate_callee (f := 49) rfl ?_); refine gL_ (some 4) Try.func49 #[.pointer (some ⟨g, 0, none⟩), .int .i64 8] ?_; (with_reducible refine (spec_l1Below.calls g s0_0 s0_1 s0_2 8 t312 t313 t314 w0 _ ?side1 ?side2 A2.out).mono ?_); (case side1 => exact IsS64.q_ HI0); (case side2 => exact bi_ HB (IsS64.ge HI0.out)); rintro e w20 ⟨rfl, hi, hb, hk⟩; refine ⟨_, rfl, ?_⟩; replace HK := Aside0.mk (KeepBut.trans (kq_ HK) hk (.inl rfl)); replace HB := Aside0.mk (hb); replace HI0 := Aside0.mk (hi); (try clear hb); (try clear hk); (try clear hi)) | ((with_reducible refine gate_dst (N := 19) rfl ?_); refine Kd.R_lit (Kd.int .i64) _ 3 ?hg (N := 19) ?hd (xs := ([6, 9, 20] : List Int)) (inner := [.int .i64 6, .int .i64 9, .int .i64 20]) (ok := fun _ => True) (okp := fun _ => True) ?hr ?hp (fun _ hk => hk) trivial (Below.refl _ _) (Nat.le_refl _) (by simp) ?_; (case hd => rfl); (case hg => rfl); (case hr => first | (go_simp; done) | (go_simp; rfl)); (case hp => exact (Reps.one (show Kd.M (Kd.int .i64) _ _ _ 6 [.int .i64 6] from rfl) (Reps.one (show Kd.M (Kd.int .i64) _ _ _ 9 [.int .i64 9] from rfl) (Reps.one (show Kd.M (Kd.int .i64) _ _ _ 20 [.int .i64 20] from rfl) (Reps.none _ _))))); intro v328 w21 ho22 hb hg_ hnew_; clear hg_ hnew_; (first | rw [← Ny327.out] at ho22 | (simp only [Int.reduceToNat] at ho22; rw [← Ny327.out] at ho22)); have HO329 := Aside0.mk (Kd.R_lower ho22 (keep_size (w := w) (g := g) (row := none) (kq_ HK))); replace HK := Aside0.mk (KeepBut.trans (kq_ HK) (KeepBut.of_below hb g none) (.inl rfl)); replace HB := Aside0.mk (below_step (bi_ HB (IsS64.ge HI0.out)) hb); replace HI0 := Aside0.mk (IsS64.below (IsS64.q_ HI0) hb); clear hb ho22))
   go_ret
   exact ⟨_, rf_, re_ HO329.out, IsS64.q_ HI0, bi_ HB (IsS64.ge HI0.out), kq_ HK⟩
 rw [if_neg c19] at H
 have c19b0 : (t312 == 4) = false := beq_eq_false_iff_ne.mpr c19
 have c19b1 : (t312 != 4) = true := bne_iff_ne.mpr c19
 by_cases c23 : t312 = 5
 · rw [if_pos c23] at H
   have c23b0 : (t312 == 5) = true := beq_iff_eq.mpr c23
   have c23b1 : (t312 != 5) = false := bne_eq_false_iff_eq.mpr c23
   clear c23
   obtain ⟨y330, hy330⟩ : ∃ y_ : List Int, y_ = (([5, 7, 9, 11] : List Int)) := ⟨_, rfl⟩
   replace H : (some (y330, t313, t314)) = some (r1, r2, r3) := by subst hy330; exact H
   have Ny330 := Aside0.mk hy330
   clear hy330
   simp only [Option.some.injEq, Prod.mk.injEq] at H
   obtain ⟨rfl, rfl, rfl⟩ := H
   go_enter Try.func76, Try.ntmps76
   go_wp2_with (first | ((with_reducible refine gate_callee (f := 49) rfl ?_); refine gL_ (some 4) Try.func49 #[.pointer (some ⟨g, 0, none⟩), .int .i64 8] ?_; (with_reducible refine (spec_l1Below.calls g s0_0 s0_1 s0_2 8 t312 t313 t314 w0 _ ?side1 ?side2 A2.out).mono ?_); (case side1 => exact IsS64.q_ HI0); (case side2 => exact bi_ HB (IsS64.ge HI0.out)); rintro e w24 ⟨rfl, hi, hb, hk⟩; refine ⟨_, rfl, ?_⟩; replace HK := Aside0.mk (KeepBut.trans (kq_ HK) hk (.inl rfl)); replace HB := Aside0.mk (hb); replace HI0 := Aside0.mk (hi); (try clear hb); (try clear hk); (try clear hi)) | ((with_reducible refine gate_dst (N := 22) rfl ?_); refine Kd.R_lit (Kd.int .i64) _ 3 ?hg (N := 22) ?hd (xs := ([5, 7, 9, 11] : List Int)) (inner := [.int .i64 5, .int .i64 7, .int .i64 9, .int .i64 11]) (ok := fun _ => True) (okp := fun _ => True) ?hr ?hp (fun _ hk => hk) trivial (Below.refl _ _) (Nat.le_refl _) (by simp) ?_; (case hd => rfl); (case hg => rfl); (case hr => first | (go_simp; done) | (go_simp; rfl)); (case hp => exact (Reps.one (show Kd.M (Kd.int .i64) _ _ _ 5 [.int .i64 5] from rfl) (Reps.one (show Kd.M (Kd.int .i64) _ _ _ 7 [.int .i64 7] from rfl) (Reps.one (show Kd.M (Kd.int .i64) _ _ _ 9 [.int .i64 9] from rfl) (Reps.one (show Kd.M (Kd.int .i64) _ _ _ 11 [.int .i64 11] from rfl) (Reps.none _ _)))))); intro v331 w25 ho26 hb hg_ hnew_; clear hg_ hnew_; (first | rw [← Ny330.out] at ho26 | (simp only [Int.reduceToNat] at ho26; rw [← Ny330.out] at ho26)); have HO332 := Aside0.mk (Kd.R_lower ho26 (keep_size (w := w) (g := g) (row := none) (kq_ HK))); replace HK := Aside0.mk (KeepBut.trans (kq_ HK) (KeepBut.of_below hb g none) (.inl rfl)); replace HB := Aside0.mk (below_step (bi_ HB (IsS64.ge HI0.out)) hb); replace HI0 := Aside0.mk (IsS64.below (IsS64.q_ HI0) hb); clear hb ho26))
   go_ret
   exact ⟨_, rf_, re_ HO332.out, IsS64.q_ HI0, bi_ HB (IsS64.ge HI0.out), kq_ HK⟩
 rw [if_neg c23] at H
 have c23b0 : (t312 == 5) = false := beq_eq_false_iff_ne.mpr c23
 have c23b1 : (t312 != 5) = true := bne_iff_ne.mpr c23
 by_cases c27 : t312 = 6
 rotate_left
 · rw [if_neg c27] at H
   have c27b0 : (t312 == 6) = false := beq_eq_false_iff_ne.mpr c27
   have c27b1 : (t312 != 6) = true := bne_iff_ne.mpr c27
   obtain ⟨y336, hy336⟩ : ∃ y_ : List Int, y_ = (([4, 5, 11] : List Int)) := ⟨_, rfl⟩
   replace H : (some (y336, t313, t314)) = some (r1, r2, r3) := by subst hy336; exact H
   have Ny336 := Aside0.mk hy336
   clear hy336
   simp only [Option.some.injEq, Prod.mk.injEq] at H
   obtain ⟨rfl, rfl, rfl⟩ := H
   go_enter Try.func76, Try.ntmps76
   go_wp2_with (first | ((with_reducible refine gate_callee (f := 49) rfl ?_); refine gL_ (some 4) Try.func49 #[.pointer (some ⟨g, 0, none⟩), .int .i64 8] ?_; (with_reducible refine (spec_l1Below.calls g s0_0 s0_1 s0_2 8 t312 t313 t314 w0 _ ?side1 ?side2 A2.out).mono ?_); (case side1 => exact IsS64.q_ HI0); (case side2 => exact bi_ HB (IsS64.ge HI0.out)); rintro e w31 ⟨rfl, hi, hb, hk⟩; refine ⟨_, rfl, ?_⟩; replace HK := Aside0.mk (KeepBut.trans (kq_ HK) hk (.inl rfl)); replace HB := Aside0.mk (hb); replace HI0 := Aside0.mk (hi); (try clear hb); (try clear hk); (try clear hi)) | ((with_reducible refine gate_dst (N := 26) rfl ?_); refine Kd.R_lit (Kd.int .i64) _ 3 ?hg (N := 26) ?hd (xs := ([4, 5, 11] : List Int)) (inner := [.int .i64 4, .int .i64 5, .int .i64 11]) (ok := fun _ => True) (okp := fun _ => True) ?hr ?hp (fun _ hk => hk) trivial (Below.refl _ _) (Nat.le_refl _) (by simp) ?_; (case hd => rfl); (case hg => rfl); (case hr => first | (go_simp; done) | (go_simp; rfl)); (case hp => exact (Reps.one (show Kd.M (Kd.int .i64) _ _ _ 4 [.int .i64 4] from rfl) (Reps.one (show Kd.M (Kd.int .i64) _ _ _ 5 [.int .i64 5] from rfl) (Reps.one (show Kd.M (Kd.int .i64) _ _ _ 11 [.int .i64 11] from rfl) (Reps.none _ _))))); intro v337 w32 ho33 hb hg_ hnew_; clear hg_ hnew_; (first | rw [← Ny336.out] at ho33 | (simp only [Int.reduceToNat] at ho33; rw [← Ny336.out] at ho33)); have HO338 := Aside0.mk (Kd.R_lower ho33 (keep_size (w := w) (g := g) (row := none) (kq_ HK))); replace HK := Aside0.mk (KeepBut.trans (kq_ HK) (KeepBut.of_below hb g none) (.inl rfl)); replace HB := Aside0.mk (below_step (bi_ HB (IsS64.ge HI0.out)) hb); replace HI0 := Aside0.mk (IsS64.below (IsS64.q_ HI0) hb); clear hb ho33))
   go_ret
   exact ⟨_, rf_, re_ HO338.out, IsS64.q_ HI0, bi_ HB (IsS64.ge HI0.out), kq_ HK⟩
 rw [if_pos c27] at H
 have c27b0 : (t312 == 6) = true := beq_iff_eq.mpr c27
 have c27b1 : (t312 != 6) = false := bne_eq_false_iff_eq.mpr c27
 clear c27
 obtain ⟨y333, hy333⟩ : ∃ y_ : List Int, y_ = (([2, 3] : List Int)) := ⟨_, rfl⟩
 replace H : (some (y333, t313, t314)) = some (r1, r2, r3) := by subst hy333; exact H
 have Ny333 := Aside0.mk hy333
 clear hy333
 simp only [Option.some.injEq, Prod.mk.injEq] at H
 obtain ⟨rfl, rfl, rfl⟩ := H
 go_enter Try.func76, Try.ntmps76
 go_wp2_with (first | ((with_reducible refine gate_callee (f := 49) rfl ?_); refine gL_ (some 4) Try.func49 #[.pointer (some ⟨g, 0, none⟩), .int .i64 8] ?_; (with_reducible refine (spec_l1Below.calls g s0_0 s0_1 s0_2 8 t312 t313 t314 w0 _ ?side1 ?side2 A2.out).mono ?_); (case side1 => exact IsS64.q_ HI0); (case side2 => exact bi_ HB (IsS64.ge HI0.out)); rintro e w28 ⟨rfl, hi, hb, hk⟩; refine ⟨_, rfl, ?_⟩; replace HK := Aside0.mk (KeepBut.trans (kq_ HK) hk (.inl rfl)); replace HB := Aside0.mk (hb); replace HI0 := Aside0.mk (hi); (try clear hb); (try clear hk); (try clear hi)) | ((with_reducible refine gate_dst (N := 25) rfl ?_); refine Kd.R_lit (Kd.int .i64) _ 3 ?hg (N := 25) ?hd (xs := ([2, 3] : List Int)) (inner := [.int .i64 2, .int .i64 3]) (ok := fun _ => True) (okp := fun _ => True) ?hr ?hp (fun _ hk => hk) trivial (Below.refl _ _) (Nat.le_refl _) (by simp) ?_; (case hd => rfl); (case hg => rfl); (case hr => first | (go_simp; done) | (go_simp; rfl)); (case hp => exact (Reps.one (show Kd.M (Kd.int .i64) _ _ _ 2 [.int .i64 2] from rfl) (Reps.one (show Kd.M (Kd.int .i64) _ _ _ 3 [.int .i64 3] from rfl) (Reps.none _ _)))); intro v334 w29 ho30 hb hg_ hnew_; clear hg_ hnew_; (first | rw [← Ny333.out] at ho30 | (simp only [Int.reduceToNat] at ho30; rw [← Ny333.out] at ho30)); have HO335 := Aside0.mk (Kd.R_lower ho30 (keep_size (w := w) (g := g) (row := none) (kq_ HK))); replace HK := Aside0.mk (KeepBut.trans (kq_ HK) (KeepBut.of_below hb g none) (.inl rfl)); replace HB := Aside0.mk (below_step (bi_ HB (IsS64.ge HI0.out)) hb); replace HI0 := Aside0.mk (IsS64.below (IsS64.q_ HI0) hb); clear hb ho30))
 go_ret
 exact ⟨_, rf_, re_ HO335.out, IsS64.q_ HI0, bi_ HB (IsS64.ge HI0.out), kq_ HK⟩
mutual
def spec_l3Draw.l0 : Nat → Int → List Int → Int → Int → Option (List Int × Int × Int)
 | 0, _, _, _, _ => none
 | k + 1, x5, x1000, x1001, x1002 => if x5 < 4 then ((spec_l1Below.f x1000 x1001 x1002 8).bind fun bt363 => ((spec_l1Below.f x1000 bt363.2.1 bt363.2.2 4).bind fun bt369 => (spec_l3Draw.l1 k x5 (([wrap64 (2 + bt363.1)] : List Int)) (wrap64 (1 + bt369.1)) 0 x1000 bt369.2.1 bt369.2.2))) else ((spec_l3List.f x1000 x1001 x1002).bind fun bt353 => ((spec_FromGens.f k bt353.1).bind fun bt358 => (some (bt358.1, bt353.2.1, bt353.2.2))))
def spec_l3Draw.l1 : Nat → Int → List Int → Int → Int → List Int → Int → Int → Option (List Int × Int × Int)
 | 0, _, _, _, _, _, _, _ => none
 | k + 1, x5, x6, x7, x8, x1000, x1001, x1002 => if x8 < x7 then (if 0 < (x6.length : Int) then ((spec_l1Below.f x1000 x1001 x1002 12).bind fun bt373 => (if x6.length < 17592186044416 then (spec_l3Draw.l1 k x5 (x6 ++ [wrap64 ((wrap64 ((rd x6 0) + 1)) + bt373.1)]) x7 (wrap64 (x8 + 1)) x1000 bt373.2.1 bt373.2.2) else (none))) else (none)) else ((spec_FromGens.f k x6).bind fun bt379 => (if bt379.2 = true then (some (bt379.1, x1001, x1002)) else (spec_l3Draw.l0 k (wrap64 (x5 + 1)) x1000 x1001 x1002)))
end
def spec_l3Draw.f (k : Nat) (s0_0 : List Int) (s0_1 : Int) (s0_2 : Int) : Option (List Int × Int × Int) := (spec_l1Once.f s0_0 s0_1 s0_2 4).bind fun bt340 => (if bt340.1 = true then ((spec_l3List.f s0_0 bt340.2.1 bt340.2.2).bind fun bt343 => ((spec_FromGens.f k bt343.1).bind fun bt348 => (some (bt348.1, bt343.2.1, bt343.2.2)))) else (spec_l3Draw.l0 k 0 s0_0 bt340.2.1 bt340.2.2))
def spec_l3Draw.T12 : Bool × List (List Nat × List Nat) := (true, [([], []), ([], []), ([1], [1]), ([2], [2]), ([3], [3]), ([], []), ([5], [5]), ([4, 6], [4, 6]), ([7], [7]), ([0, 8, 6], [0, 8]), ([9, 9, 0, 1, 2, 3, 4, 5, 6, 7, 8, 9], [0, 1, 9])])
def spec_l3Draw.B12 : List Nat := [0, 0, 2, 6, 14, 0, 32, 126, 254, 511, 1023]
theorem spec_l3Draw.tab12 : rtab .any (opsOf Try.f63 12) = spec_l3Draw.T12 := by kernel_rfl
theorem spec_l3Draw.bits12 : waitsOk spec_l3Draw.T12.2 spec_l3Draw.B12 = true := by kernel_rfl
theorem spec_l3Draw.calls (k : Nat) (g : Nat) (s0_0 : List Int) (s0_1 : Int) (s0_2 : Int) (r1 : List Int) (r2 : Int) (r3 : Int) (w0 w : World) (hI : IsS64 w0 w g s0_0 s0_1 s0_2) (hB : Below w0.heap.size w0 w) (h : spec_l3Draw.f k s0_0 s0_1 s0_2 = some (r1, r2, r3)) :
 Calls Try.prog 63 #[.pointer (some ⟨g, 0, none⟩)] w fun e w' => ∃ v0_ : Value, e = .returned (.agg #[v0_]) ∧ Kd.R (Kd.int .i64) 3 w' w.heap.size (fun _ => True) v0_ r1 ∧ IsS64 w0 w' g s0_0 r2 r3 ∧ Below w0.heap.size w0 w' ∧ KeepBut w w' g none := by
 have hu26 := Try.underlying26
 have HI0 := Aside0.mk hI
 have HK := Aside0.mk (KeepBut.refl w g none)
 have HL := Aside0.mk hB.size
 clear hI
 have HW0 := Aside0.mk hB.size
 have HB := Aside0.mk hB
 clear hB
 have H := h
 clear h
 unfold spec_l3Draw.f at H
 obtain ⟨⟨t340, t341, t342⟩, A2, H⟩ := ob_ H
 (try dsimp only at H)
 by_cases c3 : t340 = true
 · subst c3
   rw [if_pos rfl] at H
   obtain ⟨⟨t343, t346, t347⟩, A4, H⟩ := ob_ H
   (try dsimp only at H)
   obtain ⟨⟨t348, t351⟩, A5, H⟩ := ob_ H
   (try dsimp only at H)
   simp only [Option.some.injEq, Prod.mk.injEq] at H
   obtain ⟨rfl, rfl, rfl⟩ := H
   go_enter Try.func63, Try.ntmps63
   go_wp2_with (first | ((with_reducible refine gate_dst (N := 2) rfl ?_); refine bx_ 2 #[.slice none 0 0] 26 ?_; intro gb339 hg w6 hbox hb; replace HB := Aside0.mk (below_step (bi_ HB (IsS64.ge HI0.out)) hb); have BK339 := Aside0.mk (hbox); have GW339 := Aside0.mk ((by rw [hg]; exact (keep_size (w := w) (g := g) (row := none) (kq_ HK)) : w.heap.size ≤ gb339)); have GE339 := Aside0.mk ((Nat.le_trans HW0.out (by rw [hg]; exact (keep_size (w := w) (g := g) (row := none) (kq_ HK)) : w.heap.size ≤ gb339) : w0.heap.size ≤ gb339)); replace HK := Aside0.mk (KeepBut.trans (kq_ HK) (KeepBut.of_below hb g none) (.inl rfl)); have NB0_339 := Aside0.mk ((by rw [hg]; exact Nat.ne_of_lt (IsS64.lt (show IsS64 w0 _ g s0_0 s0_1 s0_2 from IsS64.q_ HI0)) : g ≠ gb339)); have NB339_0 := Aside0.mk ((by rw [hg]; exact Nat.ne_of_gt (IsS64.lt (show IsS64 w0 _ g s0_0 s0_1 s0_2 from IsS64.q_ HI0)) : gb339 ≠ g)); replace HI0 := Aside0.mk (IsS64.below (IsS64.q_ HI0) hb); clear hb hbox hg) | ((with_reducible refine gate_callee (f := 50) rfl ?_); refine gL_ (some 14) Try.func50 #[.pointer (some ⟨g, 0, none⟩), .int .i64 4] ?_; (with_reducible refine (spec_l1Once.calls g s0_0 s0_1 s0_2 4 true t341 t342 w0 _ ?side1 ?side2 A2.out).mono ?_); (case side1 => exact IsS64.q_ HI0); (case side2 => exact bi_ HB (IsS64.ge HI0.out)); rintro e w7 ⟨rfl, hi, hb, hk⟩; refine ⟨_, rfl, ?_⟩; replace BK339 := Aside0.mk (KeepBut.blk hk (g' := gb339) (o := .cells #[.slice none 0 0] 26 (0, 0)) (be_ BK339.out) NB339_0.out (by simp)); replace HK := Aside0.mk (KeepBut.trans (kq_ HK) hk (.inl rfl)); replace HB := Aside0.mk (hb); replace HI0 := Aside0.mk (hi); (try clear hb); (try clear hk); (try clear hi)) | ((with_reducible refine gate_callee (f := 76) rfl ?_); refine gL_ (some 17) Try.func76 #[.pointer (some ⟨g, 0, none⟩)] ?_; (with_reducible refine (spec_l3List.calls g s0_0 t341 t342 t343 t346 t347 w0 _ ?side1 ?side2 A4.out).mono ?_); (case side1 => exact IsS64.q_ HI0); (case side2 => exact bi_ HB (IsS64.ge HI0.out)); rintro e w8 ⟨v344, rfl, ho0, hi, hb, hk⟩; refine ⟨_, rfl, ?_⟩; replace BK339 := Aside0.mk (KeepBut.blk hk (g' := gb339) (o := .cells #[.slice none 0 0] 26 (0, 0)) (be_ BK339.out) NB339_0.out (by simp)); have HO345 := Aside0.mk (Kd.R_lower ho0 (keep_size (w := w) (g := g) (row := none) (kq_ HK))); replace HK := Aside0.mk (KeepBut.trans (kq_ HK) hk (.inl rfl)); replace HB := Aside0.mk (hb); replace HI0 := Aside0.mk (hi); (try clear hb); (try clear hk); (try clear hi); (try clear ho0); obtain ⟨Ao9, co9, eo9⟩ := Kd.R_slice HO345.out; subst eo9) | ((with_reducible refine gate_callee (f := 18) rfl ?_); refine gL_ (some 18) Try.func18 #[.slice Ao9 t343.length co9] ?_; (with_reducible refine (spec_FromGens.calls k _ _ t343 t348 t351 _ ?side1 ?side2 A5.out).mono ?_); (case side1 => exact ce_ ((Kd.R_reads' HO345.out).2.2)); (case side2 => exact (Kd.R_reads' HO345.out).2.1); rintro e w10 ⟨v349, rfl, ho0, hb⟩; refine ⟨_, rfl, ?_⟩; have HO350 := Aside0.mk (Kd.R_lower (Kd.R_new' ho0 (Kd.R_lt (re_ HO345.out))) (keep_size (w := w) (g := g) (row := none) (kq_ HK))); replace HO345 := Aside0.mk (Kd.R_elder' (re_ HO345.out) (Kd.R_base ho0) hb); replace BK339 := bk_ BK339 hb; replace HK := Aside0.mk (KeepBut.trans (kq_ HK) (KeepBut.of_below hb g none) (.inl rfl)); replace HB := Aside0.mk (below_step (bi_ HB (IsS64.ge HI0.out)) hb); replace HI0 := Aside0.mk (IsS64.below (IsS64.q_ HI0) hb); (try clear hb); (try clear ho0)) | ((with_reducible refine gate_dst (N := 3) rfl ?_); refine bx_ 3 #[.slice none 0 0] 26 ?_; intro gb352 hg w11 hbox hb; replace HO345 := Aside0.mk (Kd.R_below (re_ HO345.out) hb); replace HO350 := Aside0.mk (Kd.R_below (re_ HO350.out) hb); replace HB := Aside0.mk (below_step (bi_ HB (IsS64.ge HI0.out)) hb); have BK352 := Aside0.mk (hbox); have GW352 := Aside0.mk ((by rw [hg]; exact (keep_size (w := w) (g := g) (row := none) (kq_ HK)) : w.heap.size ≤ gb352)); have GE352 := Aside0.mk ((Nat.le_trans HW0.out (by rw [hg]; exact (keep_size (w := w) (g := g) (row := none) (kq_ HK)) : w.heap.size ≤ gb352) : w0.heap.size ≤ gb352)); replace HK := Aside0.mk (KeepBut.trans (kq_ HK) (KeepBut.of_below hb g none) (.inl rfl)); have NB339_352 := nl_ hg BK339; have NB352_339 := ng_ hg BK339; replace BK339 := bk_ BK339 hb; have NB0_352 := Aside0.mk ((by rw [hg]; exact Nat.ne_of_lt (IsS64.lt (show IsS64 w0 _ g s0_0 t346 t347 from IsS64.q_ HI0)) : g ≠ gb352)); have NB352_0 := Aside0.mk ((by rw [hg]; exact Nat.ne_of_gt (IsS64.lt (show IsS64 w0 _ g s0_0 t346 t347 from IsS64.q_ HI0)) : gb352 ≠ g)); replace HI0 := Aside0.mk (IsS64.below (IsS64.q_ HI0) hb); clear hb hbox hg; obtain ⟨Ao12, co12, eo12⟩ := Kd.R_slice HO350.out; subst eo12; have hnb13 := NB352_339.out; have hnc13 := NB339_352.out; have hnb14 := NB352_0.out; have hnc14 := NB0_352.out; have hcz15_0 := cz_ BK352; have hfz15_0 := blk_frozen BK352.out 0; have hnb16 := NB339_0.out; have hnc16 := NB0_339.out; have hcz17_0 := cz_ BK339; have hfz17_0 := blk_frozen BK339.out 0))
   refine bodyPost_ret (results_cell_row rfl _ _ gb339 26 #[.slice Ao12 t348.length co12] (0, 0) _ rfl (by (with_reducible repeat (first | refine blk_drewN ?_ _ | refine blk_drew ?_ | refine blk_alloc ?_ _)); refine blk_put (cs := #[.slice none 0 0]) ?_ 0 _ rfl; (with_reducible repeat (first | refine blk_drewN ?_ _ | refine blk_drew ?_ | refine blk_alloc ?_ _)); refine blk_far ?_ NB339_352.out _; (with_reducible repeat (first | refine blk_drewN ?_ _ | refine blk_drew ?_ | refine blk_alloc ?_ _)); exact BK339.out) Try.underlying26 rfl (by kernel_rfl)) rfl ?_
   exact ⟨_, rf_, by (with_reducible repeat (first | apply Kd.R_alloc | apply Kd.R_drewN | apply Kd.R_drew)); exact Kd.R_mono (Kd.R_far (p := ⟨gb339, 0, none⟩) (Kd.R_far (p := ⟨gb352, 0, none⟩) (Kd.R_types (Kd.R_types HO350.out BK352.out (by decide)) BK339.out (by decide)) (fun _ hk => hk.1.2) (.slice Ao12 t348.length co12)) (fun _ hk => hk.2) (.slice Ao12 t348.length co12)) (fun _ hk => trivial), IsS64.q_ HI0, bi_ HB (IsS64.ge HI0.out), kq_ HK⟩
 replace c3 := Bool.eq_false_iff.mpr c3
 subst c3
 rw [if_neg (show ¬ (false = true) by decide)] at H
 have H' := Aside0.mk H
 clear H
 go_enter Try.func63, Try.ntmps63
 go_wp2_with (first | ((with_reducible refine gate_dst (N := 2) rfl ?_); refine bx_ 2 #[.slice none 0 0] 26 ?_; intro gb339 hg w18 hbox hb; replace HB := Aside0.mk (below_step (bi_ HB (IsS64.ge HI0.out)) hb); have BK339 := Aside0.mk (hbox); have GW339 := Aside0.mk ((by rw [hg]; exact (keep_size (w := w) (g := g) (row := none) (kq_ HK)) : w.heap.size ≤ gb339)); have GE339 := Aside0.mk ((Nat.le_trans HW0.out (by rw [hg]; exact (keep_size (w := w) (g := g) (row := none) (kq_ HK)) : w.heap.size ≤ gb339) : w0.heap.size ≤ gb339)); replace HK := Aside0.mk (KeepBut.trans (kq_ HK) (KeepBut.of_below hb g none) (.inl rfl)); have NB0_339 := Aside0.mk ((by rw [hg]; exact Nat.ne_of_lt (IsS64.lt (show IsS64 w0 _ g s0_0 s0_1 s0_2 from IsS64.q_ HI0)) : g ≠ gb339)); have NB339_0 := Aside0.mk ((by rw [hg]; exact Nat.ne_of_gt (IsS64.lt (show IsS64 w0 _ g s0_0 s0_1 s0_2 from IsS64.q_ HI0)) : gb339 ≠ g)); replace HI0 := Aside0.mk (IsS64.below (IsS64.q_ HI0) hb); clear hb hbox hg) | ((with_reducible refine gate_callee (f := 50) rfl ?_); refine gL_ (some 14) Try.func50 #[.pointer (some ⟨g, 0, none⟩), .int .i64 4] ?_; (with_reducible refine (spec_l1Once.calls g s0_0 s0_1 s0_2 4 false t341 t342 w0 _ ?side1 ?side2 A2.out).mono ?_); (case side1 => exact IsS64.q_ HI0); (case side2 => exact bi_ HB (IsS64.ge HI0.out)); rintro e w19 ⟨rfl, hi, hb, hk⟩; refine ⟨_, rfl, ?_⟩; replace BK339 := Aside0.mk (KeepBut.blk hk (g' := gb339) (o := .cells #[.slice none 0 0] 26 (0, 0)) (be_ BK339.out) NB339_0.out (by simp)); replace HK := Aside0.mk (KeepBut.trans (kq_ HK) hk (.inl rfl)); replace HB := Aside0.mk (hb); replace HI0 := Aside0.mk (hi); (try clear hb); (try clear hk); (try clear hi)))
 go_loopg [5] k (fun kq v5 w' => ∃ (x5_1 : Int) (x1001_1 : Int) (x1002_1 : Int), v5 = .int .i64 x5_1 ∧ Aside0 (spec_l3Draw.l0 kq x5_1 s0_0 x1001_1 x1002_1 = some (r1, r2, r3)) ∧ Aside0 (kq ≤ k) ∧ Aside0 (w'.heap[gb339]? = some (.cells #[(.slice none 0 0)] 26 (0, 0))) ∧ Aside0 (IsS64 w0 w' g s0_0 x1001_1 x1002_1) ∧ Aside0 (KeepBut w w' g none) ∧ Aside0 (Below w0.heap.size w0 w'))
 case atStart => exact ⟨(0), (t341), (t342), rs_, H', ⟨Nat.le_refl _⟩, ⟨be_ BK339.out⟩, ⟨IsS64.q_ HI0⟩, ⟨kq_ HK⟩, ⟨bi_ HB (IsS64.ge HI0.out)⟩⟩
 case round =>
  clear H'
  try clear c1
  try clear p2
  try clear c3
  try clear c5
  try clear c6
  try clear c7
  try clear c13
  try clear c14
  try clear c16
  try clear c18
  try clear hcz15_0
  try clear hcz17_0
  try clear hfz15_0
  try clear hfz17_0
  obtain ⟨x5_1, x1001_1, x1002_1, rfl, HA, HK1, BK339, HI0, HK, HB⟩ := hrel
  cases gk with
  | zero => exact absurd HA.out (by simp [spec_l3Draw.l0])
  | succ k1 =>
   have H := HA.out
   clear HA
   simp only [spec_l3Draw.l0] at H
   by_cases c20 : x5_1 < 4
   rotate_left
   · rw [if_neg c20] at H
     have c20b0 : decide (x5_1 < 4) = false := decide_eq_false c20
     clear c20
     obtain ⟨⟨t353, t356, t357⟩, A53, H⟩ := ob_ H
     (try dsimp only at H)
     obtain ⟨⟨t358, t361⟩, A54, H⟩ := ob_ H
     (try dsimp only at H)
     simp only [Option.some.injEq, Prod.mk.injEq] at H
     obtain ⟨rfl, rfl, rfl⟩ := H
     go_wp2_with (first | ((with_reducible refine gate_callee (f := 76) rfl ?_); refine gL_ (some 57) Try.func76 #[.pointer (some ⟨g, 0, none⟩)] ?_; (with_reducible refine (spec_l3List.calls g s0_0 x1001_1 x1002_1 t353 t356 t357 w0 _ ?side1 ?side2 A53.out).mono ?_); (case side1 => exact IsS64.q_ HI0); (case side2 => exact bi_ HB (IsS64.ge HI0.out)); rintro e w55 ⟨v354, rfl, ho0, hi, hb, hk⟩; refine ⟨_, rfl, ?_⟩; replace BK339 := Aside0.mk (KeepBut.blk hk (g' := gb339) (o := .cells #[.slice none 0 0] 26 (0, 0)) (be_ BK339.out) NB339_0.out (by simp)); have HO355 := Aside0.mk (Kd.R_lower ho0 (keep_size (w := w) (g := g) (row := none) (kq_ HK))); replace HK := Aside0.mk (KeepBut.trans (kq_ HK) hk (.inl rfl)); replace HB := Aside0.mk (hb); replace HI0 := Aside0.mk (hi); (try clear hb); (try clear hk); (try clear hi); (try clear ho0); obtain ⟨Ao56, co56, eo56⟩ := Kd.R_slice HO355.out; subst eo56) | ((with_reducible refine gate_callee (f := 18) rfl ?_); refine gL_ (some 58) Try.func18 #[.slice Ao56 t353.length co56] ?_; (with_reducible refine (spec_FromGens.calls k1 _ _ t353 t358 t361 _ ?side1 ?side2 A54.out).mono ?_); (case side1 => exact ce_ ((Kd.R_reads' HO355.out).2.2)); (case side2 => exact (Kd.R_reads' HO355.out).2.1); rintro e w57 ⟨v359, rfl, ho0, hb⟩; refine ⟨_, rfl, ?_⟩; have HO360 := Aside0.mk (Kd.R_lower (Kd.R_new' ho0 (Kd.R_lt (re_ HO355.out))) (keep_size (w := w) (g := g) (row := none) (kq_ HK))); replace HO355 := Aside0.mk (Kd.R_elder' (re_ HO355.out) (Kd.R_base ho0) hb); replace BK339 := bk_ BK339 hb; replace HK := Aside0.mk (KeepBut.trans (kq_ HK) (KeepBut.of_below hb g none) (.inl rfl)); replace HB := Aside0.mk (below_step (bi_ HB (IsS64.ge HI0.out)) hb); replace HI0 := Aside0.mk (IsS64.below (IsS64.q_ HI0) hb); (try clear hb); (try clear ho0)) | ((with_reducible refine gate_dst (N := 11) rfl ?_); refine bx_ 11 #[.slice none 0 0] 26 ?_; intro gb362 hg w58 hbox hb; replace HO355 := Aside0.mk (Kd.R_below (re_ HO355.out) hb); replace HO360 := Aside0.mk (Kd.R_below (re_ HO360.out) hb); replace HB := Aside0.mk (below_step (bi_ HB (IsS64.ge HI0.out)) hb); have BK362 := Aside0.mk (hbox); have GW362 := Aside0.mk ((by rw [hg]; exact (keep_size (w := w) (g := g) (row := none) (kq_ HK)) : w.heap.size ≤ gb362)); have GE362 := Aside0.mk ((Nat.le_trans HW0.out (by rw [hg]; exact (keep_size (w := w) (g := g) (row := none) (kq_ HK)) : w.heap.size ≤ gb362) : w0.heap.size ≤ gb362)); replace HK := Aside0.mk (KeepBut.trans (kq_ HK) (KeepBut.of_below hb g none) (.inl rfl)); have NB339_362 := nl_ hg BK339; have NB362_339 := ng_ hg BK339; replace BK339 := bk_ BK339 hb; have NB0_362 := Aside0.mk ((by rw [hg]; exact Nat.ne_of_lt (IsS64.lt (show IsS64 w0 _ g s0_0 t356 t357 from IsS64.q_ HI0)) : g ≠ gb362)); have NB362_0 := Aside0.mk ((by rw [hg]; exact Nat.ne_of_gt (IsS64.lt (show IsS64 w0 _ g s0_0 t356 t357 from IsS64.q_ HI0)) : gb362 ≠ g)); replace HI0 := Aside0.mk (IsS64.below (IsS64.q_ HI0) hb); clear hb hbox hg; obtain ⟨Ao59, co59, eo59⟩ := Kd.R_slice HO360.out; subst eo59; have hnb60 := NB362_339.out; have hnc60 := NB339_362.out; have hnb61 := NB362_0.out; have hnc61 := NB0_362.out; have hcz62_0 := cz_ BK362; have hfz62_0 := blk_frozen BK362.out 0; have hnb63 := NB339_0.out; have hnc63 := NB0_339.out; have hcz64_0 := cz_ BK339; have hfz64_0 := blk_frozen BK339.out 0))
     refine bodyPost_ret (results_cell_row rfl _ _ gb339 26 #[.slice Ao59 t358.length co59] (0, 0) _ rfl (by (with_reducible repeat (first | refine blk_drewN ?_ _ | refine blk_drew ?_ | refine blk_alloc ?_ _)); refine blk_put (cs := #[.slice none 0 0]) ?_ 0 _ rfl; (with_reducible repeat (first | refine blk_drewN ?_ _ | refine blk_drew ?_ | refine blk_alloc ?_ _)); refine blk_far ?_ NB339_362.out _; (with_reducible repeat (first | refine blk_drewN ?_ _ | refine blk_drew ?_ | refine blk_alloc ?_ _)); exact BK339.out) Try.underlying26 rfl (by kernel_rfl)) rfl ?_
     exact ⟨_, rf_, by (with_reducible repeat (first | apply Kd.R_alloc | apply Kd.R_drewN | apply Kd.R_drew)); exact Kd.R_mono (Kd.R_far (p := ⟨gb339, 0, none⟩) (Kd.R_far (p := ⟨gb362, 0, none⟩) (Kd.R_types (Kd.R_types HO360.out BK362.out (by decide)) BK339.out (by decide)) (fun _ hk => hk.1.2) (.slice Ao59 t358.length co59)) (fun _ hk => hk.2) (.slice Ao59 t358.length co59)) (fun _ hk => trivial), IsS64.q_ HI0, bi_ HB (IsS64.ge HI0.out), kq_ HK⟩
   rw [if_pos c20] at H
   have c20b0 : decide (x5_1 < 4) = true := decide_eq_true c20
   clear c20
   obtain ⟨⟨t363, t364, t365⟩, A21, H⟩ := ob_ H
   (try dsimp only at H)
   obtain ⟨y366, hy366⟩ : ∃ y_ : List Int, y_ = (([wrap64 (2 + t363)] : List Int)) := ⟨_, rfl⟩
   replace H : ((spec_l1Below.f s0_0 t364 t365 4).bind fun bt369 => (spec_l3Draw.l1 k1 x5_1 y366 (wrap64 (1 + bt369.1)) 0 s0_0 bt369.2.1 bt369.2.2)) = some (r1, r2, r3) := by subst hy366; exact H
   have Ny366 := Aside0.mk hy366
   clear hy366
   obtain ⟨⟨t369, t370, t371⟩, A22, H⟩ := ob_ H
   (try dsimp only at H)
   have H' := Aside0.mk H
   clear H
   go_wp2_with (first | ((with_reducible refine gate_callee (f := 49) rfl ?_); refine gL_ (some 27) Try.func49 #[.pointer (some ⟨g, 0, none⟩), .int .i64 8] ?_; (with_reducible refine (spec_l1Below.calls g s0_0 x1001_1 x1002_1 8 t363 t364 t365 w0 _ ?side1 ?side2 A21.out).mono ?_); (case side1 => exact IsS64.q_ HI0); (case side2 => exact bi_ HB (IsS64.ge HI0.out)); rintro e w23 ⟨rfl, hi, hb, hk⟩; refine ⟨_, rfl, ?_⟩; replace BK339 := Aside0.mk (KeepBut.blk hk (g' := gb339) (o := .cells #[.slice none 0 0] 26 (0, 0)) (be_ BK339.out) NB339_0.out (by simp)); replace HK := Aside0.mk (KeepBut.trans (kq_ HK) hk (.inl rfl)); replace HB := Aside0.mk (hb); replace HI0 := Aside0.mk (hi); (try clear hb); (try clear hk); (try clear hi)) | ((with_reducible refine gate_dst (N := 29) rfl ?_); refine Kd.R_lit (Kd.int .i64) _ 3 ?hg (N := 29) ?hd (xs := ([wrap64 (2 + t363)] : List Int)) (inner := [.int .i64 (wrap64 (2 + t363))]) (ok := fun _ => True) (okp := fun _ => True) ?hr ?hp (fun _ hk => hk) trivial (Below.refl _ _) (Nat.le_refl _) (by simp) ?_; (case hd => rfl); (case hg => rfl); (case hr => first | (go_simp; done) | (go_simp; rfl)); (case hp => exact (Reps.one (show Kd.M (Kd.int .i64) _ _ _ (wrap64 (2 + t363)) [.int .i64 (wrap64 (2 + t363))] from rfl) (Reps.none _ _))); intro v367 w24 ho25 hb hg_ hnew_; clear hg_ hnew_; (first | rw [← Ny366.out] at ho25 | (simp only [Int.reduceToNat] at ho25; rw [← Ny366.out] at ho25)); have HO368 := Aside0.mk (Kd.R_lower ho25 (keep_size (w := w) (g := g) (row := none) (kq_ HK))); replace BK339 := bk_ BK339 hb; replace HK := Aside0.mk (KeepBut.trans (kq_ HK) (KeepBut.of_below hb g none) (.inl rfl)); replace HB := Aside0.mk (below_step (bi_ HB (IsS64.ge HI0.out)) hb); replace HI0 := Aside0.mk (IsS64.below (IsS64.q_ HI0) hb); clear hb ho25) | ((with_reducible refine gate_callee (f := 49) rfl ?_); refine gL_ (some 31) Try.func49 #[.pointer (some ⟨g, 0, none⟩), .int .i64 4] ?_; (with_reducible refine (spec_l1Below.calls g s0_0 t364 t365 4 t369 t370 t371 w0 _ ?side1 ?side2 A22.out).mono ?_); (case side1 => exact IsS64.q_ HI0); (case side2 => exact bi_ HB (IsS64.ge HI0.out)); rintro e w26 ⟨rfl, hi, hb, hk⟩; refine ⟨_, rfl, ?_⟩; replace BK339 := Aside0.mk (KeepBut.blk hk (g' := gb339) (o := .cells #[.slice none 0 0] 26 (0, 0)) (be_ BK339.out) NB339_0.out (by simp)); replace HO368 := Aside0.mk (Kd.R_mono (Kd.R_keep (IsS64.apart (show IsS64 w0 _ g s0_0 t364 t365 from IsS64.q_ HI0) (re_ HO368.out) (by decide)) hk (fun _ h => h.2)) (fun _ h => h.1)); replace HK := Aside0.mk (KeepBut.trans (kq_ HK) hk (.inl rfl)); replace HB := Aside0.mk (hb); replace HI0 := Aside0.mk (hi); (try clear hb); (try clear hk); (try clear hi)))
   go_loopg [6, 8] k1 (fun kq v6 v8 w' => ∃ (x6_2 : List Int) (x8_2 : Int) (x1001_2 : Int) (x1002_2 : Int), v8 = .int .i64 x8_2 ∧ Aside0 (spec_l3Draw.l1 kq x5_1 x6_2 (wrap64 (1 + t369)) x8_2 s0_0 x1001_2 x1002_2 = some (r1, r2, r3)) ∧ Aside0 (kq ≤ k1) ∧ Aside0 (Kd.R (Kd.int .i64) 3 w' w.heap.size (fun _ => True) v6 x6_2) ∧ Aside0 (w'.heap[gb339]? = some (.cells #[(.slice none 0 0)] 26 (0, 0))) ∧ Aside0 (IsS64 w0 w' g s0_0 x1001_2 x1002_2) ∧ Aside0 (KeepBut w w' g none) ∧ Aside0 (Below w0.heap.size w0 w'))
   case atStart => exact ⟨(y366), (0), (t370), (t371), rs_, H', ⟨Nat.le_refl _⟩, ⟨re_ HO368.out⟩, ⟨be_ BK339.out⟩, ⟨IsS64.q_ HI0⟩, ⟨kq_ HK⟩, ⟨bi_ HB (IsS64.ge HI0.out)⟩⟩
   case round =>
    clear H'
    try clear c1
    try clear c2
    try clear p2
    try clear c3
    try clear c4
    try clear c5
    try clear c6
    try clear p6
    try clear c7
    try clear c13
    try clear c14
    try clear c16
    try clear c18
    try clear c20
    try clear c20b0
    try clear hcz15_0
    try clear hcz17_0
    try clear hfz15_0
    try clear hfz17_0
    try clear p2
    obtain ⟨x6_2, x8_2, x1001_2, x1002_2, rfl, HA, HK2, HO_6, BK339, HI0, HK, HB⟩ := hrel
    cases gk with
    | zero => exact absurd HA.out (by simp [spec_l3Draw.l1])
    | succ k2 =>
     have H := HA.out
     clear HA
     simp only [spec_l3Draw.l1] at H
     by_cases c27 : x8_2 < (wrap64 (1 + t369))
     rotate_left
     · rw [if_neg c27] at H
       have c27b0 : decide (x8_2 < (wrap64 (1 + t369))) = false := decide_eq_false c27
       clear c27
       obtain ⟨⟨t379, t382⟩, A35, H⟩ := ob_ H
       (try dsimp only at H)
       by_cases c36 : t382 = true
       · subst c36
         rw [if_pos rfl] at H
         simp only [Option.some.injEq, Prod.mk.injEq] at H
         obtain ⟨rfl, rfl, rfl⟩ := H
         obtain ⟨Ao37, co37, eo37⟩ := Kd.R_slice HO_6.out
         subst eo37
         go_wp2_with (first | ((with_reducible refine gate_callee (f := 18) rfl ?_); refine gL_ (some 50) Try.func18 #[.slice Ao37 x6_2.length co37] ?_; (with_reducible refine (spec_FromGens.calls k2 _ _ x6_2 t379 true _ ?side1 ?side2 A35.out).mono ?_); (case side1 => exact ce_ ((Kd.R_reads' HO_6.out).2.2)); (case side2 => exact (Kd.R_reads' HO_6.out).2.1); rintro e w38 ⟨v380, rfl, ho0, hb⟩; refine ⟨_, rfl, ?_⟩; have HO381 := Aside0.mk (Kd.R_lower (Kd.R_new' ho0 (Kd.R_lt (re_ HO_6.out))) (keep_size (w := w) (g := g) (row := none) (kq_ HK))); replace HO_6 := Aside0.mk (Kd.R_elder' (re_ HO_6.out) (Kd.R_base ho0) hb); replace BK339 := bk_ BK339 hb; replace HK := Aside0.mk (KeepBut.trans (kq_ HK) (KeepBut.of_below hb g none) (.inl rfl)); replace HB := Aside0.mk (below_step (bi_ HB (IsS64.ge HI0.out)) hb); replace HI0 := Aside0.mk (IsS64.below (IsS64.q_ HI0) hb); (try clear hb); (try clear ho0)) | ((with_reducible refine gate_dst (N := 9) rfl ?_); refine bx_ 9 #[.slice none 0 0] 26 ?_; intro gb383 hg w39 hbox hb; replace HO_6 := Aside0.mk (Kd.R_below (re_ HO_6.out) hb); replace HO381 := Aside0.mk (Kd.R_below (re_ HO381.out) hb); replace HB := Aside0.mk (below_step (bi_ HB (IsS64.ge HI0.out)) hb); have BK383 := Aside0.mk (hbox); have GW383 := Aside0.mk ((by rw [hg]; exact (keep_size (w := w) (g := g) (row := none) (kq_ HK)) : w.heap.size ≤ gb383)); have GE383 := Aside0.mk ((Nat.le_trans HW0.out (by rw [hg]; exact (keep_size (w := w) (g := g) (row := none) (kq_ HK)) : w.heap.size ≤ gb383) : w0.heap.size ≤ gb383)); replace HK := Aside0.mk (KeepBut.trans (kq_ HK) (KeepBut.of_below hb g none) (.inl rfl)); have NB339_383 := nl_ hg BK339; have NB383_339 := ng_ hg BK339; replace BK339 := bk_ BK339 hb; have NB0_383 := Aside0.mk ((by rw [hg]; exact Nat.ne_of_lt (IsS64.lt (show IsS64 w0 _ g s0_0 x1001_2 x1002_2 from IsS64.q_ HI0)) : g ≠ gb383)); have NB383_0 := Aside0.mk ((by rw [hg]; exact Nat.ne_of_gt (IsS64.lt (show IsS64 w0 _ g s0_0 x1001_2 x1002_2 from IsS64.q_ HI0)) : gb383 ≠ g)); replace HI0 := Aside0.mk (IsS64.below (IsS64.q_ HI0) hb); clear hb hbox hg; obtain ⟨Ao40, co40, eo40⟩ := Kd.R_slice HO381.out; subst eo40; have hnb41 := NB383_339.out; have hnc41 := NB339_383.out; have hnb42 := NB383_0.out; have hnc42 := NB0_383.out; have hcz43_0 := cz_ BK383; have hfz43_0 := blk_frozen BK383.out 0; have hnb44 := NB339_0.out; have hnc44 := NB0_339.out; have hcz45_0 := cz_ BK339; have hfz45_0 := blk_frozen BK339.out 0))
         refine bodyPost_ret (results_cell_row rfl _ _ gb339 26 #[.slice Ao40 t379.length co40] (0, 0) _ rfl (by (with_reducible repeat (first | refine blk_drewN ?_ _ | refine blk_drew ?_ | refine blk_alloc ?_ _)); refine blk_put (cs := #[.slice none 0 0]) ?_ 0 _ rfl; (with_reducible repeat (first | refine blk_drewN ?_ _ | refine blk_drew ?_ | refine blk_alloc ?_ _)); refine blk_far ?_ NB339_383.out _; (with_reducible repeat (first | refine blk_drewN ?_ _ | refine blk_drew ?_ | refine blk_alloc ?_ _)); exact BK339.out) Try.underlying26 rfl (by kernel_rfl)) rfl ?_
         exact ⟨_, rf_, by (with_reducible repeat (first | apply Kd.R_alloc | apply Kd.R_drewN | apply Kd.R_drew)); exact Kd.R_mono (Kd.R_far (p := ⟨gb339, 0, none⟩) (Kd.R_far (p := ⟨gb383, 0, none⟩) (Kd.R_types (Kd.R_types HO381.out BK383.out (by decide)) BK339.out (by decide)) (fun _ hk => hk.1.2) (.slice Ao40 t379.length co40)) (fun _ hk => hk.2) (.slice Ao40 t379.length co40)) (fun _ hk => trivial), IsS64.q_ HI0, bi_ HB (IsS64.ge HI0.out), kq_ HK⟩
       replace c36 := Bool.eq_false_iff.mpr c36
       subst c36
       rw [if_neg (show ¬ (false = true) by decide)] at H
       have H' := Aside0.mk H
       clear H
       obtain ⟨Ao46, co46, eo46⟩ := Kd.R_slice HO_6.out
       subst eo46
       go_wp2_with (first | ((with_reducible refine gate_callee (f := 18) rfl ?_); refine gL_ (some 50) Try.func18 #[.slice Ao46 x6_2.length co46] ?_; (with_reducible refine (spec_FromGens.calls k2 _ _ x6_2 t379 false _ ?side1 ?side2 A35.out).mono ?_); (case side1 => exact ce_ ((Kd.R_reads' HO_6.out).2.2)); (case side2 => exact (Kd.R_reads' HO_6.out).2.1); rintro e w47 ⟨v380, rfl, ho0, hb⟩; refine ⟨_, rfl, ?_⟩; have HO381 := Aside0.mk (Kd.R_lower (Kd.R_new' ho0 (Kd.R_lt (re_ HO_6.out))) (keep_size (w := w) (g := g) (row := none) (kq_ HK))); replace HO_6 := Aside0.mk (Kd.R_elder' (re_ HO_6.out) (Kd.R_base ho0) hb); replace BK339 := bk_ BK339 hb; replace HK := Aside0.mk (KeepBut.trans (kq_ HK) (KeepBut.of_below hb g none) (.inl rfl)); replace HB := Aside0.mk (below_step (bi_ HB (IsS64.ge HI0.out)) hb); replace HI0 := Aside0.mk (IsS64.below (IsS64.q_ HI0) hb); (try clear hb); (try clear ho0)) | ((with_reducible refine gate_dst (N := 9) rfl ?_); refine bx_ 9 #[.slice none 0 0] 26 ?_; intro gb383 hg w48 hbox hb; replace HO_6 := Aside0.mk (Kd.R_below (re_ HO_6.out) hb); replace HO381 := Aside0.mk (Kd.R_below (re_ HO381.out) hb); replace HB := Aside0.mk (below_step (bi_ HB (IsS64.ge HI0.out)) hb); have BK383 := Aside0.mk (hbox); have GW383 := Aside0.mk ((by rw [hg]; exact (keep_size (w := w) (g := g) (row := none) (kq_ HK)) : w.heap.size ≤ gb383)); have GE383 := Aside0.mk ((Nat.le_trans HW0.out (by rw [hg]; exact (keep_size (w := w) (g := g) (row := none) (kq_ HK)) : w.heap.size ≤ gb383) : w0.heap.size ≤ gb383)); replace HK := Aside0.mk (KeepBut.trans (kq_ HK) (KeepBut.of_below hb g none) (.inl rfl)); have NB339_383 := nl_ hg BK339; have NB383_339 := ng_ hg BK339; replace BK339 := bk_ BK339 hb; have NB0_383 := Aside0.mk ((by rw [hg]; exact Nat.ne_of_lt (IsS64.lt (show IsS64 w0 _ g s0_0 x1001_2 x1002_2 from IsS64.q_ HI0)) : g ≠ gb383)); have NB383_0 := Aside0.mk ((by rw [hg]; exact Nat.ne_of_gt (IsS64.lt (show IsS64 w0 _ g s0_0 x1001_2 x1002_2 from IsS64.q_ HI0)) : gb383 ≠ g)); replace HI0 := Aside0.mk (IsS64.below (IsS64.q_ HI0) hb); clear hb hbox hg; obtain ⟨Ao49, co49, eo49⟩ := Kd.R_slice HO381.out; subst eo49; have hnb50 := NB383_339.out; have hnc50 := NB339_383.out; have hnb51 := NB383_0.out; have hnc51 := NB0_383.out; have hcz52_0 := cz_ BK383; have hfz52_0 := blk_frozen BK383.out 0))
       go_roundg k2
       case measure => have := HK1.out; have := HK2.out; omega
       case rel => exact ⟨(wrap64 (x5_1 + 1)), (x1001_2), (x1002_2), rs_, H', ⟨by have := HK1.out; have := HK2.out; omega⟩, ⟨by (with_reducible repeat (first | refine blk_drewN ?_ _ | refine blk_drew ?_ | refine blk_alloc ?_ _)); refine blk_far ?_ NB339_383.out _; (with_reducible repeat (first | refine blk_drewN ?_ _ | refine blk_drew ?_ | refine blk_alloc ?_ _)); exact BK339.out⟩, ⟨IsS64.q_ HI0⟩, ⟨kq_ HK⟩, ⟨bi_ HB (IsS64.ge HI0.out)⟩⟩
     rw [if_pos c27] at H
     have c27b0 : decide (x8_2 < (wrap64 (1 + t369))) = true := decide_eq_true c27
     clear c27
     by_cases c28 : 0 < (x6_2.length : Int)
     rotate_left
     · rw [if_neg c28] at H
       cases H
     rw [if_pos c28] at H
     have c28b0 : decide (0 < (x6_2.length : Int)) = true := decide_eq_true c28
     have c28b1 : decide (0 < x6_2.length) = true := decide_eq_true (by omega)
     clear c28
     obtain ⟨⟨t373, t374, t375⟩, A29, H⟩ := ob_ H
     (try dsimp only at H)
     by_cases c30 : x6_2.length < 17592186044416
     rotate_left
     · rw [if_neg c30] at H
       cases H
     rw [if_pos c30] at H
     have LMc30 := Aside0.mk c30
     clear c30
     obtain ⟨y376, hy376⟩ : ∃ y_ : List Int, y_ = (x6_2 ++ [wrap64 ((wrap64 ((rd x6_2 0) + 1)) + t373)]) := ⟨_, rfl⟩
     replace H : (spec_l3Draw.l1 k2 x5_1 y376 (wrap64 (1 + t369)) (wrap64 (x8_2 + 1)) s0_0 t374 t375) = some (r1, r2, r3) := by subst hy376; exact H
     have Ny376 := Aside0.mk hy376
     clear hy376
     have H' := Aside0.mk H
     clear H
     try go_wp2
     replace HO_6 := Aside0.mk (Kd.R_drew HO_6.out)
     replace BK339 := Aside0.mk (blk_drew BK339.out)
     replace HI0 := Aside0.mk (IsS64.drew HI0.out)
     replace HK := Aside0.mk (keep_drew HK.out)
     replace HB := Aside0.mk (below_drew1 HB.out)
     obtain ⟨Ao32, co32, eo32⟩ := Kd.R_slice HO_6.out
     (first | subst eo32 | (injection eo32 with f1_ f2_ f3_; have f4_ := f1_.symm; have f5_ := f3_.symm; clear f1_ f2_ f3_; subst f4_; subst f5_))
     have p372 : 0 ≤ (0 : Int) := (by omega)
     have q372 : 0 < (x6_2.length : Int) := od_
     obtain ⟨ad372, e372, hx372_0⟩ := Kd.at_int (Kd.R_reads' HO_6.out).2.2 0 p372 q372
     cases e372
     have qi372 : (0 < x6_2.length) = True := eq_true (by omega)
     (try rw [show ((0 : Int)).toNat = 0 from rfl] at hx372_0)
     (try rw [Addr.add_zero'] at hx372_0)
     replace p372 := eq_true p372
     replace q372 := eq_true q372
     refine start_ (n := 11) (S := fun w' => w'.cell? ad372 = some (.int .i64 (rd x6_2 0))) (ds := [8, 9]) (B_ 0 11) (by kernel_rfl) rfl rfl (hx372_0) (fun hHeld => ?_); refine with_tabW spec_l3Draw.tab12 spec_l3Draw.bits12 (fun HT_ HW_ => ?_)
     generalize wr.drew = w31 at HO_6 BK339 HI0 HK HB hx372_0 hHeld ⊢
     refine pu_ HT_ 0 38 (B_ 1 11) ?_
     refine pu_ HT_ 1 39 (B_ 3 11) ?_
     refine pu_ HT_ 2 40 (B_ 7 11) ?_
     refine pu_ HT_ 5 43 (B_ 39 11) ?_
     refine tk1_ HT_ HW_ hHeld 3 41 (B_ 47 11) ?_
     refine pu_ HT_ 4 42 (B_ 63 11) ?_
     refine on_ HT_ 6 44 (B_ 127 11) (fun K hK => ?_)
     refine goes_ Try.func49 (by kernel_rfl) rfl #[.pointer (some ⟨g, 0, none⟩), .int .i64 12] (by rfl) rfl rfl (by (try simp only [List.map_toArray, List.map_cons, List.map_nil]); first | done | rfl | (simp only [List.length_drop, List.length_take]; rfl)) ?_
     with_reducible refine (spec_l1Below.calls g s0_0 x1001_2 x1002_2 12 t373 t374 t375 w0 _ ?side1 ?side2 A29.out).mono ?_
     (case side1 => exact IsS64.q_ HI0)
     (case side2 => exact bi_ HB (IsS64.ge HI0.out))
     rintro e w33 ⟨rfl, hi, hb, hk⟩
     have HS0_ := keep_cell hk (hHeld) (by first | (rw [add_block]; exact Kd.own_blk (IsS64.own_ne HI0.out HO_6.out (by decide))) | (show (Addr.add _ _).block ≠ _; rw [add_block]; exact Kd.own_blk (IsS64.own_ne HI0.out HO_6.out (by decide))) | exact Kd.own_blk (IsS64.own_ne HI0.out HO_6.out (by decide)))
     refine ⟨_, rfl, ?_⟩
     replace HO_6 := Aside0.mk (Kd.R_mono (Kd.R_keep (IsS64.apart (show IsS64 w0 _ g s0_0 x1001_2 x1002_2 from IsS64.q_ HI0) (re_ HO_6.out) (by decide)) hk (fun _ h => h.2)) (fun _ h => h.1))
     replace BK339 := Aside0.mk (KeepBut.blk hk (g' := gb339) (o := .cells #[.slice none 0 0] 26 (0, 0)) (be_ BK339.out) NB339_0.out (by simp))
     replace HK := Aside0.mk (KeepBut.trans (kq_ HK) hk (.inl rfl))
     replace HB := Aside0.mk (hb)
     replace HI0 := Aside0.mk (hi)
     (try clear hb)
     (try clear hk)
     (try clear hi)
     refine hK.out _ _ (HS0_) (fun hHeld => ?_)
     clear hK K
     refine norm_ (a' := ?_) ?_ ?_
     rotate_left
     · show Act.put _ (some 44) _ = _
       simp only [Act.put, z1_, z2_, z3_, i64_w, i32_w]
       rfl
     refine pu_ HT_ 7 45 (B_ 255 11) ?_
     refine last_ (i := 8) (N := some 46) (B_ 511 11) rfl rfl (one_of HT_.out (by kernel_rfl)) (by decide) (fun K hK => ?_)
     refine value_ (w1 := ?_) (v := ?_) (by rfl) rfl ?_ ?_
     rotate_left 2
     · go_simp
       constructor
       · rfl
       · rfl
     refine hK.out _ _ ?_
     clear hK K
     refine norm_ (a' := ?_) ?_ ?_
     rotate_left
     · show Act.put _ (some 46) _ = _
       simp only [Act.put, z1_, z2_, z3_, i64_w, i32_w]
       rfl
     refine last_ (i := 9) (N := some 47) (B_ 1023 11) rfl rfl (one_of HT_.out (by kernel_rfl)) (by decide) (fun K hK => ?_)
     refine Kd.R_append_step (Kd.int .i64) w.heap.size (by rfl) (.tmp 38) (.tmp 46) 24 3 (.int .i64 0) 8 rfl Try.underlying24 info3 rfl (by decide) (by omega) (.slice (some ad372) x6_2.length co32) x6_2 (wrap64 ((wrap64 ((rd x6_2 0) + 1)) + t373)) [.int .i64 (wrap64 ((wrap64 ((rd x6_2 0) + 1)) + t373))] (fun _ => True) (fun _ => False) rfl rfl ?aP (fun _ hk => hk.elim) ?aF ?aO (Below.refl _ _) ?aS ?aL ?_
     (case aP => exact rfl)
     (case aF => exact (fun _ _ => trivial))
     (case aO => exact (re_ HO_6.out))
     (case aS => exact (keep_size (w := w) (g := g) (row := none) (kq_ HK)))
     (case aL => have := LMc30.out; omega)
     intro v377 w34 ho hb hg hat
     rw [← Ny376.out] at ho
     replace BK339 := Aside0.mk (blk_grown (be_ BK339.out) hg (Kd.R_ne HO_6.out BK339.out (by decide)))
     replace HB := Aside0.mk (below_weaken (bi_ HB (IsS64.ge HI0.out)) HL.out hb)
     replace HI0 := Aside0.mk (IsS64.grown (IsS64.q_ HI0) hg (IsS64.own_ne HI0.out HO_6.out (by decide)))
     replace HK := Aside0.mk (KeepBut.trans (kq_ HK) (KeepBut.of_grown hg g) (Kd.R_base2 HO_6.out))
     have HO378 := Aside0.mk (ho)
     clear HO_6
     clear ho hb hg hat
     refine hK.out _ _ ?_
     clear hK K
     refine norm_ (a' := ?_) ?_ ?_
     rotate_left
     · show Act.put _ (some 47) _ = _
       simp only [Act.put, z1_, z2_, z3_, i64_w, i32_w]
       rfl
     refine pu_ HT_ 10 6 (B_ 2047 11) ?_
     refine done_ (done_of HT_.out (by kernel_rfl)) ?_
     try go_wp2
     go_roundg k2
     case measure => have := HK1.out; have := HK2.out; omega
     case rel => exact ⟨(y376), (wrap64 (x8_2 + 1)), (t374), (t375), rs_, H', ⟨by have := HK1.out; have := HK2.out; omega⟩, ⟨re_ HO378.out⟩, ⟨be_ BK339.out⟩, ⟨IsS64.q_ HI0⟩, ⟨kq_ HK⟩, ⟨bi_ HB (IsS64.ge HI0.out)⟩⟩
end Go.Proofs.Ytjjajcldmkmgkaa.PA
end
