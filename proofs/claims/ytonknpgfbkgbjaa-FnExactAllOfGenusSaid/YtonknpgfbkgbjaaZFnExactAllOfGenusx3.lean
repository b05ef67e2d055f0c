-- Bundled by shake.py from this session's printed and written texts; Lean checks it.
import Derived.Below
import Derived.Calls
import Derived.Deep.Draws
import Derived.Shelf.Abstract
import Derived.Shelf.SlSortCmp.NoneTotal
import Derived.Shelf.SlSortCmp.WholeK
import Derived.Sort.Grow
import Derived.Test.YtonknpgfbkgbjaaProg
import Derived.Test.YtonknpgfbkgbjaaZFnExactAllOfGenusx1
import Derived.Test.YtonknpgfbkgbjaaZFnExactAllOfGenusx2
import GoSem.Step
section
namespace Go.Proofs.Ytonknpgfbkgbjaa.PC
open Go.RowKit Go.Proofs.YtonknpgfbkgbjaaW.PrintWords Go.Proofs.YtonknpgfbkgbjaaW.PrintLast Go.Proofs.YtonknpgfbkgbjaaW.PrintMore
attribute [local go_sem] max2_int min2_int max_two min_two max_three min_three max_four min_four
set_option linter.unusedVariables false
set_option linter.unusedSimpArgs false
set_option maxHeartbeats 8000000
set_option maxRecDepth 100000
def impl_inOrderCmp.f (k : Nat) (l0_0 : List Int) (l1_0 : List Int) : Option (Int) := (impl_GenusOf.f k l0_0).bind fun t181 => ((impl_GenusOf.f k l1_0).bind fun t182 => (if (wrap64 (t181 - t182)) = 0 then ((impl_Gaps.f k l0_0).bind fun t183 => ((impl_Gaps.f k l1_0).bind fun t186 => ((slices_Compare_int_int.f k t183 t186).bind fun t189 => (some t189)))) else (some (wrap64 (t181 - t182)))))
theorem impl_inOrderCmp.calls (k : Nat) (A0_0 : Option Addr) (c0_0 : Nat) (l0_0 : List Int) (A1_0 : Option Addr) (c1_0 : Nat) (l1_0 : List Int) (r : Int) (w : World) (hr0_0 : Kd.C (Kd.int .i64) w A0_0 l0_0.length l0_0) (hc0_0 : l0_0.length ≤ c0_0) (hr1_0 : Kd.C (Kd.int .i64) w A1_0 l1_0.length l1_0) (hc1_0 : l1_0.length ≤ c1_0) (h : impl_inOrderCmp.f k l0_0 l1_0 = some r) :
 Calls Try.prog 78 #[.agg #[.slice A0_0 l0_0.length c0_0], .agg #[.slice A1_0 l1_0.length c1_0]] w fun e w' => e = .returned (.int .i64 r) ∧ Below w.heap.size w w' := by
 have hu26 := Try.underlying26
 have HR0_0 := Aside0.mk hr0_0
 have HC0_0 := Aside0.mk hc0_0
 clear hr0_0 hc0_0
 have HR1_0 := Aside0.mk hr1_0
 have HC1_0 := Aside0.mk hc1_0
 clear hr1_0 hc1_0
 have HB := Aside0.mk (Below.refl w.heap.size w)
 have H := h
 clear h
 unfold impl_inOrderCmp.f at H
 obtain ⟨t181, A3, H⟩ := ob_ H
 obtain ⟨t182, A4, H⟩ := ob_ H
 by_cases c5 : (wrap64 (t181 - t182)) = 0
 rotate_left
 · rw [if_neg c5] at H
   have c5b0 : ((wrap64 (t181 - t182)) == 0) = false := beq_eq_false_iff_ne.mpr c5
   have c5b1 : ((wrap64 (t181 - t182)) != 0) = true := bne_iff_ne.mpr c5
   obtain rfl := Option.some.inj H
   go_enter Try.func78, Try.ntmps78
   try go_wp2_with (first | ((with_reducible refine gate_dst (N := 2) rfl ?_); refine bx_ 2 #[.slice A0_0 l0_0.length c0_0] 26 ?_; intro gb179 hg w19 hbox hb; have BK179 := Aside0.mk (hbox); have GW179 := gw_ hg HB; have GE179 := gw_ hg HB; replace HB := bo_ HB hb; clear hb hbox hg) | ((with_reducible refine gate_dst (N := 3) rfl ?_); refine bx_ 3 #[.slice A1_0 l1_0.length c1_0] 26 ?_; intro gb180 hg w20 hbox hb; have BK180 := Aside0.mk (hbox); have GW180 := gq_ hg (bq_ HB); have GE180 := gq_ hg (bq_ HB); replace HB := bp_ HB hb; have NB179_180 := nl_ hg BK179; have NB180_179 := ng_ hg BK179; replace BK179 := bk_ BK179 hb; clear hb hbox hg))
   replace BK179 := Aside0.mk (blk_drew BK179.out)
   replace BK180 := Aside0.mk (blk_drew BK180.out)
   replace HB := Aside0.mk (below_drew1 HB.out)
   refine start_ (n := 6) (S := fun w' => w'.cell? ⟨gb179, 0, none⟩ = some (.slice A0_0 l0_0.length c0_0) ∧ w'.cell? ⟨gb180, 0, none⟩ = some (.slice A1_0 l1_0.length c1_0)) (ds := []) (B_ 0 6) (by kernel_rfl) rfl rfl ⟨(blk_cell BK179.out 0).trans rfl, (blk_cell BK180.out 0).trans rfl⟩ (fun hHeld => ?_)
   generalize w20.drew = w21 at BK179 BK180 HB hHeld ⊢
   refine take_ (i := 0) (N := some 6) (v := ?_) (a' := ?_) (B_ 1 6) rfl rfl (by kernel_rfl) (fun _ _ _ h => h) (Or.inl ⟨by rfl, ?_⟩) hHeld ?_ ?_
   rotate_left
   · rintro w' ⟨s0, s1⟩
     go_simp
     with_reducible rfl
   rotate_left
   · simp only [Act.put, z1_, z2_, z3_, i64_w, i32_w]
     rfl
   refine take_ (i := 2) (N := some 8) (v := ?_) (a' := ?_) (B_ 5 6) rfl rfl (by kernel_rfl) (fun _ _ _ h => h) (Or.inl ⟨by rfl, ?_⟩) hHeld ?_ ?_
   rotate_left
   · rintro w' ⟨s0, s1⟩
     go_simp
     with_reducible rfl
   rotate_left
   · simp only [Act.put, z1_, z2_, z3_, i64_w, i32_w]
     rfl
   refine one_ (i := 1) (N := some 7) (B_ 7 6) rfl rfl (by kernel_rfl) (by decide) (fun K hK => ?_)
   refine goes_ Try.func68 (by kernel_rfl) rfl #[.agg #[.slice A0_0 l0_0.length c0_0]] (by rfl) rfl rfl (by (try simp only [List.map_toArray, List.map_cons, List.map_nil]); first | done | rfl | (simp only [List.length_drop, List.length_take]; rfl)) ?_
   with_reducible refine (impl_GenusOf.calls k _ _ l0_0 t181 _ ?side1 ?side2 A3.out).mono ?_
   (case side1 => exact ch_ HR0_0 HB)
   (case side2 => exact HC0_0.out)
   rintro e w22 ⟨rfl, hb⟩
   refine ⟨_, rfl, ?_⟩
   replace BK179 := bk_ BK179 hb
   replace BK180 := bk_ BK180 hb
   replace HB := bp_ HB hb
   (try clear hb)
   refine hK.out _ _ ⟨(blk_cell BK179.out 0).trans rfl, (blk_cell BK180.out 0).trans rfl⟩ (fun hHeld => ?_)
   clear hK K
   refine norm_ (a' := ?_) ?_ ?_
   rotate_left
   · show Act.put _ (some 7) _ = _
     simp only [Act.put, z1_, z2_, z3_, i64_w, i32_w]
     rfl
   refine one_ (i := 3) (N := some 9) (B_ 15 6) rfl rfl (by kernel_rfl) (by decide) (fun K hK => ?_)
   refine goes_ Try.func68 (by kernel_rfl) rfl #[.agg #[.slice A1_0 l1_0.length c1_0]] (by rfl) rfl rfl (by (try simp only [List.map_toArray, List.map_cons, List.map_nil]); first | done | rfl | (simp only [List.length_drop, List.length_take]; rfl)) ?_
   with_reducible refine (impl_GenusOf.calls k _ _ l1_0 t182 _ ?side1 ?side2 A4.out).mono ?_
   (case side1 => exact ch_ HR1_0 HB)
   (case side2 => exact HC1_0.out)
   rintro e w23 ⟨rfl, hb⟩
   refine ⟨_, rfl, ?_⟩
   replace BK179 := bk_ BK179 hb
   replace BK180 := bk_ BK180 hb
   replace HB := bp_ HB hb
   (try clear hb)
   refine hK.out _ _ ⟨(blk_cell BK179.out 0).trans rfl, (blk_cell BK180.out 0).trans rfl⟩ (fun hHeld => ?_)
   clear hK K
   refine norm_ (a' := ?_) ?_ ?_
   rotate_left
   · show Act.put _ (some 9) _ = _
     simp only [Act.put, z1_, z2_, z3_, i64_w, i32_w]
     rfl
   refine pure_ (i := 4) (N := some 10) (v := ?_) (a' := ?_) (B_ 31 6) rfl rfl (by kernel_rfl) (fun _ _ _ h => h) (Or.inl ⟨by rfl, ?_⟩) ?_ ?_
   rotate_left
   · intro w'
     go_simp
     with_reducible rfl
   rotate_left
   · simp only [Act.put, z1_, z2_, z3_, i64_w, i32_w]
     rfl
   refine pure_ (i := 5) (N := some 5) (v := ?_) (a' := ?_) (B_ 63 6) rfl rfl (by kernel_rfl) (fun _ _ _ h => h) (Or.inl ⟨by rfl, ?_⟩) ?_ ?_
   rotate_left
   · intro w'
     go_simp
     with_reducible rfl
   rotate_left
   · simp only [Act.put, z1_, z2_, z3_, i64_w, i32_w]
     rfl
   refine done_ (by kernel_rfl) ?_
   try go_wp2
   go_ret
   exact ⟨rf_, bq_ HB⟩
 rw [if_pos c5] at H
 have c5b0 : ((wrap64 (t181 - t182)) == 0) = true := beq_iff_eq.mpr c5
 have c5b1 : ((wrap64 (t181 - t182)) != 0) = false := bne_eq_false_iff_eq.mpr c5
 clear c5
 obtain ⟨t183, A6, H⟩ := ob_ H
 obtain ⟨t186, A7, H⟩ := ob_ H
 obtain ⟨t189, A8, H⟩ := ob_ H
 obtain rfl := Option.some.inj H
 go_enter Try.func78, Try.ntmps78
 try go_wp2_with (first | ((with_reducible refine gate_dst (N := 2) rfl ?_); refine bx_ 2 #[.slice A0_0 l0_0.length c0_0] 26 ?_; intro gb179 hg w9 hbox hb; have BK179 := Aside0.mk (hbox); have GW179 := gw_ hg HB; have GE179 := gw_ hg HB; replace HB := bo_ HB hb; clear hb hbox hg) | ((with_reducible refine gate_dst (N := 3) rfl ?_); refine bx_ 3 #[.slice A1_0 l1_0.length c1_0] 26 ?_; intro gb180 hg w10 hbox hb; have BK180 := Aside0.mk (hbox); have GW180 := gq_ hg (bq_ HB); have GE180 := gq_ hg (bq_ HB); replace HB := bp_ HB hb; have NB179_180 := nl_ hg BK179; have NB180_179 := ng_ hg BK179; replace BK179 := bk_ BK179 hb; clear hb hbox hg))
 replace BK179 := Aside0.mk (blk_drew BK179.out)
 replace BK180 := Aside0.mk (blk_drew BK180.out)
 replace HB := Aside0.mk (below_drew1 HB.out)
 refine start_ (n := 6) (S := fun w' => w'.cell? ⟨gb179, 0, none⟩ = some (.slice A0_0 l0_0.length c0_0) ∧ w'.cell? ⟨gb180, 0, none⟩ = some (.slice A1_0 l1_0.length c1_0)) (ds := []) (B_ 0 6) (by kernel_rfl) rfl rfl ⟨(blk_cell BK179.out 0).trans rfl, (blk_cell BK180.out 0).trans rfl⟩ (fun hHeld => ?_)
 generalize w10.drew = w11 at BK179 BK180 HB hHeld ⊢
 refine take_ (i := 0) (N := some 6) (v := ?_) (a' := ?_) (B_ 1 6) rfl rfl (by kernel_rfl) (fun _ _ _ h => h) (Or.inl ⟨by rfl, ?_⟩) hHeld ?_ ?_
 rotate_left
 · rintro w' ⟨s0, s1⟩
   go_simp
   with_reducible rfl
 rotate_left
 · simp only [Act.put, z1_, z2_, z3_, i64_w, i32_w]
   rfl
 refine take_ (i := 2) (N := some 8) (v := ?_) (a' := ?_) (B_ 5 6) rfl rfl (by kernel_rfl) (fun _ _ _ h => h) (Or.inl ⟨by rfl, ?_⟩) hHeld ?_ ?_
 rotate_left
 · rintro w' ⟨s0, s1⟩
   go_simp
   with_reducible rfl
 rotate_left
 · simp only [Act.put, z1_, z2_, z3_, i64_w, i32_w]
   rfl
 refine one_ (i := 1) (N := some 7) (B_ 7 6) rfl rfl (by kernel_rfl) (by decide) (fun K hK => ?_)
 refine goes_ Try.func68 (by kernel_rfl) rfl #[.agg #[.slice A0_0 l0_0.length c0_0]] (by rfl) rfl rfl (by (try simp only [List.map_toArray, List.map_cons, List.map_nil]); first | done | rfl | (simp only [List.length_drop, List.length_take]; rfl)) ?_
 with_reducible refine (impl_GenusOf.calls k _ _ l0_0 t181 _ ?side1 ?side2 A3.out).mono ?_
 (case side1 => exact ch_ HR0_0 HB)
 (case side2 => exact HC0_0.out)
 rintro e w12 ⟨rfl, hb⟩
 refine ⟨_, rfl, ?_⟩
 replace BK179 := bk_ BK179 hb
 replace BK180 := bk_ BK180 hb
 replace HB := bp_ HB hb
 (try clear hb)
 refine hK.out _ _ ⟨(blk_cell BK179.out 0).trans rfl, (blk_cell BK180.out 0).trans rfl⟩ (fun hHeld => ?_)
 clear hK K
 refine norm_ (a' := ?_) ?_ ?_
 rotate_left
 · show Act.put _ (some 7) _ = _
   simp only [Act.put, z1_, z2_, z3_, i64_w, i32_w]
   rfl
 refine one_ (i := 3) (N := some 9) (B_ 15 6) rfl rfl (by kernel_rfl) (by decide) (fun K hK => ?_)
 refine goes_ Try.func68 (by kernel_rfl) rfl #[.agg #[.slice A1_0 l1_0.length c1_0]] (by rfl) rfl rfl (by (try simp only [List.map_toArray, List.map_cons, List.map_nil]); first | done | rfl | (simp only [List.length_drop, List.length_take]; rfl)) ?_
 with_reducible refine (impl_GenusOf.calls k _ _ l1_0 t182 _ ?side1 ?side2 A4.out).mono ?_
 (case side1 => exact ch_ HR1_0 HB)
 (case side2 => exact HC1_0.out)
 rintro e w13 ⟨rfl, hb⟩
 refine ⟨_, rfl, ?_⟩
 replace BK179 := bk_ BK179 hb
 replace BK180 := bk_ BK180 hb
 replace HB := bp_ HB hb
 (try clear hb)
 refine hK.out _ _ ⟨(blk_cell BK179.out 0).trans rfl, (blk_cell BK180.out 0).trans rfl⟩ (fun hHeld => ?_)
 clear hK K
 refine norm_ (a' := ?_) ?_ ?_
 rotate_left
 · show Act.put _ (some 9) _ = _
   simp only [Act.put, z1_, z2_, z3_, i64_w, i32_w]
   rfl
 refine pure_ (i := 4) (N := some 10) (v := ?_) (a' := ?_) (B_ 31 6) rfl rfl (by kernel_rfl) (fun _ _ _ h => h) (Or.inl ⟨by rfl, ?_⟩) ?_ ?_
 rotate_left
 · intro w'
   go_simp
   with_reducible rfl
 rotate_left
 · simp only [Act.put, z1_, z2_, z3_, i64_w, i32_w]
   rfl
 refine pure_ (i := 5) (N := some 5) (v := ?_) (a' := ?_) (B_ 63 6) rfl rfl (by kernel_rfl) (fun _ _ _ h => h) (Or.inl ⟨by rfl, ?_⟩) ?_ ?_
 rotate_left
 · intro w'
   go_simp
   with_reducible rfl
 rotate_left
 · simp only [Act.put, z1_, z2_, z3_, i64_w, i32_w]
   rfl
 refine done_ (by kernel_rfl) ?_
 try go_wp2
 replace BK179 := Aside0.mk (blk_drew BK179.out)
 replace BK180 := Aside0.mk (blk_drew BK180.out)
 replace HB := Aside0.mk (below_drew1 HB.out)
 refine start_ (n := 6) (S := fun w' => w'.cell? ⟨gb179, 0, none⟩ = some (.slice A0_0 l0_0.length c0_0) ∧ w'.cell? ⟨gb180, 0, none⟩ = some (.slice A1_0 l1_0.length c1_0)) (ds := []) (B_ 0 6) (by kernel_rfl) rfl rfl ⟨(blk_cell BK179.out 0).trans rfl, (blk_cell BK180.out 0).trans rfl⟩ (fun hHeld => ?_)
 generalize w13.drew = w14 at BK179 BK180 HB hHeld ⊢
 refine take_ (i := 0) (N := some 14) (v := ?_) (a' := ?_) (B_ 1 6) rfl rfl (by kernel_rfl) (fun _ _ _ h => h) (Or.inl ⟨by rfl, ?_⟩) hHeld ?_ ?_
 rotate_left
 · rintro w' ⟨s0, s1⟩
   go_simp
   with_reducible rfl
 rotate_left
 · simp only [Act.put, z1_, z2_, z3_, i64_w, i32_w]
   rfl
 refine take_ (i := 2) (N := some 16) (v := ?_) (a' := ?_) (B_ 5 6) rfl rfl (by kernel_rfl) (fun _ _ _ h => h) (Or.inl ⟨by rfl, ?_⟩) hHeld ?_ ?_
 rotate_left
 · rintro w' ⟨s0, s1⟩
   go_simp
   with_reducible rfl
 rotate_left
 · simp only [Act.put, z1_, z2_, z3_, i64_w, i32_w]
   rfl
 refine one_ (i := 1) (N := some 15) (B_ 7 6) rfl rfl (by kernel_rfl) (by decide) (fun K hK => ?_)
 refine goes_ Try.func62 (by kernel_rfl) rfl #[.agg #[.slice A0_0 l0_0.length c0_0]] (by rfl) rfl rfl (by (try simp only [List.map_toArray, List.map_cons, List.map_nil]); first | done | rfl | (simp only [List.length_drop, List.length_take]; rfl)) ?_
 with_reducible refine (impl_Gaps.calls k _ _ l0_0 t183 _ ?side1 ?side2 A6.out).mono ?_
 (case side1 => exact ch_ HR0_0 HB)
 (case side2 => exact HC0_0.out)
 rintro e w15 ⟨v184, rfl, ho0, hb⟩
 refine ⟨_, rfl, ?_⟩
 have HO185 := Aside0.mk (Kd.R_lower ho0 (below_size (bq_ HB)))
 replace BK179 := bk_ BK179 hb
 replace BK180 := bk_ BK180 hb
 replace HB := bp_ HB hb
 (try clear hb)
 (try clear ho0)
 refine hK.out _ _ ⟨(blk_cell BK179.out 0).trans rfl, (blk_cell BK180.out 0).trans rfl⟩ (fun hHeld => ?_)
 clear hK K
 refine norm_ (a' := ?_) ?_ ?_
 rotate_left
 · show Act.put _ (some 15) _ = _
   simp only [Act.put, z1_, z2_, z3_, i64_w, i32_w]
   rfl
 refine one_ (i := 3) (N := some 17) (B_ 15 6) rfl rfl (by kernel_rfl) (by decide) (fun K hK => ?_)
 refine goes_ Try.func62 (by kernel_rfl) rfl #[.agg #[.slice A1_0 l1_0.length c1_0]] (by rfl) rfl rfl (by (try simp only [List.map_toArray, List.map_cons, List.map_nil]); first | done | rfl | (simp only [List.length_drop, List.length_take]; rfl)) ?_
 with_reducible refine (impl_Gaps.calls k _ _ l1_0 t186 _ ?side1 ?side2 A7.out).mono ?_
 (case side1 => exact ch_ HR1_0 HB)
 (case side2 => exact HC1_0.out)
 rintro e w16 ⟨v187, rfl, ho0, hb⟩
 refine ⟨_, rfl, ?_⟩
 have HO188 := Aside0.mk (Kd.R_lower (Kd.R_new' ho0 (Kd.R_lt (re_ HO185.out))) (below_size (bq_ HB)))
 replace HO185 := Aside0.mk (Kd.R_elder' (re_ HO185.out) (Kd.R_base ho0) hb)
 replace BK179 := bk_ BK179 hb
 replace BK180 := bk_ BK180 hb
 replace HB := bp_ HB hb
 (try clear hb)
 (try clear ho0)
 obtain ⟨Ao17, co17, eo17⟩ := Kd.R_slice HO185.out
 (first | subst eo17 | (injection eo17 with f1_ f2_ f3_; have f4_ := f1_.symm; have f5_ := f3_.symm; clear f1_ f2_ f3_; subst f4_; subst f5_))
 obtain ⟨Ao18, co18, eo18⟩ := Kd.R_slice HO188.out
 (first | subst eo18 | (injection eo18 with f1_ f2_ f3_; have f4_ := f1_.symm; have f5_ := f3_.symm; clear f1_ f2_ f3_; subst f4_; subst f5_))
 refine hK.out _ _ ⟨(blk_cell BK179.out 0).trans rfl, (blk_cell BK180.out 0).trans rfl⟩ (fun hHeld => ?_)
 clear hK K
 refine norm_ (a' := ?_) ?_ ?_
 rotate_left
 · show Act.put _ (some 17) _ = _
   simp only [Act.put, z1_, z2_, z3_, i64_w, i32_w]
   rfl
 refine one_ (i := 4) (N := some 18) (B_ 31 6) rfl rfl (by kernel_rfl) (by decide) (fun K hK => ?_)
 refine goes_ Try.func79 (by kernel_rfl) rfl #[.slice Ao17 t183.length co17, .slice Ao18 t186.length co18] (by rfl) rfl rfl (by (try simp only [List.map_toArray, List.map_cons, List.map_nil]); first | done | rfl | (simp only [List.length_drop, List.length_take]; rfl)) ?_
 with_reducible refine (slices_Compare_int_int.calls k _ _ t183 _ _ t186 t189 _ ?side1 ?side2 ?side3 ?side4 A8.out).mono ?_
 (case side1 => exact ce_ ((Kd.R_reads' HO185.out).2.2))
 (case side2 => exact (Kd.R_reads' HO185.out).2.1)
 (case side3 => exact ce_ ((Kd.R_reads' HO188.out).2.2))
 (case side4 => exact (Kd.R_reads' HO188.out).2.1)
 rintro e w' ⟨rfl, ⟨nd, rfl⟩⟩
 refine ⟨_, rfl, ?_⟩
 refine hK.out _ _ ⟨(blk_cell BK179.out 0).trans rfl, (blk_cell BK180.out 0).trans rfl⟩ (fun hHeld => ?_)
 clear hK K
 refine norm_ (a' := ?_) ?_ ?_
 rotate_left
 · show Act.put _ (some 18) _ = _
   simp only [Act.put, z1_, z2_, z3_, i64_w, i32_w]
   rfl
 refine pure_ (i := 5) (N := some 4) (v := ?_) (a' := ?_) (B_ 63 6) rfl rfl (by kernel_rfl) (fun _ _ _ h => h) (Or.inl ⟨by rfl, ?_⟩) ?_ ?_
 rotate_left
 · intro w'
   go_simp
   with_reducible rfl
 rotate_left
 · simp only [Act.put, z1_, z2_, z3_, i64_w, i32_w]
   rfl
 refine done_ (by kernel_rfl) ?_
 try go_wp2
 go_ret
 exact ⟨rf_, bq_ HB⟩
def laws_eqIntS.l0 : Nat → List Int → List Int → Int → Option (Bool)
 | 0, _, _, _ => none
 | k + 1, x0, x1, x5 => if x5 < (x0.length : Int) then (if 0 ≤ x5 then (if x5 < (x1.length : Int) then (if (rd x0 x5) = (rd x1 x5) then (laws_eqIntS.l0 k x0 x1 (wrap64 (x5 + 1))) else (some false)) else (none)) else (none)) else (some true)
def laws_eqIntS.f (k : Nat) (l0 : List Int) (l1 : List Int) : Option (Bool) := if (l0.length : Int) = (l1.length : Int) then (laws_eqIntS.l0 k l0 l1 0) else (some false)
theorem laws_eqIntS.calls (k : Nat) (A0 : Option Addr) (c0 : Nat) (l0 : List Int) (A1 : Option Addr) (c1 : Nat) (l1 : List Int) (r : Bool) (w : World) (hr0 : Kd.C (Kd.int .i64) w A0 l0.length l0) (hc0 : l0.length ≤ c0) (hr1 : Kd.C (Kd.int .i64) w A1 l1.length l1) (hc1 : l1.length ≤ c1) (h : laws_eqIntS.f k l0 l1 = some r) :
 Calls Try.prog 30 #[.slice A0 l0.length c0, .slice A1 l1.length c1] w fun e w' => e = .returned (.bool r) ∧ Drawn0 w w' := by
 have HR0 := Aside0.mk hr0
 have HC0 := Aside0.mk hc0
 clear hr0 hc0
 have HR1 := Aside0.mk hr1
 have HC1 := Aside0.mk hc1
 clear hr1 hc1
 have H := h
 clear h
 unfold laws_eqIntS.f at H
 by_cases c3 : (l0.length : Int) = (l1.length : Int)
 rotate_left
 · rw [if_neg c3] at H
   have c3b0 : ((l0.length : Int) == (l1.length : Int)) = false := beq_eq_false_iff_ne.mpr c3
   have c3b1 : ((l0.length : Int) != (l1.length : Int)) = true := bne_iff_ne.mpr c3
   have c3b2 : (l0.length == l1.length) = false := by first | simpa using c3 | (simp at c3 ⊢; omega)
   obtain rfl := Option.some.inj H
   go_enter Try.func30, Try.ntmps30
   go_wp2
   repeat (go_quiet (fail); try go_wp2)
   go_ret
   exact ⟨by first | rfl | (simp; done) | (simp [*]; done), by repeat (first | exact Drawn0.refl _ | apply Drawn0.step)⟩
 rw [if_pos c3] at H
 have c3b0 : ((l0.length : Int) == (l1.length : Int)) = true := beq_iff_eq.mpr c3
 have c3b1 : ((l0.length : Int) != (l1.length : Int)) = false := bne_eq_false_iff_eq.mpr c3
 have c3b2 : (l0.length == l1.length) = true := by first | simpa using c3 | (simp at c3 ⊢; omega)
 clear c3
 have H' := Aside0.mk H
 clear H
 go_enter Try.func30, Try.ntmps30
 go_wp2
 repeat (go_quiet (fail); try go_wp2)
 go_loopg [5] k (fun kq v5 w' => ∃ (x5_1 : Int), v5 = .int .i64 x5_1 ∧ Aside0 (laws_eqIntS.l0 kq l0 l1 x5_1 = some r) ∧ Aside0 (kq ≤ k) ∧ Drawn0 w w')
 case atStart => exact ⟨(0), rs_, H', ⟨Nat.le_refl _⟩, by repeat (first | exact Drawn0.refl _ | apply Drawn0.step)⟩
 case round =>
  clear H'
  try clear c1
  try clear c3b0
  try clear c3b1
  try clear c3b2
  obtain ⟨x5_1, rfl, HA, HK1, ⟨m1, rfl⟩⟩ := hrel
  cases gk with
  | zero => exact absurd HA.out (by simp [laws_eqIntS.l0])
  | succ k1 =>
   have H := HA.out
   clear HA
   simp only [laws_eqIntS.l0] at H
   by_cases c4 : x5_1 < (l0.length : Int)
   rotate_left
   · rw [if_neg c4] at H
     have c4b0 : decide (x5_1 < (l0.length : Int)) = false := decide_eq_false c4
     clear c4
     obtain rfl := Option.some.inj H
     go_wp2
     repeat (go_quiet (fail); try go_wp2)
     go_ret
     exact ⟨by first | rfl | (simp; done) | (simp [*]; done), by repeat (first | exact Drawn0.refl _ | apply Drawn0.step)⟩
   rw [if_pos c4] at H
   have c4b0 : decide (x5_1 < (l0.length : Int)) = true := decide_eq_true c4
   clear c4
   obtain ⟨c5b0, H⟩ := ipd_ H
   obtain ⟨c6b0, H⟩ := ipd_ H
   by_cases c7 : (rd l0 x5_1) = (rd l1 x5_1)
   rotate_left
   · rw [if_neg c7] at H
     have c7b0 : ((rd l0 x5_1) == (rd l1 x5_1)) = false := beq_eq_false_iff_ne.mpr c7
     have c7b1 : ((rd l0 x5_1) != (rd l1 x5_1)) = true := bne_iff_ne.mpr c7
     obtain rfl := Option.some.inj H
     have p190 : 0 ≤ (x5_1 : Int) := od_
     have q190 : x5_1 < (l0.length : Int) := od_
     obtain ⟨ad190, e190, hx190_0⟩ := Kd.at_int HR0.out x5_1 p190 q190
     cases e190
     replace p190 := eq_true p190
     replace q190 := eq_true q190
     have p191 : 0 ≤ (x5_1 : Int) := od_
     have q191 : x5_1 < (l1.length : Int) := od_
     obtain ⟨ad191, e191, hx191_0⟩ := Kd.at_int HR1.out x5_1 p191 q191
     cases e191
     replace p191 := eq_true p191
     replace q191 := eq_true q191
     go_wp2
     repeat (go_quiet (fail); try go_wp2)
     go_ret
     exact ⟨by first | rfl | (simp; done) | (simp [*]; done), by repeat (first | exact Drawn0.refl _ | apply Drawn0.step)⟩
   rw [if_pos c7] at H
   have c7b0 : ((rd l0 x5_1) == (rd l1 x5_1)) = true := beq_iff_eq.mpr c7
   have c7b1 : ((rd l0 x5_1) != (rd l1 x5_1)) = false := bne_eq_false_iff_eq.mpr c7
   clear c7
   have H' := Aside0.mk H
   clear H
   have p190 : 0 ≤ (x5_1 : Int) := od_
   have q190 : x5_1 < (l0.length : Int) := od_
   obtain ⟨ad190, e190, hx190_0⟩ := Kd.at_int HR0.out x5_1 p190 q190
   cases e190
   replace p190 := eq_true p190
   replace q190 := eq_true q190
   have p191 : 0 ≤ (x5_1 : Int) := od_
   have q191 : x5_1 < (l1.length : Int) := od_
   obtain ⟨ad191, e191, hx191_0⟩ := Kd.at_int HR1.out x5_1 p191 q191
   cases e191
   replace p191 := eq_true p191
   replace q191 := eq_true q191
   go_wp2
   repeat (go_quiet (fail); try go_wp2)
   go_roundg k1
   case measure => have := HK1.out; omega
   case rel => exact ⟨(wrap64 (x5_1 + 1)), rs_, H', ⟨by have := HK1.out; omega⟩, by repeat (first | exact Drawn0.refl _ | apply Drawn0.step)⟩
def laws_eqSemigroup.f (k : Nat) (l0_0 : List Int) (l1_0 : List Int) : Option (Bool) := (laws_eqIntS.f k l0_0 l1_0).bind fun t194 => (if t194 = true then (some true) else (some false))
theorem laws_eqSemigroup.calls (k : Nat) (A0_0 : Option Addr) (c0_0 : Nat) (l0_0 : List Int) (A1_0 : Option Addr) (c1_0 : Nat) (l1_0 : List Int) (r : Bool) (w : World) (hr0_0 : Kd.C (Kd.int .i64) w A0_0 l0_0.length l0_0) (hc0_0 : l0_0.length ≤ c0_0) (hr1_0 : Kd.C (Kd.int .i64) w A1_0 l1_0.length l1_0) (hc1_0 : l1_0.length ≤ c1_0) (h : laws_eqSemigroup.f k l0_0 l1_0 = some r) :
 Calls Try.prog 11 #[.agg #[.slice A0_0 l0_0.length c0_0], .agg #[.slice A1_0 l1_0.length c1_0]] w fun e w' => e = .returned (.bool r) ∧ Below w.heap.size w w' := by
 have hu26 := Try.underlying26
 have HR0_0 := Aside0.mk hr0_0
 have HC0_0 := Aside0.mk hc0_0
 clear hr0_0 hc0_0
 have HR1_0 := Aside0.mk hr1_0
 have HC1_0 := Aside0.mk hc1_0
 clear hr1_0 hc1_0
 have HB := Aside0.mk (Below.refl w.heap.size w)
 have H := h
 clear h
 unfold laws_eqSemigroup.f at H
 obtain ⟨t194, A3, H⟩ := ob_ H
 by_cases c4 : t194 = true
 · subst c4
   rw [if_pos rfl] at H
   obtain rfl := Option.some.inj H
   go_enter Try.func11, Try.ntmps11
   go_wp2_with (first | ((with_reducible refine gate_dst (N := 2) rfl ?_); refine bx_ 2 #[.slice A0_0 l0_0.length c0_0] 26 ?_; intro gb192 hg w5 hbox hb; have BK192 := Aside0.mk (hbox); have GW192 := gw_ hg HB; have GE192 := gw_ hg HB; replace HB := bo_ HB hb; clear hb hbox hg) | ((with_reducible refine gate_dst (N := 3) rfl ?_); refine bx_ 3 #[.slice A1_0 l1_0.length c1_0] 26 ?_; intro gb193 hg w6 hbox hb; have BK193 := Aside0.mk (hbox); have GW193 := gq_ hg (bq_ HB); have GE193 := gq_ hg (bq_ HB); replace HB := bp_ HB hb; have NB192_193 := nl_ hg BK192; have NB193_192 := ng_ hg BK192; replace BK192 := bk_ BK192 hb; clear hb hbox hg; have hnb7 := NB192_193.out; have hnc7 := NB193_192.out; have hcz8_0 := cz_ BK192; have hfz8_0 := blk_frozen BK192.out 0; have hcz9_0 := cz_ BK193; have hfz9_0 := blk_frozen BK193.out 0) | ((with_reducible refine gate_callee (f := 30) rfl ?_); refine gL_ (some 9) Try.func30 #[.slice A0_0 l0_0.length c0_0, .slice A1_0 l1_0.length c1_0] ?_; (with_reducible refine (laws_eqIntS.calls k _ _ l0_0 _ _ l1_0 true _ ?side1 ?side2 ?side3 ?side4 A3.out).mono ?_); (case side1 => exact ch_ HR0_0 HB); (case side2 => exact HC0_0.out); (case side3 => exact ch_ HR1_0 HB); (case side4 => exact HC1_0.out); rintro e w' ⟨rfl, ⟨nd, rfl⟩⟩; refine ⟨_, rfl, ?_⟩))
   go_ret
   exact ⟨rf_, bq_ HB⟩
 replace c4 := Bool.eq_false_iff.mpr c4
 subst c4
 rw [if_neg (show ¬ (false = true) by decide)] at H
 obtain rfl := Option.some.inj H
 go_enter Try.func11, Try.ntmps11
 go_wp2_with (first | ((with_reducible refine gate_dst (N := 2) rfl ?_); refine bx_ 2 #[.slice A0_0 l0_0.length c0_0] 26 ?_; intro gb192 hg w10 hbox hb; have BK192 := Aside0.mk (hbox); have GW192 := gw_ hg HB; have GE192 := gw_ hg HB; replace HB := bo_ HB hb; clear hb hbox hg) | ((with_reducible refine gate_dst (N := 3) rfl ?_); refine bx_ 3 #[.slice A1_0 l1_0.length c1_0] 26 ?_; intro gb193 hg w11 hbox hb; have BK193 := Aside0.mk (hbox); have GW193 := gq_ hg (bq_ HB); have GE193 := gq_ hg (bq_ HB); replace HB := bp_ HB hb; have NB192_193 := nl_ hg BK192; have NB193_192 := ng_ hg BK192; replace BK192 := bk_ BK192 hb; clear hb hbox hg; have hnb12 := NB192_193.out; have hnc12 := NB193_192.out; have hcz13_0 := cz_ BK192; have hfz13_0 := blk_frozen BK192.out 0; have hcz14_0 := cz_ BK193; have hfz14_0 := blk_frozen BK193.out 0) | ((with_reducible refine gate_callee (f := 30) rfl ?_); refine gL_ (some 9) Try.func30 #[.slice A0_0 l0_0.length c0_0, .slice A1_0 l1_0.length c1_0] ?_; (with_reducible refine (laws_eqIntS.calls k _ _ l0_0 _ _ l1_0 false _ ?side1 ?side2 ?side3 ?side4 A3.out).mono ?_); (case side1 => exact ch_ HR0_0 HB); (case side2 => exact HC0_0.out); (case side3 => exact ch_ HR1_0 HB); (case side4 => exact HC1_0.out); rintro e w' ⟨rfl, ⟨nd, rfl⟩⟩; refine ⟨_, rfl, ?_⟩))
 go_ret
 exact ⟨rf_, bq_ HB⟩
end Go.Proofs.Ytonknpgfbkgbjaa.PC
end
section
namespace Go.Proofs.Ytonknpgfbkgbjaa.E
open Go.RowKit Go.Proofs.YtonknpgfbkgbjaaW.PrintWords Go.Proofs.YtonknpgfbkgbjaaW.PrintLast Go.Proofs.YtonknpgfbkgbjaaW.PrintMore
set_option linter.unusedVariables false
set_option linter.unusedSimpArgs false
theorem w64 {x : Int} (h1 : -9223372036854775808 ≤ x) (h2 : x ≤ 9223372036854775807) : wrap64 x = x := by
 unfold wrap64; omega
theorem nd_t {p : Prop} [Decidable p] (h : ¬ p) : (!decide p) = true := by simp [h]
theorem nd_f {p : Prop} [Decidable p] (h : p) : ¬ (!decide p) = true := by simp [h]
theorem emod_le_self {n x : Int} (h : 0 ≤ n) (hx : 0 < x) : n % x ≤ n := by
 have h1 := Int.mul_ediv_add_emod n x
 have h2 : 0 ≤ x * (n / x) := Int.mul_nonneg (by omega) (Int.ediv_nonneg h (by omega))
 omega
theorem ev_ifp {α : Type} {c : Prop} [Decidable c] {a b : Nat → Option α} {r : α} (h : c) (k : Ev a r) : Ev (fun n => if c then a n else b n) r :=
 Ev.congr (fun _ => if_pos h) k
theorem ev_ifn {α : Type} {c : Prop} [Decidable c] {a b : Nat → Option α} {r : α} (h : ¬ c) (k : Ev b r) : Ev (fun n => if c then a n else b n) r :=
 Ev.congr (fun _ => if_neg h) k
theorem ev_bind {α β : Type} {g : Nat → Option α} {f : Nat → α → Option β} (a : α) {r : β} (h : Ev g a) (k : Ev (fun n => f n a) r) : Ev (fun n => (g n).bind (f n)) r := Ev.bind h k
theorem ev_one {α : Type} {g : Nat → Option α} {a b : α} (h : Ev g a) (k : Ev g b) : a = b := by
 obtain ⟨K, h⟩ := h
 obtain ⟨L, k⟩ := k
 have h1 := h (max K L) (by omega)
 have h2 := k (max K L) (by omega)
 rw [h1] at h2
 exact Option.some.inj h2
theorem ev_to {α : Type} {g : Nat → Option α} {a b : α} (h : Ev g a) (e : a = b) : Ev g b := e ▸ h
theorem rd_lt {l : List Int} {i : Int} (h0 : 0 ≤ i) (h : i < l.length) : rd l i = l[i.toNat]'(by omega) := by
 unfold rd; rw [List.getD_eq_getElem?_getD, List.getElem?_eq_getElem (by omega)]; rfl
theorem rd_mem {l : List Int} {i : Int} (h0 : 0 ≤ i) (h : i < l.length) : rd l i ∈ l := by
 rw [rd_lt h0 h]; exact List.getElem_mem _
theorem drop_rd {l : List Int} {i : Int} (h0 : 0 ≤ i) (h : i < l.length) : l.drop i.toNat = rd l i :: l.drop (i + 1).toNat := by
 rw [rd_lt h0 h, List.drop_eq_getElem_cons (by omega)]
 congr 2; omega
theorem take_rd {l : List Int} {i : Int} (h0 : 0 ≤ i) (h : i < l.length) : l.take (i + 1).toNat = l.take i.toNat ++ [rd l i] := by
 rw [rd_lt h0 h, show (i + 1).toNat = i.toNat + 1 from by omega, List.take_succ_eq_append_getElem (by omega)]
theorem rd_ext {l m : List Int} (hl : l.length = m.length) (h : ∀ i : Int, 0 ≤ i → i < l.length → rd l i = rd m i) : l = m := by
 refine List.ext_getElem hl fun n h1 h2 => ?_
 have := h n (by omega) (by omega)
 rw [rd_lt (by omega) (by omega), rd_lt (by omega) (by omega)] at this
 simpa using this
theorem rd_set {l : List Int} {i j : Int} (x : Int) (hi : 0 ≤ i) (hi' : i < l.length) (hj : 0 ≤ j) : rd (l.set i.toNat x) j = if j = i then x else rd l j := by
 unfold rd
 rw [List.getD_eq_getElem?_getD, List.getD_eq_getElem?_getD, List.getElem?_set]
 by_cases h : j = i
 · subst h; rw [if_pos rfl, if_pos rfl, if_pos (by omega)]; rfl
 · rw [if_neg h, if_neg (by omega)]
theorem rd_append {l m : List Int} {i : Int} (hi : 0 ≤ i) : rd (l ++ m) i = if i < l.length then rd l i else rd m (i - l.length) := by
 unfold rd
 rw [List.getD_eq_getElem?_getD, List.getD_eq_getElem?_getD, List.getD_eq_getElem?_getD, List.getElem?_append]
 by_cases h : i < l.length
 · rw [if_pos h, if_pos (by omega)]
 · rw [if_neg h, if_neg (by omega), show i.toNat - l.length = (i - l.length).toNat from by omega]
theorem rd_rep {n : Nat} {x : Int} {i : Int} (hi : 0 ≤ i) (h : i < n) : rd (List.replicate n x) i = x := by
 rw [rd_lt hi (by simpa using h)]; simp
theorem mem_rd {l : List Int} {x : Int} (h : x ∈ l) : ∃ i : Int, 0 ≤ i ∧ i < l.length ∧ rd l i = x := by
 obtain ⟨n, hn, rfl⟩ := List.mem_iff_getElem.1 h
 exact ⟨n, by omega, by omega, by rw [rd_lt (by omega) (by omega)]; simp⟩
def marks (a : Int) : Nat → List Int
 | 0 => []
 | n + 1 => a :: marks (a + 1) n
theorem marks_len (a : Int) (n : Nat) : (marks a n).length = n := by
 induction n generalizing a with
 | zero => rfl
 | succ n ih => simp [marks, ih]
theorem marks_rd (a : Int) (n : Nat) (i : Int) (h0 : 0 ≤ i) (h : i < n) : rd (marks a n) i = a + i := by
 induction n generalizing a i with
 | zero => omega
 | succ n ih =>
  by_cases h1 : i = 0
  · subst h1; simp [marks, rd]
  · have := ih (a + 1) (i - 1) (by omega) (by omega)
    unfold rd at this ⊢
    rw [marks, show i.toNat = (i - 1).toNat + 1 from by omega, List.getD_cons_succ, this]
    omega
def resW {α : Type} : Result α → World
 | .ok _ w => w
 | .halt _ w => w
theorem ask_dr {α : Type} : ∀ (k : Ask α) (w : World), w.drawn ≤ (w.ask k).2.drawn
 | .done a, w => Nat.le_refl _
 | .ask what range k, w => by
  unfold World.ask
  simp only
  split
  · exact ask_dr (k 0) w
  · exact Nat.le_trans (Nat.le_succ _) (ask_dr (k _) { w with drawn := w.drawn + 1 })
theorem sys_dr (w : World) (c : Sys) : w.drawn ≤ (w.sys c).2.drawn := by
 have h := ask_dr (Kernel.perform c w.os) w
 unfold World.sys
 split
 · exact Nat.le_refl _
 · rename_i r os w1 _ e; rw [e] at h; exact h
theorem far_dr {p : Program} {w w' : World} {a : Addr} {v : Value} {b : Bool} {t : List Addr} (h : w.farStore p a v b = .ok (w', t)) : w'.drawn = w.drawn := by
 unfold World.farStore at h
 split at h
 · split at h
   · rename_i r e
     injection h with h; subst h
     unfold World.viewStore at e
     simp only [bind, Except.bind, pure, Except.pure, throw, throwThe, MonadExceptOf.throw] at e
     repeat' split at e
     all_goals first | (injection e with e; injection e with e _; rw [← e]) | cases e
   · cases h
 · cases h
theorem freeze_dr (w : World) (a : Addr) (n : Nat) : (w.freeze a n).drawn = w.drawn := by unfold World.freeze; split <;> rfl
theorem runT_dr {α : Type} (p : Program) (s : Sem α) : ∀ (w : World) (es : Array Event), w.drawn ≤ (resW (s.runT p w es).1).drawn := by
 induction s with
 | pure a => intro w es; exact Nat.le_refl _
 | halt h => intro w es; exact Nat.le_refl _
 | load m a k ih =>
  intro w es; unfold Sem.runT
  split
  · exact ih _ w _
  · split
    · exact ih _ w _
    · exact Nat.le_refl _
 | store m a v k ih =>
  intro w es
  have c : w.drawn ≤ (resW (match w.cell? a with
   | some _ => if w.frozen? a then (.halt (.unsupported (.unsafePointer "a write to bytes that a string shares")) w, es) else k.runT p (w.setCell a v) (es.push ⟨.cell a, true, m == .atomic⟩)
   | none => match w.farStore p a v (m == .atomic) with
    | .ok (w, touched) => k.runT p w (es ++ touched.toArray.map (⟨.cell ·, true, m == .atomic⟩))
    | .error h => (.halt h w, es) : Result α × Array Event).1).drawn := by
   split
   · split
     · exact Nat.le_refl _
     · exact ih (w.setCell a v) _
   · split
     · rename_i e; rw [← far_dr e]; exact ih _ _
     · exact Nat.le_refl _
  cases v <;> first | exact c | exact Nat.le_refl _
 | new o k ih => intro w es; exact ih _ { w with heap := w.heap.push o } es
 | shape r k ih => intro w es; exact ih _ w es
 | freeze a n k ih => intro w es; have := ih (w.freeze a n) es; rw [freeze_dr] at this; exact this
 | frozen a k ih => intro w es; exact ih _ w es
 | getObj r k ih => intro w es; unfold Sem.runT; split <;> first | exact Nat.le_refl _ | exact ih _ w _
 | setObj r o k ih => intro w es; unfold Sem.runT; split <;> first | exact Nat.le_refl _ | exact ih { w with heap := w.heap.setIfInBounds r o } _
 | choose q k ih =>
  intro w es; unfold Sem.runT; split
  · exact ih _ w _
  · exact Nat.le_trans (Nat.le_succ _) (ih _ { w with drawn := w.drawn + 1 } _)
 | sys c k ih => intro w es; exact Nat.le_trans (sys_dr w c) (ih _ (w.sys c).2 _)
 | program k ih => intro w es; exact ih p w es
 | mark m k ih => intro w es; exact ih w _
theorem run_dr {α : Type} (p : Program) (s : Sem α) : ∀ (w : World), w.drawn ≤ (resW (s.run p w)).drawn := by
 induction s with
 | pure a => intro w; exact Nat.le_refl _
 | halt h => intro w; exact Nat.le_refl _
 | load m a k ih =>
  intro w; unfold Sem.run
  split
  · exact ih _ w
  · split
    · exact ih _ w
    · exact Nat.le_refl _
 | store m a v k ih =>
  intro w
  have c : w.drawn ≤ (resW (match w.cell? a with
   | some _ => if w.frozen? a then .halt (.unsupported (.unsafePointer "a write to bytes that a string shares")) w else k.run p (w.setCell a v)
   | none => match w.farStore p a v (m == .atomic) with
    | .ok (w, _) => k.run p w
    | .error h => .halt h w : Result α)).drawn := by
   split
   · split
     · exact Nat.le_refl _
     · exact ih (w.setCell a v)
   · split
     · rename_i e; rw [← far_dr e]; exact ih _
     · exact Nat.le_refl _
  cases v <;> first | exact c | exact Nat.le_refl _
 | new o k ih => intro w; exact ih _ { w with heap := w.heap.push o }
 | shape r k ih => intro w; exact ih _ w
 | freeze a n k ih => intro w; have := ih (w.freeze a n); rw [freeze_dr] at this; exact this
 | frozen a k ih => intro w; exact ih _ w
 | getObj r k ih => intro w; unfold Sem.run; split <;> first | exact Nat.le_refl _ | exact ih _ w
 | setObj r o k ih => intro w; unfold Sem.run; split <;> first | exact Nat.le_refl _ | exact ih { w with heap := w.heap.setIfInBounds r o }
 | choose q k ih =>
  intro w; unfold Sem.run; split
  · exact ih _ w
  · exact Nat.le_trans (Nat.le_succ _) (ih _ { w with drawn := w.drawn + 1 })
 | sys c k ih => intro w; exact Nat.le_trans (sys_dr w c) (ih _ (w.sys c).2)
 | program k ih => intro w; exact ih p w
 | mark m k ih => intro w; exact ih w
theorem ran {α : Type} {p : Program} {s : Sem α} {w : World} {r : Result α} (h : s.run p w = r) : w.drawn ≤ (resW r).drawn := h ▸ run_dr p s w
theorem ranT {α : Type} {p : Program} {s : Sem α} {w : World} {es es' : Array Event} {r : Result α} (h : s.runT p w es = (r, es')) : w.drawn ≤ (resW r).drawn := by
 have := runT_dr p s w es; rw [h] at this; exact this
def GOk (d : Nat) : GStep → Prop
 | .ended .. => True
 | .go _ w _ | .comm _ _ _ _ w _ | .spawn _ _ w _ | .count _ w _ | .timer _ _ w _ | .alone _ _ w _ | .newcoro _ _ _ w _ | .coroswitch _ _ _ w _ | .collect _ w _ | .watch _ w _ => d ≤ w.drawn
theorem GOk.after {d : Nat} {es : Array Event} {s : GStep} (h : GOk d s) : GOk d (GStep.after es s) := by cases s <;> exact h
theorem GOk.up {d d' : Nat} {s : GStep} (h : GOk d s) (k : d' ≤ d) : GOk d' s := by cases s <;> first | trivial | exact Nat.le_trans k h
theorem doReturn_dr (p : Program) (main : Bool) (fr : Frame) (cs : List Frame) (dy : Option Dying) (v : Value) (w : World) : GOk w.drawn (doReturn p main fr cs dy v w) := by
 unfold doReturn
 repeat' split
 all_goals first | trivial | exact Nat.le_refl _
theorem endWith_dr (w : World) (fd : Nat) (t : ByteArray) (o : Outcome) (d : Nat) : GOk d (endWith w fd t o) := by
 unfold endWith; simp only
 repeat' split
 all_goals trivial
theorem endThrow_dr (fr : Frame) (m : String) (w : World) : GOk w.drawn (endThrow fr m w) := Nat.le_refl _
theorem endPrinting_dr (p : Program) (fr : Frame) (v : Value) (w : World) : GOk w.drawn (endPrinting p fr v w) := by
 unfold endPrinting; simp only
 split
 · exact endThrow_dr _ _ _
 · trivial
theorem endFatal_dr (p : Program) (fr : Frame) (cs : List Frame) (dy : Option Dying) (m : String) (w : World) : GOk w.drawn (endFatal p fr cs dy m w) := by
 unfold endFatal; simp only
 split
 · rename_i h; exact ran h
 · trivial
 · trivial
theorem GOk.ite {c : Prop} [Decidable c] {d : Nat} {a b : GStep} (h : GOk d a) (k : GOk d b) : GOk d (if c then a else b) := by split <;> assumption
theorem callDeferred_dr (p : Program) (fr : Frame) (cs : List Frame) (dy : Option Dying) (df : Deferred) (w : World) : GOk w.drawn (callDeferred p fr cs dy df w) := by
 unfold callDeferred
 refine GOk.ite trivial ?_
 have h := runT_dr p (invoke df.target df.args) w #[]
 generalize (invoke df.target df.args).runT p w #[] = y at h ⊢
 obtain ⟨r, es⟩ := y
 simp only
 refine GOk.after ?_
 split
 all_goals first | trivial | exact h | (split <;> exact h) | exact (endFatal_dr _ _ _ _ _ _).up h | exact (endThrow_dr _ _ _).up h
theorem unwind_dr (p : Program) (main : Bool) (fr : Frame) (cs : List Frame) (dy : Option Dying) (w : World) : GOk w.drawn (unwind p main fr cs dy w) := by
 unfold unwind
 split
 · rename_i b _ ds _
   have h := runT_dr p (Instr.takeDeferred b) w #[]
   generalize (Instr.takeDeferred b).runT p w #[] = y at h ⊢
   obtain ⟨r, es⟩ := y
   simp only
   refine GOk.after ?_
   split
   · exact h
   · trivial
 · exact callDeferred_dr _ _ _ _ _ _
 · split
   · trivial
   · split
     · trivial
     · split
       · exact Nat.le_refl _
       · split
         · split
           · exact Nat.le_refl _
           · split
             · rename_i h; exact ran h
             · trivial
             · trivial
         · split
           · exact endPrinting_dr _ _ _ _
           · trivial
   · split
     · exact doReturn_dr _ _ _ _ _ _ _
     · rename_i fn _
       have h := runT_dr p (results fn fr.tmps) w #[]
       generalize (results fn fr.tmps).runT p w #[] = y at h ⊢
       obtain ⟨r, es⟩ := y
       simp only
       refine GOk.after ?_
       split
       · exact (doReturn_dr _ _ _ _ _ _ _).up h
       · trivial
       · trivial
theorem writeOn_dr (p : Program) (fr : Frame) (dy : Dying) (f : Fatal) (w : World) : GOk w.drawn (writeOn p fr dy f w) := by
 unfold writeOn; simp only
 split
 · trivial
 · split <;> first | trivial | (rename_i h; exact ranT h)
theorem die_dr (p : Program) (fr : Frame) (dy : Dying) (w : World) : GOk w.drawn (die p fr dy w) := by
 unfold die
 split
 · exact writeOn_dr _ _ _ _ _
 · split
   · split
     · exact Nat.le_refl _
     · exact endWith_dr _ _ _ _ _
   · split
     · exact Nat.le_refl _
     · split
       · rename_i h; exact ran h
       · trivial
     · rename_i t recv name _
       have h := runT_dr p (invoke (.fn (.method name) #[]) #[.iface t recv]) w #[]
       generalize (invoke (.fn (.method name) #[]) #[.iface t recv]).runT p w #[] = y at h ⊢
       obtain ⟨r, es⟩ := y
       simp only
       refine GOk.after ?_
       split
       · exact h
       · exact h
       · trivial
       · exact (endPrinting_dr _ _ _ _).up h
       · trivial
     · trivial
theorem early_dr (p : Program) (fr : Frame) (cs : List Frame) (dy : Option Dying) (g : Nat) (w : World) : GOk w.drawn (early p fr cs dy g w) := by
 have N : ∀ W : World, GOk W.drawn (match W.heap[g]? with
  | some (.pending c elem) => GStep.go { frame := fr, callers := cs, status := .running, dying := dy } { W with heap := W.heap.setIfInBounds g (.cells c elem) }
  | _ => .ended (.stuck "early: the variable does not wait" (fr.pos p)) W) := fun W => by
  split
  · exact Nat.le_refl _
  · trivial
 unfold early; simp only
 split
 · exact N w
 split
 · trivial
 split
 · exact N w
 split
 · exact N w
 split
 · trivial
 · exact Nat.le_refl _
 · trivial
 · exact N w
 · split
   · exact Nat.le_refl _
   split
   · exact N w
   split
   · rename_i h; exact (N _).up (ran h)
   · rename_i h; exact ran h
   · trivial
theorem apply_dr (p : Program) (listen : Bool) (fr : Frame) (cs : List Frame) (dy : Option Dying) (s : Sem Next) (w : World) : GOk w.drawn (stepG.apply p listen fr cs dy s w) := by
 unfold stepG.apply
 have h : w.drawn ≤ (resW (if listen then s.runT p w #[] else (s.run p w, #[])).1).drawn := by
  split
  · exact runT_dr p s w #[]
  · exact run_dr p s w
 generalize (if listen then s.runT p w #[] else (s.run p w, #[])) = y at h ⊢
 obtain ⟨r, es⟩ := y
 simp only
 refine GOk.after ?_
 split
 all_goals first | trivial | exact h | (refine GOk.ite ?_ ?_ <;> first | exact (endThrow_dr _ _ _).up h | exact h) | exact (endFatal_dr _ _ _ _ _ _).up h | exact (endThrow_dr _ _ _).up h | exact (early_dr _ _ _ _ _ _).up h | (split <;> first | exact h | trivial)
theorem oper_dr (p : Program) (listen : Bool) (fr : Frame) (cs : List Frame) (dy : Option Dying) (w : World) : GOk w.drawn (stepG.oper p listen fr cs dy w) := by
 unfold stepG.oper
 split
 · trivial
 · split <;> exact apply_dr _ _ _ _ _ _ _
theorem ranF {α : Type} {p : Program} {s : Sem α} {w : World} {es : Array Event} {r : Result α} (h : (s.runT p w es).1 = r) : w.drawn ≤ (resW r).drawn := h ▸ runT_dr p s w es
theorem exec_dr (p : Program) (main listen : Bool) (fr : Frame) (cs : List Frame) (dy : Option Dying) (w : World) : GOk w.drawn (stepG.exec p main listen fr cs dy w) := by
 have L : ∀ (g : GStep) (j : Option Code), GOk w.drawn g → GOk w.drawn (match fr.roundOf with
  | none => g
  | some l =>
   GStep.after (seen p fr.fn (Sem.runT p (Instr.endRound l j) w #[]).snd)
    (match (Sem.runT p (Instr.endRound l j) w #[]).fst with
    | .ok v w => doReturn p main fr cs dy v w
    | .halt h w => .ended (.stuck "range over a function: no such loop" (fr.pos p)) w)) := fun g j hg => by
  split
  · exact hg
  · refine GOk.after ?_
    split
    · rename_i h; exact (doReturn_dr _ _ _ _ _ _ _).up (ranF h)
    · trivial
 have G : ∀ {α : Type} (o : Option α) (g : GStep) (f : α → GStep), GOk w.drawn g → (∀ a, GOk w.drawn (f a)) → GOk w.drawn (o.elim g f) := fun o g f h k => by cases o <;> first | exact h | exact k _
 unfold stepG.exec
 simp only
 split
 all_goals first | exact L _ _ (GOk.ite (Nat.le_refl _) trivial) | exact Nat.le_refl _ | trivial | exact apply_dr _ _ _ _ _ _ _ | skip
 all_goals try (refine G _ _ _ ?_ (fun _ => ?_) <;> first | exact L _ _ (GOk.ite (Nat.le_refl _) trivial) | exact L _ _ trivial | trivial | exact Nat.le_refl _ | exact apply_dr _ _ _ _ _ _ _)
 all_goals try refine GOk.after ?_
 all_goals repeat' split
 all_goals first | trivial | exact Nat.le_refl _ | exact oper_dr _ _ _ _ _ _ | (rename_i h; exact (apply_dr _ _ _ _ _ _ _).up (ranF h)) | (rename_i h; exact ranF h) | (rename_i h; exact ran h) | skip
theorem stepG_dr (p : Program) (main : Bool) (g : Goroutine) (w : World) (listen : Bool) : GOk w.drawn (stepG p main g w listen) := by
 unfold stepG
 simp only
 split
 · exact die_dr _ _ _ _
 · exact exec_dr _ _ _ _ _ _ _
 · exact unwind_dr _ _ _ _ _ _
def SOk (d : Nat) : Stepped → Prop
 | .next m => d ≤ m.world.drawn
 | .ended .. => True
theorem look_dr (p : Program) (gs : Array Goroutine) (rest : Rest) (w : World) : SOk w.drawn (look p gs rest w) := by
 unfold look
 simp only
 split
 · split
   · trivial
   · split
     · trivial
     · split
       · rename_i h; exact ran h
       · trivial
       · trivial
 · trivial
theorem waiting_dr {rest : Rest} {cases : Array CommCase} {w w' : World} (h : waitingAt rest cases w = some w') : w'.drawn = w.drawn := by
 unfold waitingAt at h
 split at h
 · split at h
   · injection h with h; rw [← h]
   · cases h
 · injection h with h; rw [h]
theorem comm_dr (p : Program) (rest : Rest) (gs : Array Goroutine) (i : Nat) (g : Goroutine) (cases : Array CommCase) (b : Bool) (sh : CommShape) (w : World) : SOk w.drawn (communicate p rest gs i g cases b sh w).1 := by
 unfold communicate
 simp only
 split
 · trivial
 · split
   · split
     · split
       · rename_i h; exact Nat.le_of_eq (waiting_dr h).symm
       · trivial
     · exact Nat.le_refl _
   · split
     · trivial
     · rename_i h
       have h := ran h
       split
       · split
         · rename_i h2; exact Nat.le_trans h (ran h2)
         · trivial
       · exact h
       · exact h
       · split
         · exact h
         · split
           · rename_i h2; exact Nat.le_trans h (ran h2)
           · trivial
       · exact h
       · exact h
       · trivial
theorem SOk.up {d d' : Nat} {s : Stepped} (h : SOk d s) (k : d' ≤ d) : SOk d' s := by cases s <;> first | trivial | exact Nat.le_trans k h
theorem serve_dr (p : Program) (m : Machine) (k : Nat) : SOk m.world.drawn (serve p m k) := by
 unfold serve
 split
 · trivial
 · exact Nat.le_refl _
 · simp only
   split
   · trivial
   · exact Nat.le_refl _
theorem drain_dr (w : World) (c : Nat) : (drain w c).2.drawn = w.drawn := by unfold drain; split <;> rfl
theorem retime_dr (m : Machine) (k : Nat) (t : Timer) (a b : Nat) : (retime m k t a b).2.world.drawn = m.world.drawn := by
 unfold retime
 cases t.chan with
 | none => rfl
 | some c => exact drain_dr _ _
theorem named_dr {m : Machine} {var : Addr} {f : Nat → Timer → Value × Machine} {d : Nat} (hf : ∀ k t, (f k t).2.world.drawn = d) {v : Value} {m' : Machine} (h : timerOp.named m var f = .ok (v, m')) : m'.world.drawn = d := by
 unfold timerOp.named at h
 split at h
 · injection h with h; rw [← hf _ _, h]
 · cases h
theorem timer_dr {m m' : Machine} {op : TimerOp} {v : Value} (h : timerOp m op = .ok (v, m')) : m'.world.drawn = m.world.drawn := by
 unfold timerOp at h
 split at h
 · split at h
   · injection h with h; injection h with _ h; rw [← h]; rfl
   · split at h
     · split at h
       · cases h
       · injection h with h; injection h with _ h; rw [← h]
     · cases h
 · exact named_dr (fun _ _ => retime_dr _ _ _ _ _) h
 · split at h
   · rename_i m1 e
     have : m1.world.drawn = m.world.drawn := by
      unfold timerOp.opened at e
      split at e
      · split at e
        · injection e with e; rw [← e]
        · cases e
      · injection e with e; rw [e]
     rw [← this]
     exact named_dr (fun _ _ => retime_dr _ _ _ _ _) h
   · cases h
 · simp only at h; injection h with h; injection h with _ h; rw [← h]; rfl
theorem runG_dr (p : Program) (m : Machine) (i : Nat) (listen : Bool) : SOk m.world.drawn (runT p m i listen).1 := by
 unfold runT
 simp only
 generalize hg : (m.gs.swapAt! i { (default : Goroutine) with status := .finished }) = y
 obtain ⟨g, gs⟩ := y
 simp only
 have h := stepG_dr p (i == 0) g m.world listen
 generalize stepG p (i == 0) g m.world listen = s at h ⊢
 cases s with
 | ended o w es => trivial
 | comm g c b sh w es =>
  exact (comm_dr p m.rest gs i g c b sh w).up h
 | go g w es => exact h
 | spawn g c w es => exact h
 | count g w es =>
  simp only
  split
  · trivial
  · exact h
 | alone g on w es => exact h
 | collect g w es =>
  exact (look_dr p (gs.setIfInBounds i g) m.rest w).up h
 | watch g w es => exact h
 | newcoro g c d w es => exact h
 | coroswitch g c e w es =>
  simp only
  split
  · exact h
  · exact h
  · trivial
 | timer g op w es =>
  simp only
  split
  · rename_i e; exact Nat.le_trans h (Nat.le_of_eq (timer_dr e).symm)
  · exact h
  · trivial
  · trivial
def MOk (d : Nat) : Move → Prop
 | .goroutine m _ => d ≤ m.world.drawn
 | .machine s _ => SOk d s
theorem MOk.up {d d' : Nat} {s : Move} (h : MOk d s) (k : d' ≤ d) : MOk d' s := by
 cases s
 · exact Nat.le_trans k h
 · exact SOk.up h k
theorem askOn_dr (p : Program) (m : Machine) : MOk m.world.drawn (askOn p m) := by
 have P : ∀ (m1 : Machine) (rs : List Nat), m.world.drawn ≤ m1.world.drawn → MOk m.world.drawn (match (choose (.sched rs.length)).run p m1.world with
  | .halt _ w => .machine (.ended (.stuck "sched" "") w)
  | .ok k world =>
   if rs.length ≤ 1 then .goroutine { m1 with world } (rs.getD k 0) else
   match (choose (.extern "sched.slice" 65536)).run p world with
   | .halt _ w => .machine (.ended (.stuck "sched.slice" "") w)
   | .ok n world => .goroutine { m1 with world, rest := { m1.rest with slice := if n = 0 then none else some (rs.getD k 0, n) } } (rs.getD k 0)) := fun m1 rs h => by
  split
  · trivial
  · rename_i h1
    have h1 := Nat.le_trans h (ran h1)
    split
    · exact h1
    · split
      · trivial
      · rename_i h2; exact Nat.le_trans h1 (ran h2)
 unfold askOn
 simp only
 split
 · trivial
 · rename_i h
   have h := ran h
   split
   · exact (serve_dr p _ _).up h
   · split
     · split
       · exact h
       · split
         · exact h
         · split <;> trivial
     · split
       · exact P ⟨_, m.gs, m.rest⟩ _ h
       · split
         · trivial
         · rename_i h2; exact P ⟨_, m.gs, m.rest⟩ _ (Nat.le_trans h (ran h2))
         · rename_i h2; exact Nat.le_trans h (ran h2)
         · rename_i h2; exact P (Machine.advanceTo ⟨_, m.gs, m.rest⟩ _) _ (Nat.le_trans h (ran h2))
theorem asks_dr (p : Program) (m : Machine) : MOk m.world.drawn (ask p m) := by
 unfold ask
 split
 · split
   · trivial
   · rename_i w h
     have h := ran h
     split
     · rename_i e
       have l := look_dr p m.gs m.rest w
       rw [e] at l
       exact (askOn_dr p _).up (Nat.le_trans h l)
     · rename_i e _
       exact (look_dr p m.gs m.rest w).up h
   · rename_i h
     exact (askOn_dr p _).up (ran h)
 · exact askOn_dr p m
theorem move_dr (p : Program) (m : Machine) : MOk m.world.drawn (move p m) := by
 unfold move
 split
 · split
   · exact Nat.le_refl _
   · trivial
 · split
   · split
     · exact Nat.le_refl _
     · exact asks_dr p _
   · exact asks_dr p m
theorem step_dr (p : Program) (m : Machine) : SOk m.world.drawn (step p m) := by
 unfold step stepT
 have h := move_dr p m
 generalize move p m = y at h ⊢
 cases y with
 | goroutine m1 i => exact (runG_dr p m1 i true).up h
 | machine s ops => exact h
theorem runN_dr (p : Program) : ∀ (n : Nat) (m : Machine), SOk m.world.drawn (runN p n m)
 | 0, m => Nat.le_refl _
 | n + 1, m => by
  have h := step_dr p m
  unfold runN
  generalize step p m = y at h ⊢
  cases y with
  | next m1 => exact (runN_dr p n m1).up h
  | ended o w => trivial
theorem steps_dr {p : Program} {m m' : Machine} (h : Steps p m m') : m.world.drawn ≤ m'.world.drawn := by
 obtain ⟨n, hn⟩ := h
 have := runN_dr p n m
 rw [hn] at this
 exact this
theorem calls_drawn {P : Program} {f : FuncId} {args : Array Value} {w : World} {R : Ending → World → Prop} (h : Calls P f args w R) : Calls P f args w fun e w' => R e w' ∧ ((∃ v, e = .returned v) → w.drawn ≤ w'.drawn) := fun cs => by
 obtain ⟨e, w', fr, hR, hc, hf, hl⟩ := h cs
 refine ⟨e, w', fr, ⟨hR, ?_⟩, hc, hf, hl⟩
 rintro ⟨v, rfl⟩
 exact steps_dr hc
theorem grow_of_below {w w' : World} (h : Below w.heap.size w w') (d : w.drawn ≤ w'.drawn) : ∃ q os', w' = Go.Sort.grow (w.drewN q) os' := by
 refine ⟨w'.drawn - w.drawn, w'.heap.extract w.heap.size w'.heap.size, ?_⟩
 obtain ⟨h1, h2, h3, h4, h5⟩ := h
 cases w with
 | mk H T D O U =>
  cases w' with
  | mk H' T' D' O' U' =>
   simp only at h1 h2 h3 h4 h5 d
   subst h1 h2 h3
   unfold Go.Sort.grow World.drewN
   simp only [World.mk.injEq, true_and, and_true]
   refine ⟨?_, by omega⟩
   refine Array.ext_getElem? fun i => ?_
   rw [Array.getElem?_append]
   split
   · rename_i hi; exact h5 i hi
   · rename_i hi
     rw [Array.getElem?_extract]
     split
     · congr 1; omega
     · rw [Array.getElem?_eq_none]; omega
end Go.Proofs.Ytonknpgfbkgbjaa.E
end
section
namespace Go.Proofs
open Go.Shelf
def Try.laysF_ren : Go.Shelf.Ren := ⟨fun | 6 => 77 | 15 => 101 | 14 => 100 | 28 => 115 | 29 => 116 | 20 => 107 | 21 => 108 | 22 => 109 | 23 => 110 | 24 => 111 | 25 => 112 | 26 => 113 | 27 => 114 | 46 => 127 | 47 => 128 | 48 => 129 | 49 => 130 | 50 => 131 | 57 => 135 | n => n, fun | 22 => 29 | 24 => 26 | 25 => 65 | 3 => 3 | 39 => 79 | 0 => 0 | 53 => 90 | 55 => 92 | 4 => 4 | 46 => 83 | 45 => 82 | 50 => 87 | 5 => 5 | 9 => 9 | 66 => 98 | 70 => 102 | 76 => 106 | 77 => 107 | n => n, fun | n => n⟩
theorem Try.laysF : Go.Proofs.SlLaysF0.n6 Try.prog Try.laysF_ren := {
 mixed := by kernel_rfl
 f6 := ⟨Try.f77.name, by decide, Try.func77.trans (congrArg some (by kernel_rfl))⟩
 f14 := ⟨Try.f100.name, by decide, Try.func100.trans (congrArg some (by kernel_rfl))⟩
 f15 := Try.func101.trans (congrArg some (by kernel_rfl))
 f20 := ⟨Try.f107.name, by decide, Try.func107.trans (congrArg some (by kernel_rfl))⟩
 f21 := ⟨Try.f108.name, by decide, Try.func108.trans (congrArg some (by kernel_rfl))⟩
 f22 := ⟨Try.f109.name, by decide, Try.func109.trans (congrArg some (by kernel_rfl))⟩
 f23 := ⟨Try.f110.name, by decide, Try.func110.trans (congrArg some (by kernel_rfl))⟩
 f24 := ⟨Try.f111.name, by decide, Try.func111.trans (congrArg some (by kernel_rfl))⟩
 f25 := ⟨Try.f112.name, by decide, Try.func112.trans (congrArg some (by kernel_rfl))⟩
 f26 := ⟨Try.f113.name, by decide, Try.func113.trans (congrArg some (by kernel_rfl))⟩
 f27 := ⟨Try.f114.name, by decide, Try.func114.trans (congrArg some (by kernel_rfl))⟩
 f28 := Try.func115.trans (congrArg some (by kernel_rfl))
 f29 := Try.func116.trans (congrArg some (by kernel_rfl))
 f46 := ⟨Try.f127.name, by decide, Try.func127.trans (congrArg some (by kernel_rfl))⟩
 f47 := Try.func128.trans (congrArg some (by kernel_rfl))
 f48 := Try.func129.trans (congrArg some (by kernel_rfl))
 f49 := ⟨Try.f130.name, by decide, Try.func130.trans (congrArg some (by kernel_rfl))⟩
 f50 := ⟨Try.f131.name, by decide, Try.func131.trans (congrArg some (by kernel_rfl))⟩
 f57 := ⟨Try.f135.name, by decide, Try.func135.trans (congrArg some (by kernel_rfl))⟩
 t0 := Try.underlying0
 a0 := Try.isAgg0
 z0 := Try.sizeOf0
 v0 := Try.zeroValue0
 t3 := Try.underlying3
 a3 := Try.isAgg3
 z3 := Try.sizeOf3
 v3 := Try.zeroValue3
 t4 := Try.underlying4
 a4 := Try.isAgg4
 z4 := Try.sizeOf4
 v4 := Try.zeroValue4
 t5 := Try.underlying5
 a5 := Try.isAgg5
 z5 := Try.sizeOf5
 v5 := Try.zeroValue5
 t9 := Try.underlying9
 a9 := Try.isAgg9
 z9 := Try.sizeOf9
 v9 := Try.zeroValue9
 t22 := Try.underlying29
 a22 := Try.isAgg29
 z22 := Try.sizeOf29
 v22 := Try.zeroValue29
 t25 := Try.underlying65
 a25 := Try.isAgg65
 z25 := Try.sizeOf65
 v25 := Try.zeroValue65
 t39 := Try.underlying79
 a39 := Try.isAgg79
 z39 := Try.sizeOf79
 v39 := Try.zeroValue79
 t45 := Try.underlying82
 a45 := Try.isAgg82
 z45 := Try.sizeOf82
 v45 := Try.zeroValue82
 t46 := Try.underlying83
 a46 := Try.isAgg83
 z46 := Try.sizeOf83
 v46 := Try.zeroValue83
 t50 := Try.underlying87
 a50 := Try.isAgg87
 z50 := Try.sizeOf87
 v50 := Try.zeroValue87
 t53 := Try.underlying90
 a53 := Try.isAgg90
 z53 := Try.sizeOf90
 v53 := Try.zeroValue90
 t55 := Try.underlying92
 a55 := Try.isAgg92
 z55 := Try.sizeOf92
 v55 := Try.zeroValue92
 t66 := Try.underlying98
 a66 := Try.isAgg98
 z66 := Try.sizeOf98
 v66 := Try.zeroValue98
 t70 := Try.underlying102
 a70 := Try.isAgg102
 z70 := Try.sizeOf102
 v70 := Try.zeroValue102
 t76 := Try.underlying106
 a76 := Try.isAgg106
 z76 := Try.sizeOf106
 v76 := Try.zeroValue106
 t77 := Try.underlying107
 a77 := Try.isAgg107
 z77 := Try.sizeOf107
 v77 := Try.zeroValue107 }
end Go.Proofs
end
section
namespace Go.Proofs.Ytonknpgfbkgbjaa.PC
open Go.RowKit Go.Proofs.YtonknpgfbkgbjaaW.PrintWords Go.Proofs.YtonknpgfbkgbjaaW.PrintLast Go.Proofs.YtonknpgfbkgbjaaW.PrintMore
attribute [local go_sem] max2_int min2_int max_two min_two max_three min_three max_four min_four
set_option linter.unusedVariables false
set_option linter.unusedSimpArgs false
set_option maxHeartbeats 8000000
set_option maxRecDepth 100000
def laws_eqSemigroupS.l0 : Nat → List (S26) → List (S26) → Int → Option (Bool)
 | 0, _, _, _ => none
 | k + 1, x0, x1, x5 => if x5 < (x0.length : Int) then (if 0 ≤ x5 then (if x5 < (x1.length : Int) then ((laws_eqSemigroup.f k ((rd_T26 x0 x5).f0) ((rd_T26 x1 x5).f0)).bind fun t197 => (if t197 = true then (laws_eqSemigroupS.l0 k x0 x1 (wrap64 (x5 + 1))) else (some false))) else (none)) else (none)) else (some true)
def laws_eqSemigroupS.f (k : Nat) (l0 : List (S26)) (l1 : List (S26)) : Option (Bool) := if (l0.length : Int) = (l1.length : Int) then (laws_eqSemigroupS.l0 k l0 l1 0) else (some false)
def laws_eqSemigroupS.T6 : Bool × List (List Nat × List Nat) := (true, [([], []), ([], []), ([0, 1], [0, 1]), ([2], [2]), ([], []), ([], []), ([4, 5], [4, 5]), ([6], [6]), ([3, 7], [3, 7]), ([8], [8])])
def laws_eqSemigroupS.B6 : List Nat := [0, 0, 3, 7, 0, 0, 48, 112, 255, 511]
theorem laws_eqSemigroupS.tab6 : rtab .any (opsOf Try.f12 6) = laws_eqSemigroupS.T6 := by kernel_rfl
theorem laws_eqSemigroupS.bits6 : waitsOk laws_eqSemigroupS.T6.2 laws_eqSemigroupS.B6 = true := by kernel_rfl
theorem laws_eqSemigroupS.calls (k : Nat) (A0 : Option Addr) (c0 : Nat) (l0 : List (S26)) (A1 : Option Addr) (c1 : Nat) (l1 : List (S26)) (r : Bool) (w : World) (hr0 : Kd.C k26 w A0 l0.length l0) (hc0 : l0.length ≤ c0) (hr1 : Kd.C k26 w A1 l1.length l1) (hc1 : l1.length ≤ c1) (h : laws_eqSemigroupS.f k l0 l1 = some r) :
 Calls Try.prog 12 #[.slice A0 l0.length c0, .slice A1 l1.length c1] w fun e w' => e = .returned (.bool r) ∧ Below w.heap.size w w' := by
 have hu26 := Try.underlying26
 have HR0 := Aside0.mk hr0
 have HC0 := Aside0.mk hc0
 clear hr0 hc0
 have HR1 := Aside0.mk hr1
 have HC1 := Aside0.mk hc1
 clear hr1 hc1
 have HB := Aside0.mk (Below.refl w.heap.size w)
 have H := h
 clear h
 unfold laws_eqSemigroupS.f at H
 by_cases c3 : (l0.length : Int) = (l1.length : Int)
 rotate_left
 · rw [if_neg c3] at H
   have c3b0 : ((l0.length : Int) == (l1.length : Int)) = false := beq_eq_false_iff_ne.mpr c3
   have c3b1 : ((l0.length : Int) != (l1.length : Int)) = true := bne_iff_ne.mpr c3
   have c3b2 : (l0.length == l1.length) = false := by first | simpa using c3 | (simp at c3 ⊢; omega)
   obtain rfl := Option.some.inj H
   go_enter Try.func12, Try.ntmps12
   go_wp2
   go_ret
   exact ⟨rf_, bl_ HB.out⟩
 rw [if_pos c3] at H
 have c3b0 : ((l0.length : Int) == (l1.length : Int)) = true := beq_iff_eq.mpr c3
 have c3b1 : ((l0.length : Int) != (l1.length : Int)) = false := bne_eq_false_iff_eq.mpr c3
 have c3b2 : (l0.length == l1.length) = true := by first | simpa using c3 | (simp at c3 ⊢; omega)
 clear c3
 have H' := Aside0.mk H
 clear H
 go_enter Try.func12, Try.ntmps12
 go_wp2
 go_loopg [5] k (fun kq v5 w' => ∃ (x5_1 : Int), v5 = .int .i64 x5_1 ∧ Aside0 (laws_eqSemigroupS.l0 kq l0 l1 x5_1 = some r) ∧ Aside0 (kq ≤ k) ∧ Aside0 (Below w.heap.size w w'))
 case atStart => exact ⟨(0), rs_, H', ⟨Nat.le_refl _⟩, ⟨bl_ HB.out⟩⟩
 case round =>
  clear H'
  try clear c1
  try clear c3b0
  try clear c3b1
  try clear c3b2
  obtain ⟨x5_1, rfl, HA, HK1, HB⟩ := hrel
  cases gk with
  | zero => exact absurd HA.out (by simp [laws_eqSemigroupS.l0])
  | succ k1 =>
   have H := HA.out
   clear HA
   simp only [laws_eqSemigroupS.l0] at H
   by_cases c4 : x5_1 < (l0.length : Int)
   rotate_left
   · rw [if_neg c4] at H
     have c4b0 : decide (x5_1 < (l0.length : Int)) = false := decide_eq_false c4
     clear c4
     obtain rfl := Option.some.inj H
     go_wp2
     go_ret
     exact ⟨rf_, bl_ HB.out⟩
   rw [if_pos c4] at H
   have c4b0 : decide (x5_1 < (l0.length : Int)) = true := decide_eq_true c4
   clear c4
   obtain ⟨c5b0, H⟩ := ipd_ H
   obtain ⟨c6b0, H⟩ := ipd_ H
   obtain ⟨t197, A7, H⟩ := ob_ H
   by_cases c8 : t197 = true
   rotate_left
   · replace c8 := Bool.eq_false_iff.mpr c8
     subst c8
     rw [if_neg (show ¬ (false = true) by decide)] at H
     obtain rfl := Option.some.inj H
     try go_wp2
     replace HB := Aside0.mk (below_drew1 HB.out)
     have p195 : 0 ≤ (x5_1 : Int) := od_
     have q195 : x5_1 < (l0.length : Int) := od_
     obtain ⟨ad195, A195_0, c195_0, e195, hx195_0, hl195_0, hi195_0⟩ := at_T26 HR0.out x5_1 p195 q195
     have hw195_0 := hx195_0
     cases e195
     (try replace hx195_0 := (HB.out.cell (World.block_lt_of_cell? w _ hx195_0)).trans hx195_0)
     have HR195_0 := Aside0.mk hi195_0
     have HC195_0 := Aside0.mk hl195_0
     clear hi195_0 hl195_0
     replace p195 := eq_true p195
     replace q195 := eq_true q195
     have p196 : 0 ≤ (x5_1 : Int) := od_
     have q196 : x5_1 < (l1.length : Int) := od_
     obtain ⟨ad196, A196_0, c196_0, e196, hx196_0, hl196_0, hi196_0⟩ := at_T26 HR1.out x5_1 p196 q196
     have hw196_0 := hx196_0
     cases e196
     (try replace hx196_0 := (HB.out.cell (World.block_lt_of_cell? w _ hx196_0)).trans hx196_0)
     have HR196_0 := Aside0.mk hi196_0
     have HC196_0 := Aside0.mk hl196_0
     clear hi196_0 hl196_0
     replace p196 := eq_true p196
     replace q196 := eq_true q196
     refine start_ (n := 10) (S := fun w' => w'.cell? (ad195.add (x5_1).toNat) = some (.slice A195_0 ((rd_T26 l0 x5_1).f0).length c195_0) ∧ w'.cell? (ad196.add (x5_1).toNat) = some (.slice A196_0 ((rd_T26 l1 x5_1).f0).length c196_0)) (ds := []) (B_ 0 10) (by kernel_rfl) rfl rfl ⟨((HB.out.cell (World.block_lt_of_cell? w _ hw195_0)).trans hw195_0), ((HB.out.cell (World.block_lt_of_cell? w _ hw196_0)).trans hw196_0)⟩ (fun hHeld => ?_); refine with_tabW laws_eqSemigroupS.tab6 laws_eqSemigroupS.bits6 (fun HT_ HW_ => ?_)
     generalize wr.drew = w11 at HB HR195_0 HR196_0 hx195_0 hx196_0 hHeld ⊢
     refine pu_ HT_ 0 17 (B_ 1 10) ?_
     refine pu_ HT_ 1 18 (B_ 3 10) ?_
     refine pu_ HT_ 2 19 (B_ 7 10) ?_
     refine pu_ HT_ 4 21 (B_ 23 10) ?_
     refine pu_ HT_ 5 22 (B_ 55 10) ?_
     refine pu_ HT_ 6 23 (B_ 119 10) ?_
     refine tk2_ HT_ HW_ hHeld 3 20 (B_ 127 10) ?_
     refine tk2_ HT_ HW_ hHeld 7 24 (B_ 255 10) ?_
     refine on_ HT_ 8 25 (B_ 511 10) (fun K hK => ?_)
     refine goes_ Try.func11 (by kernel_rfl) rfl #[.agg #[.slice A195_0 ((rd_T26 l0 x5_1).f0).length c195_0], .agg #[.slice A196_0 ((rd_T26 l1 x5_1).f0).length c196_0]] (by rfl) rfl rfl (by (try simp only [List.map_toArray, List.map_cons, List.map_nil]); first | done | rfl | (simp only [List.length_drop, List.length_take]; rfl)) ?_
     with_reducible refine (laws_eqSemigroup.calls k1 _ _ ((rd_T26 l0 x5_1).f0) _ _ ((rd_T26 l1 x5_1).f0) false _ ?side1 ?side2 ?side3 ?side4 A7.out).mono ?_
     (case side1 => exact ch_ HR195_0 HB)
     (case side2 => exact HC195_0.out)
     (case side3 => exact ch_ HR196_0 HB)
     (case side4 => exact HC196_0.out)
     rintro e w12 ⟨rfl, hb⟩
     refine ⟨_, rfl, ?_⟩
     replace HB := bo_ HB hb
     (try clear hb)
     refine hK.out _ _ ⟨((HB.out.cell (World.block_lt_of_cell? w _ hw195_0)).trans hw195_0), ((HB.out.cell (World.block_lt_of_cell? w _ hw196_0)).trans hw196_0)⟩ (fun hHeld => ?_)
     clear hK K
     refine norm_ (a' := ?_) ?_ ?_
     rotate_left
     · show Act.put _ (some 25) _ = _
       simp only [Act.put, z1_, z2_, z3_, i64_w, i32_w]
       rfl
     refine pu_ HT_ 9 26 (B_ 1023 10) ?_
     refine done_ (done_of HT_.out (by kernel_rfl)) ?_
     try go_wp2
     go_ret
     exact ⟨rf_, bl_ HB.out⟩
   subst c8
   rw [if_pos rfl] at H
   have H' := Aside0.mk H
   clear H
   try go_wp2
   replace HB := Aside0.mk (below_drew1 HB.out)
   have p195 : 0 ≤ (x5_1 : Int) := od_
   have q195 : x5_1 < (l0.length : Int) := od_
   obtain ⟨ad195, A195_0, c195_0, e195, hx195_0, hl195_0, hi195_0⟩ := at_T26 HR0.out x5_1 p195 q195
   have hw195_0 := hx195_0
   cases e195
   (try replace hx195_0 := (HB.out.cell (World.block_lt_of_cell? w _ hx195_0)).trans hx195_0)
   have HR195_0 := Aside0.mk hi195_0
   have HC195_0 := Aside0.mk hl195_0
   clear hi195_0 hl195_0
   replace p195 := eq_true p195
   replace q195 := eq_true q195
   have p196 : 0 ≤ (x5_1 : Int) := od_
   have q196 : x5_1 < (l1.length : Int) := od_
   obtain ⟨ad196, A196_0, c196_0, e196, hx196_0, hl196_0, hi196_0⟩ := at_T26 HR1.out x5_1 p196 q196
   have hw196_0 := hx196_0
   cases e196
   (try replace hx196_0 := (HB.out.cell (World.block_lt_of_cell? w _ hx196_0)).trans hx196_0)
   have HR196_0 := Aside0.mk hi196_0
   have HC196_0 := Aside0.mk hl196_0
   clear hi196_0 hl196_0
   replace p196 := eq_true p196
   replace q196 := eq_true q196
   refine start_ (n := 10) (S := fun w' => w'.cell? (ad195.add (x5_1).toNat) = some (.slice A195_0 ((rd_T26 l0 x5_1).f0).length c195_0) ∧ w'.cell? (ad196.add (x5_1).toNat) = some (.slice A196_0 ((rd_T26 l1 x5_1).f0).length c196_0)) (ds := []) (B_ 0 10) (by kernel_rfl) rfl rfl ⟨((HB.out.cell (World.block_lt_of_cell? w _ hw195_0)).trans hw195_0), ((HB.out.cell (World.block_lt_of_cell? w _ hw196_0)).trans hw196_0)⟩ (fun hHeld => ?_); refine with_tabW laws_eqSemigroupS.tab6 laws_eqSemigroupS.bits6 (fun HT_ HW_ => ?_)
   generalize wr.drew = w9 at HB HR195_0 HR196_0 hx195_0 hx196_0 hHeld ⊢
   refine pu_ HT_ 0 17 (B_ 1 10) ?_
   refine pu_ HT_ 1 18 (B_ 3 10) ?_
   refine pu_ HT_ 2 19 (B_ 7 10) ?_
   refine pu_ HT_ 4 21 (B_ 23 10) ?_
   refine pu_ HT_ 5 22 (B_ 55 10) ?_
   refine pu_ HT_ 6 23 (B_ 119 10) ?_
   refine tk2_ HT_ HW_ hHeld 3 20 (B_ 127 10) ?_
   refine tk2_ HT_ HW_ hHeld 7 24 (B_ 255 10) ?_
   refine on_ HT_ 8 25 (B_ 511 10) (fun K hK => ?_)
   refine goes_ Try.func11 (by kernel_rfl) rfl #[.agg #[.slice A195_0 ((rd_T26 l0 x5_1).f0).length c195_0], .agg #[.slice A196_0 ((rd_T26 l1 x5_1).f0).length c196_0]] (by rfl) rfl rfl (by (try simp only [List.map_toArray, List.map_cons, List.map_nil]); first | done | rfl | (simp only [List.length_drop, List.length_take]; rfl)) ?_
   with_reducible refine (laws_eqSemigroup.calls k1 _ _ ((rd_T26 l0 x5_1).f0) _ _ ((rd_T26 l1 x5_1).f0) true _ ?side1 ?side2 ?side3 ?side4 A7.out).mono ?_
   (case side1 => exact ch_ HR195_0 HB)
   (case side2 => exact HC195_0.out)
   (case side3 => exact ch_ HR196_0 HB)
   (case side4 => exact HC196_0.out)
   rintro e w10 ⟨rfl, hb⟩
   refine ⟨_, rfl, ?_⟩
   replace HB := bo_ HB hb
   (try clear hb)
   refine hK.out _ _ ⟨((HB.out.cell (World.block_lt_of_cell? w _ hw195_0)).trans hw195_0), ((HB.out.cell (World.block_lt_of_cell? w _ hw196_0)).trans hw196_0)⟩ (fun hHeld => ?_)
   clear hK K
   refine norm_ (a' := ?_) ?_ ?_
   rotate_left
   · show Act.put _ (some 25) _ = _
     simp only [Act.put, z1_, z2_, z3_, i64_w, i32_w]
     rfl
   refine pu_ HT_ 9 26 (B_ 1023 10) ?_
   refine done_ (done_of HT_.out (by kernel_rfl)) ?_
   try go_wp2
   go_roundg k1
   case measure => have := HK1.out; omega
   case rel => exact ⟨(wrap64 (x5_1 + 1)), rs_, H', ⟨by have := HK1.out; omega⟩, ⟨bl_ HB.out⟩⟩
def laws_markIntS.l0 : Nat → List Int → Int → Int → Option (Int × List Int)
 | 0, _, _, _ => none
 | k + 1, x0, x1, x5 => if x5 < (x0.length : Int) then (if 0 ≤ x5 then (laws_markIntS.l0 k (x0.set (x5 : Int).toNat x1) (wrap64 (x1 + 1)) (wrap64 (x5 + 1))) else (none)) else (some (x1, x0))
def laws_markIntS.f (k : Nat) (l0 : List Int) (a1 : Int) : Option (Int × List Int) := laws_markIntS.l0 k l0 a1 0
theorem laws_markIntS.calls (k : Nat) (P0_ : Nat → Prop) (u9000_ : Value) (l0 : List Int) (a1 : Int) (r1 : Int) (r2 : List Int) (w0 w : World) (hB : Below w0.heap.size w0 w) (ho0 : Kd.R (Kd.int .i64) 3 w w0.heap.size P0_ u9000_ l0) (h : laws_markIntS.f k l0 a1 = some (r1, r2)) :
 Calls Try.prog 31 #[u9000_, .int .i64 a1] w fun e w' => e = .returned (.int .i64 r1) ∧ Kd.R (Kd.int .i64) 3 w' w0.heap.size (fun k_ => (P0_ k_ ∨ w.heap.size ≤ k_)) u9000_ r2 ∧ Below w0.heap.size w0 w' ∧ Kept w w' (fun k_ => P0_ k_) := by
 have HO0 := Aside0.mk (show Kd.R (Kd.int .i64) 3 w w0.heap.size (fun k_ => (P0_ k_ ∨ w.heap.size ≤ k_)) u9000_ l0 from Kd.R_mono ho0 (fun k_ hk => (.inl hk)))
 have HK := Aside0.mk (Kept.refl w (fun k_ => P0_ k_))
 have HW0 := Aside0.mk hB.size
 have HB := Aside0.mk hB
 clear hB
 have H := h
 clear h
 unfold laws_markIntS.f at H
 have H' := Aside0.mk H
 clear H
 go_enter Try.func31, Try.ntmps31
 go_wp2
 go_loopg [1, 5] k (fun kq v1 v5 w' => ∃ (x0_1 : List Int) (x1_1 : Int) (x5_1 : Int), v1 = .int .i64 x1_1 ∧ v5 = .int .i64 x5_1 ∧ Aside0 (laws_markIntS.l0 kq x0_1 x1_1 x5_1 = some (r1, r2)) ∧ Aside0 (kq ≤ k) ∧ Aside0 (Kd.R (Kd.int .i64) 3 w' w0.heap.size (fun k_ => (P0_ k_ ∨ w.heap.size ≤ k_)) u9000_ x0_1) ∧ Aside0 (Kept w w' (fun k_ => P0_ k_)) ∧ Aside0 (Below w0.heap.size w0 w'))
 case atStart => exact ⟨(l0), (a1), (0), rs_, rs_, H', ⟨Nat.le_refl _⟩, ⟨re_ HO0.out⟩, ⟨by repeat (first | (with_reducible first | exact HK.out | apply Kept.alloc | apply Kept.drewN | apply Kept.drew) | exact HK.out)⟩, ⟨bl_ HB.out⟩⟩
 case round =>
  clear H'
  obtain ⟨x0_1, x1_1, x5_1, rfl, rfl, HA, HK1, HO_0, HK, HB⟩ := hrel
  cases gk with
  | zero => exact absurd HA.out (by simp [laws_markIntS.l0])
  | succ k1 =>
   have H := HA.out
   clear HA
   simp only [laws_markIntS.l0] at H
   by_cases c3 : x5_1 < (x0_1.length : Int)
   rotate_left
   · rw [if_neg c3] at H
     have c3b0 : decide (x5_1 < (x0_1.length : Int)) = false := decide_eq_false c3
     clear c3
     simp only [Option.some.injEq, Prod.mk.injEq] at H
     obtain ⟨rfl, rfl⟩ := H
     obtain ⟨Ao9, co9, eo9⟩ := Kd.R_slice HO_0.out
     subst eo9
     go_wp2
     go_ret
     exact ⟨rf_, re_ HO_0.out, bl_ HB.out, by repeat (first | (with_reducible first | exact HK.out | apply Kept.alloc | apply Kept.drewN | apply Kept.drew) | exact HK.out)⟩
   rw [if_pos c3] at H
   have c3b0 : decide (x5_1 < (x0_1.length : Int)) = true := decide_eq_true c3
   clear c3
   obtain ⟨c4b0, H⟩ := ipd_ H
   obtain ⟨y198, hy198⟩ : ∃ y_ : List Int, y_ = (x0_1.set (x5_1 : Int).toNat x1_1) := ⟨_, rfl⟩
   replace H : (laws_markIntS.l0 k1 y198 (wrap64 (x1_1 + 1)) (wrap64 (x5_1 + 1))) = some (r1, r2) := by subst hy198; exact H
   have Ny198 := Aside0.mk hy198
   clear hy198
   have H' := Aside0.mk H
   clear H
   obtain ⟨Ao6, co6, eo6⟩ := Kd.R_slice HO_0.out
   subst eo6
   have p5 : 0 ≤ (x5_1 : Int) := od_
   have q5 : (x5_1 : Int) < ((x0_1.length : Int) : Int) := od_
   obtain ⟨go5, co5, eo5, gb5, gl5, cl5, HG5⟩ := Kd.R_form HO_0.out (by omega)
   (first | cases eo5 | (injection eo5 with ea_ en_ ec_; (first | subst ea_ | (injection ea_ with ea_; subst ea_)); subst ec_; clear en_))
   have GB5 := Aside0.mk gb5
   have GG5 := Aside0.mk HG5
   clear gb5 gl5 HG5
   have HMgo5 := Aside0.mk (show (P0_ go5 ∨ w.heap.size ≤ go5) from (HO_0.out.1 _ rfl))
   obtain ⟨hx5_0, hf5_0⟩ := Kd.R_celln 0 HO_0.out (x5_1 : Int) p5 q5
   replace p5 := eq_true p5
   replace q5 := eq_true q5
   have HP7 := Kd.R_putg HO_0.out (x5_1 : Int) x1_1
   go_wp2_with (first | ((with_reducible refine gate_store (t := 3) (p := 15) rfl ?_); refine store_event (t := 3) (p := 15) (v := ?vo_w8) (w1 := (wr.setCell ⟨go5, (x5_1 : Int).toNat, none⟩ (.int .i64 x1_1))) ?hg ?ho ?hn ?hr ?_; (case ho => rfl); (case hg => rfl); (case hn => rfl); (case hr => first | (go_simp; done) | (go_simp; rfl)); intro w8 hw; have hg : wr.grownBy w8 (some go5) := (by rw [hw]; exact HP7.2); have hp_ : Kd.R (Kd.int .i64) 3 w8 w0.heap.size (fun k_ => (P0_ k_ ∨ w.heap.size ≤ k_)) (.slice (some ⟨go5, 0, none⟩) x0_1.length co6) y198 := (by rw [hw, Ny198.out]; exact HP7.1); clear HP7; replace HB := Aside0.mk ((by rw [hw]; exact below_set (HB.out) GB5.out : Below w0.heap.size w0 w8)); replace HK := Aside0.mk (Kept.of_grown (S := (fun k_ => P0_ k_)) hg (by repeat (first | (with_reducible first | exact HK.out | apply Kept.alloc | apply Kept.drewN | apply Kept.drew) | exact HK.out)) (fun k_ e_ => (HO_0.out.1 k_ e_))); replace HO_0 := Aside0.mk (hp_); clear hg hw hp_))
   go_roundg k1
   case measure => have := HK1.out; omega
   case rel => exact ⟨(y198), (wrap64 (x1_1 + 1)), (wrap64 (x5_1 + 1)), rs_, rs_, H', ⟨by have := HK1.out; omega⟩, ⟨re_ HO_0.out⟩, ⟨by repeat (first | (with_reducible first | exact HK.out | apply Kept.alloc | apply Kept.drewN | apply Kept.drew) | exact HK.out)⟩, ⟨bl_ HB.out⟩⟩
def laws_markSemigroupS.l0 : Nat → List (S26) → Int → Int → Option (Int × List (S26))
 | 0, _, _, _ => none
 | k + 1, x0, x1, x5 => if x5 < (x0.length : Int) then (if 0 ≤ x5 then ((laws_markIntS.f k (rd_T26 x0 x5).f0 x1).bind fun bt => (laws_markSemigroupS.l0 k (x0.set (x5 : Int).toNat ⟨bt.2⟩) bt.1 (wrap64 (x5 + 1)))) else (none)) else (some (x1, x0))
def laws_markSemigroupS.f (k : Nat) (l0 : List (S26)) (a1 : Int) : Option (Int × List (S26)) := laws_markSemigroupS.l0 k l0 a1 0
theorem laws_markSemigroupS.calls (k : Nat) (P0_ : Nat → Prop) (u9000_ : Value) (l0 : List (S26)) (a1 : Int) (r1 : Int) (r2 : List (S26)) (w0 w : World) (hB : Below w0.heap.size w0 w) (ho0 : Kd.S k26 26 w w0.heap.size P0_ u9000_ l0) (h : laws_markSemigroupS.f k l0 a1 = some (r1, r2)) :
 Calls Try.prog 13 #[u9000_, .int .i64 a1] w fun e w' => e = .returned (.int .i64 r1) ∧ Below w0.heap.size w0 w' ∧ Kept w w' (fun k_ => P0_ k_) ∧ Kd.S k26 26 w' w0.heap.size (fun k_ => (P0_ k_ ∨ w.heap.size ≤ k_)) u9000_ r2 := by
 have HO0 := Aside0.mk (show Kd.S k26 26 w w0.heap.size (fun k_ => (P0_ k_ ∨ w.heap.size ≤ k_)) u9000_ l0 from Kd.S_mono ho0 (fun k_ hk => (.inl hk)))
 have HK := Aside0.mk (Kept.refl w (fun k_ => P0_ k_))
 have HB := Aside0.mk hB
 clear hB
 have H' := Aside0.mk (show laws_markSemigroupS.l0 k l0 a1 0 = some (r1, r2) from h)
 clear h
 go_enter Try.func13, Try.ntmps13
 go_wp2
 go_loopg [1, 5] k (fun kq v1 v5 w' => ∃ (x0_1 : List (S26)) (x1_1 : Int) (x5_1 : Int), v1 = .int .i64 x1_1 ∧ v5 = .int .i64 x5_1 ∧ Aside0 (laws_markSemigroupS.l0 kq x0_1 x1_1 x5_1 = some (r1, r2)) ∧ Aside0 (kq ≤ k) ∧ Aside0 (Kd.S k26 26 w' w0.heap.size (fun k_ => (P0_ k_ ∨ w.heap.size ≤ k_)) u9000_ x0_1) ∧ Aside0 (Kept w w' (fun k_ => P0_ k_)) ∧ Aside0 (Below w0.heap.size w0 w'))
 case atStart => exact ⟨l0, a1, 0, rfl, rfl, H', ⟨Nat.le_refl _⟩, ⟨by (with_reducible repeat (first | apply Kd.S_alloc | apply Kd.S_drewN | apply Kd.S_drew)); exact HO0.out⟩, ⟨by repeat (first | (with_reducible first | exact HK.out | apply Kept.alloc | apply Kept.drewN | apply Kept.drew) | exact HK.out)⟩, ⟨bl_ HB.out⟩⟩
 case round =>
  clear H'
  obtain ⟨x0_1, x1_1, x5_1, rfl, rfl, HA, HK1, HO_0, HK, HB⟩ := hrel
  cases gk with
  | zero => exact absurd HA.out (by simp [laws_markSemigroupS.l0])
  | succ k1 =>
   have H := HA.out
   clear HA
   simp only [laws_markSemigroupS.l0] at H
   by_cases c3 : x5_1 < (x0_1.length : Int)
   rotate_left
   · rw [if_neg c3] at H
     have c3b0 : decide (x5_1 < (x0_1.length : Int)) = false := decide_eq_false c3
     simp only [Option.some.injEq, Prod.mk.injEq] at H
     obtain ⟨rfl, rfl⟩ := H
     obtain ⟨Ao6, co6, eo6⟩ := Kd.S_slice HO_0.out
     subst eo6
     go_wp2
     go_ret
     exact ⟨rfl, bl_ HB.out, by repeat (first | (with_reducible first | exact HK.out | apply Kept.alloc | apply Kept.drewN | apply Kept.drew) | exact HK.out), by (with_reducible repeat (first | apply Kd.S_alloc | apply Kd.S_drewN | apply Kd.S_drew)); exact HO_0.out⟩
   rw [if_pos c3] at H
   have c3b0 : decide (x5_1 < (x0_1.length : Int)) = true := decide_eq_true c3
   obtain ⟨c4, H⟩ := ip_ H
   have c4b0 : decide (0 ≤ x5_1) = true := decide_eq_true c4
   obtain ⟨⟨tk, tl⟩, A0, H⟩ := Option.bind_eq_some_iff.mp H
   obtain ⟨xe, hxe⟩ : ∃ e_, e_ = x0_1.getD x5_1.toNat z26 := ⟨_, rfl⟩
   have A := Aside0.mk (show laws_markIntS.f k1 xe.f0 x1_1 = some (tk, tl) by rw [hxe]; exact A0)
   have H' := Aside0.mk H
   clear A0 H
   obtain ⟨g, cap, eg, _⟩ := Kd.S_form HO_0.out (by omega)
   subst eg
   obtain ⟨oki, c, hcl, hM, hcc, hoki, hH⟩ := Kd.S_lend HO_0.out z26 x5_1 c4 c3
   rw [← hxe] at hM
   obtain ⟨v0, rfl, g0⟩ := k26_openM hM
   obtain ⟨Ai, ci, rfl⟩ := Kd.R_slice g0
   have hx5_0 : wr.cell? ⟨g, x5_1.toNat, none⟩ = some (.slice Ai xe.f0.length ci) := by have := hcc 0 _ rfl; rwa [show k26.sz = 1 from rfl, Nat.mul_one, Nat.add_zero] at this
   have GO := Aside0.mk g0
   have HH := Aside0.mk hH
   have HOK := Aside0.mk hoki
   clear hcc hM hcl g0 hH hoki HO_0 hxe
   go_wp2_with (first | ((with_reducible refine gate_callee (f := 31) rfl ?_); refine goesL_ (some 18) rfl rfl Try.func31 (by kernel_rfl) rfl #[.slice Ai xe.f0.length ci, .int .i64 x1_1] rfl (by (try simp only [List.map_toArray, List.map_cons, List.map_nil]); first | done | rfl) ?_; (with_reducible refine (laws_markIntS.calls k1 oki (.slice Ai xe.f0.length ci) _ x1_1 tk tl w0 _ ?side1 ?side2 A.out).mono ?_); (case side1 => exact bq_ HB); (case side2 => (with_reducible repeat (first | apply Kd.R_alloc | apply Kd.R_drewN | apply Kd.R_drew)); exact GO.out); rintro e w7 ⟨rfl, hy0, hb, hkp⟩; refine ⟨_, rfl, ?_⟩; have HO_0 := Aside0.mk (Kd.H_back (Kd.H_step (Kd.H_widen (Kd.H_mono HH.out (fun _ hk => hk))) (fun k_ hk_ hn_ hl_ => hkp.2 k_ hl_ (fun h_ => hn_ (.inl h_)))) (k26_mkM _ _ _ ⟨tl⟩ hy0) (fun k_ hk_ => hk_.elim (fun h_ => .inl h_) (fun h_ => .inr ⟨.inr (Nat.le_trans HK.out.1 h_), h_⟩))); replace HK := Aside0.mk (Kept.then_ (S := (fun k_ => P0_ k_)) HK.out hkp (fun k_ hs_ => (HOK.out k_ hs_).1)); replace HB := Aside0.mk hb; clear hb hkp hy0))
   go_roundg k1
   case measure => have := HK1.out; omega
   case rel => exact ⟨_, tk, (wrap64 (x5_1 + 1)), rs_, rs_, H', ⟨by have := HK1.out; omega⟩, ⟨by (with_reducible repeat (first | apply Kd.S_alloc | apply Kd.S_drewN | apply Kd.S_drew)); exact HO_0.out⟩, ⟨by repeat (first | (with_reducible first | exact HK.out | apply Kept.alloc | apply Kept.drewN | apply Kept.drew) | exact HK.out)⟩, ⟨bl_ HB.out⟩⟩
def laws_heldIntS.l0 : Nat → List Int → Int → Int → Option (Int)
 | 0, _, _, _ => none
 | k + 1, x0, x1, x5 => if x5 < (x0.length : Int) then (if 0 ≤ x5 then (if (rd x0 x5) = x1 then (laws_heldIntS.l0 k x0 (wrap64 (x1 + 1)) (wrap64 (x5 + 1))) else (some (-1))) else (none)) else (some x1)
def laws_heldIntS.f (k : Nat) (l0 : List Int) (a1 : Int) : Option (Int) := laws_heldIntS.l0 k l0 a1 0
theorem laws_heldIntS.calls (k : Nat) (A0 : Option Addr) (c0 : Nat) (l0 : List Int) (a1 : Int) (r : Int) (w : World) (hr0 : Kd.C (Kd.int .i64) w A0 l0.length l0) (hc0 : l0.length ≤ c0) (h : laws_heldIntS.f k l0 a1 = some r) :
 Calls Try.prog 32 #[.slice A0 l0.length c0, .int .i64 a1] w fun e w' => e = .returned (.int .i64 r) ∧ Drawn0 w w' := by
 have HR0 := Aside0.mk hr0
 have HC0 := Aside0.mk hc0
 clear hr0 hc0
 have H := h
 clear h
 unfold laws_heldIntS.f at H
 have H' := Aside0.mk H
 clear H
 go_enter Try.func32, Try.ntmps32
 go_wp2
 go_loopg [1, 5] k (fun kq v1 v5 w' => ∃ (x1_1 : Int) (x5_1 : Int), v1 = .int .i64 x1_1 ∧ v5 = .int .i64 x5_1 ∧ Aside0 (laws_heldIntS.l0 kq l0 x1_1 x5_1 = some r) ∧ Aside0 (kq ≤ k) ∧ Drawn0 w w')
 case atStart => exact ⟨(a1), (0), rs_, rs_, H', ⟨Nat.le_refl _⟩, by repeat (first | exact Drawn0.refl _ | apply Drawn0.step)⟩
 case round =>
  clear H'
  obtain ⟨x1_1, x5_1, rfl, rfl, HA, HK1, ⟨m1, rfl⟩⟩ := hrel
  cases gk with
  | zero => exact absurd HA.out (by simp [laws_heldIntS.l0])
  | succ k1 =>
   have H := HA.out
   clear HA
   simp only [laws_heldIntS.l0] at H
   by_cases c3 : x5_1 < (l0.length : Int)
   rotate_left
   · rw [if_neg c3] at H
     have c3b0 : decide (x5_1 < (l0.length : Int)) = false := decide_eq_false c3
     clear c3
     obtain rfl := Option.some.inj H
     go_wp2
     go_ret
     exact ⟨by first | rfl | (simp; done) | (simp [*]; done), by repeat (first | exact Drawn0.refl _ | apply Drawn0.step)⟩
   rw [if_pos c3] at H
   have c3b0 : decide (x5_1 < (l0.length : Int)) = true := decide_eq_true c3
   clear c3
   obtain ⟨c4b0, H⟩ := ipd_ H
   by_cases c5 : (rd l0 x5_1) = x1_1
   rotate_left
   · rw [if_neg c5] at H
     have c5b0 : ((rd l0 x5_1) == x1_1) = false := beq_eq_false_iff_ne.mpr c5
     have c5b1 : ((rd l0 x5_1) != x1_1) = true := bne_iff_ne.mpr c5
     obtain rfl := Option.some.inj H
     have p200 : 0 ≤ (x5_1 : Int) := od_
     have q200 : x5_1 < (l0.length : Int) := od_
     obtain ⟨ad200, e200, hx200_0⟩ := Kd.at_int HR0.out x5_1 p200 q200
     cases e200
     replace p200 := eq_true p200
     replace q200 := eq_true q200
     go_wp2
     go_ret
     exact ⟨by first | rfl | (simp; done) | (simp [*]; done), by repeat (first | exact Drawn0.refl _ | apply Drawn0.step)⟩
   rw [if_pos c5] at H
   have c5b0 : ((rd l0 x5_1) == x1_1) = true := beq_iff_eq.mpr c5
   have c5b1 : ((rd l0 x5_1) != x1_1) = false := bne_eq_false_iff_eq.mpr c5
   clear c5
   have H' := Aside0.mk H
   clear H
   have p200 : 0 ≤ (x5_1 : Int) := od_
   have q200 : x5_1 < (l0.length : Int) := od_
   obtain ⟨ad200, e200, hx200_0⟩ := Kd.at_int HR0.out x5_1 p200 q200
   cases e200
   replace p200 := eq_true p200
   replace q200 := eq_true q200
   go_wp2
   go_roundg k1
   case measure => have := HK1.out; omega
   case rel => exact ⟨(wrap64 (x1_1 + 1)), (wrap64 (x5_1 + 1)), rs_, rs_, H', ⟨by have := HK1.out; omega⟩, by repeat (first | exact Drawn0.refl _ | apply Drawn0.step)⟩
def laws_heldSemigroupS.l0 : Nat → List (S26) → Int → Int → Option (Int)
 | 0, _, _, _ => none
 | k + 1, x0, x1, x5 => if x5 < (x0.length : Int) then (if 0 ≤ x5 then ((laws_heldIntS.f k ((rd_T26 x0 x5).f0) x1).bind fun t202 => (if t202 < 0 then (some (-1)) else (laws_heldSemigroupS.l0 k x0 t202 (wrap64 (x5 + 1))))) else (none)) else (some x1)
def laws_heldSemigroupS.f (k : Nat) (l0 : List (S26)) (a1 : Int) : Option (Int) := laws_heldSemigroupS.l0 k l0 a1 0
theorem laws_heldSemigroupS.calls (k : Nat) (A0 : Option Addr) (c0 : Nat) (l0 : List (S26)) (a1 : Int) (r : Int) (w : World) (hr0 : Kd.C k26 w A0 l0.length l0) (hc0 : l0.length ≤ c0) (h : laws_heldSemigroupS.f k l0 a1 = some r) :
 Calls Try.prog 20 #[.slice A0 l0.length c0, .int .i64 a1] w fun e w' => e = .returned (.int .i64 r) ∧ Drawn0 w w' := by
 have HR0 := Aside0.mk hr0
 have HC0 := Aside0.mk hc0
 clear hr0 hc0
 have H := h
 clear h
 unfold laws_heldSemigroupS.f at H
 have H' := Aside0.mk H
 clear H
 go_enter Try.func20, Try.ntmps20
 go_wp2
 go_loopg [1, 5] k (fun kq v1 v5 w' => ∃ (x1_1 : Int) (x5_1 : Int), v1 = .int .i64 x1_1 ∧ v5 = .int .i64 x5_1 ∧ Aside0 (laws_heldSemigroupS.l0 kq l0 x1_1 x5_1 = some r) ∧ Aside0 (kq ≤ k) ∧ Drawn0 w w')
 case atStart => exact ⟨(a1), (0), rs_, rs_, H', ⟨Nat.le_refl _⟩, by repeat (first | exact Drawn0.refl _ | apply Drawn0.step)⟩
 case round =>
  clear H'
  obtain ⟨x1_1, x5_1, rfl, rfl, HA, HK1, ⟨m1, rfl⟩⟩ := hrel
  cases gk with
  | zero => exact absurd HA.out (by simp [laws_heldSemigroupS.l0])
  | succ k1 =>
   have H := HA.out
   clear HA
   simp only [laws_heldSemigroupS.l0] at H
   by_cases c3 : x5_1 < (l0.length : Int)
   rotate_left
   · rw [if_neg c3] at H
     have c3b0 : decide (x5_1 < (l0.length : Int)) = false := decide_eq_false c3
     clear c3
     obtain rfl := Option.some.inj H
     go_wp2
     go_ret
     exact ⟨by first | rfl | (simp; done) | (simp [*]; done), by repeat (first | exact Drawn0.refl _ | apply Drawn0.step)⟩
   rw [if_pos c3] at H
   have c3b0 : decide (x5_1 < (l0.length : Int)) = true := decide_eq_true c3
   clear c3
   obtain ⟨c4b0, H⟩ := ipd_ H
   obtain ⟨t202, A5, H⟩ := ob_ H
   by_cases c6 : t202 < 0
   · rw [if_pos c6] at H
     have c6b0 : decide (t202 < 0) = true := decide_eq_true c6
     clear c6
     obtain rfl := Option.some.inj H
     have p201 : 0 ≤ (x5_1 : Int) := od_
     have q201 : x5_1 < (l0.length : Int) := od_
     obtain ⟨ad201, A201_0, c201_0, e201, hx201_0, hl201_0, hi201_0⟩ := at_T26 HR0.out x5_1 p201 q201
     cases e201
     have HR201_0 := Aside0.mk hi201_0
     have HC201_0 := Aside0.mk hl201_0
     clear hi201_0 hl201_0
     replace p201 := eq_true p201
     replace q201 := eq_true q201
     go_wp2_with (first | ((with_reducible refine gate_callee (f := 32) rfl ?_); refine gL_ (some 18) Try.func32 #[.slice A201_0 ((rd_T26 l0 x5_1).f0).length c201_0, .int .i64 x1_1] ?_; (with_reducible refine (laws_heldIntS.calls k1 _ _ ((rd_T26 l0 x5_1).f0) x1_1 t202 _ ?side1 ?side2 A5.out).mono ?_); (case side1 => exact ce_ (HR201_0.out)); (case side2 => exact HC201_0.out); rintro e w' ⟨rfl, ⟨nd, rfl⟩⟩; refine ⟨_, rfl, ?_⟩))
     go_ret
     exact ⟨by first | rfl | (simp; done) | (simp [*]; done), by repeat (first | exact Drawn0.refl _ | apply Drawn0.step)⟩
   rw [if_neg c6] at H
   have c6b0 : decide (t202 < 0) = false := decide_eq_false c6
   clear c6
   have H' := Aside0.mk H
   clear H
   have p201 : 0 ≤ (x5_1 : Int) := od_
   have q201 : x5_1 < (l0.length : Int) := od_
   obtain ⟨ad201, A201_0, c201_0, e201, hx201_0, hl201_0, hi201_0⟩ := at_T26 HR0.out x5_1 p201 q201
   cases e201
   have HR201_0 := Aside0.mk hi201_0
   have HC201_0 := Aside0.mk hl201_0
   clear hi201_0 hl201_0
   replace p201 := eq_true p201
   replace q201 := eq_true q201
   go_wp2_with (first | ((with_reducible refine gate_callee (f := 32) rfl ?_); refine gL_ (some 18) Try.func32 #[.slice A201_0 ((rd_T26 l0 x5_1).f0).length c201_0, .int .i64 x1_1] ?_; (with_reducible refine (laws_heldIntS.calls k1 _ _ ((rd_T26 l0 x5_1).f0) x1_1 t202 _ ?side1 ?side2 A5.out).mono ?_); (case side1 => exact ce_ (HR201_0.out)); (case side2 => exact HC201_0.out); rintro e w' ⟨rfl, ⟨nd, rfl⟩⟩; refine ⟨_, rfl, ?_⟩))
   go_roundg k1
   case measure => have := HK1.out; omega
   case rel => exact ⟨(t202), (wrap64 (x5_1 + 1)), rs_, rs_, H', ⟨by have := HK1.out; omega⟩, by repeat (first | exact Drawn0.refl _ | apply Drawn0.step)⟩
def spec_l1In.f (a0 : Int) (a1 : Int) (a2 : Int) : Option (Bool) := if a0 ≥ a1 then (some (decide (a0 ≤ a2))) else (some false)
theorem spec_l1In.calls (a0 : Int) (a1 : Int) (a2 : Int) (r : Bool) (w : World) (h : spec_l1In.f a0 a1 a2 = some r) :
 Calls Try.prog 39 #[.int .i64 a0, .int .i64 a1, .int .i64 a2] w fun e w' => e = .returned (.bool r) ∧ Drawn0 w w' := by
 have H := h
 clear h
 unfold spec_l1In.f at H
 by_cases c4 : a0 ≥ a1
 rotate_left
 · rw [if_neg c4] at H
   have c4b0 : decide (a1 ≤ a0) = false := decide_eq_false c4
   clear c4
   obtain rfl := Option.some.inj H
   go_enter Try.func39, Try.ntmps39
   go_wp2
   go_ret
   exact ⟨by first | rfl | (simp; done) | (simp [*]; done), by repeat (first | exact Drawn0.refl _ | apply Drawn0.step)⟩
 rw [if_pos c4] at H
 have c4b0 : decide (a1 ≤ a0) = true := decide_eq_true c4
 clear c4
 obtain rfl := Option.some.inj H
 go_enter Try.func39, Try.ntmps39
 go_wp2
 go_ret
 exact ⟨by first | rfl | (simp; done) | (simp [*]; done), by repeat (first | exact Drawn0.refl _ | apply Drawn0.step)⟩
def spec_l3Gens.l0 : Nat → List Int → Int → Option (Bool)
 | 0, _, _ => none
 | k + 1, x0, x3 => if x3 < (x0.length : Int) then (if 0 ≤ x3 then ((spec_l1In.f (rd x0 x3) 1 60).bind fun t204 => (if t204 = true then (spec_l3Gens.l0 k x0 (wrap64 (x3 + 1))) else (some false))) else (none)) else ((spec_l1In.f (x0.length : Int) 1 20).bind fun t205 => (some t205))
def spec_l3Gens.f (k : Nat) (l0 : List Int) : Option (Bool) := spec_l3Gens.l0 k l0 0
theorem spec_l3Gens.mono_l : ∀ k, (∀ y0 y1, LeO (spec_l3Gens.l0 k y0 y1) (spec_l3Gens.l0 (k + 1) y0 y1))
 | 0 => fun _ _ r h => by simp [spec_l3Gens.l0] at h
 | k + 1 => by
  have ih0 := spec_l3Gens.mono_l k
  · intro y0 y1
    unfold spec_l3Gens.l0
    repeat' first
    | (with_reducible exact ih0 _ _)
    | (with_reducible exact LeO.refl _)
    | (with_reducible exact LeO.none _)
    | (with_reducible refine LeO.ite ?_ ?_)
    | (with_reducible refine LeO.bind ?_ (fun _ => ?_))
    | exact ih0 _ _
    | exact LeO.none _
    | refine LeO.ite ?_ ?_
    | refine LeO.bind ?_ (fun _ => ?_)
theorem spec_l3Gens.mono : ∀ a0 k, LeO (spec_l3Gens.f k a0) (spec_l3Gens.f (k + 1) a0) := by
 intro a0 k
 have ih0 := spec_l3Gens.mono_l k
 unfold spec_l3Gens.f
 repeat' first
  | (with_reducible exact ih0 _ _)
  | (with_reducible exact LeO.refl _)
  | (with_reducible exact LeO.none _)
  | (with_reducible refine LeO.ite ?_ ?_)
  | (with_reducible refine LeO.bind ?_ (fun _ => ?_))
  | exact ih0 _ _
  | exact LeO.none _
  | refine LeO.ite ?_ ?_
  | refine LeO.bind ?_ (fun _ => ?_)
theorem spec_l3Gens.calls (k : Nat) (A0 : Option Addr) (c0 : Nat) (l0 : List Int) (r : Bool) (w : World) (hr0 : Kd.C (Kd.int .i64) w A0 l0.length l0) (hc0 : l0.length ≤ c0) (h : spec_l3Gens.f k l0 = some r) :
 Calls Try.prog 46 #[.slice A0 l0.length c0] w fun e w' => e = .returned (.bool r) ∧ Drawn0 w w' := by
 have HR0 := Aside0.mk hr0
 have HC0 := Aside0.mk hc0
 clear hr0 hc0
 have H := h
 clear h
 unfold spec_l3Gens.f at H
 have H' := Aside0.mk H
 clear H
 go_enter Try.func46, Try.ntmps46
 go_wp2
 go_loopg [3] k (fun kq v3 w' => ∃ (x3_1 : Int), v3 = .int .i64 x3_1 ∧ Aside0 (spec_l3Gens.l0 kq l0 x3_1 = some r) ∧ Aside0 (kq ≤ k) ∧ Drawn0 w w')
 case atStart => exact ⟨(0), rs_, H', ⟨Nat.le_refl _⟩, by repeat (first | exact Drawn0.refl _ | apply Drawn0.step)⟩
 case round =>
  clear H'
  obtain ⟨x3_1, rfl, HA, HK1, ⟨m1, rfl⟩⟩ := hrel
  cases gk with
  | zero => exact absurd HA.out (by simp [spec_l3Gens.l0])
  | succ k1 =>
   have H := HA.out
   clear HA
   simp only [spec_l3Gens.l0] at H
   by_cases c2 : x3_1 < (l0.length : Int)
   rotate_left
   · rw [if_neg c2] at H
     have c2b0 : decide (x3_1 < (l0.length : Int)) = false := decide_eq_false c2
     clear c2
     obtain ⟨t205, A6, H⟩ := ob_ H
     obtain rfl := Option.some.inj H
     go_wp2_with (first | ((with_reducible refine gate_callee (f := 39) rfl ?_); refine gL_ (some 18) Try.func39 #[.int .i64 (l0.length : Int), .int .i64 1, .int .i64 20] ?_; (with_reducible refine (spec_l1In.calls (l0.length : Int) 1 20 t205 _ A6.out).mono ?_); rintro e w' ⟨rfl, ⟨nd, rfl⟩⟩; refine ⟨_, rfl, ?_⟩))
     go_ret
     exact ⟨by first | rfl | (simp; done) | (simp [*]; done), by repeat (first | exact Drawn0.refl _ | apply Drawn0.step)⟩
   rw [if_pos c2] at H
   have c2b0 : decide (x3_1 < (l0.length : Int)) = true := decide_eq_true c2
   clear c2
   obtain ⟨c3b0, H⟩ := ipd_ H
   obtain ⟨t204, A4, H⟩ := ob_ H
   by_cases c5 : t204 = true
   rotate_left
   · replace c5 := Bool.eq_false_iff.mpr c5
     subst c5
     rw [if_neg (show ¬ (false = true) by decide)] at H
     obtain rfl := Option.some.inj H
     have p203 : 0 ≤ (x3_1 : Int) := od_
     have q203 : x3_1 < (l0.length : Int) := od_
     obtain ⟨ad203, e203, hx203_0⟩ := Kd.at_int HR0.out x3_1 p203 q203
     cases e203
     replace p203 := eq_true p203
     replace q203 := eq_true q203
     go_wp2_with (first | ((with_reducible refine gate_callee (f := 39) rfl ?_); refine gL_ (some 14) Try.func39 #[.int .i64 (rd l0 x3_1), .int .i64 1, .int .i64 60] ?_; (with_reducible refine (spec_l1In.calls (rd l0 x3_1) 1 60 false _ A4.out).mono ?_); rintro e w' ⟨rfl, ⟨nd, rfl⟩⟩; refine ⟨_, rfl, ?_⟩))
     go_ret
     exact ⟨by first | rfl | (simp; done) | (simp [*]; done), by repeat (first | exact Drawn0.refl _ | apply Drawn0.step)⟩
   subst c5
   rw [if_pos rfl] at H
   have H' := Aside0.mk H
   clear H
   have p203 : 0 ≤ (x3_1 : Int) := od_
   have q203 : x3_1 < (l0.length : Int) := od_
   obtain ⟨ad203, e203, hx203_0⟩ := Kd.at_int HR0.out x3_1 p203 q203
   cases e203
   replace p203 := eq_true p203
   replace q203 := eq_true q203
   go_wp2_with (first | ((with_reducible refine gate_callee (f := 39) rfl ?_); refine gL_ (some 14) Try.func39 #[.int .i64 (rd l0 x3_1), .int .i64 1, .int .i64 60] ?_; (with_reducible refine (spec_l1In.calls (rd l0 x3_1) 1 60 true _ A4.out).mono ?_); rintro e w' ⟨rfl, ⟨nd, rfl⟩⟩; refine ⟨_, rfl, ?_⟩))
   go_roundg k1
   case measure => have := HK1.out; omega
   case rel => exact ⟨(wrap64 (x3_1 + 1)), rs_, H', ⟨by have := HK1.out; omega⟩, by repeat (first | exact Drawn0.refl _ | apply Drawn0.step)⟩
def spec_IsAscending.l0 : Nat → List Int → Int → Option (Bool)
 | 0, _, _ => none
 | k + 1, x0, x3 => if x3 < (x0.length : Int) then (if 0 ≤ (wrap64 (x3 - 1)) then (if (wrap64 (x3 - 1)) < (x0.length : Int) then (if 0 ≤ x3 then (if (rd x0 (wrap64 (x3 - 1))) ≥ (rd x0 x3) then (some false) else (spec_IsAscending.l0 k x0 (wrap64 (x3 + 1)))) else (none)) else (none)) else (none)) else (some true)
def spec_IsAscending.f (k : Nat) (l0 : List Int) : Option (Bool) := spec_IsAscending.l0 k l0 1
theorem spec_IsAscending.mono_l : ∀ k, (∀ y0 y1, LeO (spec_IsAscending.l0 k y0 y1) (spec_IsAscending.l0 (k + 1) y0 y1))
 | 0 => fun _ _ r h => by simp [spec_IsAscending.l0] at h
 | k + 1 => by
  have ih0 := spec_IsAscending.mono_l k
  · intro y0 y1
    unfold spec_IsAscending.l0
    repeat' first
    | (with_reducible exact ih0 _ _)
    | (with_reducible exact LeO.refl _)
    | (with_reducible exact LeO.none _)
    | (with_reducible refine LeO.ite ?_ ?_)
    | (with_reducible refine LeO.bind ?_ (fun _ => ?_))
    | exact ih0 _ _
    | exact LeO.none _
    | refine LeO.ite ?_ ?_
    | refine LeO.bind ?_ (fun _ => ?_)
theorem spec_IsAscending.mono : ∀ a0 k, LeO (spec_IsAscending.f k a0) (spec_IsAscending.f (k + 1) a0) := by
 intro a0 k
 have ih0 := spec_IsAscending.mono_l k
 unfold spec_IsAscending.f
 repeat' first
  | (with_reducible exact ih0 _ _)
  | (with_reducible exact LeO.refl _)
  | (with_reducible exact LeO.none _)
  | (with_reducible refine LeO.ite ?_ ?_)
  | (with_reducible refine LeO.bind ?_ (fun _ => ?_))
  | exact ih0 _ _
  | exact LeO.none _
  | refine LeO.ite ?_ ?_
  | refine LeO.bind ?_ (fun _ => ?_)
theorem spec_IsAscending.calls (k : Nat) (A0 : Option Addr) (c0 : Nat) (l0 : List Int) (r : Bool) (w : World) (hr0 : Kd.C (Kd.int .i64) w A0 l0.length l0) (hc0 : l0.length ≤ c0) (h : spec_IsAscending.f k l0 = some r) :
 Calls Try.prog 47 #[.slice A0 l0.length c0] w fun e w' => e = .returned (.bool r) ∧ Drawn0 w w' := by
 have HR0 := Aside0.mk hr0
 have HC0 := Aside0.mk hc0
 clear hr0 hc0
 have H := h
 clear h
 unfold spec_IsAscending.f at H
 have H' := Aside0.mk H
 clear H
 go_enter Try.func47, Try.ntmps47
 go_wp2
 repeat (go_quiet (fail); try go_wp2)
 go_loopg [3] k (fun kq v3 w' => ∃ (x3_1 : Int), v3 = .int .i64 x3_1 ∧ Aside0 (spec_IsAscending.l0 kq l0 x3_1 = some r) ∧ Aside0 (kq ≤ k) ∧ Drawn0 w w')
 case atStart => exact ⟨(1), rs_, H', ⟨Nat.le_refl _⟩, by repeat (first | exact Drawn0.refl _ | apply Drawn0.step)⟩
 case round =>
  clear H'
  obtain ⟨x3_1, rfl, HA, HK1, ⟨m1, rfl⟩⟩ := hrel
  cases gk with
  | zero => exact absurd HA.out (by simp [spec_IsAscending.l0])
  | succ k1 =>
   have H := HA.out
   clear HA
   simp only [spec_IsAscending.l0] at H
   by_cases c2 : x3_1 < (l0.length : Int)
   rotate_left
   · rw [if_neg c2] at H
     have c2b0 : decide (x3_1 < (l0.length : Int)) = false := decide_eq_false c2
     clear c2
     obtain rfl := Option.some.inj H
     go_wp2
     repeat (go_quiet (fail); try go_wp2)
     go_ret
     exact ⟨by first | rfl | (simp; done) | (simp [*]; done), by repeat (first | exact Drawn0.refl _ | apply Drawn0.step)⟩
   rw [if_pos c2] at H
   have c2b0 : decide (x3_1 < (l0.length : Int)) = true := decide_eq_true c2
   clear c2
   obtain ⟨ji3, hji3⟩ : ∃ j_ : Int, (wrap64 (x3_1 - 1)) = j_ := ⟨_, rfl⟩
   replace H : (if 0 ≤ (ji3) then (if (ji3) < (l0.length : Int) then (if 0 ≤ x3_1 then (if (rd l0 (ji3)) ≥ (rd l0 x3_1) then (some false) else (spec_IsAscending.l0 k1 l0 (wrap64 (x3_1 + 1)))) else (none)) else (none)) else (none)) = some r := by first | (rw [hji3] at H; exact H) | (simp only [hji3] at H ⊢; exact H)
   have hji3w : (IntKind.i64.wrap (x3_1 - 1)) = ji3 := (i64_w _).trans hji3
   obtain ⟨c4b0, H⟩ := ipd_ H
   obtain ⟨c5b0, H⟩ := ipd_ H
   obtain ⟨c6b0, H⟩ := ipd_ H
   by_cases c7 : (rd l0 (ji3)) ≥ (rd l0 x3_1)
   · rw [if_pos c7] at H
     have c7b0 : decide ((rd l0 x3_1) ≤ (rd l0 (ji3))) = true := decide_eq_true c7
     clear c7
     obtain rfl := Option.some.inj H
     have p206 : 0 ≤ ((ji3) : Int) := od_
     have q206 : (ji3) < (l0.length : Int) := od_
     obtain ⟨ad206, e206, hx206_0⟩ := Kd.at_int HR0.out (ji3) p206 q206
     cases e206
     replace p206 := eq_true p206
     replace q206 := eq_true q206
     have p207 : 0 ≤ (x3_1 : Int) := od_
     have q207 : x3_1 < (l0.length : Int) := od_
     obtain ⟨ad207, e207, hx207_0⟩ := Kd.at_int HR0.out x3_1 p207 q207
     obtain rfl : ad206 = ad207 := (by injection e207)
     replace p207 := eq_true p207
     replace q207 := eq_true q207
     go_wp2
     repeat (go_quiet (fail); try go_wp2)
     go_ret
     exact ⟨by first | rfl | (simp; done) | (simp only [← hji3] <;> (first | rfl | simp)) | (simp [*]; done), by repeat (first | exact Drawn0.refl _ | apply Drawn0.step)⟩
   rw [if_neg c7] at H
   have c7b0 : decide ((rd l0 x3_1) ≤ (rd l0 (ji3))) = false := decide_eq_false c7
   clear c7
   have H' := Aside0.mk H
   clear H
   have p206 : 0 ≤ ((ji3) : Int) := od_
   have q206 : (ji3) < (l0.length : Int) := od_
   obtain ⟨ad206, e206, hx206_0⟩ := Kd.at_int HR0.out (ji3) p206 q206
   cases e206
   replace p206 := eq_true p206
   replace q206 := eq_true q206
   have p207 : 0 ≤ (x3_1 : Int) := od_
   have q207 : x3_1 < (l0.length : Int) := od_
   obtain ⟨ad207, e207, hx207_0⟩ := Kd.at_int HR0.out x3_1 p207 q207
   obtain rfl : ad206 = ad207 := (by injection e207)
   replace p207 := eq_true p207
   replace q207 := eq_true q207
   go_wp2
   repeat (go_quiet (fail); try go_wp2)
   go_roundg k1
   case measure => have := HK1.out; omega
   case rel => exact ⟨(wrap64 (x3_1 + 1)), rs_, H', ⟨by have := HK1.out; omega⟩, by repeat (first | exact Drawn0.refl _ | apply Drawn0.step)⟩
def spec_l2Small.f (a0 : Int) : Option (Bool) := (spec_l1In.f a0 (-1000000) 1000000).bind fun t208 => (some t208)
theorem spec_l2Small.calls (a0 : Int) (r : Bool) (w : World) (h : spec_l2Small.f a0 = some r) :
 Calls Try.prog 103 #[.int .i64 a0] w fun e w' => e = .returned (.bool r) ∧ Drawn0 w w' := by
 have H := h
 clear h
 unfold spec_l2Small.f at H
 obtain ⟨t208, A2, H⟩ := ob_ H
 obtain rfl := Option.some.inj H
 go_enter Try.func103, Try.ntmps103
 go_wp2_with (first | ((with_reducible refine gate_callee (f := 39) rfl ?_); refine gL_ (some 4) Try.func39 #[.int .i64 a0, .int .i64 (-1000000), .int .i64 1000000] ?_; (with_reducible refine (spec_l1In.calls a0 (-1000000) 1000000 t208 _ A2.out).mono ?_); rintro e w' ⟨rfl, ⟨nd, rfl⟩⟩; refine ⟨_, rfl, ?_⟩))
 go_ret
 exact ⟨by first | rfl | (simp; done) | (simp [*]; done), by repeat (first | exact Drawn0.refl _ | apply Drawn0.step)⟩
def spec_l1Max.f (a0 : Int) (a1 : Int) : Option (Int) := if a0 > a1 then (some a0) else (some a1)
theorem spec_l1Max.calls (a0 : Int) (a1 : Int) (r : Int) (w : World) (h : spec_l1Max.f a0 a1 = some r) :
 Calls Try.prog 104 #[.int .i64 a0, .int .i64 a1] w fun e w' => e = .returned (.int .i64 r) ∧ Drawn0 w w' := by
 have H := h
 clear h
 unfold spec_l1Max.f at H
 by_cases c3 : a0 > a1
 rotate_left
 · rw [if_neg c3] at H
   have c3b0 : decide (a1 < a0) = false := decide_eq_false c3
   clear c3
   obtain rfl := Option.some.inj H
   go_enter Try.func104, Try.ntmps104
   go_wp2
   go_ret
   exact ⟨by first | rfl | (simp; done) | (simp [*]; done), by repeat (first | exact Drawn0.refl _ | apply Drawn0.step)⟩
 rw [if_pos c3] at H
 have c3b0 : decide (a1 < a0) = true := decide_eq_true c3
 clear c3
 obtain rfl := Option.some.inj H
 go_enter Try.func104, Try.ntmps104
 go_wp2
 go_ret
 exact ⟨by first | rfl | (simp; done) | (simp [*]; done), by repeat (first | exact Drawn0.refl _ | apply Drawn0.step)⟩
mutual
def spec_GcdOf.j0 : Nat → Int → Int → Bool → Option (Int)
 | 0, _, _, _ => none
 | k + 1, x0, x1, x13 => if x13 = true then (some 0) else ((spec_l1Max.f x0 (wrap64 (-x0))).bind fun t211 => ((spec_l1Max.f x1 (wrap64 (-x1))).bind fun t212 => (spec_GcdOf.l0 k t211 t212)))
def spec_GcdOf.l0 : Nat → Int → Int → Option (Int)
 | 0, _, _ => none
 | k + 1, x0, x1 => if x1 > 0 then (if x1 = 0 then (none) else (spec_GcdOf.l0 k x1 (Int.tmod x0 x1))) else (some x0)
end
def spec_GcdOf.f (k : Nat) (a0 : Int) (a1 : Int) : Option (Int) := (spec_l2Small.f a0).bind fun t209 => (if t209 = true then ((spec_l2Small.f a1).bind fun t210 => (spec_GcdOf.j0 k a0 a1 (!t210))) else (spec_GcdOf.j0 k a0 a1 true))
theorem spec_GcdOf.mono_l : ∀ k, (∀ y0 y1 y2, LeO (spec_GcdOf.j0 k y0 y1 y2) (spec_GcdOf.j0 (k + 1) y0 y1 y2)) ∧ (∀ y0 y1, LeO (spec_GcdOf.l0 k y0 y1) (spec_GcdOf.l0 (k + 1) y0 y1))
 | 0 => ⟨fun _ _ _ r h => by simp [spec_GcdOf.j0] at h, fun _ _ r h => by simp [spec_GcdOf.l0] at h⟩
 | k + 1 => by
  obtain ⟨ih0, ih1⟩ := spec_GcdOf.mono_l k
  refine ⟨?_, ?_⟩
  · intro y0 y1 y2
    unfold spec_GcdOf.j0
    repeat' first
    | (with_reducible exact ih0 _ _ _)
    | (with_reducible exact ih1 _ _)
    | (with_reducible exact LeO.refl _)
    | (with_reducible exact LeO.none _)
    | (with_reducible refine LeO.ite ?_ ?_)
    | (with_reducible refine LeO.bind ?_ (fun _ => ?_))
    | exact ih0 _ _ _
    | exact ih1 _ _
    | exact LeO.none _
    | refine LeO.ite ?_ ?_
    | refine LeO.bind ?_ (fun _ => ?_)
  · intro y0 y1
    unfold spec_GcdOf.l0
    repeat' first
    | (with_reducible exact ih0 _ _ _)
    | (with_reducible exact ih1 _ _)
    | (with_reducible exact LeO.refl _)
    | (with_reducible exact LeO.none _)
    | (with_reducible refine LeO.ite ?_ ?_)
    | (with_reducible refine LeO.bind ?_ (fun _ => ?_))
    | exact ih0 _ _ _
    | exact ih1 _ _
    | exact LeO.none _
    | refine LeO.ite ?_ ?_
    | refine LeO.bind ?_ (fun _ => ?_)
theorem spec_GcdOf.mono : ∀ a0 a1 k, LeO (spec_GcdOf.f k a0 a1) (spec_GcdOf.f (k + 1) a0 a1) := by
 intro a0 a1 k
 obtain ⟨ih0, ih1⟩ := spec_GcdOf.mono_l k
 unfold spec_GcdOf.f
 repeat' first
  | (with_reducible exact ih0 _ _ _)
  | (with_reducible exact ih1 _ _)
  | (with_reducible exact LeO.refl _)
  | (with_reducible exact LeO.none _)
  | (with_reducible refine LeO.ite ?_ ?_)
  | (with_reducible refine LeO.bind ?_ (fun _ => ?_))
  | exact ih0 _ _ _
  | exact ih1 _ _
  | exact LeO.none _
  | refine LeO.ite ?_ ?_
  | refine LeO.bind ?_ (fun _ => ?_)
theorem spec_GcdOf.calls (k : Nat) (a0 : Int) (a1 : Int) (r : Int) (w : World) (h : spec_GcdOf.f k a0 a1 = some r) :
 Calls Try.prog 80 #[.int .i64 a0, .int .i64 a1] w fun e w' => e = .returned (.int .i64 r) ∧ Drawn0 w w' := by
 have H := h
 clear h
 unfold spec_GcdOf.f at H
 have HC3 := Aside0.mk H
 clear H
 go_enter Try.func80, Try.ntmps80
 go_upto_region 1 with (fail)
 go_cut [13] (fun v13 wc => ∃ (kq : Nat) (x13_2 : Bool), v13 = .bool x13_2 ∧ Aside0 (spec_GcdOf.j0 kq a0 a1 x13_2 = some r) ∧ Aside0 (kq ≤ k) ∧ Drawn0 w wc)
 case first =>
  have H := HC3.out
  clear HC3
  obtain ⟨t209, A4, H⟩ := ob_ H
  by_cases c5 : t209 = true
  rotate_left
  · replace c5 := Bool.eq_false_iff.mpr c5
    subst c5
    rw [if_neg (show ¬ (false = true) by decide)] at H
    have H' := Aside0.mk H
    clear H
    go_wp2_with (first | ((with_reducible refine gate_callee (f := 103) rfl ?_); refine gL_ (some 7) Try.func103 #[.int .i64 a0] ?_; (with_reducible refine (spec_l2Small.calls a0 false _ A4.out).mono ?_); rintro e w' ⟨rfl, ⟨nd, rfl⟩⟩; refine ⟨_, rfl, ?_⟩))
    go_meet
    case rel => exact ⟨_, (true), rs_, H', ⟨by first | omega | exact Nat.le_refl _⟩, by repeat (first | exact Drawn0.refl _ | apply Drawn0.step)⟩
  subst c5
  rw [if_pos rfl] at H
  obtain ⟨t210, A6, H⟩ := ob_ H
  have H' := Aside0.mk H
  clear H
  go_wp2_with (first | ((with_reducible refine gate_callee (f := 103) rfl ?_); refine gL_ (some 7) Try.func103 #[.int .i64 a0] ?_; (with_reducible refine (spec_l2Small.calls a0 true _ A4.out).mono ?_); rintro e w' ⟨rfl, ⟨nd, rfl⟩⟩; refine ⟨_, rfl, ?_⟩) | (go_at_call 103; (with_reducible refine (spec_l2Small.calls a1 t210 _ A6.out).mono ?_); rintro e w' ⟨rfl, ⟨nd, rfl⟩⟩))
  go_meet
  case rel => exact ⟨_, (!t210), rs_, H', ⟨by first | omega | exact Nat.le_refl _⟩, by repeat (first | exact Drawn0.refl _ | apply Drawn0.step)⟩
 case rest =>
  clear HC3
  obtain ⟨kq, x13_2, rfl, HA, HJ2, ⟨mc2, rfl⟩⟩ := hcut
  cases kq with
  | zero => exact absurd HA.out (by simp [spec_GcdOf.j0])
  | succ kj2 =>
   have H := HA.out
   clear HA
   simp only [spec_GcdOf.j0] at H
   by_cases c7 : x13_2 = true
   · subst c7
     rw [if_pos rfl] at H
     obtain rfl := Option.some.inj H
     go_wp2
     go_ret
     exact ⟨by first | rfl | (simp; done) | (simp [*]; done), by repeat (first | exact Drawn0.refl _ | apply Drawn0.step)⟩
   replace c7 := Bool.eq_false_iff.mpr c7
   subst c7
   rw [if_neg (show ¬ (false = true) by decide)] at H
   obtain ⟨t211, A8, H⟩ := ob_ H
   obtain ⟨t212, A9, H⟩ := ob_ H
   have H' := Aside0.mk H
   clear H
   go_wp2_with (first | ((with_reducible refine gate_callee (f := 104) rfl ?_); refine gL_ (some 17) Try.func104 #[.int .i64 a0, .int .i64 (wrap64 (-a0))] ?_; (with_reducible refine (spec_l1Max.calls a0 (wrap64 (-a0)) t211 _ A8.out).mono ?_); rintro e w' ⟨rfl, ⟨nd, rfl⟩⟩; refine ⟨_, rfl, ?_⟩) | ((with_reducible refine gate_callee (f := 104) rfl ?_); refine gL_ (some 21) Try.func104 #[.int .i64 a1, .int .i64 (wrap64 (-a1))] ?_; (with_reducible refine (spec_l1Max.calls a1 (wrap64 (-a1)) t212 _ A9.out).mono ?_); rintro e w' ⟨rfl, ⟨nd, rfl⟩⟩; refine ⟨_, rfl, ?_⟩))
   go_loopg [0, 1] kj2 (fun kq v0 v1 w' => ∃ (x0_2 : Int) (x1_2 : Int), v0 = .int .i64 x0_2 ∧ v1 = .int .i64 x1_2 ∧ Aside0 (spec_GcdOf.l0 kq x0_2 x1_2 = some r) ∧ Aside0 (kq ≤ kj2) ∧ Drawn0 w w')
   case atStart => exact ⟨(t211), (t212), rs_, rs_, H', ⟨Nat.le_refl _⟩, by repeat (first | exact Drawn0.refl _ | apply Drawn0.step)⟩
   case round =>
    clear H'
    obtain ⟨x0_2, x1_2, rfl, rfl, HA, HK2, ⟨m2, rfl⟩⟩ := hrel
    cases gk with
    | zero => exact absurd HA.out (by simp [spec_GcdOf.l0])
    | succ k2 =>
     have H := HA.out
     clear HA
     simp only [spec_GcdOf.l0] at H
     by_cases c10 : x1_2 > 0
     rotate_left
     · rw [if_neg c10] at H
       have c10b0 : decide (0 < x1_2) = false := decide_eq_false c10
       clear c10
       obtain rfl := Option.some.inj H
       go_wp2
       go_ret
       exact ⟨by first | rfl | (simp; done) | (simp [*]; done), by repeat (first | exact Drawn0.refl _ | apply Drawn0.step)⟩
     rw [if_pos c10] at H
     have c10b0 : decide (0 < x1_2) = true := decide_eq_true c10
     clear c10
     obtain ⟨c11, H⟩ := in_ H
     have c11b0 : (x1_2 == 0) = false := beq_eq_false_iff_ne.mpr c11
     have c11b1 : (x1_2 != 0) = true := bne_iff_ne.mpr c11
     have H' := Aside0.mk H
     clear H
     go_wp2
     go_roundg k2
     case measure => have := HJ2.out; have := HK2.out; omega
     case rel => exact ⟨(x1_2), (Int.tmod x0_2 x1_2), rs_, rs_, H', ⟨by have := HJ2.out; have := HK2.out; omega⟩, by repeat (first | exact Drawn0.refl _ | apply Drawn0.step)⟩
def spec_GcdOfList.l0 : Nat → List Int → Int → Int → Option (Int)
 | 0, _, _, _ => none
 | k + 1, x0, x3, x4 => if x4 < (x0.length : Int) then (if 0 ≤ x4 then ((spec_GcdOf.f k x3 (rd x0 x4)).bind fun t214 => (spec_GcdOfList.l0 k x0 t214 (wrap64 (x4 + 1)))) else (none)) else (some x3)
def spec_GcdOfList.f (k : Nat) (l0 : List Int) : Option (Int) := spec_GcdOfList.l0 k l0 0 0
theorem spec_GcdOfList.mono_l : ∀ k, (∀ y0 y1 y2, LeO (spec_GcdOfList.l0 k y0 y1 y2) (spec_GcdOfList.l0 (k + 1) y0 y1 y2))
 | 0 => fun _ _ _ r h => by simp [spec_GcdOfList.l0] at h
 | k + 1 => by
  have ih0 := spec_GcdOfList.mono_l k
  · intro y0 y1 y2
    unfold spec_GcdOfList.l0
    repeat' first
    | (with_reducible exact ih0 _ _ _)
    | (with_reducible exact spec_GcdOf.mono _ _ _)
    | (with_reducible exact LeO.refl _)
    | (with_reducible exact LeO.none _)
    | (with_reducible refine LeO.ite ?_ ?_)
    | (with_reducible refine LeO.bind ?_ (fun _ => ?_))
    | exact ih0 _ _ _
    | exact LeO.none _
    | refine LeO.ite ?_ ?_
    | refine LeO.bind ?_ (fun _ => ?_)
theorem spec_GcdOfList.mono : ∀ a0 k, LeO (spec_GcdOfList.f k a0) (spec_GcdOfList.f (k + 1) a0) := by
 intro a0 k
 have ih0 := spec_GcdOfList.mono_l k
 unfold spec_GcdOfList.f
 repeat' first
  | (with_reducible exact ih0 _ _ _)
  | (with_reducible exact spec_GcdOf.mono _ _ _)
  | (with_reducible exact LeO.refl _)
  | (with_reducible exact LeO.none _)
  | (with_reducible refine LeO.ite ?_ ?_)
  | (with_reducible refine LeO.bind ?_ (fun _ => ?_))
  | exact ih0 _ _ _
  | exact LeO.none _
  | refine LeO.ite ?_ ?_
  | refine LeO.bind ?_ (fun _ => ?_)
theorem spec_GcdOfList.calls (k : Nat) (A0 : Option Addr) (c0 : Nat) (l0 : List Int) (r : Int) (w : World) (hr0 : Kd.C (Kd.int .i64) w A0 l0.length l0) (hc0 : l0.length ≤ c0) (h : spec_GcdOfList.f k l0 = some r) :
 Calls Try.prog 48 #[.slice A0 l0.length c0] w fun e w' => e = .returned (.int .i64 r) ∧ Drawn0 w w' := by
 have HR0 := Aside0.mk hr0
 have HC0 := Aside0.mk hc0
 clear hr0 hc0
 have H := h
 clear h
 unfold spec_GcdOfList.f at H
 have H' := Aside0.mk H
 clear H
 go_enter Try.func48, Try.ntmps48
 go_wp2
 go_loopg [3, 4] k (fun kq v3 v4 w' => ∃ (x3_1 : Int) (x4_1 : Int), v3 = .int .i64 x3_1 ∧ v4 = .int .i64 x4_1 ∧ Aside0 (spec_GcdOfList.l0 kq l0 x3_1 x4_1 = some r) ∧ Aside0 (kq ≤ k) ∧ Drawn0 w w')
 case atStart => exact ⟨(0), (0), rs_, rs_, H', ⟨Nat.le_refl _⟩, by repeat (first | exact Drawn0.refl _ | apply Drawn0.step)⟩
 case round =>
  clear H'
  obtain ⟨x3_1, x4_1, rfl, rfl, HA, HK1, ⟨m1, rfl⟩⟩ := hrel
  cases gk with
  | zero => exact absurd HA.out (by simp [spec_GcdOfList.l0])
  | succ k1 =>
   have H := HA.out
   clear HA
   simp only [spec_GcdOfList.l0] at H
   by_cases c2 : x4_1 < (l0.length : Int)
   rotate_left
   · rw [if_neg c2] at H
     have c2b0 : decide (x4_1 < (l0.length : Int)) = false := decide_eq_false c2
     clear c2
     obtain rfl := Option.some.inj H
     go_wp2
     go_ret
     exact ⟨by first | rfl | (simp; done) | (simp [*]; done), by repeat (first | exact Drawn0.refl _ | apply Drawn0.step)⟩
   rw [if_pos c2] at H
   have c2b0 : decide (x4_1 < (l0.length : Int)) = true := decide_eq_true c2
   clear c2
   obtain ⟨c3b0, H⟩ := ipd_ H
   obtain ⟨t214, A4, H⟩ := ob_ H
   have H' := Aside0.mk H
   clear H
   have p213 : 0 ≤ (x4_1 : Int) := od_
   have q213 : x4_1 < (l0.length : Int) := od_
   obtain ⟨ad213, e213, hx213_0⟩ := Kd.at_int HR0.out x4_1 p213 q213
   cases e213
   replace p213 := eq_true p213
   replace q213 := eq_true q213
   go_wp2_with (first | ((with_reducible refine gate_callee (f := 80) rfl ?_); refine gL_ (some 16) Try.func80 #[.int .i64 x3_1, .int .i64 (rd l0 x4_1)] ?_; (with_reducible refine (spec_GcdOf.calls k1 x3_1 (rd l0 x4_1) t214 _ A4.out).mono ?_); rintro e w' ⟨rfl, ⟨nd, rfl⟩⟩; refine ⟨_, rfl, ?_⟩))
   go_roundg k1
   case measure => have := HK1.out; omega
   case rel => exact ⟨(t214), (wrap64 (x4_1 + 1)), rs_, rs_, H', ⟨by have := HK1.out; omega⟩, by repeat (first | exact Drawn0.refl _ | apply Drawn0.step)⟩
def spec_l2Same.l0 : Nat → List Int → List Int → Int → Option (Bool)
 | 0, _, _, _ => none
 | k + 1, x0, x1, x5 => if x5 < (x0.length : Int) then (if 0 ≤ x5 then (if x5 < (x1.length : Int) then (if (rd x0 x5) = (rd x1 x5) then (spec_l2Same.l0 k x0 x1 (wrap64 (x5 + 1))) else (some false)) else (none)) else (none)) else (some true)
def spec_l2Same.f (k : Nat) (l0 : List Int) (l1 : List Int) : Option (Bool) := if (l0.length : Int) = (l1.length : Int) then (spec_l2Same.l0 k l0 l1 0) else (some false)
theorem spec_l2Same.mono_l : ∀ k, (∀ y0 y1 y2, LeO (spec_l2Same.l0 k y0 y1 y2) (spec_l2Same.l0 (k + 1) y0 y1 y2))
 | 0 => fun _ _ _ r h => by simp [spec_l2Same.l0] at h
 | k + 1 => by
  have ih0 := spec_l2Same.mono_l k
  · intro y0 y1 y2
    unfold spec_l2Same.l0
    repeat' first
    | (with_reducible exact ih0 _ _ _)
    | (with_reducible exact LeO.refl _)
    | (with_reducible exact LeO.none _)
    | (with_reducible refine LeO.ite ?_ ?_)
    | (with_reducible refine LeO.bind ?_ (fun _ => ?_))
    | exact ih0 _ _ _
    | exact LeO.none _
    | refine LeO.ite ?_ ?_
    | refine LeO.bind ?_ (fun _ => ?_)
theorem spec_l2Same.mono : ∀ a0 a1 k, LeO (spec_l2Same.f k a0 a1) (spec_l2Same.f (k + 1) a0 a1) := by
 intro a0 a1 k
 have ih0 := spec_l2Same.mono_l k
 unfold spec_l2Same.f
 repeat' first
  | (with_reducible exact ih0 _ _ _)
  | (with_reducible exact LeO.refl _)
  | (with_reducible exact LeO.none _)
  | (with_reducible refine LeO.ite ?_ ?_)
  | (with_reducible refine LeO.bind ?_ (fun _ => ?_))
  | exact ih0 _ _ _
  | exact LeO.none _
  | refine LeO.ite ?_ ?_
  | refine LeO.bind ?_ (fun _ => ?_)
theorem spec_l2Same.calls (k : Nat) (A0 : Option Addr) (c0 : Nat) (l0 : List Int) (A1 : Option Addr) (c1 : Nat) (l1 : List Int) (r : Bool) (w : World) (hr0 : Kd.C (Kd.int .i64) w A0 l0.length l0) (hc0 : l0.length ≤ c0) (hr1 : Kd.C (Kd.int .i64) w A1 l1.length l1) (hc1 : l1.length ≤ c1) (h : spec_l2Same.f k l0 l1 = some r) :
 Calls Try.prog 49 #[.slice A0 l0.length c0, .slice A1 l1.length c1] w fun e w' => e = .returned (.bool r) ∧ Drawn0 w w' := by
 have HR0 := Aside0.mk hr0
 have HC0 := Aside0.mk hc0
 clear hr0 hc0
 have HR1 := Aside0.mk hr1
 have HC1 := Aside0.mk hc1
 clear hr1 hc1
 have H := h
 clear h
 unfold spec_l2Same.f at H
 by_cases c3 : (l0.length : Int) = (l1.length : Int)
 rotate_left
 · rw [if_neg c3] at H
   have c3b0 : ((l0.length : Int) == (l1.length : Int)) = false := beq_eq_false_iff_ne.mpr c3
   have c3b1 : ((l0.length : Int) != (l1.length : Int)) = true := bne_iff_ne.mpr c3
   have c3b2 : (l0.length == l1.length) = false := by first | simpa using c3 | (simp at c3 ⊢; omega)
   obtain rfl := Option.some.inj H
   go_enter Try.func49, Try.ntmps49
   go_wp2
   repeat (go_quiet (fail); try go_wp2)
   go_ret
   exact ⟨by first | rfl | (simp; done) | (simp [*]; done), by repeat (first | exact Drawn0.refl _ | apply Drawn0.step)⟩
 rw [if_pos c3] at H
 have c3b0 : ((l0.length : Int) == (l1.length : Int)) = true := beq_iff_eq.mpr c3
 have c3b1 : ((l0.length : Int) != (l1.length : Int)) = false := bne_eq_false_iff_eq.mpr c3
 have c3b2 : (l0.length == l1.length) = true := by first | simpa using c3 | (simp at c3 ⊢; omega)
 clear c3
 have H' := Aside0.mk H
 clear H
 go_enter Try.func49, Try.ntmps49
 go_wp2
 repeat (go_quiet (fail); try go_wp2)
 go_loopg [5] k (fun kq v5 w' => ∃ (x5_1 : Int), v5 = .int .i64 x5_1 ∧ Aside0 (spec_l2Same.l0 kq l0 l1 x5_1 = some r) ∧ Aside0 (kq ≤ k) ∧ Drawn0 w w')
 case atStart => exact ⟨(0), rs_, H', ⟨Nat.le_refl _⟩, by repeat (first | exact Drawn0.refl _ | apply Drawn0.step)⟩
 case round =>
  clear H'
  try clear c1
  try clear c3b0
  try clear c3b1
  try clear c3b2
  obtain ⟨x5_1, rfl, HA, HK1, ⟨m1, rfl⟩⟩ := hrel
  cases gk with
  | zero => exact absurd HA.out (by simp [spec_l2Same.l0])
  | succ k1 =>
   have H := HA.out
   clear HA
   simp only [spec_l2Same.l0] at H
   by_cases c4 : x5_1 < (l0.length : Int)
   rotate_left
   · rw [if_neg c4] at H
     have c4b0 : decide (x5_1 < (l0.length : Int)) = false := decide_eq_false c4
     clear c4
     obtain rfl := Option.some.inj H
     go_wp2
     repeat (go_quiet (fail); try go_wp2)
     go_ret
     exact ⟨by first | rfl | (simp; done) | (simp [*]; done), by repeat (first | exact Drawn0.refl _ | apply Drawn0.step)⟩
   rw [if_pos c4] at H
   have c4b0 : decide (x5_1 < (l0.length : Int)) = true := decide_eq_true c4
   clear c4
   obtain ⟨c5b0, H⟩ := ipd_ H
   obtain ⟨c6b0, H⟩ := ipd_ H
   by_cases c7 : (rd l0 x5_1) = (rd l1 x5_1)
   rotate_left
   · rw [if_neg c7] at H
     have c7b0 : ((rd l0 x5_1) == (rd l1 x5_1)) = false := beq_eq_false_iff_ne.mpr c7
     have c7b1 : ((rd l0 x5_1) != (rd l1 x5_1)) = true := bne_iff_ne.mpr c7
     obtain rfl := Option.some.inj H
     have p215 : 0 ≤ (x5_1 : Int) := od_
     have q215 : x5_1 < (l0.length : Int) := od_
     obtain ⟨ad215, e215, hx215_0⟩ := Kd.at_int HR0.out x5_1 p215 q215
     cases e215
     replace p215 := eq_true p215
     replace q215 := eq_true q215
     have p216 : 0 ≤ (x5_1 : Int) := od_
     have q216 : x5_1 < (l1.length : Int) := od_
     obtain ⟨ad216, e216, hx216_0⟩ := Kd.at_int HR1.out x5_1 p216 q216
     cases e216
     replace p216 := eq_true p216
     replace q216 := eq_true q216
     go_wp2
     repeat (go_quiet (fail); try go_wp2)
     go_ret
     exact ⟨by first | rfl | (simp; done) | (simp [*]; done), by repeat (first | exact Drawn0.refl _ | apply Drawn0.step)⟩
   rw [if_pos c7] at H
   have c7b0 : ((rd l0 x5_1) == (rd l1 x5_1)) = true := beq_iff_eq.mpr c7
   have c7b1 : ((rd l0 x5_1) != (rd l1 x5_1)) = false := bne_eq_false_iff_eq.mpr c7
   clear c7
   have H' := Aside0.mk H
   clear H
   have p215 : 0 ≤ (x5_1 : Int) := od_
   have q215 : x5_1 < (l0.length : Int) := od_
   obtain ⟨ad215, e215, hx215_0⟩ := Kd.at_int HR0.out x5_1 p215 q215
   cases e215
   replace p215 := eq_true p215
   replace q215 := eq_true q215
   have p216 : 0 ≤ (x5_1 : Int) := od_
   have q216 : x5_1 < (l1.length : Int) := od_
   obtain ⟨ad216, e216, hx216_0⟩ := Kd.at_int HR1.out x5_1 p216 q216
   cases e216
   replace p216 := eq_true p216
   replace q216 := eq_true q216
   go_wp2
   repeat (go_quiet (fail); try go_wp2)
   go_roundg k1
   case measure => have := HK1.out; omega
   case rel => exact ⟨(wrap64 (x5_1 + 1)), rs_, H', ⟨by have := HK1.out; omega⟩, by repeat (first | exact Drawn0.refl _ | apply Drawn0.step)⟩
end Go.Proofs.Ytonknpgfbkgbjaa.PC
end
