-- Bundled by shake.py from this session's printed and written texts; Lean checks it.
import Derived.Test.YtonknpgfbkgbjaaZFnExactCountGenusx1
import Derived.Test.YtonknpgfbkgbjaaZFnExactCountGenusx2
section
namespace Go.Proofs.Ytonknpgfbkgbjaa.PB
open Go.RowKit Go.Proofs.YtonknpgfbkgbjaaW.PrintWords Go.Proofs.YtonknpgfbkgbjaaW.PrintLast Go.Proofs.YtonknpgfbkgbjaaW.PrintMore
attribute [local go_sem] max2_int min2_int max_two min_two max_three min_three max_four min_four
set_option linter.unusedVariables false
set_option linter.unusedSimpArgs false
set_option maxHeartbeats 8000000
set_option maxRecDepth 100000
def impl_inOrderCmp.f (k : Nat) (l0_0 : List Int) (l1_0 : List Int) : Option (Int) := (impl_GenusOf.f k l0_0).bind fun t181 => ((impl_GenusOf.f k l1_0).bind fun t182 => (if (wrap64 (t181 - t182)) = 0 then ((impl_Gaps.f k l0_0).bind fun t183 => ((impl_Gaps.f k l1_0).bind fun t186 => ((slices_Compare_int_int.f k t183 t186).bind fun t189 => (some t189)))) else (some (wrap64 (t181 - t182)))))
theorem impl_inOrderCmp.calls (k : Nat) (A0_0 : Option Addr) (c0_0 : Nat) (l0_0 : List Int) (A1_0 : Option Addr) (c1_0 : Nat) (l1_0 : List Int) (r : Int) (w : World) (hr0_0 : Kd.C (Kd.int .i64) w A0_0 l0_0.length l0_0) (hc0_0 : l0_0.length ≤ c0_0) (hr1_0 : Kd.C (Kd.int .i64) w A1_0 l1_0.length l1_0) (hc1_0 : l1_0.length ≤ c1_0) (h : impl_inOrderCmp.f k l0_0 l1_0 = some r) :
 Calls Try.prog 78 #[.agg #[.slice A0_0 l0_0.length c0_0], .agg #[.slice A1_0 l1_0.length c1_0]] w fun e w' => e = .returned (.int .i64 r) ∧ Below w.heap.size w w' := by
 have hu26 := Try.underlying26
 have HR0_0 := Aside0.mk hr0_0
 have HC0_0 := Aside0.mk hc0_0
 clear hr0_0 hc0_0
 have HR1_0 := Aside0.mk hr1_0
 have HC1_0 := Aside0.mk hc1_0
 clear hr1_0 hc1_0
 have HB := Aside0.mk (Below.refl w.heap.size w)
 have H := h
 clear h
 unfold impl_inOrderCmp.f at H
 obtain ⟨t181, A3, H⟩ := ob_ H
 obtain ⟨t182, A4, H⟩ := ob_ H
 by_cases c5 : (wrap64 (t181 - t182)) = 0
 rotate_left
 · rw [if_neg c5] at H
   have c5b0 : ((wrap64 (t181 - t182)) == 0) = false := beq_eq_false_iff_ne.mpr c5
   have c5b1 : ((wrap64 (t181 - t182)) != 0) = true := bne_iff_ne.mpr c5
   obtain rfl := Option.some.inj H
   go_enter Try.func78, Try.ntmps78
   try go_wp2_with (first | ((with_reducible refine gate_dst (N := 2) rfl ?_); refine bx_ 2 #[.slice A0_0 l0_0.length c0_0] 26 ?_; intro gb179 hg w19 hbox hb; have BK179 := Aside0.mk (hbox); have GW179 := gw_ hg HB; have GE179 := gw_ hg HB; replace HB := bo_ HB hb; clear hb hbox hg) | ((with_reducible refine gate_dst (N := 3) rfl ?_); refine bx_ 3 #[.slice A1_0 l1_0.length c1_0] 26 ?_; intro gb180 hg w20 hbox hb; have BK180 := Aside0.mk (hbox); have GW180 := gq_ hg (bq_ HB); have GE180 := gq_ hg (bq_ HB); replace HB := bp_ HB hb; have NB179_180 := nl_ hg BK179; have NB180_179 := ng_ hg BK179; replace BK179 := bk_ BK179 hb; clear hb hbox hg))
   replace BK179 := Aside0.mk (blk_drew BK179.out)
   replace BK180 := Aside0.mk (blk_drew BK180.out)
   replace HB := Aside0.mk (below_drew1 HB.out)
   refine start_ (n := 6) (S := fun w' => w'.cell? ⟨gb179, 0, none⟩ = some (.slice A0_0 l0_0.length c0_0) ∧ w'.cell? ⟨gb180, 0, none⟩ = some (.slice A1_0 l1_0.length c1_0)) (ds := []) (B_ 0 6) (by kernel_rfl) rfl rfl ⟨(blk_cell BK179.out 0).trans rfl, (blk_cell BK180.out 0).trans rfl⟩ (fun hHeld => ?_)
   generalize w20.drew = w21 at BK179 BK180 HB hHeld ⊢
   refine take_ (i := 0) (N := some 6) (v := ?_) (a' := ?_) (B_ 1 6) rfl rfl (by kernel_rfl) (fun _ _ _ h => h) (Or.inl ⟨by rfl, ?_⟩) hHeld ?_ ?_
   rotate_left
   · rintro w' ⟨s0, s1⟩
     go_simp
     with_reducible rfl
   rotate_left
   · simp only [Act.put, z1_, z2_, z3_, i64_w, i32_w]
     rfl
   refine take_ (i := 2) (N := some 8) (v := ?_) (a' := ?_) (B_ 5 6) rfl rfl (by kernel_rfl) (fun _ _ _ h => h) (Or.inl ⟨by rfl, ?_⟩) hHeld ?_ ?_
   rotate_left
   · rintro w' ⟨s0, s1⟩
     go_simp
     with_reducible rfl
   rotate_left
   · simp only [Act.put, z1_, z2_, z3_, i64_w, i32_w]
     rfl
   refine one_ (i := 1) (N := some 7) (B_ 7 6) rfl rfl (by kernel_rfl) (by decide) (fun K hK => ?_)
   refine goes_ Try.func68 (by kernel_rfl) rfl #[.agg #[.slice A0_0 l0_0.length c0_0]] (by rfl) rfl rfl (by (try simp only [List.map_toArray, List.map_cons, List.map_nil]); first | done | rfl | (simp only [List.length_drop, List.length_take]; rfl)) ?_
   with_reducible refine (impl_GenusOf.calls k _ _ l0_0 t181 _ ?side1 ?side2 A3.out).mono ?_
   (case side1 => exact ch_ HR0_0 HB)
   (case side2 => exact HC0_0.out)
   rintro e w22 ⟨rfl, hb⟩
   refine ⟨_, rfl, ?_⟩
   replace BK179 := bk_ BK179 hb
   replace BK180 := bk_ BK180 hb
   replace HB := bp_ HB hb
   (try clear hb)
   refine hK.out _ _ ⟨(blk_cell BK179.out 0).trans rfl, (blk_cell BK180.out 0).trans rfl⟩ (fun hHeld => ?_)
   clear hK K
   refine norm_ (a' := ?_) ?_ ?_
   rotate_left
   · show Act.put _ (some 7) _ = _
     simp only [Act.put, z1_, z2_, z3_, i64_w, i32_w]
     rfl
   refine one_ (i := 3) (N := some 9) (B_ 15 6) rfl rfl (by kernel_rfl) (by decide) (fun K hK => ?_)
   refine goes_ Try.func68 (by kernel_rfl) rfl #[.agg #[.slice A1_0 l1_0.length c1_0]] (by rfl) rfl rfl (by (try simp only [List.map_toArray, List.map_cons, List.map_nil]); first | done | rfl | (simp only [List.length_drop, List.length_take]; rfl)) ?_
   with_reducible refine (impl_GenusOf.calls k _ _ l1_0 t182 _ ?side1 ?side2 A4.out).mono ?_
   (case side1 => exact ch_ HR1_0 HB)
   (case side2 => exact HC1_0.out)
   rintro e w23 ⟨rfl, hb⟩
   refine ⟨_, rfl, ?_⟩
   replace BK179 := bk_ BK179 hb
   replace BK180 := bk_ BK180 hb
   replace HB := bp_ HB hb
   (try clear hb)
   refine hK.out _ _ ⟨(blk_cell BK179.out 0).trans rfl, (blk_cell BK180.out 0).trans rfl⟩ (fun hHeld => ?_)
   clear hK K
   refine norm_ (a' := ?_) ?_ ?_
   rotate_left
   · show Act.put _ (some 9) _ = _
     simp only [Act.put, z1_, z2_, z3_, i64_w, i32_w]
     rfl
   refine pure_ (i := 4) (N := some 10) (v := ?_) (a' := ?_) (B_ 31 6) rfl rfl (by kernel_rfl) (fun _ _ _ h => h) (Or.inl ⟨by rfl, ?_⟩) ?_ ?_
   rotate_left
   · intro w'
     go_simp
     with_reducible rfl
   rotate_left
   · simp only [Act.put, z1_, z2_, z3_, i64_w, i32_w]
     rfl
   refine pure_ (i := 5) (N := some 5) (v := ?_) (a' := ?_) (B_ 63 6) rfl rfl (by kernel_rfl) (fun _ _ _ h => h) (Or.inl ⟨by rfl, ?_⟩) ?_ ?_
   rotate_left
   · intro w'
     go_simp
     with_reducible rfl
   rotate_left
   · simp only [Act.put, z1_, z2_, z3_, i64_w, i32_w]
     rfl
   refine done_ (by kernel_rfl) ?_
   try go_wp2
   go_ret
   exact ⟨rf_, bq_ HB⟩
 rw [if_pos c5] at H
 have c5b0 : ((wrap64 (t181 - t182)) == 0) = true := beq_iff_eq.mpr c5
 have c5b1 : ((wrap64 (t181 - t182)) != 0) = false := bne_eq_false_iff_eq.mpr c5
 clear c5
 obtain ⟨t183, A6, H⟩ := ob_ H
 obtain ⟨t186, A7, H⟩ := ob_ H
 obtain ⟨t189, A8, H⟩ := ob_ H
 obtain rfl := Option.some.inj H
 go_enter Try.func78, Try.ntmps78
 try go_wp2_with (first | ((with_reducible refine gate_dst (N := 2) rfl ?_); refine bx_ 2 #[.slice A0_0 l0_0.length c0_0] 26 ?_; intro gb179 hg w9 hbox hb; have BK179 := Aside0.mk (hbox); have GW179 := gw_ hg HB; have GE179 := gw_ hg HB; replace HB := bo_ HB hb; clear hb hbox hg) | ((with_reducible refine gate_dst (N := 3) rfl ?_); refine bx_ 3 #[.slice A1_0 l1_0.length c1_0] 26 ?_; intro gb180 hg w10 hbox hb; have BK180 := Aside0.mk (hbox); have GW180 := gq_ hg (bq_ HB); have GE180 := gq_ hg (bq_ HB); replace HB := bp_ HB hb; have NB179_180 := nl_ hg BK179; have NB180_179 := ng_ hg BK179; replace BK179 := bk_ BK179 hb; clear hb hbox hg))
 replace BK179 := Aside0.mk (blk_drew BK179.out)
 replace BK180 := Aside0.mk (blk_drew BK180.out)
 replace HB := Aside0.mk (below_drew1 HB.out)
 refine start_ (n := 6) (S := fun w' => w'.cell? ⟨gb179, 0, none⟩ = some (.slice A0_0 l0_0.length c0_0) ∧ w'.cell? ⟨gb180, 0, none⟩ = some (.slice A1_0 l1_0.length c1_0)) (ds := []) (B_ 0 6) (by kernel_rfl) rfl rfl ⟨(blk_cell BK179.out 0).trans rfl, (blk_cell BK180.out 0).trans rfl⟩ (fun hHeld => ?_)
 generalize w10.drew = w11 at BK179 BK180 HB hHeld ⊢
 refine take_ (i := 0) (N := some 6) (v := ?_) (a' := ?_) (B_ 1 6) rfl rfl (by kernel_rfl) (fun _ _ _ h => h) (Or.inl ⟨by rfl, ?_⟩) hHeld ?_ ?_
 rotate_left
 · rintro w' ⟨s0, s1⟩
   go_simp
   with_reducible rfl
 rotate_left
 · simp only [Act.put, z1_, z2_, z3_, i64_w, i32_w]
   rfl
 refine take_ (i := 2) (N := some 8) (v := ?_) (a' := ?_) (B_ 5 6) rfl rfl (by kernel_rfl) (fun _ _ _ h => h) (Or.inl ⟨by rfl, ?_⟩) hHeld ?_ ?_
 rotate_left
 · rintro w' ⟨s0, s1⟩
   go_simp
   with_reducible rfl
 rotate_left
 · simp only [Act.put, z1_, z2_, z3_, i64_w, i32_w]
   rfl
 refine one_ (i := 1) (N := some 7) (B_ 7 6) rfl rfl (by kernel_rfl) (by decide) (fun K hK => ?_)
 refine goes_ Try.func68 (by kernel_rfl) rfl #[.agg #[.slice A0_0 l0_0.length c0_0]] (by rfl) rfl rfl (by (try simp only [List.map_toArray, List.map_cons, List.map_nil]); first | done | rfl | (simp only [List.length_drop, List.length_take]; rfl)) ?_
 with_reducible refine (impl_GenusOf.calls k _ _ l0_0 t181 _ ?side1 ?side2 A3.out).mono ?_
 (case side1 => exact ch_ HR0_0 HB)
 (case side2 => exact HC0_0.out)
 rintro e w12 ⟨rfl, hb⟩
 refine ⟨_, rfl, ?_⟩
 replace BK179 := bk_ BK179 hb
 replace BK180 := bk_ BK180 hb
 replace HB := bp_ HB hb
 (try clear hb)
 refine hK.out _ _ ⟨(blk_cell BK179.out 0).trans rfl, (blk_cell BK180.out 0).trans rfl⟩ (fun hHeld => ?_)
 clear hK K
 refine norm_ (a' := ?_) ?_ ?_
 rotate_left
 · show Act.put _ (some 7) _ = _
   simp only [Act.put, z1_, z2_, z3_, i64_w, i32_w]
   rfl
 refine one_ (i := 3) (N := some 9) (B_ 15 6) rfl rfl (by kernel_rfl) (by decide) (fun K hK => ?_)
 refine goes_ Try.func68 (by kernel_rfl) rfl #[.agg #[.slice A1_0 l1_0.length c1_0]] (by rfl) rfl rfl (by (try simp only [List.map_toArray, List.map_cons, List.map_nil]); first | done | rfl | (simp only [List.length_drop, List.length_take]; rfl)) ?_
 with_reducible refine (impl_GenusOf.calls k _ _ l1_0 t182 _ ?side1 ?side2 A4.out).mono ?_
 (case side1 => exact ch_ HR1_0 HB)
 (case side2 => exact HC1_0.out)
 rintro e w13 ⟨rfl, hb⟩
 refine ⟨_, rfl, ?_⟩
 replace BK179 := bk_ BK179 hb
 replace BK180 := bk_ BK180 hb
 replace HB := bp_ HB hb
 (try clear hb)
 refine hK.out _ _ ⟨(blk_cell BK179.out 0).trans rfl, (blk_cell BK180.out 0).trans rfl⟩ (fun hHeld => ?_)
 clear hK K
 refine norm_ (a' := ?_) ?_ ?_
 rotate_left
 · show Act.put _ (some 9) _ = _
   simp only [Act.put, z1_, z2_, z3_, i64_w, i32_w]
   rfl
 refine pure_ (i := 4) (N := some 10) (v := ?_) (a' := ?_) (B_ 31 6) rfl rfl (by kernel_rfl) (fun _ _ _ h => h) (Or.inl ⟨by rfl, ?_⟩) ?_ ?_
 rotate_left
 · intro w'
   go_simp
   with_reducible rfl
 rotate_left
 · simp only [Act.put, z1_, z2_, z3_, i64_w, i32_w]
   rfl
 refine pure_ (i := 5) (N := some 5) (v := ?_) (a' := ?_) (B_ 63 6) rfl rfl (by kernel_rfl) (fun _ _ _ h => h) (Or.inl ⟨by rfl, ?_⟩) ?_ ?_
 rotate_left
 · intro w'
   go_simp
   with_reducible rfl
 rotate_left
 · simp only [Act.put, z1_, z2_, z3_, i64_w, i32_w]
   rfl
 refine done_ (by kernel_rfl) ?_
 try go_wp2
 replace BK179 := Aside0.mk (blk_drew BK179.out)
 replace BK180 := Aside0.mk (blk_drew BK180.out)
 replace HB := Aside0.mk (below_drew1 HB.out)
 refine start_ (n := 6) (S := fun w' => w'.cell? ⟨gb179, 0, none⟩ = some (.slice A0_0 l0_0.length c0_0) ∧ w'.cell? ⟨gb180, 0, none⟩ = some (.slice A1_0 l1_0.length c1_0)) (ds := []) (B_ 0 6) (by kernel_rfl) rfl rfl ⟨(blk_cell BK179.out 0).trans rfl, (blk_cell BK180.out 0).trans rfl⟩ (fun hHeld => ?_)
 generalize w13.drew = w14 at BK179 BK180 HB hHeld ⊢
 refine take_ (i := 0) (N := some 14) (v := ?_) (a' := ?_) (B_ 1 6) rfl rfl (by kernel_rfl) (fun _ _ _ h => h) (Or.inl ⟨by rfl, ?_⟩) hHeld ?_ ?_
 rotate_left
 · rintro w' ⟨s0, s1⟩
   go_simp
   with_reducible rfl
 rotate_left
 · simp only [Act.put, z1_, z2_, z3_, i64_w, i32_w]
   rfl
 refine take_ (i := 2) (N := some 16) (v := ?_) (a' := ?_) (B_ 5 6) rfl rfl (by kernel_rfl) (fun _ _ _ h => h) (Or.inl ⟨by rfl, ?_⟩) hHeld ?_ ?_
 rotate_left
 · rintro w' ⟨s0, s1⟩
   go_simp
   with_reducible rfl
 rotate_left
 · simp only [Act.put, z1_, z2_, z3_, i64_w, i32_w]
   rfl
 refine one_ (i := 1) (N := some 15) (B_ 7 6) rfl rfl (by kernel_rfl) (by decide) (fun K hK => ?_)
 refine goes_ Try.func62 (by kernel_rfl) rfl #[.agg #[.slice A0_0 l0_0.length c0_0]] (by rfl) rfl rfl (by (try simp only [List.map_toArray, List.map_cons, List.map_nil]); first | done | rfl | (simp only [List.length_drop, List.length_take]; rfl)) ?_
 with_reducible refine (impl_Gaps.calls k _ _ l0_0 t183 _ ?side1 ?side2 A6.out).mono ?_
 (case side1 => exact ch_ HR0_0 HB)
 (case side2 => exact HC0_0.out)
 rintro e w15 ⟨v184, rfl, ho0, hb⟩
 refine ⟨_, rfl, ?_⟩
 have HO185 := Aside0.mk (Kd.R_lower ho0 (below_size (bq_ HB)))
 replace BK179 := bk_ BK179 hb
 replace BK180 := bk_ BK180 hb
 replace HB := bp_ HB hb
 (try clear hb)
 (try clear ho0)
 refine hK.out _ _ ⟨(blk_cell BK179.out 0).trans rfl, (blk_cell BK180.out 0).trans rfl⟩ (fun hHeld => ?_)
 clear hK K
 refine norm_ (a' := ?_) ?_ ?_
 rotate_left
 · show Act.put _ (some 15) _ = _
   simp only [Act.put, z1_, z2_, z3_, i64_w, i32_w]
   rfl
 refine one_ (i := 3) (N := some 17) (B_ 15 6) rfl rfl (by kernel_rfl) (by decide) (fun K hK => ?_)
 refine goes_ Try.func62 (by kernel_rfl) rfl #[.agg #[.slice A1_0 l1_0.length c1_0]] (by rfl) rfl rfl (by (try simp only [List.map_toArray, List.map_cons, List.map_nil]); first | done | rfl | (simp only [List.length_drop, List.length_take]; rfl)) ?_
 with_reducible refine (impl_Gaps.calls k _ _ l1_0 t186 _ ?side1 ?side2 A7.out).mono ?_
 (case side1 => exact ch_ HR1_0 HB)
 (case side2 => exact HC1_0.out)
 rintro e w16 ⟨v187, rfl, ho0, hb⟩
 refine ⟨_, rfl, ?_⟩
 have HO188 := Aside0.mk (Kd.R_lower (Kd.R_new' ho0 (Kd.R_lt (re_ HO185.out))) (below_size (bq_ HB)))
 replace HO185 := Aside0.mk (Kd.R_elder' (re_ HO185.out) (Kd.R_base ho0) hb)
 replace BK179 := bk_ BK179 hb
 replace BK180 := bk_ BK180 hb
 replace HB := bp_ HB hb
 (try clear hb)
 (try clear ho0)
 obtain ⟨Ao17, co17, eo17⟩ := Kd.R_slice HO185.out
 (first | subst eo17 | (injection eo17 with f1_ f2_ f3_; have f4_ := f1_.symm; have f5_ := f3_.symm; clear f1_ f2_ f3_; subst f4_; subst f5_))
 obtain ⟨Ao18, co18, eo18⟩ := Kd.R_slice HO188.out
 (first | subst eo18 | (injection eo18 with f1_ f2_ f3_; have f4_ := f1_.symm; have f5_ := f3_.symm; clear f1_ f2_ f3_; subst f4_; subst f5_))
 refine hK.out _ _ ⟨(blk_cell BK179.out 0).trans rfl, (blk_cell BK180.out 0).trans rfl⟩ (fun hHeld => ?_)
 clear hK K
 refine norm_ (a' := ?_) ?_ ?_
 rotate_left
 · show Act.put _ (some 17) _ = _
   simp only [Act.put, z1_, z2_, z3_, i64_w, i32_w]
   rfl
 refine one_ (i := 4) (N := some 18) (B_ 31 6) rfl rfl (by kernel_rfl) (by decide) (fun K hK => ?_)
 refine goes_ Try.func79 (by kernel_rfl) rfl #[.slice Ao17 t183.length co17, .slice Ao18 t186.length co18] (by rfl) rfl rfl (by (try simp only [List.map_toArray, List.map_cons, List.map_nil]); first | done | rfl | (simp only [List.length_drop, List.length_take]; rfl)) ?_
 with_reducible refine (slices_Compare_int_int.calls k _ _ t183 _ _ t186 t189 _ ?side1 ?side2 ?side3 ?side4 A8.out).mono ?_
 (case side1 => exact ce_ ((Kd.R_reads' HO185.out).2.2))
 (case side2 => exact (Kd.R_reads' HO185.out).2.1)
 (case side3 => exact ce_ ((Kd.R_reads' HO188.out).2.2))
 (case side4 => exact (Kd.R_reads' HO188.out).2.1)
 rintro e w' ⟨rfl, ⟨nd, rfl⟩⟩
 refine ⟨_, rfl, ?_⟩
 refine hK.out _ _ ⟨(blk_cell BK179.out 0).trans rfl, (blk_cell BK180.out 0).trans rfl⟩ (fun hHeld => ?_)
 clear hK K
 refine norm_ (a' := ?_) ?_ ?_
 rotate_left
 · show Act.put _ (some 18) _ = _
   simp only [Act.put, z1_, z2_, z3_, i64_w, i32_w]
   rfl
 refine pure_ (i := 5) (N := some 4) (v := ?_) (a' := ?_) (B_ 63 6) rfl rfl (by kernel_rfl) (fun _ _ _ h => h) (Or.inl ⟨by rfl, ?_⟩) ?_ ?_
 rotate_left
 · intro w'
   go_simp
   with_reducible rfl
 rotate_left
 · simp only [Act.put, z1_, z2_, z3_, i64_w, i32_w]
   rfl
 refine done_ (by kernel_rfl) ?_
 try go_wp2
 go_ret
 exact ⟨rf_, bq_ HB⟩
def spec_l1In.f (a0 : Int) (a1 : Int) (a2 : Int) : Option (Bool) := if a0 ≥ a1 then (some (decide (a0 ≤ a2))) else (some false)
theorem spec_l1In.calls (a0 : Int) (a1 : Int) (a2 : Int) (r : Bool) (w : World) (h : spec_l1In.f a0 a1 a2 = some r) :
 Calls Try.prog 39 #[.int .i64 a0, .int .i64 a1, .int .i64 a2] w fun e w' => e = .returned (.bool r) ∧ Drawn0 w w' := by
 have H := h
 clear h
 unfold spec_l1In.f at H
 by_cases c4 : a0 ≥ a1
 rotate_left
 · rw [if_neg c4] at H
   have c4b0 : decide (a1 ≤ a0) = false := decide_eq_false c4
   clear c4
   obtain rfl := Option.some.inj H
   go_enter Try.func39, Try.ntmps39
   go_wp2
   go_ret
   exact ⟨by first | rfl | (simp; done) | (simp [*]; done), by repeat (first | exact Drawn0.refl _ | apply Drawn0.step)⟩
 rw [if_pos c4] at H
 have c4b0 : decide (a1 ≤ a0) = true := decide_eq_true c4
 clear c4
 obtain rfl := Option.some.inj H
 go_enter Try.func39, Try.ntmps39
 go_wp2
 go_ret
 exact ⟨by first | rfl | (simp; done) | (simp [*]; done), by repeat (first | exact Drawn0.refl _ | apply Drawn0.step)⟩
def spec_l3Gens.l0 : Nat → List Int → Int → Option (Bool)
 | 0, _, _ => none
 | k + 1, x0, x3 => if x3 < (x0.length : Int) then (if 0 ≤ x3 then ((spec_l1In.f (rd x0 x3) 1 60).bind fun t191 => (if t191 = true then (spec_l3Gens.l0 k x0 (wrap64 (x3 + 1))) else (some false))) else (none)) else ((spec_l1In.f (x0.length : Int) 1 20).bind fun t192 => (some t192))
def spec_l3Gens.f (k : Nat) (l0 : List Int) : Option (Bool) := spec_l3Gens.l0 k l0 0
theorem spec_l3Gens.mono_l : ∀ k, (∀ y0 y1, LeO (spec_l3Gens.l0 k y0 y1) (spec_l3Gens.l0 (k + 1) y0 y1))
 | 0 => fun _ _ r h => by simp [spec_l3Gens.l0] at h
 | k + 1 => by
  have ih0 := spec_l3Gens.mono_l k
  · intro y0 y1
    unfold spec_l3Gens.l0
    repeat' first
    | (with_reducible exact ih0 _ _)
    | (with_reducible exact LeO.refl _)
    | (with_reducible exact LeO.none _)
    | (with_reducible refine LeO.ite ?_ ?_)
    | (with_reducible refine LeO.bind ?_ (fun _ => ?_))
    | exact ih0 _ _
    | exact LeO.none _
    | refine LeO.ite ?_ ?_
    | refine LeO.bind ?_ (fun _ => ?_)
theorem spec_l3Gens.mono : ∀ a0 k, LeO (spec_l3Gens.f k a0) (spec_l3Gens.f (k + 1) a0) := by
 intro a0 k
 have ih0 := spec_l3Gens.mono_l k
 unfold spec_l3Gens.f
 repeat' first
  | (with_reducible exact ih0 _ _)
  | (with_reducible exact LeO.refl _)
  | (with_reducible exact LeO.none _)
  | (with_reducible refine LeO.ite ?_ ?_)
  | (with_reducible refine LeO.bind ?_ (fun _ => ?_))
  | exact ih0 _ _
  | exact LeO.none _
  | refine LeO.ite ?_ ?_
  | refine LeO.bind ?_ (fun _ => ?_)
theorem spec_l3Gens.calls (k : Nat) (A0 : Option Addr) (c0 : Nat) (l0 : List Int) (r : Bool) (w : World) (hr0 : Kd.C (Kd.int .i64) w A0 l0.length l0) (hc0 : l0.length ≤ c0) (h : spec_l3Gens.f k l0 = some r) :
 Calls Try.prog 46 #[.slice A0 l0.length c0] w fun e w' => e = .returned (.bool r) ∧ Drawn0 w w' := by
 have HR0 := Aside0.mk hr0
 have HC0 := Aside0.mk hc0
 clear hr0 hc0
 have H := h
 clear h
 unfold spec_l3Gens.f at H
 have H' := Aside0.mk H
 clear H
 go_enter Try.func46, Try.ntmps46
 go_wp2
 go_loopg [3] k (fun kq v3 w' => ∃ (x3_1 : Int), v3 = .int .i64 x3_1 ∧ Aside0 (spec_l3Gens.l0 kq l0 x3_1 = some r) ∧ Aside0 (kq ≤ k) ∧ Drawn0 w w')
 case atStart => exact ⟨(0), rs_, H', ⟨Nat.le_refl _⟩, by repeat (first | exact Drawn0.refl _ | apply Drawn0.step)⟩
 case round =>
  clear H'
  obtain ⟨x3_1, rfl, HA, HK1, ⟨m1, rfl⟩⟩ := hrel
  cases gk with
  | zero => exact absurd HA.out (by simp [spec_l3Gens.l0])
  | succ k1 =>
   have H := HA.out
   clear HA
   simp only [spec_l3Gens.l0] at H
   by_cases c2 : x3_1 < (l0.length : Int)
   rotate_left
   · rw [if_neg c2] at H
     have c2b0 : decide (x3_1 < (l0.length : Int)) = false := decide_eq_false c2
     clear c2
     obtain ⟨t192, A6, H⟩ := ob_ H
     obtain rfl := Option.some.inj H
     go_wp2_with (first | ((with_reducible refine gate_callee (f := 39) rfl ?_); refine gL_ (some 18) Try.func39 #[.int .i64 (l0.length : Int), .int .i64 1, .int .i64 20] ?_; (with_reducible refine (spec_l1In.calls (l0.length : Int) 1 20 t192 _ A6.out).mono ?_); rintro e w' ⟨rfl, ⟨nd, rfl⟩⟩; refine ⟨_, rfl, ?_⟩))
     go_ret
     exact ⟨by first | rfl | (simp; done) | (simp [*]; done), by repeat (first | exact Drawn0.refl _ | apply Drawn0.step)⟩
   rw [if_pos c2] at H
   have c2b0 : decide (x3_1 < (l0.length : Int)) = true := decide_eq_true c2
   clear c2
   obtain ⟨c3b0, H⟩ := ipd_ H
   obtain ⟨t191, A4, H⟩ := ob_ H
   by_cases c5 : t191 = true
   rotate_left
   · replace c5 := Bool.eq_false_iff.mpr c5
     subst c5
     rw [if_neg (show ¬ (false = true) by decide)] at H
     obtain rfl := Option.some.inj H
     have p190 : 0 ≤ (x3_1 : Int) := od_
     have q190 : x3_1 < (l0.length : Int) := od_
     obtain ⟨ad190, e190, hx190_0⟩ := Kd.at_int HR0.out x3_1 p190 q190
     cases e190
     replace p190 := eq_true p190
     replace q190 := eq_true q190
     go_wp2_with (first | ((with_reducible refine gate_callee (f := 39) rfl ?_); refine gL_ (some 14) Try.func39 #[.int .i64 (rd l0 x3_1), .int .i64 1, .int .i64 60] ?_; (with_reducible refine (spec_l1In.calls (rd l0 x3_1) 1 60 false _ A4.out).mono ?_); rintro e w' ⟨rfl, ⟨nd, rfl⟩⟩; refine ⟨_, rfl, ?_⟩))
     go_ret
     exact ⟨by first | rfl | (simp; done) | (simp [*]; done), by repeat (first | exact Drawn0.refl _ | apply Drawn0.step)⟩
   subst c5
   rw [if_pos rfl] at H
   have H' := Aside0.mk H
   clear H
   have p190 : 0 ≤ (x3_1 : Int) := od_
   have q190 : x3_1 < (l0.length : Int) := od_
   obtain ⟨ad190, e190, hx190_0⟩ := Kd.at_int HR0.out x3_1 p190 q190
   cases e190
   replace p190 := eq_true p190
   replace q190 := eq_true q190
   go_wp2_with (first | ((with_reducible refine gate_callee (f := 39) rfl ?_); refine gL_ (some 14) Try.func39 #[.int .i64 (rd l0 x3_1), .int .i64 1, .int .i64 60] ?_; (with_reducible refine (spec_l1In.calls (rd l0 x3_1) 1 60 true _ A4.out).mono ?_); rintro e w' ⟨rfl, ⟨nd, rfl⟩⟩; refine ⟨_, rfl, ?_⟩))
   go_roundg k1
   case measure => have := HK1.out; omega
   case rel => exact ⟨(wrap64 (x3_1 + 1)), rs_, H', ⟨by have := HK1.out; omega⟩, by repeat (first | exact Drawn0.refl _ | apply Drawn0.step)⟩
def spec_IsAscending.l0 : Nat → List Int → Int → Option (Bool)
 | 0, _, _ => none
 | k + 1, x0, x3 => if x3 < (x0.length : Int) then (if 0 ≤ (wrap64 (x3 - 1)) then (if (wrap64 (x3 - 1)) < (x0.length : Int) then (if 0 ≤ x3 then (if (rd x0 (wrap64 (x3 - 1))) ≥ (rd x0 x3) then (some false) else (spec_IsAscending.l0 k x0 (wrap64 (x3 + 1)))) else (none)) else (none)) else (none)) else (some true)
def spec_IsAscending.f (k : Nat) (l0 : List Int) : Option (Bool) := spec_IsAscending.l0 k l0 1
theorem spec_IsAscending.mono_l : ∀ k, (∀ y0 y1, LeO (spec_IsAscending.l0 k y0 y1) (spec_IsAscending.l0 (k + 1) y0 y1))
 | 0 => fun _ _ r h => by simp [spec_IsAscending.l0] at h
 | k + 1 => by
  have ih0 := spec_IsAscending.mono_l k
  · intro y0 y1
    unfold spec_IsAscending.l0
    repeat' first
    | (with_reducible exact ih0 _ _)
    | (with_reducible exact LeO.refl _)
    | (with_reducible exact LeO.none _)
    | (with_reducible refine LeO.ite ?_ ?_)
    | (with_reducible refine LeO.bind ?_ (fun _ => ?_))
    | exact ih0 _ _
    | exact LeO.none _
    | refine LeO.ite ?_ ?_
    | refine LeO.bind ?_ (fun _ => ?_)
theorem spec_IsAscending.mono : ∀ a0 k, LeO (spec_IsAscending.f k a0) (spec_IsAscending.f (k + 1) a0) := by
 intro a0 k
 have ih0 := spec_IsAscending.mono_l k
 unfold spec_IsAscending.f
 repeat' first
  | (with_reducible exact ih0 _ _)
  | (with_reducible exact LeO.refl _)
  | (with_reducible exact LeO.none _)
  | (with_reducible refine LeO.ite ?_ ?_)
  | (with_reducible refine LeO.bind ?_ (fun _ => ?_))
  | exact ih0 _ _
  | exact LeO.none _
  | refine LeO.ite ?_ ?_
  | refine LeO.bind ?_ (fun _ => ?_)
theorem spec_IsAscending.calls (k : Nat) (A0 : Option Addr) (c0 : Nat) (l0 : List Int) (r : Bool) (w : World) (hr0 : Kd.C (Kd.int .i64) w A0 l0.length l0) (hc0 : l0.length ≤ c0) (h : spec_IsAscending.f k l0 = some r) :
 Calls Try.prog 47 #[.slice A0 l0.length c0] w fun e w' => e = .returned (.bool r) ∧ Drawn0 w w' := by
 have HR0 := Aside0.mk hr0
 have HC0 := Aside0.mk hc0
 clear hr0 hc0
 have H := h
 clear h
 unfold spec_IsAscending.f at H
 have H' := Aside0.mk H
 clear H
 go_enter Try.func47, Try.ntmps47
 go_wp2
 repeat (go_quiet (fail); try go_wp2)
 go_loopg [3] k (fun kq v3 w' => ∃ (x3_1 : Int), v3 = .int .i64 x3_1 ∧ Aside0 (spec_IsAscending.l0 kq l0 x3_1 = some r) ∧ Aside0 (kq ≤ k) ∧ Drawn0 w w')
 case atStart => exact ⟨(1), rs_, H', ⟨Nat.le_refl _⟩, by repeat (first | exact Drawn0.refl _ | apply Drawn0.step)⟩
 case round =>
  clear H'
  obtain ⟨x3_1, rfl, HA, HK1, ⟨m1, rfl⟩⟩ := hrel
  cases gk with
  | zero => exact absurd HA.out (by simp [spec_IsAscending.l0])
  | succ k1 =>
   have H := HA.out
   clear HA
   simp only [spec_IsAscending.l0] at H
   by_cases c2 : x3_1 < (l0.length : Int)
   rotate_left
   · rw [if_neg c2] at H
     have c2b0 : decide (x3_1 < (l0.length : Int)) = false := decide_eq_false c2
     clear c2
     obtain rfl := Option.some.inj H
     go_wp2
     repeat (go_quiet (fail); try go_wp2)
     go_ret
     exact ⟨by first | rfl | (simp; done) | (simp [*]; done), by repeat (first | exact Drawn0.refl _ | apply Drawn0.step)⟩
   rw [if_pos c2] at H
   have c2b0 : decide (x3_1 < (l0.length : Int)) = true := decide_eq_true c2
   clear c2
   obtain ⟨ji3, hji3⟩ : ∃ j_ : Int, (wrap64 (x3_1 - 1)) = j_ := ⟨_, rfl⟩
   replace H : (if 0 ≤ (ji3) then (if (ji3) < (l0.length : Int) then (if 0 ≤ x3_1 then (if (rd l0 (ji3)) ≥ (rd l0 x3_1) then (some false) else (spec_IsAscending.l0 k1 l0 (wrap64 (x3_1 + 1)))) else (none)) else (none)) else (none)) = some r := by first | (rw [hji3] at H; exact H) | (simp only [hji3] at H ⊢; exact H)
   have hji3w : (IntKind.i64.wrap (x3_1 - 1)) = ji3 := (i64_w _).trans hji3
   obtain ⟨c4b0, H⟩ := ipd_ H
   obtain ⟨c5b0, H⟩ := ipd_ H
   obtain ⟨c6b0, H⟩ := ipd_ H
   by_cases c7 : (rd l0 (ji3)) ≥ (rd l0 x3_1)
   · rw [if_pos c7] at H
     have c7b0 : decide ((rd l0 x3_1) ≤ (rd l0 (ji3))) = true := decide_eq_true c7
     clear c7
     obtain rfl := Option.some.inj H
     have p193 : 0 ≤ ((ji3) : Int) := od_
     have q193 : (ji3) < (l0.length : Int) := od_
     obtain ⟨ad193, e193, hx193_0⟩ := Kd.at_int HR0.out (ji3) p193 q193
     cases e193
     replace p193 := eq_true p193
     replace q193 := eq_true q193
     have p194 : 0 ≤ (x3_1 : Int) := od_
     have q194 : x3_1 < (l0.length : Int) := od_
     obtain ⟨ad194, e194, hx194_0⟩ := Kd.at_int HR0.out x3_1 p194 q194
     obtain rfl : ad193 = ad194 := (by injection e194)
     replace p194 := eq_true p194
     replace q194 := eq_true q194
     go_wp2
     repeat (go_quiet (fail); try go_wp2)
     go_ret
     exact ⟨by first | rfl | (simp; done) | (simp only [← hji3] <;> (first | rfl | simp)) | (simp [*]; done), by repeat (first | exact Drawn0.refl _ | apply Drawn0.step)⟩
   rw [if_neg c7] at H
   have c7b0 : decide ((rd l0 x3_1) ≤ (rd l0 (ji3))) = false := decide_eq_false c7
   clear c7
   have H' := Aside0.mk H
   clear H
   have p193 : 0 ≤ ((ji3) : Int) := od_
   have q193 : (ji3) < (l0.length : Int) := od_
   obtain ⟨ad193, e193, hx193_0⟩ := Kd.at_int HR0.out (ji3) p193 q193
   cases e193
   replace p193 := eq_true p193
   replace q193 := eq_true q193
   have p194 : 0 ≤ (x3_1 : Int) := od_
   have q194 : x3_1 < (l0.length : Int) := od_
   obtain ⟨ad194, e194, hx194_0⟩ := Kd.at_int HR0.out x3_1 p194 q194
   obtain rfl : ad193 = ad194 := (by injection e194)
   replace p194 := eq_true p194
   replace q194 := eq_true q194
   go_wp2
   repeat (go_quiet (fail); try go_wp2)
   go_roundg k1
   case measure => have := HK1.out; omega
   case rel => exact ⟨(wrap64 (x3_1 + 1)), rs_, H', ⟨by have := HK1.out; omega⟩, by repeat (first | exact Drawn0.refl _ | apply Drawn0.step)⟩
def spec_l2Small.f (a0 : Int) : Option (Bool) := (spec_l1In.f a0 (-1000000) 1000000).bind fun t195 => (some t195)
theorem spec_l2Small.calls (a0 : Int) (r : Bool) (w : World) (h : spec_l2Small.f a0 = some r) :
 Calls Try.prog 103 #[.int .i64 a0] w fun e w' => e = .returned (.bool r) ∧ Drawn0 w w' := by
 have H := h
 clear h
 unfold spec_l2Small.f at H
 obtain ⟨t195, A2, H⟩ := ob_ H
 obtain rfl := Option.some.inj H
 go_enter Try.func103, Try.ntmps103
 go_wp2_with (first | ((with_reducible refine gate_callee (f := 39) rfl ?_); refine gL_ (some 4) Try.func39 #[.int .i64 a0, .int .i64 (-1000000), .int .i64 1000000] ?_; (with_reducible refine (spec_l1In.calls a0 (-1000000) 1000000 t195 _ A2.out).mono ?_); rintro e w' ⟨rfl, ⟨nd, rfl⟩⟩; refine ⟨_, rfl, ?_⟩))
 go_ret
 exact ⟨by first | rfl | (simp; done) | (simp [*]; done), by repeat (first | exact Drawn0.refl _ | apply Drawn0.step)⟩
def spec_l1Max.f (a0 : Int) (a1 : Int) : Option (Int) := if a0 > a1 then (some a0) else (some a1)
theorem spec_l1Max.calls (a0 : Int) (a1 : Int) (r : Int) (w : World) (h : spec_l1Max.f a0 a1 = some r) :
 Calls Try.prog 104 #[.int .i64 a0, .int .i64 a1] w fun e w' => e = .returned (.int .i64 r) ∧ Drawn0 w w' := by
 have H := h
 clear h
 unfold spec_l1Max.f at H
 by_cases c3 : a0 > a1
 rotate_left
 · rw [if_neg c3] at H
   have c3b0 : decide (a1 < a0) = false := decide_eq_false c3
   clear c3
   obtain rfl := Option.some.inj H
   go_enter Try.func104, Try.ntmps104
   go_wp2
   go_ret
   exact ⟨by first | rfl | (simp; done) | (simp [*]; done), by repeat (first | exact Drawn0.refl _ | apply Drawn0.step)⟩
 rw [if_pos c3] at H
 have c3b0 : decide (a1 < a0) = true := decide_eq_true c3
 clear c3
 obtain rfl := Option.some.inj H
 go_enter Try.func104, Try.ntmps104
 go_wp2
 go_ret
 exact ⟨by first | rfl | (simp; done) | (simp [*]; done), by repeat (first | exact Drawn0.refl _ | apply Drawn0.step)⟩
mutual
def spec_GcdOf.j0 : Nat → Int → Int → Bool → Option (Int)
 | 0, _, _, _ => none
 | k + 1, x0, x1, x13 => if x13 = true then (some 0) else ((spec_l1Max.f x0 (wrap64 (-x0))).bind fun t198 => ((spec_l1Max.f x1 (wrap64 (-x1))).bind fun t199 => (spec_GcdOf.l0 k t198 t199)))
def spec_GcdOf.l0 : Nat → Int → Int → Option (Int)
 | 0, _, _ => none
 | k + 1, x0, x1 => if x1 > 0 then (if x1 = 0 then (none) else (spec_GcdOf.l0 k x1 (Int.tmod x0 x1))) else (some x0)
end
def spec_GcdOf.f (k : Nat) (a0 : Int) (a1 : Int) : Option (Int) := (spec_l2Small.f a0).bind fun t196 => (if t196 = true then ((spec_l2Small.f a1).bind fun t197 => (spec_GcdOf.j0 k a0 a1 (!t197))) else (spec_GcdOf.j0 k a0 a1 true))
theorem spec_GcdOf.mono_l : ∀ k, (∀ y0 y1 y2, LeO (spec_GcdOf.j0 k y0 y1 y2) (spec_GcdOf.j0 (k + 1) y0 y1 y2)) ∧ (∀ y0 y1, LeO (spec_GcdOf.l0 k y0 y1) (spec_GcdOf.l0 (k + 1) y0 y1))
 | 0 => ⟨fun _ _ _ r h => by simp [spec_GcdOf.j0] at h, fun _ _ r h => by simp [spec_GcdOf.l0] at h⟩
 | k + 1 => by
  obtain ⟨ih0, ih1⟩ := spec_GcdOf.mono_l k
  refine ⟨?_, ?_⟩
  · intro y0 y1 y2
    unfold spec_GcdOf.j0
    repeat' first
    | (with_reducible exact ih0 _ _ _)
    | (with_reducible exact ih1 _ _)
    | (with_reducible exact LeO.refl _)
    | (with_reducible exact LeO.none _)
    | (with_reducible refine LeO.ite ?_ ?_)
    | (with_reducible refine LeO.bind ?_ (fun _ => ?_))
    | exact ih0 _ _ _
    | exact ih1 _ _
    | exact LeO.none _
    | refine LeO.ite ?_ ?_
    | refine LeO.bind ?_ (fun _ => ?_)
  · intro y0 y1
    unfold spec_GcdOf.l0
    repeat' first
    | (with_reducible exact ih0 _ _ _)
    | (with_reducible exact ih1 _ _)
    | (with_reducible exact LeO.refl _)
    | (with_reducible exact LeO.none _)
    | (with_reducible refine LeO.ite ?_ ?_)
    | (with_reducible refine LeO.bind ?_ (fun _ => ?_))
    | exact ih0 _ _ _
    | exact ih1 _ _
    | exact LeO.none _
    | refine LeO.ite ?_ ?_
    | refine LeO.bind ?_ (fun _ => ?_)
theorem spec_GcdOf.mono : ∀ a0 a1 k, LeO (spec_GcdOf.f k a0 a1) (spec_GcdOf.f (k + 1) a0 a1) := by
 intro a0 a1 k
 obtain ⟨ih0, ih1⟩ := spec_GcdOf.mono_l k
 unfold spec_GcdOf.f
 repeat' first
  | (with_reducible exact ih0 _ _ _)
  | (with_reducible exact ih1 _ _)
  | (with_reducible exact LeO.refl _)
  | (with_reducible exact LeO.none _)
  | (with_reducible refine LeO.ite ?_ ?_)
  | (with_reducible refine LeO.bind ?_ (fun _ => ?_))
  | exact ih0 _ _ _
  | exact ih1 _ _
  | exact LeO.none _
  | refine LeO.ite ?_ ?_
  | refine LeO.bind ?_ (fun _ => ?_)
theorem spec_GcdOf.calls (k : Nat) (a0 : Int) (a1 : Int) (r : Int) (w : World) (h : spec_GcdOf.f k a0 a1 = some r) :
 Calls Try.prog 80 #[.int .i64 a0, .int .i64 a1] w fun e w' => e = .returned (.int .i64 r) ∧ Drawn0 w w' := by
 have H := h
 clear h
 unfold spec_GcdOf.f at H
 have HC3 := Aside0.mk H
 clear H
 go_enter Try.func80, Try.ntmps80
 go_upto_region 1 with (fail)
 go_cut [13] (fun v13 wc => ∃ (kq : Nat) (x13_2 : Bool), v13 = .bool x13_2 ∧ Aside0 (spec_GcdOf.j0 kq a0 a1 x13_2 = some r) ∧ Aside0 (kq ≤ k) ∧ Drawn0 w wc)
 case first =>
  have H := HC3.out
  clear HC3
  obtain ⟨t196, A4, H⟩ := ob_ H
  by_cases c5 : t196 = true
  rotate_left
  · replace c5 := Bool.eq_false_iff.mpr c5
    subst c5
    rw [if_neg (show ¬ (false = true) by decide)] at H
    have H' := Aside0.mk H
    clear H
    go_wp2_with (first | ((with_reducible refine gate_callee (f := 103) rfl ?_); refine gL_ (some 7) Try.func103 #[.int .i64 a0] ?_; (with_reducible refine (spec_l2Small.calls a0 false _ A4.out).mono ?_); rintro e w' ⟨rfl, ⟨nd, rfl⟩⟩; refine ⟨_, rfl, ?_⟩))
    go_meet
    case rel => exact ⟨_, (true), rs_, H', ⟨by first | omega | exact Nat.le_refl _⟩, by repeat (first | exact Drawn0.refl _ | apply Drawn0.step)⟩
  subst c5
  rw [if_pos rfl] at H
  obtain ⟨t197, A6, H⟩ := ob_ H
  have H' := Aside0.mk H
  clear H
  go_wp2_with (first | ((with_reducible refine gate_callee (f := 103) rfl ?_); refine gL_ (some 7) Try.func103 #[.int .i64 a0] ?_; (with_reducible refine (spec_l2Small.calls a0 true _ A4.out).mono ?_); rintro e w' ⟨rfl, ⟨nd, rfl⟩⟩; refine ⟨_, rfl, ?_⟩) | (go_at_call 103; (with_reducible refine (spec_l2Small.calls a1 t197 _ A6.out).mono ?_); rintro e w' ⟨rfl, ⟨nd, rfl⟩⟩))
  go_meet
  case rel => exact ⟨_, (!t197), rs_, H', ⟨by first | omega | exact Nat.le_refl _⟩, by repeat (first | exact Drawn0.refl _ | apply Drawn0.step)⟩
 case rest =>
  clear HC3
  obtain ⟨kq, x13_2, rfl, HA, HJ2, ⟨mc2, rfl⟩⟩ := hcut
  cases kq with
  | zero => exact absurd HA.out (by simp [spec_GcdOf.j0])
  | succ kj2 =>
   have H := HA.out
   clear HA
   simp only [spec_GcdOf.j0] at H
   by_cases c7 : x13_2 = true
   · subst c7
     rw [if_pos rfl] at H
     obtain rfl := Option.some.inj H
     go_wp2
     go_ret
     exact ⟨by first | rfl | (simp; done) | (simp [*]; done), by repeat (first | exact Drawn0.refl _ | apply Drawn0.step)⟩
   replace c7 := Bool.eq_false_iff.mpr c7
   subst c7
   rw [if_neg (show ¬ (false = true) by decide)] at H
   obtain ⟨t198, A8, H⟩ := ob_ H
   obtain ⟨t199, A9, H⟩ := ob_ H
   have H' := Aside0.mk H
   clear H
   go_wp2_with (first | ((with_reducible refine gate_callee (f := 104) rfl ?_); refine gL_ (some 17) Try.func104 #[.int .i64 a0, .int .i64 (wrap64 (-a0))] ?_; (with_reducible refine (spec_l1Max.calls a0 (wrap64 (-a0)) t198 _ A8.out).mono ?_); rintro e w' ⟨rfl, ⟨nd, rfl⟩⟩; refine ⟨_, rfl, ?_⟩) | ((with_reducible refine gate_callee (f := 104) rfl ?_); refine gL_ (some 21) Try.func104 #[.int .i64 a1, .int .i64 (wrap64 (-a1))] ?_; (with_reducible refine (spec_l1Max.calls a1 (wrap64 (-a1)) t199 _ A9.out).mono ?_); rintro e w' ⟨rfl, ⟨nd, rfl⟩⟩; refine ⟨_, rfl, ?_⟩))
   go_loopg [0, 1] kj2 (fun kq v0 v1 w' => ∃ (x0_2 : Int) (x1_2 : Int), v0 = .int .i64 x0_2 ∧ v1 = .int .i64 x1_2 ∧ Aside0 (spec_GcdOf.l0 kq x0_2 x1_2 = some r) ∧ Aside0 (kq ≤ kj2) ∧ Drawn0 w w')
   case atStart => exact ⟨(t198), (t199), rs_, rs_, H', ⟨Nat.le_refl _⟩, by repeat (first | exact Drawn0.refl _ | apply Drawn0.step)⟩
   case round =>
    clear H'
    obtain ⟨x0_2, x1_2, rfl, rfl, HA, HK2, ⟨m2, rfl⟩⟩ := hrel
    cases gk with
    | zero => exact absurd HA.out (by simp [spec_GcdOf.l0])
    | succ k2 =>
     have H := HA.out
     clear HA
     simp only [spec_GcdOf.l0] at H
     by_cases c10 : x1_2 > 0
     rotate_left
     · rw [if_neg c10] at H
       have c10b0 : decide (0 < x1_2) = false := decide_eq_false c10
       clear c10
       obtain rfl := Option.some.inj H
       go_wp2
       go_ret
       exact ⟨by first | rfl | (simp; done) | (simp [*]; done), by repeat (first | exact Drawn0.refl _ | apply Drawn0.step)⟩
     rw [if_pos c10] at H
     have c10b0 : decide (0 < x1_2) = true := decide_eq_true c10
     clear c10
     obtain ⟨c11, H⟩ := in_ H
     have c11b0 : (x1_2 == 0) = false := beq_eq_false_iff_ne.mpr c11
     have c11b1 : (x1_2 != 0) = true := bne_iff_ne.mpr c11
     have H' := Aside0.mk H
     clear H
     go_wp2
     go_roundg k2
     case measure => have := HJ2.out; have := HK2.out; omega
     case rel => exact ⟨(x1_2), (Int.tmod x0_2 x1_2), rs_, rs_, H', ⟨by have := HJ2.out; have := HK2.out; omega⟩, by repeat (first | exact Drawn0.refl _ | apply Drawn0.step)⟩
def spec_GcdOfList.l0 : Nat → List Int → Int → Int → Option (Int)
 | 0, _, _, _ => none
 | k + 1, x0, x3, x4 => if x4 < (x0.length : Int) then (if 0 ≤ x4 then ((spec_GcdOf.f k x3 (rd x0 x4)).bind fun t201 => (spec_GcdOfList.l0 k x0 t201 (wrap64 (x4 + 1)))) else (none)) else (some x3)
def spec_GcdOfList.f (k : Nat) (l0 : List Int) : Option (Int) := spec_GcdOfList.l0 k l0 0 0
theorem spec_GcdOfList.mono_l : ∀ k, (∀ y0 y1 y2, LeO (spec_GcdOfList.l0 k y0 y1 y2) (spec_GcdOfList.l0 (k + 1) y0 y1 y2))
 | 0 => fun _ _ _ r h => by simp [spec_GcdOfList.l0] at h
 | k + 1 => by
  have ih0 := spec_GcdOfList.mono_l k
  · intro y0 y1 y2
    unfold spec_GcdOfList.l0
    repeat' first
    | (with_reducible exact ih0 _ _ _)
    | (with_reducible exact spec_GcdOf.mono _ _ _)
    | (with_reducible exact LeO.refl _)
    | (with_reducible exact LeO.none _)
    | (with_reducible refine LeO.ite ?_ ?_)
    | (with_reducible refine LeO.bind ?_ (fun _ => ?_))
    | exact ih0 _ _ _
    | exact LeO.none _
    | refine LeO.ite ?_ ?_
    | refine LeO.bind ?_ (fun _ => ?_)
theorem spec_GcdOfList.mono : ∀ a0 k, LeO (spec_GcdOfList.f k a0) (spec_GcdOfList.f (k + 1) a0) := by
 intro a0 k
 have ih0 := spec_GcdOfList.mono_l k
 unfold spec_GcdOfList.f
 repeat' first
  | (with_reducible exact ih0 _ _ _)
  | (with_reducible exact spec_GcdOf.mono _ _ _)
  | (with_reducible exact LeO.refl _)
  | (with_reducible exact LeO.none _)
  | (with_reducible refine LeO.ite ?_ ?_)
  | (with_reducible refine LeO.bind ?_ (fun _ => ?_))
  | exact ih0 _ _ _
  | exact LeO.none _
  | refine LeO.ite ?_ ?_
  | refine LeO.bind ?_ (fun _ => ?_)
theorem spec_GcdOfList.calls (k : Nat) (A0 : Option Addr) (c0 : Nat) (l0 : List Int) (r : Int) (w : World) (hr0 : Kd.C (Kd.int .i64) w A0 l0.length l0) (hc0 : l0.length ≤ c0) (h : spec_GcdOfList.f k l0 = some r) :
 Calls Try.prog 48 #[.slice A0 l0.length c0] w fun e w' => e = .returned (.int .i64 r) ∧ Drawn0 w w' := by
 have HR0 := Aside0.mk hr0
 have HC0 := Aside0.mk hc0
 clear hr0 hc0
 have H := h
 clear h
 unfold spec_GcdOfList.f at H
 have H' := Aside0.mk H
 clear H
 go_enter Try.func48, Try.ntmps48
 go_wp2
 go_loopg [3, 4] k (fun kq v3 v4 w' => ∃ (x3_1 : Int) (x4_1 : Int), v3 = .int .i64 x3_1 ∧ v4 = .int .i64 x4_1 ∧ Aside0 (spec_GcdOfList.l0 kq l0 x3_1 x4_1 = some r) ∧ Aside0 (kq ≤ k) ∧ Drawn0 w w')
 case atStart => exact ⟨(0), (0), rs_, rs_, H', ⟨Nat.le_refl _⟩, by repeat (first | exact Drawn0.refl _ | apply Drawn0.step)⟩
 case round =>
  clear H'
  obtain ⟨x3_1, x4_1, rfl, rfl, HA, HK1, ⟨m1, rfl⟩⟩ := hrel
  cases gk with
  | zero => exact absurd HA.out (by simp [spec_GcdOfList.l0])
  | succ k1 =>
   have H := HA.out
   clear HA
   simp only [spec_GcdOfList.l0] at H
   by_cases c2 : x4_1 < (l0.length : Int)
   rotate_left
   · rw [if_neg c2] at H
     have c2b0 : decide (x4_1 < (l0.length : Int)) = false := decide_eq_false c2
     clear c2
     obtain rfl := Option.some.inj H
     go_wp2
     go_ret
     exact ⟨by first | rfl | (simp; done) | (simp [*]; done), by repeat (first | exact Drawn0.refl _ | apply Drawn0.step)⟩
   rw [if_pos c2] at H
   have c2b0 : decide (x4_1 < (l0.length : Int)) = true := decide_eq_true c2
   clear c2
   obtain ⟨c3b0, H⟩ := ipd_ H
   obtain ⟨t201, A4, H⟩ := ob_ H
   have H' := Aside0.mk H
   clear H
   have p200 : 0 ≤ (x4_1 : Int) := od_
   have q200 : x4_1 < (l0.length : Int) := od_
   obtain ⟨ad200, e200, hx200_0⟩ := Kd.at_int HR0.out x4_1 p200 q200
   cases e200
   replace p200 := eq_true p200
   replace q200 := eq_true q200
   go_wp2_with (first | ((with_reducible refine gate_callee (f := 80) rfl ?_); refine gL_ (some 16) Try.func80 #[.int .i64 x3_1, .int .i64 (rd l0 x4_1)] ?_; (with_reducible refine (spec_GcdOf.calls k1 x3_1 (rd l0 x4_1) t201 _ A4.out).mono ?_); rintro e w' ⟨rfl, ⟨nd, rfl⟩⟩; refine ⟨_, rfl, ?_⟩))
   go_roundg k1
   case measure => have := HK1.out; omega
   case rel => exact ⟨(t201), (wrap64 (x4_1 + 1)), rs_, rs_, H', ⟨by have := HK1.out; omega⟩, by repeat (first | exact Drawn0.refl _ | apply Drawn0.step)⟩
def spec_l2Same.l0 : Nat → List Int → List Int → Int → Option (Bool)
 | 0, _, _, _ => none
 | k + 1, x0, x1, x5 => if x5 < (x0.length : Int) then (if 0 ≤ x5 then (if x5 < (x1.length : Int) then (if (rd x0 x5) = (rd x1 x5) then (spec_l2Same.l0 k x0 x1 (wrap64 (x5 + 1))) else (some false)) else (none)) else (none)) else (some true)
def spec_l2Same.f (k : Nat) (l0 : List Int) (l1 : List Int) : Option (Bool) := if (l0.length : Int) = (l1.length : Int) then (spec_l2Same.l0 k l0 l1 0) else (some false)
theorem spec_l2Same.mono_l : ∀ k, (∀ y0 y1 y2, LeO (spec_l2Same.l0 k y0 y1 y2) (spec_l2Same.l0 (k + 1) y0 y1 y2))
 | 0 => fun _ _ _ r h => by simp [spec_l2Same.l0] at h
 | k + 1 => by
  have ih0 := spec_l2Same.mono_l k
  · intro y0 y1 y2
    unfold spec_l2Same.l0
    repeat' first
    | (with_reducible exact ih0 _ _ _)
    | (with_reducible exact LeO.refl _)
    | (with_reducible exact LeO.none _)
    | (with_reducible refine LeO.ite ?_ ?_)
    | (with_reducible refine LeO.bind ?_ (fun _ => ?_))
    | exact ih0 _ _ _
    | exact LeO.none _
    | refine LeO.ite ?_ ?_
    | refine LeO.bind ?_ (fun _ => ?_)
theorem spec_l2Same.mono : ∀ a0 a1 k, LeO (spec_l2Same.f k a0 a1) (spec_l2Same.f (k + 1) a0 a1) := by
 intro a0 a1 k
 have ih0 := spec_l2Same.mono_l k
 unfold spec_l2Same.f
 repeat' first
  | (with_reducible exact ih0 _ _ _)
  | (with_reducible exact LeO.refl _)
  | (with_reducible exact LeO.none _)
  | (with_reducible refine LeO.ite ?_ ?_)
  | (with_reducible refine LeO.bind ?_ (fun _ => ?_))
  | exact ih0 _ _ _
  | exact LeO.none _
  | refine LeO.ite ?_ ?_
  | refine LeO.bind ?_ (fun _ => ?_)
theorem spec_l2Same.calls (k : Nat) (A0 : Option Addr) (c0 : Nat) (l0 : List Int) (A1 : Option Addr) (c1 : Nat) (l1 : List Int) (r : Bool) (w : World) (hr0 : Kd.C (Kd.int .i64) w A0 l0.length l0) (hc0 : l0.length ≤ c0) (hr1 : Kd.C (Kd.int .i64) w A1 l1.length l1) (hc1 : l1.length ≤ c1) (h : spec_l2Same.f k l0 l1 = some r) :
 Calls Try.prog 49 #[.slice A0 l0.length c0, .slice A1 l1.length c1] w fun e w' => e = .returned (.bool r) ∧ Drawn0 w w' := by
 have HR0 := Aside0.mk hr0
 have HC0 := Aside0.mk hc0
 clear hr0 hc0
 have HR1 := Aside0.mk hr1
 have HC1 := Aside0.mk hc1
 clear hr1 hc1
 have H := h
 clear h
 unfold spec_l2Same.f at H
 by_cases c3 : (l0.length : Int) = (l1.length : Int)
 rotate_left
 · rw [if_neg c3] at H
   have c3b0 : ((l0.length : Int) == (l1.length : Int)) = false := beq_eq_false_iff_ne.mpr c3
   have c3b1 : ((l0.length : Int) != (l1.length : Int)) = true := bne_iff_ne.mpr c3
   have c3b2 : (l0.length == l1.length) = false := by first | simpa using c3 | (simp at c3 ⊢; omega)
   obtain rfl := Option.some.inj H
   go_enter Try.func49, Try.ntmps49
   go_wp2
   repeat (go_quiet (fail); try go_wp2)
   go_ret
   exact ⟨by first | rfl | (simp; done) | (simp [*]; done), by repeat (first | exact Drawn0.refl _ | apply Drawn0.step)⟩
 rw [if_pos c3] at H
 have c3b0 : ((l0.length : Int) == (l1.length : Int)) = true := beq_iff_eq.mpr c3
 have c3b1 : ((l0.length : Int) != (l1.length : Int)) = false := bne_eq_false_iff_eq.mpr c3
 have c3b2 : (l0.length == l1.length) = true := by first | simpa using c3 | (simp at c3 ⊢; omega)
 clear c3
 have H' := Aside0.mk H
 clear H
 go_enter Try.func49, Try.ntmps49
 go_wp2
 repeat (go_quiet (fail); try go_wp2)
 go_loopg [5] k (fun kq v5 w' => ∃ (x5_1 : Int), v5 = .int .i64 x5_1 ∧ Aside0 (spec_l2Same.l0 kq l0 l1 x5_1 = some r) ∧ Aside0 (kq ≤ k) ∧ Drawn0 w w')
 case atStart => exact ⟨(0), rs_, H', ⟨Nat.le_refl _⟩, by repeat (first | exact Drawn0.refl _ | apply Drawn0.step)⟩
 case round =>
  clear H'
  try clear c1
  try clear c3b0
  try clear c3b1
  try clear c3b2
  obtain ⟨x5_1, rfl, HA, HK1, ⟨m1, rfl⟩⟩ := hrel
  cases gk with
  | zero => exact absurd HA.out (by simp [spec_l2Same.l0])
  | succ k1 =>
   have H := HA.out
   clear HA
   simp only [spec_l2Same.l0] at H
   by_cases c4 : x5_1 < (l0.length : Int)
   rotate_left
   · rw [if_neg c4] at H
     have c4b0 : decide (x5_1 < (l0.length : Int)) = false := decide_eq_false c4
     clear c4
     obtain rfl := Option.some.inj H
     go_wp2
     repeat (go_quiet (fail); try go_wp2)
     go_ret
     exact ⟨by first | rfl | (simp; done) | (simp [*]; done), by repeat (first | exact Drawn0.refl _ | apply Drawn0.step)⟩
   rw [if_pos c4] at H
   have c4b0 : decide (x5_1 < (l0.length : Int)) = true := decide_eq_true c4
   clear c4
   obtain ⟨c5b0, H⟩ := ipd_ H
   obtain ⟨c6b0, H⟩ := ipd_ H
   by_cases c7 : (rd l0 x5_1) = (rd l1 x5_1)
   rotate_left
   · rw [if_neg c7] at H
     have c7b0 : ((rd l0 x5_1) == (rd l1 x5_1)) = false := beq_eq_false_iff_ne.mpr c7
     have c7b1 : ((rd l0 x5_1) != (rd l1 x5_1)) = true := bne_iff_ne.mpr c7
     obtain rfl := Option.some.inj H
     have p202 : 0 ≤ (x5_1 : Int) := od_
     have q202 : x5_1 < (l0.length : Int) := od_
     obtain ⟨ad202, e202, hx202_0⟩ := Kd.at_int HR0.out x5_1 p202 q202
     cases e202
     replace p202 := eq_true p202
     replace q202 := eq_true q202
     have p203 : 0 ≤ (x5_1 : Int) := od_
     have q203 : x5_1 < (l1.length : Int) := od_
     obtain ⟨ad203, e203, hx203_0⟩ := Kd.at_int HR1.out x5_1 p203 q203
     cases e203
     replace p203 := eq_true p203
     replace q203 := eq_true q203
     go_wp2
     repeat (go_quiet (fail); try go_wp2)
     go_ret
     exact ⟨by first | rfl | (simp; done) | (simp [*]; done), by repeat (first | exact Drawn0.refl _ | apply Drawn0.step)⟩
   rw [if_pos c7] at H
   have c7b0 : ((rd l0 x5_1) == (rd l1 x5_1)) = true := beq_iff_eq.mpr c7
   have c7b1 : ((rd l0 x5_1) != (rd l1 x5_1)) = false := bne_eq_false_iff_eq.mpr c7
   clear c7
   have H' := Aside0.mk H
   clear H
   have p202 : 0 ≤ (x5_1 : Int) := od_
   have q202 : x5_1 < (l0.length : Int) := od_
   obtain ⟨ad202, e202, hx202_0⟩ := Kd.at_int HR0.out x5_1 p202 q202
   cases e202
   replace p202 := eq_true p202
   replace q202 := eq_true q202
   have p203 : 0 ≤ (x5_1 : Int) := od_
   have q203 : x5_1 < (l1.length : Int) := od_
   obtain ⟨ad203, e203, hx203_0⟩ := Kd.at_int HR1.out x5_1 p203 q203
   cases e203
   replace p203 := eq_true p203
   replace q203 := eq_true q203
   go_wp2
   repeat (go_quiet (fail); try go_wp2)
   go_roundg k1
   case measure => have := HK1.out; omega
   case rel => exact ⟨(wrap64 (x5_1 + 1)), rs_, H', ⟨by have := HK1.out; omega⟩, by repeat (first | exact Drawn0.refl _ | apply Drawn0.step)⟩
mutual
def spec_l3Table.l0 : Nat → List Int → Int → List Bool → Int → Option (List Bool)
 | 0, _, _, _, _ => none
 | k + 1, x0, x1, x5, x6 => if x6 ≤ x1 then (spec_l3Table.l1 k x0 x1 x5 x6 0) else (some x5)
def spec_l3Table.l1 : Nat → List Int → Int → List Bool → Int → Int → Option (List Bool)
 | 0, _, _, _, _, _ => none
 | k + 1, x0, x1, x5, x6, x7 => if x7 < (x0.length : Int) then (if 0 ≤ x7 then (if x6 ≥ (rd x0 x7) then (if 0 ≤ (wrap64 (x6 - (rd x0 x7))) then (if (wrap64 (x6 - (rd x0 x7))) < (x5.length : Int) then (if rdOf false x5 (wrap64 (x6 - (rd x0 x7))) = true then (if 0 ≤ x6 then (if x6 < (x5.length : Int) then (spec_l3Table.l1 k x0 x1 (x5.set (x6 : Int).toNat true) x6 (wrap64 (x7 + 1))) else (none)) else (none)) else (spec_l3Table.l1 k x0 x1 x5 x6 (wrap64 (x7 + 1)))) else (none)) else (none)) else (spec_l3Table.l1 k x0 x1 x5 x6 (wrap64 (x7 + 1)))) else (none)) else (spec_l3Table.l0 k x0 x1 x5 (wrap64 (x6 + 1)))
end
def spec_l3Table.f (k : Nat) (l0 : List Int) (a1 : Int) : Option (List Bool) := if 0 ≤ (wrap64 (a1 + 1)) then (if (wrap64 (a1 + 1) : Int).toNat ≤ 281474976710656 then ((some (List.replicate (wrap64 (a1 + 1) : Int).toNat false : List Bool)).bind fun y251 => (if 0 < (y251.length : Int) then (spec_l3Table.l0 k l0 a1 (y251.set (0 : Int).toNat true) 1) else (none))) else (none)) else (none)
theorem spec_l3Table.mono_l : ∀ k, (∀ y0 y1 y2 y3, LeO (spec_l3Table.l0 k y0 y1 y2 y3) (spec_l3Table.l0 (k + 1) y0 y1 y2 y3)) ∧ (∀ y0 y1 y2 y3 y4, LeO (spec_l3Table.l1 k y0 y1 y2 y3 y4) (spec_l3Table.l1 (k + 1) y0 y1 y2 y3 y4))
 | 0 => ⟨fun _ _ _ _ r h => by simp [spec_l3Table.l0] at h, fun _ _ _ _ _ r h => by simp [spec_l3Table.l1] at h⟩
 | k + 1 => by
  obtain ⟨ih0, ih1⟩ := spec_l3Table.mono_l k
  refine ⟨?_, ?_⟩
  · intro y0 y1 y2 y3
    unfold spec_l3Table.l0
    repeat' first
    | (with_reducible exact ih0 _ _ _ _)
    | (with_reducible exact ih1 _ _ _ _ _)
    | (with_reducible exact LeO.refl _)
    | (with_reducible exact LeO.none _)
    | (with_reducible refine LeO.ite ?_ ?_)
    | (with_reducible refine LeO.bind ?_ (fun _ => ?_))
    | exact ih0 _ _ _ _
    | exact ih1 _ _ _ _ _
    | exact LeO.none _
    | refine LeO.ite ?_ ?_
    | refine LeO.bind ?_ (fun _ => ?_)
  · intro y0 y1 y2 y3 y4
    unfold spec_l3Table.l1
    repeat' first
    | (with_reducible exact ih0 _ _ _ _)
    | (with_reducible exact ih1 _ _ _ _ _)
    | (with_reducible exact LeO.refl _)
    | (with_reducible exact LeO.none _)
    | (with_reducible refine LeO.ite ?_ ?_)
    | (with_reducible refine LeO.bind ?_ (fun _ => ?_))
    | exact ih0 _ _ _ _
    | exact ih1 _ _ _ _ _
    | exact LeO.none _
    | refine LeO.ite ?_ ?_
    | refine LeO.bind ?_ (fun _ => ?_)
theorem spec_l3Table.mono : ∀ a0 a1 k, LeO (spec_l3Table.f k a0 a1) (spec_l3Table.f (k + 1) a0 a1) := by
 intro a0 a1 k
 obtain ⟨ih0, ih1⟩ := spec_l3Table.mono_l k
 unfold spec_l3Table.f
 repeat' first
  | (with_reducible exact ih0 _ _ _ _)
  | (with_reducible exact ih1 _ _ _ _ _)
  | (with_reducible exact LeO.refl _)
  | (with_reducible exact LeO.none _)
  | (with_reducible refine LeO.ite ?_ ?_)
  | (with_reducible refine LeO.bind ?_ (fun _ => ?_))
  | exact ih0 _ _ _ _
  | exact ih1 _ _ _ _ _
  | exact LeO.none _
  | refine LeO.ite ?_ ?_
  | refine LeO.bind ?_ (fun _ => ?_)
theorem spec_l3Table.calls (k : Nat) (A0 : Option Addr) (c0 : Nat) (l0 : List Int) (a1 : Int) (r : List Bool) (w : World) (hr0 : Kd.C (Kd.int .i64) w A0 l0.length l0) (hc0 : l0.length ≤ c0) (h : spec_l3Table.f k l0 a1 = some r) :
 Calls Try.prog 81 #[.slice A0 l0.length c0, .int .i64 a1] w fun e w' => ∃ v0_ : Value, e = .returned (v0_) ∧ Kd.R Kd.bool 4 w' w.heap.size (fun _ => True) v0_ r ∧ Below w.heap.size w w' := by
 have HR0 := Aside0.mk hr0
 have HC0 := Aside0.mk hc0
 clear hr0 hc0
 have HB := Aside0.mk (Below.refl w.heap.size w)
 have H := h
 clear h
 unfold spec_l3Table.f at H
 obtain ⟨ji3, hji3⟩ : ∃ j_ : Int, (wrap64 (a1 + 1)) = j_ := ⟨_, rfl⟩
 replace H : (if 0 ≤ (ji3) then (if (ji3 : Int).toNat ≤ 281474976710656 then ((some (List.replicate (ji3 : Int).toNat false : List Bool)).bind fun y251 => (if 0 < (y251.length : Int) then (spec_l3Table.l0 k l0 a1 (y251.set (0 : Int).toNat true) 1) else (none))) else (none)) else (none)) = some r := by first | (rw [hji3] at H; exact H) | (simp only [hji3] at H ⊢; exact H)
 have hji3w : (IntKind.i64.wrap (a1 + 1)) = ji3 := (i64_w _).trans hji3
 obtain ⟨c4, H⟩ := ip_ H
 have c4b0 := eq_true c4
 have c4b1 : decide (0 ≤ (ji3)) = true := decide_eq_true c4
 clear c4
 obtain ⟨c5, H⟩ := ip_ H
 have c5b0 := eq_true c5
 have c5b1 : decide ((ji3 : Int).toNat ≤ 281474976710656) = true := decide_eq_true c5
 clear c5
 obtain ⟨y251, hy251⟩ : ∃ y_ : List Bool, y_ = (List.replicate (ji3 : Int).toNat false) := ⟨_, rfl⟩
 replace H : (if 0 < (y251.length : Int) then (spec_l3Table.l0 k l0 a1 (y251.set (0 : Int).toNat true) 1) else (none)) = some r := by subst hy251; exact H
 have Ny251 := Aside0.mk hy251
 clear hy251
 obtain ⟨c6, H⟩ := ip_ H
 have c6b0 : decide (0 < (y251.length : Int)) = true := decide_eq_true c6
 have c6b1 : decide (0 < y251.length) = true := decide_eq_true (by omega)
 clear c6
 obtain ⟨y254, hy254⟩ : ∃ y_ : List Bool, y_ = (y251.set (0 : Int).toNat true) := ⟨_, rfl⟩
 replace H : (spec_l3Table.l0 k l0 a1 y254 1) = some r := by subst hy254; exact H
 have Ny254 := Aside0.mk hy254
 clear hy254
 have H' := Aside0.mk H
 clear H
 go_enter Try.func81, Try.ntmps81
 go_wp2_with (first | ((with_reducible refine gate_dst (N := 10) rfl ?_); refine Kd.R_make Kd.bool _ 4 rfl (N := 10) rfl 67 _ _ rfl ji3 rfl rfl Try.underlying67 (.bool false) 1 info4 rfl (by decide) (by omega) false (ok := fun _ => True) (okp := fun _ => True) rfl (fun _ hk => hk) trivial (od_) (Nat.le_trans (Nat.mul_le_mul_right _ (od_ : ji3.toNat ≤ 281474976710656)) (by omega)) (Below.refl _ _) (Nat.le_refl _) ?_; intro v252 w8 ho9 hb hg_ hnew_; clear hg_ hnew_; (first | rw [← Ny251.out] at ho9 | (simp only [Int.reduceToNat] at ho9; rw [← Ny251.out] at ho9)); have HO253 := Aside0.mk (Kd.R_lower ho9 (below_size (bl_ HB.out))); replace HB := bo_ HB hb; clear hb ho9; have p7 : 0 ≤ (0 : Int) := (by omega); have q7 : (0 : Int) < ((y251.length : Int) : Int) := od_; have qi7 : (0 < y251.length) = True := eq_true (by omega); obtain ⟨go7, co7, eo7, gb7, gl7, cl7, HG7⟩ := Kd.R_form HO253.out (by omega); (first | cases eo7 | (injection eo7 with ea_ en_ ec_; (first | subst ea_ | (injection ea_ with ea_; subst ea_)); subst ec_; clear en_)); have GB7 := Aside0.mk gb7; have GG7 := Aside0.mk HG7; clear gb7 gl7 HG7; obtain ⟨hx7_0, hf7_0⟩ := Kd.R_celln false HO253.out (0 : Int) p7 q7; (try rw [show ((0 : Int)).toNat = 0 from rfl] at hx7_0); (try simp only [Nat.reduceMul, Nat.zero_mul, Nat.zero_add, Nat.reduceAdd] at hx7_0); (try rw [show ((0 : Int)).toNat = 0 from rfl] at hf7_0); (try simp only [Nat.reduceMul, Nat.zero_mul, Nat.zero_add, Nat.reduceAdd] at hf7_0); replace p7 := eq_true p7; replace q7 := eq_true q7; obtain ⟨hy10_, hz10_⟩ := Kd.R_celln false HO253.out (0 : Int) (by omega) (od_); (try simp only [Int.reduceToNat, Int.toNat_zero, Int.toNat_ofNat, Nat.reduceMul, Nat.zero_mul, Nat.zero_add] at hy10_ hz10_); (try rw [show ((0 : Int)).toNat = 0 from rfl] at hy10_); (try rw [show ((0 : Int)).toNat = 0 from rfl] at hz10_); have HP10 := Kd.R_putg HO253.out (0 : Int) true) | ((with_reducible refine gate_store (t := 4) (p := 12) rfl ?_); refine store_event (t := 4) (p := 12) (v := ?vo_w11) (w1 := (w8.setCell ⟨go7, (0 : Int).toNat, none⟩ (.bool true))) ?hg ?ho ?hn ?hr ?_; (case ho => rfl); (case hg => rfl); (case hn => rfl); (case hr => first | (go_simp; done) | (go_simp; rfl)); intro w11 hw; have hg : w8.grownBy w11 (some go7) := (by rw [hw]; exact HP10.2); have hp_ : Kd.R Kd.bool 4 w11 w.heap.size (fun _ => True) (.slice (some ⟨go7, 0, none⟩) y251.length co7) y254 := (by rw [hw, Ny254.out]; exact HP10.1); clear HP10; replace HO253 := Aside0.mk (hp_); replace HB := Aside0.mk ((by rw [hw]; exact below_set (HB.out) GB7.out : Below w.heap.size w w11)); clear hg hw hp_))
 go_loopg [6] k (fun kq v6 w' => ∃ (x5_1 : List Bool) (x6_1 : Int), v6 = .int .i64 x6_1 ∧ Aside0 (spec_l3Table.l0 kq l0 a1 x5_1 x6_1 = some r) ∧ Aside0 (kq ≤ k) ∧ Aside0 (Kd.R Kd.bool 4 w' w.heap.size (fun _ => True) (.slice (some ⟨go7, 0, none⟩) y251.length co7) x5_1) ∧ Aside0 (Below w.heap.size w w'))
 case atStart => exact ⟨(y254), (1), rs_, H', ⟨Nat.le_refl _⟩, ⟨re_ HO253.out⟩, ⟨bl_ HB.out⟩⟩
 case round =>
  clear H'
  try clear c4b0
  try clear c4b1
  try clear c5b0
  try clear c5b1
  try clear c6b0
  try clear c6b1
  try clear p7
  try clear q7
  try clear qi7
  try clear hx7_0
  obtain ⟨x5_1, x6_1, rfl, HA, HK1, HO_5, HB⟩ := hrel
  have hl5_1 := (Kd.R_reads' HO_5.out).1
  rw [hl5_1] at HO_5
  (try simp only [hl5_1])
  cases gk with
  | zero => exact absurd HA.out (by simp [spec_l3Table.l0])
  | succ k1 =>
   have H := HA.out
   clear HA
   simp only [spec_l3Table.l0] at H
   by_cases c12 : x6_1 ≤ a1
   rotate_left
   · rw [if_neg c12] at H
     have c12b0 : decide (x6_1 ≤ a1) = false := decide_eq_false c12
     clear c12
     obtain rfl := Option.some.inj H
     go_wp2
     go_ret
     exact ⟨_, by first | rfl | (simp [errW_none, errW_some] <;> rfl) | (simp only [← hji3]; first | rfl | (simp [errW_none, errW_some] <;> rfl)) | (simp [*, errW_none, errW_some] <;> rfl), re_ HO_5.out, bl_ HB.out⟩
   rw [if_pos c12] at H
   have c12b0 : decide (x6_1 ≤ a1) = true := decide_eq_true c12
   clear c12
   have H' := Aside0.mk H
   clear H
   go_wp2
   go_loopg [7] k1 (fun kq v7 w' => ∃ (x5_2 : List Bool) (x7_2 : Int), v7 = .int .i64 x7_2 ∧ Aside0 (spec_l3Table.l1 kq l0 a1 x5_2 x6_1 x7_2 = some r) ∧ Aside0 (kq ≤ k1) ∧ Aside0 (Kd.R Kd.bool 4 w' w.heap.size (fun _ => True) (.slice (some ⟨go7, 0, none⟩) x5_1.length co7) x5_2) ∧ Aside0 (Below w.heap.size w w'))
   case atStart => exact ⟨(x5_1), (0), rs_, H', ⟨Nat.le_refl _⟩, ⟨by (try simp only [hl5_1]); (with_reducible repeat (first | apply Kd.R_alloc | apply Kd.R_drewN | apply Kd.R_drew)); exact HO_5.out⟩, ⟨bl_ HB.out⟩⟩
   case round =>
    clear H'
    try clear c12b0
    obtain ⟨x5_2, x7_2, rfl, HA, HK2, HO_5, HB⟩ := hrel
    have hl5_2 := (Kd.R_reads' HO_5.out).1
    rw [hl5_2] at HO_5
    (try simp only [hl5_2])
    cases gk with
    | zero => exact absurd HA.out (by simp [spec_l3Table.l1])
    | succ k2 =>
     have H := HA.out
     clear HA
     simp only [spec_l3Table.l1] at H
     by_cases c13 : x7_2 < (l0.length : Int)
     rotate_left
     · rw [if_neg c13] at H
       have c13b0 : decide (x7_2 < (l0.length : Int)) = false := decide_eq_false c13
       (try (have c13h := c13b0; simp only [hl5_1, hl5_2] at c13h))
       clear c13
       have H' := Aside0.mk H
       clear H
       go_wp2
       (try simp only [← hl5_1, ← hl5_2])
       go_roundg k2
       case measure => have := HK1.out; have := HK2.out; omega
       case rel => exact ⟨(x5_2), (wrap64 (x6_1 + 1)), rs_, H', ⟨by have := HK1.out; have := HK2.out; omega⟩, ⟨by (try simp only [hl5_1]); (try simp only [hl5_2]); (with_reducible repeat (first | apply Kd.R_alloc | apply Kd.R_drewN | apply Kd.R_drew)); exact HO_5.out⟩, ⟨bl_ HB.out⟩⟩
     rw [if_pos c13] at H
     have c13b0 : decide (x7_2 < (l0.length : Int)) = true := decide_eq_true c13
     (try (have c13h := c13b0; simp only [hl5_1, hl5_2] at c13h))
     clear c13
     obtain ⟨c14b0, H⟩ := ipd_ H
     by_cases c15 : x6_1 ≥ (rd l0 x7_2)
     rotate_left
     · rw [if_neg c15] at H
       have c15b0 : decide ((rd l0 x7_2) ≤ x6_1) = false := decide_eq_false c15
       clear c15
       have H' := Aside0.mk H
       clear H
       have p255 : 0 ≤ (x7_2 : Int) := od_
       have q255 : x7_2 < (l0.length : Int) := od_
       obtain ⟨ad255, e255, hx255_0⟩ := Kd.at_int HR0.out x7_2 p255 q255
       cases e255
       (try replace hx255_0 := (HB.out.cell (World.block_lt_of_cell? w _ hx255_0)).trans hx255_0)
       replace p255 := eq_true p255
       replace q255 := eq_true q255
       go_wp2
       (try simp only [← hl5_2])
       go_roundg k2
       case measure => have := HK1.out; have := HK2.out; omega
       case rel => exact ⟨(x5_2), (wrap64 (x7_2 + 1)), rs_, H', ⟨by have := HK1.out; have := HK2.out; omega⟩, ⟨by (try simp only [hl5_1]); (try simp only [hl5_2]); (with_reducible repeat (first | apply Kd.R_alloc | apply Kd.R_drewN | apply Kd.R_drew)); exact HO_5.out⟩, ⟨bl_ HB.out⟩⟩
     rw [if_pos c15] at H
     have c15b0 : decide ((rd l0 x7_2) ≤ x6_1) = true := decide_eq_true c15
     clear c15
     obtain ⟨ji16, hji16⟩ : ∃ j_ : Int, (wrap64 (x6_1 - (rd l0 x7_2))) = j_ := ⟨_, rfl⟩
     replace H : (if 0 ≤ (ji16) then (if (ji16) < (x5_2.length : Int) then (if rdOf false x5_2 (ji16) = true then (if 0 ≤ x6_1 then (if x6_1 < (x5_2.length : Int) then (spec_l3Table.l1 k2 l0 a1 (x5_2.set (x6_1 : Int).toNat true) x6_1 (wrap64 (x7_2 + 1))) else (none)) else (none)) else (spec_l3Table.l1 k2 l0 a1 x5_2 x6_1 (wrap64 (x7_2 + 1)))) else (none)) else (none)) = some r := by first | (rw [hji16] at H; exact H) | (simp only [hji16] at H ⊢; exact H)
     have hji16w : (IntKind.i64.wrap (x6_1 - (rd l0 x7_2))) = ji16 := (i64_w _).trans hji16
     obtain ⟨c17b0, H⟩ := ipd_ H
     obtain ⟨c18, H⟩ := ip_ H
     have c18b0 : decide ((ji16) < (x5_2.length : Int)) = true := decide_eq_true c18
     (try (have c18h := c18b0; simp only [hl5_1, hl5_2] at c18h))
     clear c18
     obtain ⟨bq19, hbq19⟩ : ∃ b_ : Bool, b_ = (rdOf false x5_2 (ji16)) := ⟨_, rfl⟩
     replace H : (if bq19 = true then (if 0 ≤ x6_1 then (if x6_1 < (x5_2.length : Int) then (spec_l3Table.l1 k2 l0 a1 (x5_2.set (x6_1 : Int).toNat true) x6_1 (wrap64 (x7_2 + 1))) else (none)) else (none)) else (spec_l3Table.l1 k2 l0 a1 x5_2 x6_1 (wrap64 (x7_2 + 1)))) = some r := by rw [← hbq19] at H; exact H
     have Nbq19 := Aside0.mk hbq19
     clear hbq19
     by_cases c20 : bq19 = true
     rotate_left
     · replace c20 := Bool.eq_false_iff.mpr c20
       subst c20
       rw [if_neg (show ¬ (false = true) by decide)] at H
       have H' := Aside0.mk H
       clear H
       have p255 : 0 ≤ (x7_2 : Int) := od_
       have q255 : x7_2 < (l0.length : Int) := od_
       obtain ⟨ad255, e255, hx255_0⟩ := Kd.at_int HR0.out x7_2 p255 q255
       cases e255
       (try replace hx255_0 := (HB.out.cell (World.block_lt_of_cell? w _ hx255_0)).trans hx255_0)
       replace p255 := eq_true p255
       replace q255 := eq_true q255
       have p256 : 0 ≤ (x7_2 : Int) := od_
       have q256 : x7_2 < (l0.length : Int) := od_
       obtain ⟨ad256, e256, hx256_0⟩ := Kd.at_int HR0.out x7_2 p256 q256
       obtain rfl : ad255 = ad256 := (by injection e256)
       (try replace hx256_0 := (HB.out.cell (World.block_lt_of_cell? w _ hx256_0)).trans hx256_0)
       replace p256 := eq_true p256
       replace q256 := eq_true q256
       have p257 : 0 ≤ ((ji16) : Int) := od_
       have q257 : (ji16) < (x5_2.length : Int) := od_
       obtain ⟨ad257, e257, hx257_0⟩ := Kd.at_bool (Kd.R_reads' HO_5.out).2.2 (ji16) p257 q257
       (try rw [← Nbq19.out] at hx257_0)
       obtain rfl : (⟨go7, 0, none⟩ : Addr) = ad257 := (by injection e257)
       (first | simp only [add_plain] at hx257_0 | simp only [add_at] at hx257_0 | simp only [Addr.add, Nat.zero_add] at hx257_0 | skip)
       replace p257 := eq_true p257
       replace q257 := eq_true q257
       go_wp2
       (try simp only [← hl5_2])
       go_roundg k2
       case measure => have := HK1.out; have := HK2.out; omega
       case rel => exact ⟨(x5_2), (wrap64 (x7_2 + 1)), rs_, H', ⟨by have := HK1.out; have := HK2.out; omega⟩, ⟨by (try simp only [hl5_1]); (try simp only [hl5_2]); (with_reducible repeat (first | apply Kd.R_alloc | apply Kd.R_drewN | apply Kd.R_drew)); exact HO_5.out⟩, ⟨bl_ HB.out⟩⟩
     subst c20
     rw [if_pos rfl] at H
     obtain ⟨c21b0, H⟩ := ipd_ H
     obtain ⟨c22, H⟩ := ip_ H
     have c22b0 : decide (x6_1 < (x5_2.length : Int)) = true := decide_eq_true c22
     (try (have c22h := c22b0; simp only [hl5_1, hl5_2] at c22h))
     clear c22
     obtain ⟨y258, hy258⟩ : ∃ y_ : List Bool, y_ = (x5_2.set (x6_1 : Int).toNat true) := ⟨_, rfl⟩
     replace H : (spec_l3Table.l1 k2 l0 a1 y258 x6_1 (wrap64 (x7_2 + 1))) = some r := by subst hy258; exact H
     have Ny258 := Aside0.mk hy258
     clear hy258
     have H' := Aside0.mk H
     clear H
     have p255 : 0 ≤ (x7_2 : Int) := od_
     have q255 : x7_2 < (l0.length : Int) := od_
     obtain ⟨ad255, e255, hx255_0⟩ := Kd.at_int HR0.out x7_2 p255 q255
     cases e255
     (try replace hx255_0 := (HB.out.cell (World.block_lt_of_cell? w _ hx255_0)).trans hx255_0)
     replace p255 := eq_true p255
     replace q255 := eq_true q255
     have p256 : 0 ≤ (x7_2 : Int) := od_
     have q256 : x7_2 < (l0.length : Int) := od_
     obtain ⟨ad256, e256, hx256_0⟩ := Kd.at_int HR0.out x7_2 p256 q256
     obtain rfl : ad255 = ad256 := (by injection e256)
     (try replace hx256_0 := (HB.out.cell (World.block_lt_of_cell? w _ hx256_0)).trans hx256_0)
     replace p256 := eq_true p256
     replace q256 := eq_true q256
     have p257 : 0 ≤ ((ji16) : Int) := od_
     have q257 : (ji16) < (x5_2.length : Int) := od_
     obtain ⟨ad257, e257, hx257_0⟩ := Kd.at_bool (Kd.R_reads' HO_5.out).2.2 (ji16) p257 q257
     (try rw [← Nbq19.out] at hx257_0)
     obtain rfl : (⟨go7, 0, none⟩ : Addr) = ad257 := (by injection e257)
     (first | simp only [add_plain] at hx257_0 | simp only [add_at] at hx257_0 | simp only [Addr.add, Nat.zero_add] at hx257_0 | skip)
     replace p257 := eq_true p257
     replace q257 := eq_true q257
     have p23 : 0 ≤ (x6_1 : Int) := od_
     have q23 : (x6_1 : Int) < ((x5_2.length : Int) : Int) := od_
     obtain ⟨hx23_0, hf23_0⟩ := Kd.R_celln false HO_5.out (x6_1 : Int) p23 q23
     replace p23 := eq_true p23
     replace q23 := eq_true q23
     have HP24 := Kd.R_putg HO_5.out (x6_1 : Int) true
     go_wp2_with (first | ((with_reducible refine gate_store (t := 4) (p := 43) rfl ?_); refine store_event (t := 4) (p := 43) (v := ?vo_w25) (w1 := (wr.setCell ⟨go7, (x6_1 : Int).toNat, none⟩ (.bool true))) ?hg ?ho ?hn ?hr ?_; (case ho => rfl); (case hg => rfl); (case hn => rfl); (case hr => first | (go_simp; done) | (go_simp; rfl)); intro w25 hw; have hg : wr.grownBy w25 (some go7) := (by rw [hw]; exact HP24.2); have hp_ : Kd.R Kd.bool 4 w25 w.heap.size (fun _ => True) (.slice (some ⟨go7, 0, none⟩) x5_2.length co7) y258 := (by rw [hw, Ny258.out]; exact HP24.1); clear HP24; replace HO_5 := Aside0.mk (hp_); replace HB := Aside0.mk ((by rw [hw]; exact below_set (HB.out) GB7.out : Below w.heap.size w w25)); clear hg hw hp_))
     (try simp only [← hl5_2])
     go_roundg k2
     case measure => have := HK1.out; have := HK2.out; omega
     case rel => exact ⟨(y258), (wrap64 (x7_2 + 1)), rs_, H', ⟨by have := HK1.out; have := HK2.out; omega⟩, ⟨by (try simp only [hl5_1]); (try simp only [hl5_2]); (with_reducible repeat (first | apply Kd.R_alloc | apply Kd.R_drewN | apply Kd.R_drew)); exact HO_5.out⟩, ⟨bl_ HB.out⟩⟩
end Go.Proofs.Ytonknpgfbkgbjaa.PB
end
