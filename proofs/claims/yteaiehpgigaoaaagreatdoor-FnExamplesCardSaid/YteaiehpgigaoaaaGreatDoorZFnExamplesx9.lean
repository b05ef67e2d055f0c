-- Bundled by shake.py from this session's printed and written texts; Lean checks it.
import Derived.Test.YteaiehpgigaoaaaGreatDoorZFnExamplesx1
import Derived.Test.YteaiehpgigaoaaaGreatDoorZFnExamplesx6
import Derived.Test.YteaiehpgigaoaaaGreatDoorZFnExamplesx7
import Derived.Test.YteaiehpgigaoaaaGreatDoorZFnExamplesx8
section
namespace Go.Proofs.YteaiehpgigaoaaaGreatDoor.PB
open Go.RowKit Go.Proofs.YteaiehpgigaoaaaGreatDoorW.PrintWords Go.Proofs.YteaiehpgigaoaaaGreatDoorW.PrintLast Go.Proofs.YteaiehpgigaoaaaGreatDoorW.PrintMore
attribute [local go_sem] max2_int min2_int max_two min_two max_three min_three max_four min_four
set_option linter.unusedVariables false
set_option linter.unusedSimpArgs false
set_option maxHeartbeats 8000000
set_option maxRecDepth 100000
def impl_Contains.f (k : Nat) (l0_0 : List Int) (a1 : Int) : Option (Bool) := if a1 < 0 then (some false) else ((impl_IsSemigroup.f k l0_0).bind fun t609 => (if t609 = true then (if a1 ≥ 200 then (some true) else (if 0 < (l0_0.length : Int) then ((impl_leasts.f k l0_0 (rd l0_0 0)).bind fun t611 => (if (rd l0_0 0) = 0 then (none) else (if 0 ≤ (Int.tmod a1 (rd l0_0 0)) then (if (Int.tmod a1 (rd l0_0 0)) < (t611.length : Int) then (some (decide ((rd t611 (Int.tmod a1 (rd l0_0 0))) ≤ a1))) else (none)) else (none)))) else (none))) else (some false)))
def impl_Contains.T3 : Bool × List (List Nat × List Nat) := (true, [([], []), ([0], [0]), ([1], [1]), ([2], [2]), ([3, 2], [2, 3]), ([2], [2]), ([5, 2], [2, 5]), ([6, 2], [2, 6]), ([7, 2], [2, 7]), ([4, 8, 2, 2], [2, 4, 8]), ([2], [2]), ([2], [2]), ([11, 2], [2, 11]), ([12, 2], [2, 12]), ([13, 2], [2, 13]), ([10, 14, 2], [2, 10, 14]), ([9, 15, 2], [2, 9, 15]), ([16, 2], [2, 16]), ([2], [2]), ([17, 18, 2], [2, 17, 18]), ([2, 19], [2, 19]), ([20, 9, 0, 1, 2, 3, 4, 5, 6, 7, 8, 9, 10, 11, 12, 13, 14, 15, 16, 17, 18, 19, 20], [20])])
def impl_Contains.B3 : List Nat := [0, 1, 3, 7, 15, 7, 39, 103, 231, 511, 7, 7, 2055, 6151, 14343, 31751, 65535, 131071, 7, 524287, 1048575, 2097151]
theorem impl_Contains.tab3 : rtab .any (opsOf Tryz.f62 3) = impl_Contains.T3 := by kernel_rfl
theorem impl_Contains.bits3 : waitsOk impl_Contains.T3.2 impl_Contains.B3 = true := by kernel_rfl
theorem impl_Contains.calls (k : Nat) (A0_0 : Option Addr) (c0_0 : Nat) (l0_0 : List Int) (a1 : Int) (r : Bool) (w : World) (hr0_0 : Kd.C (Kd.int .i64) w A0_0 l0_0.length l0_0) (hc0_0 : l0_0.length ≤ c0_0) (h : impl_Contains.f k l0_0 a1 = some r) :
 Calls Tryz.prog 62 #[.agg #[.slice A0_0 l0_0.length c0_0], .int .i64 a1] w fun e w' => e = .returned (.bool r) ∧ Below w.heap.size w w' := by
 have hu29 := Tryz.underlying29
 have HR0_0 := Aside0.mk hr0_0
 have HC0_0 := Aside0.mk hc0_0
 clear hr0_0 hc0_0
 have HB := Aside0.mk (Below.refl w.heap.size w)
 have H := h
 clear h
 unfold impl_Contains.f at H
 by_cases c3 : a1 < 0
 · rw [if_pos c3] at H
   have c3b0 : decide (a1 < 0) = true := decide_eq_true c3
   clear c3
   obtain rfl := Option.some.inj H
   go_enter Tryz.func62, Tryz.ntmps62
   go_wp2_with (first | ((with_reducible refine gate_dst (N := 2) rfl ?_); refine bx_ 2 #[.slice A0_0 l0_0.length c0_0] 29 ?_; intro gb608 hg w4 hbox hb; have BK608 := Aside0.mk (hbox); have GW608 := gw_ hg HB; have GE608 := gw_ hg HB; replace HB := bo_ HB hb; clear hb hbox hg))
   go_ret
   exact ⟨rf_, bq_ HB⟩
 · rw [if_neg c3] at H
   have c3b0 : decide (a1 < 0) = false := decide_eq_false c3
   clear c3
   obtain ⟨t609, A5, H⟩ := ob_ H
   by_cases c6 : t609 = true
   · subst c6
     rw [if_pos rfl] at H
     by_cases c7 : a1 ≥ 200
     · rw [if_pos c7] at H
       have c7b0 : decide (200 ≤ a1) = true := decide_eq_true c7
       clear c7
       obtain rfl := Option.some.inj H
       go_enter Tryz.func62, Tryz.ntmps62
       try go_wp2_with (first | ((with_reducible refine gate_dst (N := 2) rfl ?_); refine bx_ 2 #[.slice A0_0 l0_0.length c0_0] 29 ?_; intro gb608 hg w8 hbox hb; have BK608 := Aside0.mk (hbox); have GW608 := gw_ hg HB; have GE608 := gw_ hg HB; replace HB := bo_ HB hb; clear hb hbox hg; have hcz9_0 := cz_ BK608; have hfz9_0 := blk_frozen BK608.out 0) | (go_at_call 22; (with_reducible refine (impl_IsSemigroup.calls k _ _ l0_0 true _ ?side1 ?side2 A5.out).mono ?_); (case side1 => exact ch_ HR0_0 HB); (case side2 => exact HC0_0.out); rintro e w10 ⟨rfl, hb⟩; replace BK608 := bk_ BK608 hb; replace HB := bp_ HB hb; (try clear hb)))
       replace BK608 := Aside0.mk (blk_drew BK608.out)
       replace HB := Aside0.mk (below_drew1 HB.out)
       refine start_ (n := 22) (S := fun w' => True) (ds := []) (B_ 0 22) (by kernel_rfl) rfl rfl trivial (fun hHeld => ?_); refine with_tabW impl_Contains.tab3 impl_Contains.bits3 (fun HT_ HW_ => ?_)
       generalize w10.drew = w11 at BK608 HB hHeld ⊢
       refine pu_ HT_ 0 12 (B_ 1 22) ?_
       refine pu_ HT_ 1 13 (B_ 3 22) ?_
       refine pu_ HT_ 2 14 (B_ 7 22) ?_
       refine pn_ HT_ 3 15 (B_ 15 22) ?_
       refine pn_ HT_ 4 16 (B_ 31 22) ?_
       refine pn_ HT_ 5 17 (B_ 63 22) ?_
       refine pn_ HT_ 6 18 (B_ 127 22) ?_
       refine pn_ HT_ 7 19 (B_ 255 22) ?_
       refine pn_ HT_ 8 20 (B_ 511 22) ?_
       refine pn_ HT_ 9 21 (B_ 1023 22) ?_
       refine pn_ HT_ 10 22 (B_ 2047 22) ?_
       refine pn_ HT_ 11 23 (B_ 4095 22) ?_
       refine pn_ HT_ 12 24 (B_ 8191 22) ?_
       refine pn_ HT_ 13 25 (B_ 16383 22) ?_
       refine pn_ HT_ 14 26 (B_ 32767 22) ?_
       refine pn_ HT_ 15 27 (B_ 65535 22) ?_
       refine pn_ HT_ 16 28 (B_ 131071 22) ?_
       refine pn_ HT_ 17 29 (B_ 262143 22) ?_
       refine pn_ HT_ 18 30 (B_ 524287 22) ?_
       refine pn_ HT_ 19 31 (B_ 1048575 22) ?_
       refine pu_ HT_ 20 32 (B_ 2097151 22) ?_
       refine pu_ HT_ 21 4 (B_ 4194303 22) ?_
       refine done_ (done_of HT_.out (by kernel_rfl)) ?_
       try go_wp2
       go_ret
       exact ⟨rf_, bq_ HB⟩
     · rw [if_neg c7] at H
       have c7b0 : decide (200 ≤ a1) = false := decide_eq_false c7
       clear c7
       by_cases c12 : 0 < (l0_0.length : Int)
       · rw [if_pos c12] at H
         have c12b0 : decide (0 < (l0_0.length : Int)) = true := decide_eq_true c12
         have c12b1 : decide (0 < l0_0.length) = true := decide_eq_true (by omega)
         clear c12
         obtain ⟨t611, A13, H⟩ := ob_ H
         by_cases c14 : (rd l0_0 0) = 0
         · rw [if_pos c14] at H
           cases H
         · rw [if_neg c14] at H
           have c14b0 : ((rd l0_0 0) == 0) = false := beq_eq_false_iff_ne.mpr c14
           have c14b1 : ((rd l0_0 0) != 0) = true := bne_iff_ne.mpr c14
           obtain ⟨ji15, hji15⟩ : ∃ j_ : Int, (Int.tmod a1 (rd l0_0 0)) = j_ := ⟨_, rfl⟩
           replace H : (if 0 ≤ (ji15) then (if (ji15) < (t611.length : Int) then (some (decide ((rd t611 (ji15)) ≤ a1))) else (none)) else (none)) = some r := by first | (rw [hji15] at H; exact H) | (simp only [hji15] at H ⊢; exact H)
           (try rw [hji15] at A5)
           (try rw [hji15] at A13)
           by_cases c16 : 0 ≤ (ji15)
           · rw [if_pos c16] at H
             have c16b0 : decide (0 ≤ (ji15)) = true := decide_eq_true c16
             clear c16
             by_cases c17 : (ji15) < (t611.length : Int)
             · rw [if_pos c17] at H
               have c17b0 : decide ((ji15) < (t611.length : Int)) = true := decide_eq_true c17
               clear c17
               obtain rfl := Option.some.inj H
               go_enter Tryz.func62, Tryz.ntmps62
               try go_wp2_with (first | ((with_reducible refine gate_dst (N := 2) rfl ?_); refine bx_ 2 #[.slice A0_0 l0_0.length c0_0] 29 ?_; intro gb608 hg w18 hbox hb; have BK608 := Aside0.mk (hbox); have GW608 := gw_ hg HB; have GE608 := gw_ hg HB; replace HB := bo_ HB hb; clear hb hbox hg; have hcz19_0 := cz_ BK608; have hfz19_0 := blk_frozen BK608.out 0) | (go_at_call 22; (with_reducible refine (impl_IsSemigroup.calls k _ _ l0_0 true _ ?side1 ?side2 A5.out).mono ?_); (case side1 => exact ch_ HR0_0 HB); (case side2 => exact HC0_0.out); rintro e w20 ⟨rfl, hb⟩; replace BK608 := bk_ BK608 hb; replace HB := bp_ HB hb; (try clear hb)))
               replace BK608 := Aside0.mk (blk_drew BK608.out)
               replace HB := Aside0.mk (below_drew1 HB.out)
               have p610 : 0 ≤ (0 : Int) := (by omega)
               have q610 : 0 < (l0_0.length : Int) := od_
               obtain ⟨ad610, e610, hx610_0⟩ := Kd.at_int HR0_0.out 0 p610 q610
               have hw610_0 := hx610_0
               (try rw [show ((0 : Int)).toNat = 0 from rfl] at hw610_0)
               (try rw [show 0 * 1 = 0 from rfl] at hw610_0)
               (try rw [Addr.add_zero'] at hw610_0)
               cases e610
               have qi610 : (0 < l0_0.length) = True := eq_true (by omega)
               (try rw [show ((0 : Int)).toNat = 0 from rfl] at hx610_0)
               (try rw [Addr.add_zero'] at hx610_0)
               (try replace hx610_0 := (HB.out.cell (World.block_lt_of_cell? w _ hx610_0)).trans hx610_0)
               replace p610 := eq_true p610
               replace q610 := eq_true q610
               have p614 : 0 ≤ (0 : Int) := (by omega)
               have q614 : 0 < (l0_0.length : Int) := od_
               obtain ⟨ad614, e614, hx614_0⟩ := Kd.at_int HR0_0.out 0 p614 q614
               have hw614_0 := hx614_0
               (try rw [show ((0 : Int)).toNat = 0 from rfl] at hw614_0)
               (try rw [show 0 * 1 = 0 from rfl] at hw614_0)
               (try rw [Addr.add_zero'] at hw614_0)
               obtain rfl : ad610 = ad614 := (by injection e614)
               have qi614 : (0 < l0_0.length) = True := eq_true (by omega)
               (try rw [show ((0 : Int)).toNat = 0 from rfl] at hx614_0)
               (try rw [Addr.add_zero'] at hx614_0)
               (try replace hx614_0 := (HB.out.cell (World.block_lt_of_cell? w _ hx614_0)).trans hx614_0)
               replace p614 := eq_true p614
               replace q614 := eq_true q614
               refine start_ (n := 22) (S := fun w' => w'.cell? ⟨gb608, 0, none⟩ = some (.slice (some ad610) l0_0.length c0_0) ∧ w'.cell? ad610 = some (.int .i64 (rd l0_0 0)) ∧ w'.cell? ad610 = some (.int .i64 (rd l0_0 0)) ∧ True) (ds := []) (B_ 0 22) (by kernel_rfl) rfl rfl ⟨(blk_cell BK608.out 0).trans rfl, ((HB.out.cell (World.block_lt_of_cell? w _ hw610_0)).trans hw610_0), ((HB.out.cell (World.block_lt_of_cell? w _ hw614_0)).trans hw614_0), trivial⟩ (fun hHeld => ?_); refine with_tabW impl_Contains.tab3 impl_Contains.bits3 (fun HT_ HW_ => ?_)
               generalize w20.drew = w21 at BK608 HB hx610_0 hx614_0 hHeld ⊢
               refine pu_ HT_ 0 12 (B_ 1 22) ?_
               refine pu_ HT_ 1 13 (B_ 3 22) ?_
               refine pu_ HT_ 2 14 (B_ 7 22) ?_
               refine pu_ HT_ 3 15 (B_ 15 22) ?_
               refine pu_ HT_ 5 17 (B_ 47 22) ?_
               refine pu_ HT_ 10 22 (B_ 1071 22) ?_
               refine pu_ HT_ 11 23 (B_ 3119 22) ?_
               refine pu_ HT_ 18 30 (B_ 265263 22) ?_
               refine take_ (i := 4) (N := some 16) (v := ?_) (a' := ?_) (B_ 265279 22) rfl rfl (take_ofW HT_.out HW_.out (by kernel_rfl)) (fun _ _ _ h => h) (Or.inl ⟨by rfl, ?_⟩) hHeld ?_ ?_
               rotate_left
               · rintro w' ⟨s0, s1, s2, s3⟩
                 go_simp
                 with_reducible rfl
               rotate_left
               · simp only [Act.put, z1_, z2_, z3_, i64_w, i32_w]
                 rfl
               refine take_ (i := 6) (N := some 18) (v := ?_) (a' := ?_) (B_ 265343 22) rfl rfl (take_ofW HT_.out HW_.out (by kernel_rfl)) (fun _ _ _ h => h) (Or.inl ⟨by rfl, ?_⟩) hHeld ?_ ?_
               rotate_left
               · rintro w' ⟨s0, s1, s2, s3⟩
                 go_simp
                 with_reducible rfl
               rotate_left
               · simp only [Act.put, z1_, z2_, z3_, i64_w, i32_w]
                 rfl
               refine pu_ HT_ 7 19 (B_ 265471 22) ?_
               refine take_ (i := 8) (N := some 20) (v := ?_) (a' := ?_) (B_ 265727 22) rfl rfl (take_ofW HT_.out HW_.out (by kernel_rfl)) (fun _ _ _ h => h) (Or.inl ⟨by rfl, ?_⟩) hHeld ?_ ?_
               rotate_left
               · rintro w' ⟨s0, s1, s2, s3⟩
                 go_simp
                 with_reducible rfl
               rotate_left
               · simp only [Act.put, z1_, z2_, z3_, i64_w, i32_w]
                 rfl
               refine take_ (i := 12) (N := some 24) (v := ?_) (a' := ?_) (B_ 269823 22) rfl rfl (take_ofW HT_.out HW_.out (by kernel_rfl)) (fun _ _ _ h => h) (Or.inl ⟨by rfl, ?_⟩) hHeld ?_ ?_
               rotate_left
               · rintro w' ⟨s0, s1, s2, s3⟩
                 go_simp
                 with_reducible rfl
               rotate_left
               · simp only [Act.put, z1_, z2_, z3_, i64_w, i32_w]
                 rfl
               refine pu_ HT_ 13 25 (B_ 278015 22) ?_
               refine take_ (i := 14) (N := some 26) (v := ?_) (a' := ?_) (B_ 294399 22) rfl rfl (take_ofW HT_.out HW_.out (by kernel_rfl)) (fun _ _ _ h => h) (Or.inl ⟨by rfl, ?_⟩) hHeld ?_ ?_
               rotate_left
               · rintro w' ⟨s0, s1, s2, s3⟩
                 go_simp
                 with_reducible rfl
               rotate_left
               · simp only [Act.put, z1_, z2_, z3_, i64_w, i32_w]
                 rfl
               refine pu_ HT_ 15 27 (B_ 327167 22) ?_
               refine on_ HT_ 9 21 (B_ 327679 22) (fun K hK => ?_)
               refine goes_ Tryz.func56 (by kernel_rfl) rfl #[.slice (some ad610) l0_0.length c0_0, .int .i64 (rd l0_0 0)] (by rfl) rfl rfl (by (try simp only [List.map_toArray, List.map_cons, List.map_nil]); first | done | rfl | (simp only [List.length_drop, List.length_take]; rfl)) ?_
               with_reducible refine (impl_leasts.calls k _ _ l0_0 (rd l0_0 0) t611 _ ?side1 ?side2 A13.out).mono ?_
               (case side1 => exact ch_ HR0_0 HB)
               (case side2 => exact HC0_0.out)
               rintro e w22 ⟨v612, rfl, ho0, hb⟩
               refine ⟨_, rfl, ?_⟩
               have HO613 := Aside0.mk (Kd.R_lower ho0 (below_size (bq_ HB)))
               replace BK608 := bk_ BK608 hb
               replace HB := bp_ HB hb
               (try clear hb)
               (try clear ho0)
               obtain ⟨Ao23, co23, eo23⟩ := Kd.R_slice HO613.out
               (first | subst eo23 | (injection eo23 with f1_ f2_ f3_; have f4_ := f1_.symm; have f5_ := f3_.symm; clear f1_ f2_ f3_; subst f4_; subst f5_))
               have p615 : 0 ≤ ((ji15) : Int) := od_
               have q615 : (ji15) < (t611.length : Int) := od_
               obtain ⟨ad615, e615, hx615_0⟩ := Kd.at_int (Kd.R_reads' HO613.out).2.2 (ji15) p615 q615
               cases e615
               replace p615 := eq_true p615
               replace q615 := eq_true q615
               refine hK.out _ _ ⟨(blk_cell BK608.out 0).trans rfl, ((HB.out.cell (World.block_lt_of_cell? w _ hw610_0)).trans hw610_0), ((HB.out.cell (World.block_lt_of_cell? w _ hw614_0)).trans hw614_0), trivial⟩ (fun _ => ?_); refine restart_ (S' := fun w' => w'.cell? ⟨gb608, 0, none⟩ = some (.slice (some ad610) l0_0.length c0_0) ∧ w'.cell? ad610 = some (.int .i64 (rd l0_0 0)) ∧ w'.cell? ad610 = some (.int .i64 (rd l0_0 0)) ∧ w'.cell? (ad615.add ((ji15)).toNat) = some (.int .i64 (rd t611 (ji15)))) (fun _ h => ⟨h.1, h.2.1, h.2.2.1, trivial⟩) ⟨(blk_cell BK608.out 0).trans rfl, ((HB.out.cell (World.block_lt_of_cell? w _ hw610_0)).trans hw610_0), ((HB.out.cell (World.block_lt_of_cell? w _ hw614_0)).trans hw614_0), hx615_0⟩ (fun hHeld => ?_)
               clear hK K
               refine norm_ (a' := ?_) ?_ ?_
               rotate_left
               · show Act.put _ (some 21) _ = _
                 simp only [Act.put, z1_, z2_, z3_, i64_w, i32_w]
                 rfl
               refine pu_ HT_ 16 28 (B_ 393215 22) ?_
               refine take_ (i := 17) (N := some 29) (v := ?_) (a' := ?_) (B_ 524287 22) rfl rfl (take_ofW HT_.out HW_.out (by kernel_rfl)) (fun _ _ _ h => h) (Or.inl ⟨by rfl, ?_⟩) hHeld ?_ ?_
               rotate_left
               · rintro w' ⟨s0, s1, s2, s3⟩
                 go_simp
                 with_reducible rfl
               rotate_left
               · simp only [Act.put, z1_, z2_, z3_, i64_w, i32_w]
                 rfl
               refine pu_ HT_ 19 31 (B_ 1048575 22) ?_
               refine pu_ HT_ 20 32 (B_ 2097151 22) ?_
               refine pu_ HT_ 21 4 (B_ 4194303 22) ?_
               refine done_ (done_of HT_.out (by kernel_rfl)) ?_
               try go_wp2
               go_ret
               exact ⟨by first | rfl | (simp [errW_none, errW_some] <;> rfl) | (simp only [← hji15]; first | rfl | (simp [errW_none, errW_some] <;> rfl)) | (simp [*, errW_none, errW_some] <;> rfl), bq_ HB⟩
             · rw [if_neg c17] at H
               cases H
           · rw [if_neg c16] at H
             cases H
       · rw [if_neg c12] at H
         cases H
   · replace c6 := Bool.eq_false_iff.mpr c6
     subst c6
     rw [if_neg (show ¬ (false = true) by decide)] at H
     obtain rfl := Option.some.inj H
     go_enter Tryz.func62, Tryz.ntmps62
     go_wp2_with (first | ((with_reducible refine gate_dst (N := 2) rfl ?_); refine bx_ 2 #[.slice A0_0 l0_0.length c0_0] 29 ?_; intro gb608 hg w24 hbox hb; have BK608 := Aside0.mk (hbox); have GW608 := gw_ hg HB; have GE608 := gw_ hg HB; replace HB := bo_ HB hb; clear hb hbox hg; have hcz25_0 := cz_ BK608; have hfz25_0 := blk_frozen BK608.out 0) | (go_at_call 22; (with_reducible refine (impl_IsSemigroup.calls k _ _ l0_0 false _ ?side1 ?side2 A5.out).mono ?_); (case side1 => exact ch_ HR0_0 HB); (case side2 => exact HC0_0.out); rintro e w26 ⟨rfl, hb⟩; replace BK608 := bk_ BK608 hb; replace HB := bp_ HB hb; (try clear hb)))
     go_ret
     exact ⟨rf_, bq_ HB⟩
mutual
def impl_AperySet.j0 : Nat → Int → Bool → List Int → Option (List Int)
 | 0, _, _, _ => none
 | k + 1, x1, x16, x617000 => if x16 = true then (some ([] : List Int)) else (if 0 ≤ x1 then (if (x1 : Int).toNat ≤ 35184372088832 then ((some (List.replicate (x1 : Int).toNat 0 : List Int)).bind fun y619 => ((impl_table.f k x617000 (wrap64 (200 + x1))).bind fun t622 => (impl_AperySet.l0 k x1 y619 t622 (y619.length : Int) 0))) else (none)) else (none))
def impl_AperySet.l0 : Nat → Int → List Int → List Bool → Int → Int → Option (List Int)
 | 0, _, _, _, _, _ => none
 | k + 1, x1, x5, x6, x24, x25 => if x25 < x24 then (impl_AperySet.l1 k x1 x5 x6 x25 x24 x25) else (some x5)
def impl_AperySet.l1 : Nat → Int → List Int → List Bool → Int → Int → Int → Option (List Int)
 | 0, _, _, _, _, _, _ => none
 | k + 1, x1, x5, x6, x7, x24, x25 => if 0 ≤ x7 then (if x7 < (x5.length : Int) then (if 0 ≤ (rd x5 x7) then (if (rd x5 x7) < (x6.length : Int) then (if (rdOf false x6 (rd x5 x7) = true) then (if x1 = 0 then (none) else (if (Int.tmod (rd x5 x7) x1) = x7 then (impl_AperySet.l0 k x1 x5 x6 x24 (wrap64 (x25 + 1))) else (impl_AperySet.l1 k x1 (x5.set (x7 : Int).toNat (wrap64 ((rd x5 x7) + 1))) x6 x7 x24 x25))) else (impl_AperySet.l1 k x1 (x5.set (x7 : Int).toNat (wrap64 ((rd x5 x7) + 1))) x6 x7 x24 x25)) else (none)) else (none)) else (none)) else (none)
end
def impl_AperySet.f (k : Nat) (l0_0 : List Int) (a1 : Int) : Option (List Int) := (impl_within.f a1 1 60).bind fun t617 => (if t617 = true then ((impl_Contains.f k l0_0 a1).bind fun t618 => (impl_AperySet.j0 k a1 (!t618) l0_0)) else (impl_AperySet.j0 k a1 true l0_0))
theorem impl_AperySet.calls (k : Nat) (A0_0 : Option Addr) (c0_0 : Nat) (l0_0 : List Int) (a1 : Int) (r : List Int) (w : World) (hr0_0 : Kd.C (Kd.int .i64) w A0_0 l0_0.length l0_0) (hc0_0 : l0_0.length ≤ c0_0) (h : impl_AperySet.f k l0_0 a1 = some r) :
 Calls Tryz.prog 32 #[.agg #[.slice A0_0 l0_0.length c0_0], .int .i64 a1] w fun e w' => ∃ v0_ : Value, e = .returned (v0_) ∧ Kd.R (Kd.int .i64) 3 w' w.heap.size (fun _ => True) v0_ r ∧ Below w.heap.size w w' := by
 have hu29 := Tryz.underlying29
 have HR0_0 := Aside0.mk hr0_0
 have HC0_0 := Aside0.mk hc0_0
 clear hr0_0 hc0_0
 have HB := Aside0.mk (Below.refl w.heap.size w)
 have H := h
 clear h
 unfold impl_AperySet.f at H
 have HC3 := Aside0.mk H
 clear H
 go_enter Tryz.func32, Tryz.ntmps32
 go_upto_region 1 with (first | ((with_reducible refine gate_dst (N := 2) rfl ?_); refine bx_ 2 #[.slice A0_0 l0_0.length c0_0] 29 ?_; intro gb616 hg w4 hbox hb; have BK616 := Aside0.mk (hbox); have GW616 := gw_ hg HB; have GE616 := gw_ hg HB; replace HB := bo_ HB hb; clear hb hbox hg))
 (try simp only [Act.put, z1_, z2_, z3_])
 go_cut [16] (fun v16 wc => ∃ (kq : Nat) (x16_2 : Bool), v16 = .bool x16_2 ∧ Aside0 (impl_AperySet.j0 kq a1 x16_2 l0_0 = some r) ∧ Aside0 (kq ≤ k) ∧ Aside0 (wc.heap[gb616]? = some (.cells #[(.slice A0_0 l0_0.length c0_0)] 29 (0, 0))) ∧ Aside0 (Below w.heap.size w wc))
 case first =>
  have H := HC3.out
  clear HC3
  obtain ⟨t617, A5, H⟩ := ob_ H
  by_cases c6 : t617 = true
  · subst c6
    rw [if_pos rfl] at H
    obtain ⟨t618, A7, H⟩ := ob_ H
    have H' := Aside0.mk H
    clear H
    go_wp2_with (first | ((with_reducible refine gate_callee (f := 21) rfl ?_); refine gL_ (some 9) Tryz.func21 #[.int .i64 a1, .int .i64 1, .int .i64 60] ?_; (with_reducible refine (impl_within.calls a1 1 60 true _ A5.out).mono ?_); rintro e w' ⟨rfl, ⟨nd, rfl⟩⟩; refine ⟨_, rfl, ?_⟩; have hcz8_0 := cz_ BK616; have hfz8_0 := blk_frozen BK616.out 0) | (go_at_call 62; (with_reducible refine (impl_Contains.calls k _ _ l0_0 a1 t618 _ ?side1 ?side2 A7.out).mono ?_); (case side1 => repeat (first | exact (Kd.C_below HR0_0.out (bq_ HB)) | (with_reducible refine Kd.C_alloc ?_ _) | (with_reducible refine Kd.C_drewN ?_ _) | (with_reducible refine Kd.C_drew ?_))); (case side2 => exact HC0_0.out); rintro e w9 ⟨rfl, hb⟩; replace BK616 := bk_ BK616 hb; replace HB := bp_ HB hb; (try clear hb)))
    go_meet
    case rel => exact ⟨_, (!t618), rs_, H', ⟨by first | omega | exact Nat.le_refl _⟩, ⟨be_ BK616.out⟩, ⟨bq_ HB⟩⟩
  · replace c6 := Bool.eq_false_iff.mpr c6
    subst c6
    rw [if_neg (show ¬ (false = true) by decide)] at H
    have H' := Aside0.mk H
    clear H
    go_wp2_with (first | ((with_reducible refine gate_callee (f := 21) rfl ?_); refine gL_ (some 9) Tryz.func21 #[.int .i64 a1, .int .i64 1, .int .i64 60] ?_; (with_reducible refine (impl_within.calls a1 1 60 false _ A5.out).mono ?_); rintro e w' ⟨rfl, ⟨nd, rfl⟩⟩; refine ⟨_, rfl, ?_⟩))
    go_meet
    case rel => exact ⟨_, (true), rs_, H', ⟨by first | omega | exact Nat.le_refl _⟩, ⟨be_ BK616.out⟩, ⟨bq_ HB⟩⟩
 case rest =>
  clear HC3
  try clear c2
  try clear p2
  try clear c3
  try clear c6
  try clear hcz8_0
  try clear hfz8_0
  obtain ⟨kq, x16_2, rfl, HA, HJ2, BK616, HB⟩ := hcut
  cases kq with
  | zero => exact absurd HA.out (by simp [impl_AperySet.j0])
  | succ kj2 =>
   have H := HA.out
   clear HA
   simp only [impl_AperySet.j0] at H
   by_cases c10 : x16_2 = true
   · subst c10
     rw [if_pos rfl] at H
     obtain rfl := Option.some.inj H
     go_wp2
     go_ret
     exact ⟨_, rf_, by first | exact Kd.R_nil _ _ _ _ _ | exact Kd.N_nil _ _ _ _ _ | exact Kd.V_nil _ _ _ _ _ | exact Kd.Q_nil _ _ _ _ _ | exact Kd.S_nil _ _ _ _ _, bq_ HB⟩
   · replace c10 := Bool.eq_false_iff.mpr c10
     subst c10
     rw [if_neg (show ¬ (false = true) by decide)] at H
     by_cases c11 : 0 ≤ a1
     · rw [if_pos c11] at H
       have c11b0 := eq_true c11
       have c11b1 : decide (0 ≤ a1) = true := decide_eq_true c11
       clear c11
       by_cases c12 : (a1 : Int).toNat ≤ 35184372088832
       · rw [if_pos c12] at H
         have c12b0 := eq_true c12
         have c12b1 : decide ((a1 : Int).toNat ≤ 35184372088832) = true := decide_eq_true c12
         clear c12
         obtain ⟨y619, hy619⟩ : ∃ y_ : List Int, y_ = (List.replicate (a1 : Int).toNat 0) := ⟨_, rfl⟩
         replace H : ((impl_table.f kj2 l0_0 (wrap64 (200 + a1))).bind fun t622 => (impl_AperySet.l0 kj2 a1 y619 t622 (y619.length : Int) 0)) = some r := by subst hy619; exact H
         have Ny619 := Aside0.mk hy619
         clear hy619
         obtain ⟨t622, A13, H⟩ := ob_ H
         have H' := Aside0.mk H
         clear H
         go_wp2_with (first | ((with_reducible refine gate_dst (N := 18) rfl ?_); refine Kd.R_make (Kd.int .i64) _ 3 rfl (N := 18) rfl 27 _ _ rfl a1 rfl rfl Tryz.underlying27 (.int .i64 0) 8 info3 rfl (by decide) (by omega) 0 (ok := fun _ => True) (okp := fun _ => True) rfl (fun _ hk => hk) trivial (od_) (Nat.le_trans (Nat.mul_le_mul_right _ (od_ : a1.toNat ≤ 35184372088832)) (by omega)) (Below.refl _ _) (Nat.le_refl _) ?_; intro v620 w14 ho15 hb hg_ hnew_; clear hg_ hnew_; (first | rw [← Ny619.out] at ho15 | (simp only [Int.reduceToNat] at ho15; rw [← Ny619.out] at ho15)); have HO621 := Aside0.mk (Kd.R_lower ho15 (below_size (bq_ HB))); replace BK616 := bk_ BK616 hb; replace HB := bp_ HB hb; clear hb ho15; have hcz16_0 := cz_ BK616; have hfz16_0 := blk_frozen BK616.out 0) | ((with_reducible refine gate_callee (f := 63) rfl ?_); refine gL_ (some 22) Tryz.func63 #[.agg #[.slice A0_0 l0_0.length c0_0], .int .i64 (wrap64 (200 + a1))] ?_; (with_reducible refine (impl_table.calls kj2 _ _ l0_0 (wrap64 (200 + a1)) t622 _ ?side1 ?side2 A13.out).mono ?_); (case side1 => exact ch_ HR0_0 HB); (case side2 => exact HC0_0.out); rintro e w17 ⟨v623, rfl, ho0, hb⟩; refine ⟨_, rfl, ?_⟩; replace HO621 := Aside0.mk (Kd.R_below (re_ HO621.out) hb); have HO624 := Aside0.mk (Kd.R_lower ho0 (below_size (bq_ HB))); replace BK616 := bk_ BK616 hb; replace HB := bp_ HB hb; (try clear hb); (try clear ho0); obtain ⟨Ao18, co18, eo18⟩ := Kd.R_slice HO621.out; subst eo18))
         go_loopg [25] kj2 (fun kq v25 w' => ∃ (x5_2 : List Int) (x25_2 : Int), v25 = .int .i64 x25_2 ∧ Aside0 (impl_AperySet.l0 kq a1 x5_2 t622 (y619.length : Int) x25_2 = some r) ∧ Aside0 (kq ≤ kj2) ∧ Aside0 (Kd.R (Kd.int .i64) 3 w' w.heap.size (fun _ => True) (.slice Ao18 y619.length co18) x5_2) ∧ Aside0 (Kd.R Kd.bool 4 w' w.heap.size (fun _ => True) v623 t622) ∧ Aside0 (w'.heap[gb616]? = some (.cells #[(.slice A0_0 l0_0.length c0_0)] 29 (0, 0))) ∧ Aside0 (Below w.heap.size w w'))
         case atStart => exact ⟨(y619), (0), rs_, H', ⟨Nat.le_refl _⟩, ⟨re_ HO621.out⟩, ⟨re_ HO624.out⟩, ⟨be_ BK616.out⟩, ⟨bq_ HB⟩⟩
         case round =>
          clear H'
          try clear c1
          try clear c2
          try clear p2
          try clear c3
          try clear c6
          try clear p6
          try clear c10
          try clear c11
          try clear c11b0
          try clear c11b1
          try clear c12
          try clear c12b0
          try clear c12b1
          try clear hcz16_0
          try clear hcz8_0
          try clear hfz16_0
          try clear hfz8_0
          try clear p2
          obtain ⟨x5_2, x25_2, rfl, HA, HK2, HO_5, HO_6, BK616, HB⟩ := hrel
          have hl5_2 := (Kd.R_reads' HO_5.out).1
          rw [hl5_2] at HO_5
          (try simp only [hl5_2])
          (try simp only [hl5_2] at BK616)
          (try simp only [hl5_2] at HO_6)
          cases gk with
          | zero => exact absurd HA.out (by simp [impl_AperySet.l0])
          | succ k2 =>
           have H := HA.out
           clear HA
           simp only [impl_AperySet.l0] at H
           by_cases c19 : x25_2 < (y619.length : Int)
           · rw [if_pos c19] at H
             have c19b0 : decide (x25_2 < (y619.length : Int)) = true := decide_eq_true c19
             (try (have c19h := c19b0; simp only [hl5_2] at c19h))
             clear c19
             have H' := Aside0.mk H
             clear H
             go_wp2
             go_loopg [] k2 (fun kq w' => ∃ (x5_3 : List Int), Aside0 (impl_AperySet.l1 kq a1 x5_3 t622 x25_2 (y619.length : Int) x25_2 = some r) ∧ Aside0 (kq ≤ k2) ∧ Aside0 (Kd.R (Kd.int .i64) 3 w' w.heap.size (fun _ => True) (.slice Ao18 x5_2.length co18) x5_3) ∧ Aside0 (Kd.R Kd.bool 4 w' w.heap.size (fun _ => True) v623 t622) ∧ Aside0 (w'.heap[gb616]? = some (.cells #[(.slice A0_0 l0_0.length c0_0)] 29 (0, 0))) ∧ Aside0 (Below w.heap.size w w'))
             case atStart => exact ⟨(x5_2), H', ⟨Nat.le_refl _⟩, ⟨by (try simp only [hl5_2]); (with_reducible repeat (first | apply Kd.R_alloc | apply Kd.R_drewN | apply Kd.R_drew)); exact HO_5.out⟩, ⟨by (try simp only [hl5_2]); (with_reducible repeat (first | apply Kd.R_alloc | apply Kd.R_drewN | apply Kd.R_drew)); exact HO_6.out⟩, ⟨by (try simp only [hl5_2]); (with_reducible repeat (first | refine blk_drewN ?_ _ | refine blk_drew ?_ | refine blk_alloc ?_ _)); exact BK616.out⟩, ⟨bq_ HB⟩⟩
             case round =>
              clear H'
              try clear c1
              try clear c2
              try clear p2
              try clear c3
              try clear c6
              try clear p6
              try clear c10
              try clear c11
              try clear c11b0
              try clear c11b1
              try clear c12
              try clear c12b0
              try clear c12b1
              try clear c19
              try clear c19b0
              try clear hcz16_0
              try clear hcz8_0
              try clear hfz16_0
              try clear hfz8_0
              try clear p2
              try clear p6
              obtain ⟨x5_3, HA, HK3, HO_5, HO_6, BK616, HB⟩ := hrel
              have hl5_3 := (Kd.R_reads' HO_5.out).1
              rw [hl5_3] at HO_5
              (try simp only [hl5_3])
              (try simp only [hl5_3] at BK616)
              (try simp only [hl5_3] at HO_6)
              cases gk with
              | zero => exact absurd HA.out (by simp [impl_AperySet.l1])
              | succ k3 =>
               have H := HA.out
               clear HA
               simp only [impl_AperySet.l1] at H
               by_cases c20 : 0 ≤ x25_2
               · rw [if_pos c20] at H
                 have c20b0 : decide (0 ≤ x25_2) = true := decide_eq_true c20
                 clear c20
                 by_cases c21 : x25_2 < (x5_3.length : Int)
                 · rw [if_pos c21] at H
                   have c21b0 : decide (x25_2 < (x5_3.length : Int)) = true := decide_eq_true c21
                   (try (have c21h := c21b0; simp only [hl5_2, hl5_3] at c21h))
                   clear c21
                   by_cases c22 : 0 ≤ (rd x5_3 x25_2)
                   · rw [if_pos c22] at H
                     have c22b0 : decide (0 ≤ (rd x5_3 x25_2)) = true := decide_eq_true c22
                     clear c22
                     by_cases c23 : (rd x5_3 x25_2) < (t622.length : Int)
                     · rw [if_pos c23] at H
                       have c23b0 : decide ((rd x5_3 x25_2) < (t622.length : Int)) = true := decide_eq_true c23
                       (try (have c23h := c23b0; simp only [hl5_2, hl5_3] at c23h))
                       clear c23
                       obtain ⟨bq24, hbq24⟩ : ∃ b_ : Bool, b_ = (rdOf false t622 (rd x5_3 x25_2)) := ⟨_, rfl⟩
                       replace H : (if (bq24 = true) then (if a1 = 0 then (none) else (if (Int.tmod (rd x5_3 x25_2) a1) = x25_2 then (impl_AperySet.l0 k3 a1 x5_3 t622 (y619.length : Int) (wrap64 (x25_2 + 1))) else (impl_AperySet.l1 k3 a1 (x5_3.set (x25_2 : Int).toNat (wrap64 ((rd x5_3 x25_2) + 1))) t622 x25_2 (y619.length : Int) x25_2))) else (impl_AperySet.l1 k3 a1 (x5_3.set (x25_2 : Int).toNat (wrap64 ((rd x5_3 x25_2) + 1))) t622 x25_2 (y619.length : Int) x25_2)) = some r := by rw [← hbq24] at H; exact H
                       have Nbq24 := Aside0.mk hbq24
                       clear hbq24
                       by_cases c25 : (bq24 = true)
                       · subst c25
                         rw [if_pos rfl] at H
                         by_cases c26 : a1 = 0
                         · rw [if_pos c26] at H
                           cases H
                         · rw [if_neg c26] at H
                           have c26b0 : (a1 == 0) = false := beq_eq_false_iff_ne.mpr c26
                           have c26b1 : (a1 != 0) = true := bne_iff_ne.mpr c26
                           by_cases c27 : (Int.tmod (rd x5_3 x25_2) a1) = x25_2
                           · rw [if_pos c27] at H
                             have c27b0 : ((Int.tmod (rd x5_3 x25_2) a1) == x25_2) = true := beq_iff_eq.mpr c27
                             have c27b1 : ((Int.tmod (rd x5_3 x25_2) a1) != x25_2) = false := bne_eq_false_iff_eq.mpr c27
                             clear c27
                             have H' := Aside0.mk H
                             clear H
                             have p625 : 0 ≤ (x25_2 : Int) := od_
                             have q625 : x25_2 < (x5_3.length : Int) := od_
                             obtain ⟨ad625, e625, hx625_0⟩ := Kd.at_int (Kd.R_reads' HO_5.out).2.2 x25_2 p625 q625
                             cases e625
                             replace p625 := eq_true p625
                             replace q625 := eq_true q625
                             obtain ⟨Ao28, co28, eo28⟩ := Kd.R_slice HO_6.out
                             subst eo28
                             have p626 : 0 ≤ ((rd x5_3 x25_2) : Int) := od_
                             have q626 : (rd x5_3 x25_2) < (t622.length : Int) := od_
                             obtain ⟨ad626, e626, hx626_0⟩ := Kd.at_bool (Kd.R_reads' HO_6.out).2.2 (rd x5_3 x25_2) p626 q626
                             (try rw [← Nbq24.out] at hx626_0)
                             cases e626
                             replace p626 := eq_true p626
                             replace q626 := eq_true q626
                             have p627 : 0 ≤ (x25_2 : Int) := od_
                             have q627 : x25_2 < (x5_3.length : Int) := od_
                             obtain ⟨ad627, e627, hx627_0⟩ := Kd.at_int (Kd.R_reads' HO_5.out).2.2 x25_2 p627 q627
                             obtain rfl : ad625 = ad627 := (by injection e627)
                             replace p627 := eq_true p627
                             replace q627 := eq_true q627
                             go_wp2
                             (try simp only [← hl5_2, ← hl5_3])
                             go_roundg k3
                             case measure => have := HJ2.out; have := HK2.out; have := HK3.out; omega
                             case rel => exact ⟨(x5_3), (wrap64 (x25_2 + 1)), rs_, H', ⟨by have := HJ2.out; have := HK2.out; have := HK3.out; omega⟩, ⟨by (try simp only [hl5_2]); (try simp only [hl5_3]); (with_reducible repeat (first | apply Kd.R_alloc | apply Kd.R_drewN | apply Kd.R_drew)); exact HO_5.out⟩, ⟨by (try simp only [hl5_2]); (try simp only [hl5_3]); (with_reducible repeat (first | apply Kd.R_alloc | apply Kd.R_drewN | apply Kd.R_drew)); exact HO_6.out⟩, ⟨by (try simp only [hl5_2]); (try simp only [hl5_3]); (with_reducible repeat (first | refine blk_drewN ?_ _ | refine blk_drew ?_ | refine blk_alloc ?_ _)); exact BK616.out⟩, ⟨bq_ HB⟩⟩
                           · rw [if_neg c27] at H
                             have c27b0 : ((Int.tmod (rd x5_3 x25_2) a1) == x25_2) = false := beq_eq_false_iff_ne.mpr c27
                             have c27b1 : ((Int.tmod (rd x5_3 x25_2) a1) != x25_2) = true := bne_iff_ne.mpr c27
                             obtain ⟨y629, hy629⟩ : ∃ y_ : List Int, y_ = (x5_3.set (x25_2 : Int).toNat (wrap64 ((rd x5_3 x25_2) + 1))) := ⟨_, rfl⟩
                             replace H : (impl_AperySet.l1 k3 a1 y629 t622 x25_2 (y619.length : Int) x25_2) = some r := by subst hy629; exact H
                             have Ny629 := Aside0.mk hy629
                             clear hy629
                             have H' := Aside0.mk H
                             clear H
                             have p625 : 0 ≤ (x25_2 : Int) := od_
                             have q625 : x25_2 < (x5_3.length : Int) := od_
                             obtain ⟨ad625, e625, hx625_0⟩ := Kd.at_int (Kd.R_reads' HO_5.out).2.2 x25_2 p625 q625
                             cases e625
                             replace p625 := eq_true p625
                             replace q625 := eq_true q625
                             obtain ⟨Ao30, co30, eo30⟩ := Kd.R_slice HO_6.out
                             subst eo30
                             have p626 : 0 ≤ ((rd x5_3 x25_2) : Int) := od_
                             have q626 : (rd x5_3 x25_2) < (t622.length : Int) := od_
                             obtain ⟨ad626, e626, hx626_0⟩ := Kd.at_bool (Kd.R_reads' HO_6.out).2.2 (rd x5_3 x25_2) p626 q626
                             (try rw [← Nbq24.out] at hx626_0)
                             cases e626
                             replace p626 := eq_true p626
                             replace q626 := eq_true q626
                             have p627 : 0 ≤ (x25_2 : Int) := od_
                             have q627 : x25_2 < (x5_3.length : Int) := od_
                             obtain ⟨ad627, e627, hx627_0⟩ := Kd.at_int (Kd.R_reads' HO_5.out).2.2 x25_2 p627 q627
                             obtain rfl : ad625 = ad627 := (by injection e627)
                             replace p627 := eq_true p627
                             replace q627 := eq_true q627
                             have p628 : 0 ≤ (x25_2 : Int) := od_
                             have q628 : x25_2 < (x5_3.length : Int) := od_
                             obtain ⟨ad628, e628, hx628_0⟩ := Kd.at_int (Kd.R_reads' HO_5.out).2.2 x25_2 p628 q628
                             obtain rfl : ad625 = ad628 := (by injection e628)
                             replace p628 := eq_true p628
                             replace q628 := eq_true q628
                             have p29 : 0 ≤ (x25_2 : Int) := od_
                             have q29 : (x25_2 : Int) < ((x5_3.length : Int) : Int) := od_
                             obtain ⟨go29, co29, eo29, gb29, gl29, cl29, HG29⟩ := Kd.R_form HO_5.out (by omega)
                             (first | cases eo29 | (injection eo29 with ea_ en_ ec_; (first | subst ea_ | (injection ea_ with ea_; subst ea_)); subst ec_; clear en_))
                             have GB29 := Aside0.mk gb29
                             have GG29 := Aside0.mk HG29
                             clear gb29 gl29 HG29
                             (first | simp only [add_plain] at hx625_0 | skip)
                             (first | simp only [add_plain] at hx627_0 | skip)
                             (first | simp only [add_plain] at hx628_0 | skip)
                             obtain ⟨hx29_0, hf29_0⟩ := Kd.R_celln 0 HO_5.out (x25_2 : Int) p29 q29
                             replace p29 := eq_true p29
                             replace q29 := eq_true q29
                             have HP31 := Kd.R_putg HO_5.out (x25_2 : Int) (wrap64 ((rd x5_3 x25_2) + 1))
                             go_wp2_with (first | ((with_reducible refine gate_store (t := 3) (p := 51) rfl ?_); refine store_event (t := 3) (p := 51) (v := ?vo_w32) (w1 := (wr.setCell ⟨go29, (x25_2 : Int).toNat, none⟩ (.int .i64 (wrap64 ((rd x5_3 x25_2) + 1))))) ?hg ?ho ?hn ?hr ?_; (case ho => rfl); (case hg => rfl); (case hn => rfl); (case hr => first | (go_simp; done) | (go_simp; rfl)); intro w32 hw; have hg : wr.grownBy w32 (some go29) := (by rw [hw]; exact HP31.2); have hp_ : Kd.R (Kd.int .i64) 3 w32 w.heap.size (fun _ => True) (.slice (some ⟨go29, 0, none⟩) x5_3.length co18) y629 := (by rw [hw, Ny629.out]; exact HP31.1); clear HP31; replace HO_6 := Aside0.mk (Kd.R_over' (v := (.slice (some ⟨go29, 0, none⟩) x5_3.length co18)) (re_ HO_6.out) (Kd.R_typed HO_5.out) (by decide) hg); replace BK616 := Aside0.mk (blk_grown (be_ BK616.out) hg (Kd.R_ne HO_5.out BK616.out (by decide))); replace HO_5 := Aside0.mk (hp_); replace HB := Aside0.mk ((by rw [hw]; exact below_set (HB.out) GB29.out : Below w.heap.size w w32)); clear hg hw hp_))
                             (try simp only [← hl5_3])
                             go_roundg k3
                             case measure => have := HJ2.out; have := HK2.out; have := HK3.out; omega
                             case rel => exact ⟨(y629), H', ⟨by have := HJ2.out; have := HK2.out; have := HK3.out; omega⟩, ⟨by (try simp only [hl5_2]); (try simp only [hl5_3]); (with_reducible repeat (first | apply Kd.R_alloc | apply Kd.R_drewN | apply Kd.R_drew)); exact HO_5.out⟩, ⟨by (try simp only [hl5_2]); (try simp only [hl5_3]); (with_reducible repeat (first | apply Kd.R_alloc | apply Kd.R_drewN | apply Kd.R_drew)); exact HO_6.out⟩, ⟨by (try simp only [hl5_2]); (try simp only [hl5_3]); (with_reducible repeat (first | refine blk_drewN ?_ _ | refine blk_drew ?_ | refine blk_alloc ?_ _)); exact BK616.out⟩, ⟨bq_ HB⟩⟩
                       · replace c25 := Bool.eq_false_iff.mpr c25
                         subst c25
                         rw [if_neg (show ¬ (false = true) by decide)] at H
                         obtain ⟨y631, hy631⟩ : ∃ y_ : List Int, y_ = (x5_3.set (x25_2 : Int).toNat (wrap64 ((rd x5_3 x25_2) + 1))) := ⟨_, rfl⟩
                         replace H : (impl_AperySet.l1 k3 a1 y631 t622 x25_2 (y619.length : Int) x25_2) = some r := by subst hy631; exact H
                         have Ny631 := Aside0.mk hy631
                         clear hy631
                         have H' := Aside0.mk H
                         clear H
                         have p625 : 0 ≤ (x25_2 : Int) := od_
                         have q625 : x25_2 < (x5_3.length : Int) := od_
                         obtain ⟨ad625, e625, hx625_0⟩ := Kd.at_int (Kd.R_reads' HO_5.out).2.2 x25_2 p625 q625
                         cases e625
                         replace p625 := eq_true p625
                         replace q625 := eq_true q625
                         obtain ⟨Ao34, co34, eo34⟩ := Kd.R_slice HO_6.out
                         subst eo34
                         have p626 : 0 ≤ ((rd x5_3 x25_2) : Int) := od_
                         have q626 : (rd x5_3 x25_2) < (t622.length : Int) := od_
                         obtain ⟨ad626, e626, hx626_0⟩ := Kd.at_bool (Kd.R_reads' HO_6.out).2.2 (rd x5_3 x25_2) p626 q626
                         (try rw [← Nbq24.out] at hx626_0)
                         cases e626
                         replace p626 := eq_true p626
                         replace q626 := eq_true q626
                         have p630 : 0 ≤ (x25_2 : Int) := od_
                         have q630 : x25_2 < (x5_3.length : Int) := od_
                         obtain ⟨ad630, e630, hx630_0⟩ := Kd.at_int (Kd.R_reads' HO_5.out).2.2 x25_2 p630 q630
                         obtain rfl : ad625 = ad630 := (by injection e630)
                         replace p630 := eq_true p630
                         replace q630 := eq_true q630
                         have p33 : 0 ≤ (x25_2 : Int) := od_
                         have q33 : (x25_2 : Int) < ((x5_3.length : Int) : Int) := od_
                         obtain ⟨go33, co33, eo33, gb33, gl33, cl33, HG33⟩ := Kd.R_form HO_5.out (by omega)
                         (first | cases eo33 | (injection eo33 with ea_ en_ ec_; (first | subst ea_ | (injection ea_ with ea_; subst ea_)); subst ec_; clear en_))
                         have GB33 := Aside0.mk gb33
                         have GG33 := Aside0.mk HG33
                         clear gb33 gl33 HG33
                         (first | simp only [add_plain] at hx625_0 | skip)
                         (first | simp only [add_plain] at hx630_0 | skip)
                         obtain ⟨hx33_0, hf33_0⟩ := Kd.R_celln 0 HO_5.out (x25_2 : Int) p33 q33
                         replace p33 := eq_true p33
                         replace q33 := eq_true q33
                         have HP35 := Kd.R_putg HO_5.out (x25_2 : Int) (wrap64 ((rd x5_3 x25_2) + 1))
                         go_wp2_with (first | ((with_reducible refine gate_store (t := 3) (p := 51) rfl ?_); refine store_event (t := 3) (p := 51) (v := ?vo_w36) (w1 := (wr.setCell ⟨go33, (x25_2 : Int).toNat, none⟩ (.int .i64 (wrap64 ((rd x5_3 x25_2) + 1))))) ?hg ?ho ?hn ?hr ?_; (case ho => rfl); (case hg => rfl); (case hn => rfl); (case hr => first | (go_simp; done) | (go_simp; rfl)); intro w36 hw; have hg : wr.grownBy w36 (some go33) := (by rw [hw]; exact HP35.2); have hp_ : Kd.R (Kd.int .i64) 3 w36 w.heap.size (fun _ => True) (.slice (some ⟨go33, 0, none⟩) x5_3.length co18) y631 := (by rw [hw, Ny631.out]; exact HP35.1); clear HP35; replace HO_6 := Aside0.mk (Kd.R_over' (v := (.slice (some ⟨go33, 0, none⟩) x5_3.length co18)) (re_ HO_6.out) (Kd.R_typed HO_5.out) (by decide) hg); replace BK616 := Aside0.mk (blk_grown (be_ BK616.out) hg (Kd.R_ne HO_5.out BK616.out (by decide))); replace HO_5 := Aside0.mk (hp_); replace HB := Aside0.mk ((by rw [hw]; exact below_set (HB.out) GB33.out : Below w.heap.size w w36)); clear hg hw hp_))
                         (try simp only [← hl5_3])
                         go_roundg k3
                         case measure => have := HJ2.out; have := HK2.out; have := HK3.out; omega
                         case rel => exact ⟨(y631), H', ⟨by have := HJ2.out; have := HK2.out; have := HK3.out; omega⟩, ⟨by (try simp only [hl5_2]); (try simp only [hl5_3]); (with_reducible repeat (first | apply Kd.R_alloc | apply Kd.R_drewN | apply Kd.R_drew)); exact HO_5.out⟩, ⟨by (try simp only [hl5_2]); (try simp only [hl5_3]); (with_reducible repeat (first | apply Kd.R_alloc | apply Kd.R_drewN | apply Kd.R_drew)); exact HO_6.out⟩, ⟨by (try simp only [hl5_2]); (try simp only [hl5_3]); (with_reducible repeat (first | refine blk_drewN ?_ _ | refine blk_drew ?_ | refine blk_alloc ?_ _)); exact BK616.out⟩, ⟨bq_ HB⟩⟩
                     · rw [if_neg c23] at H
                       cases H
                   · rw [if_neg c22] at H
                     cases H
                 · rw [if_neg c21] at H
                   cases H
               · rw [if_neg c20] at H
                 cases H
           · rw [if_neg c19] at H
             have c19b0 : decide (x25_2 < (y619.length : Int)) = false := decide_eq_false c19
             (try (have c19h := c19b0; simp only [hl5_2] at c19h))
             clear c19
             obtain rfl := Option.some.inj H
             go_wp2
             go_ret
             exact ⟨_, rf_, re_ HO_5.out, bq_ HB⟩
       · rw [if_neg c12] at H
         cases H
     · rw [if_neg c11] at H
       cases H
def impl_ConductorOf.f (k : Nat) (l0_0 : List Int) : Option (Int) := (impl_FrobeniusOf.f k l0_0).bind fun t633 => (some (wrap64 (t633 + 1)))
theorem impl_ConductorOf.calls (k : Nat) (A0_0 : Option Addr) (c0_0 : Nat) (l0_0 : List Int) (r : Int) (w : World) (hr0_0 : Kd.C (Kd.int .i64) w A0_0 l0_0.length l0_0) (hc0_0 : l0_0.length ≤ c0_0) (h : impl_ConductorOf.f k l0_0 = some r) :
 Calls Tryz.prog 65 #[.agg #[.slice A0_0 l0_0.length c0_0]] w fun e w' => e = .returned (.int .i64 r) ∧ Below w.heap.size w w' := by
 have hu29 := Tryz.underlying29
 have HR0_0 := Aside0.mk hr0_0
 have HC0_0 := Aside0.mk hc0_0
 clear hr0_0 hc0_0
 have HB := Aside0.mk (Below.refl w.heap.size w)
 have H := h
 clear h
 unfold impl_ConductorOf.f at H
 obtain ⟨t633, A2, H⟩ := ob_ H
 obtain rfl := Option.some.inj H
 go_enter Tryz.func65, Tryz.ntmps65
 go_wp2_with (first | ((with_reducible refine gate_dst (N := 1) rfl ?_); refine bx_ 1 #[.slice A0_0 l0_0.length c0_0] 29 ?_; intro gb632 hg w3 hbox hb; have BK632 := Aside0.mk (hbox); have GW632 := gw_ hg HB; have GE632 := gw_ hg HB; replace HB := bo_ HB hb; clear hb hbox hg; have hcz4_0 := cz_ BK632; have hfz4_0 := blk_frozen BK632.out 0) | ((with_reducible refine gate_callee (f := 27) rfl ?_); refine gL_ (some 4) Tryz.func27 #[.agg #[.slice A0_0 l0_0.length c0_0]] ?_; (with_reducible refine (impl_FrobeniusOf.calls k _ _ l0_0 t633 _ ?side1 ?side2 A2.out).mono ?_); (case side1 => exact ch_ HR0_0 HB); (case side2 => exact HC0_0.out); rintro e w5 ⟨rfl, hb⟩; refine ⟨_, rfl, ?_⟩; replace BK632 := bk_ BK632 hb; replace HB := bp_ HB hb; (try clear hb)))
 go_ret
 exact ⟨rf_, bq_ HB⟩
def impl_SmallElements.l0 : Nat → List Int → List Bool → Int → Int → Option (List Int)
 | 0, _, _, _, _ => none
 | k + 1, x3, x4, x13, x14 => if x14 < x13 then (if 0 ≤ x14 then (if x14 < (x4.length : Int) then (if rdOf false x4 x14 = true then (if x3.length < 17592186044416 then (impl_SmallElements.l0 k (x3 ++ [x14]) x4 x13 (wrap64 (x14 + 1))) else (none)) else (impl_SmallElements.l0 k x3 x4 x13 (wrap64 (x14 + 1)))) else (none)) else (none)) else (some x3)
def impl_SmallElements.f (k : Nat) (l0_0 : List Int) : Option (List Int) := (impl_IsSemigroup.f k l0_0).bind fun t635 => (if t635 = true then ((impl_table.f k l0_0 200).bind fun t639 => ((impl_ConductorOf.f k l0_0).bind fun t642 => (impl_SmallElements.l0 k (([] : List Int)) t639 t642 0))) else (some ([] : List Int)))
theorem impl_SmallElements.calls (k : Nat) (A0_0 : Option Addr) (c0_0 : Nat) (l0_0 : List Int) (r : List Int) (w : World) (hr0_0 : Kd.C (Kd.int .i64) w A0_0 l0_0.length l0_0) (hc0_0 : l0_0.length ≤ c0_0) (h : impl_SmallElements.f k l0_0 = some r) :
 Calls Tryz.prog 98 #[.agg #[.slice A0_0 l0_0.length c0_0]] w fun e w' => ∃ v0_ : Value, e = .returned (v0_) ∧ Kd.R (Kd.int .i64) 3 w' w.heap.size (fun _ => True) v0_ r ∧ Below w.heap.size w w' := by
 have hu29 := Tryz.underlying29
 have HR0_0 := Aside0.mk hr0_0
 have HC0_0 := Aside0.mk hc0_0
 clear hr0_0 hc0_0
 have HB := Aside0.mk (Below.refl w.heap.size w)
 have H := h
 clear h
 unfold impl_SmallElements.f at H
 obtain ⟨t635, A2, H⟩ := ob_ H
 by_cases c3 : t635 = true
 · subst c3
   rw [if_pos rfl] at H
   obtain ⟨y636, hy636⟩ : ∃ y_ : List Int, y_ = (([] : List Int)) := ⟨_, rfl⟩
   replace H : ((impl_table.f k l0_0 200).bind fun t639 => ((impl_ConductorOf.f k l0_0).bind fun t642 => (impl_SmallElements.l0 k y636 t639 t642 0))) = some r := by subst hy636; exact H
   have Ny636 := Aside0.mk hy636
   clear hy636
   obtain ⟨t639, A4, H⟩ := ob_ H
   obtain ⟨t642, A5, H⟩ := ob_ H
   have H' := Aside0.mk H
   clear H
   go_enter Tryz.func98, Tryz.ntmps98
   go_wp2_with (first | ((with_reducible refine gate_dst (N := 1) rfl ?_); refine bx_ 1 #[.slice A0_0 l0_0.length c0_0] 29 ?_; intro gb634 hg w6 hbox hb; have BK634 := Aside0.mk (hbox); have GW634 := gw_ hg HB; have GE634 := gw_ hg HB; replace HB := bo_ HB hb; clear hb hbox hg; have hcz7_0 := cz_ BK634; have hfz7_0 := blk_frozen BK634.out 0) | ((with_reducible refine gate_callee (f := 22) rfl ?_); refine gL_ (some 7) Tryz.func22 #[.agg #[.slice A0_0 l0_0.length c0_0]] ?_; (with_reducible refine (impl_IsSemigroup.calls k _ _ l0_0 true _ ?side1 ?side2 A2.out).mono ?_); (case side1 => exact ch_ HR0_0 HB); (case side2 => exact HC0_0.out); rintro e w8 ⟨rfl, hb⟩; refine ⟨_, rfl, ?_⟩; replace BK634 := bk_ BK634 hb; replace HB := bp_ HB hb; (try clear hb)) | ((with_reducible refine gate_dst (N := 9) rfl ?_); refine Kd.R_lit (Kd.int .i64) _ 3 ?hg (N := 9) ?hd (xs := ([] : List Int)) (inner := []) (ok := fun _ => True) (okp := fun _ => True) ?hr ?hp (fun _ hk => hk) trivial (Below.refl _ _) (Nat.le_refl _) (by simp) ?_; (case hd => rfl); (case hg => rfl); (case hr => first | (go_simp; done) | (go_simp; rfl)); (case hp => exact (Reps.none _ _)); intro v637 w9 ho10 hb hg_ hnew_; clear hg_ hnew_; (first | rw [← Ny636.out] at ho10 | (simp only [Int.reduceToNat] at ho10; rw [← Ny636.out] at ho10)); have HO638 := Aside0.mk (Kd.R_lower ho10 (below_size (bq_ HB))); replace BK634 := bk_ BK634 hb; replace HB := bp_ HB hb; clear hb ho10; have hcz11_0 := cz_ BK634; have hfz11_0 := blk_frozen BK634.out 0) | ((with_reducible refine gate_callee (f := 63) rfl ?_); refine gL_ (some 11) Tryz.func63 #[.agg #[.slice A0_0 l0_0.length c0_0], .int .i64 200] ?_; (with_reducible refine (impl_table.calls k _ _ l0_0 200 t639 _ ?side1 ?side2 A4.out).mono ?_); (case side1 => exact ch_ HR0_0 HB); (case side2 => exact HC0_0.out); rintro e w12 ⟨v640, rfl, ho0, hb⟩; refine ⟨_, rfl, ?_⟩; replace HO638 := Aside0.mk (Kd.R_below (re_ HO638.out) hb); have HO641 := Aside0.mk (Kd.R_lower ho0 (below_size (bq_ HB))); replace BK634 := bk_ BK634 hb; replace HB := bp_ HB hb; (try clear hb); (try clear ho0); have hcz13_0 := cz_ BK634; have hfz13_0 := blk_frozen BK634.out 0) | ((with_reducible refine gate_callee (f := 65) rfl ?_); refine gL_ (some 13) Tryz.func65 #[.agg #[.slice A0_0 l0_0.length c0_0]] ?_; (with_reducible refine (impl_ConductorOf.calls k _ _ l0_0 t642 _ ?side1 ?side2 A5.out).mono ?_); (case side1 => exact ch_ HR0_0 HB); (case side2 => exact HC0_0.out); rintro e w14 ⟨rfl, hb⟩; refine ⟨_, rfl, ?_⟩; replace HO638 := Aside0.mk (Kd.R_below (re_ HO638.out) hb); replace HO641 := Aside0.mk (Kd.R_below (re_ HO641.out) hb); replace BK634 := bk_ BK634 hb; replace HB := bp_ HB hb; (try clear hb)))
   go_loopg [3, 14] k (fun kq v3 v14 w' => ∃ (x3_1 : List Int) (x14_1 : Int), v14 = .int .i64 x14_1 ∧ Aside0 (impl_SmallElements.l0 kq x3_1 t639 t642 x14_1 = some r) ∧ Aside0 (kq ≤ k) ∧ Aside0 (Kd.R (Kd.int .i64) 3 w' w.heap.size (fun _ => True) v3 x3_1) ∧ Aside0 (Kd.R Kd.bool 4 w' w.heap.size (fun _ => True) v640 t639) ∧ Aside0 (w'.heap[gb634]? = some (.cells #[(.slice A0_0 l0_0.length c0_0)] 29 (0, 0))) ∧ Aside0 (Below w.heap.size w w'))
   case atStart => exact ⟨(y636), (0), rs_, H', ⟨Nat.le_refl _⟩, ⟨re_ HO638.out⟩, ⟨re_ HO641.out⟩, ⟨be_ BK634.out⟩, ⟨bq_ HB⟩⟩
   case round =>
    clear H'
    try clear c2
    try clear p2
    try clear c3
    try clear c6
    try clear c9
    try clear hcz11_0
    try clear hcz13_0
    try clear hcz7_0
    try clear hfz11_0
    try clear hfz13_0
    try clear hfz7_0
    obtain ⟨x3_1, x14_1, rfl, HA, HK1, HO_3, HO_4, BK634, HB⟩ := hrel
    cases gk with
    | zero => exact absurd HA.out (by simp [impl_SmallElements.l0])
    | succ k1 =>
     have H := HA.out
     clear HA
     simp only [impl_SmallElements.l0] at H
     by_cases c15 : x14_1 < t642
     · rw [if_pos c15] at H
       have c15b0 : decide (x14_1 < t642) = true := decide_eq_true c15
       clear c15
       by_cases c16 : 0 ≤ x14_1
       · rw [if_pos c16] at H
         have c16b0 : decide (0 ≤ x14_1) = true := decide_eq_true c16
         clear c16
         by_cases c17 : x14_1 < (t639.length : Int)
         · rw [if_pos c17] at H
           have c17b0 : decide (x14_1 < (t639.length : Int)) = true := decide_eq_true c17
           clear c17
           obtain ⟨bq18, hbq18⟩ : ∃ b_ : Bool, b_ = (rdOf false t639 x14_1) := ⟨_, rfl⟩
           replace H : (if bq18 = true then (if x3_1.length < 17592186044416 then (impl_SmallElements.l0 k1 (x3_1 ++ [x14_1]) t639 t642 (wrap64 (x14_1 + 1))) else (none)) else (impl_SmallElements.l0 k1 x3_1 t639 t642 (wrap64 (x14_1 + 1)))) = some r := by rw [← hbq18] at H; exact H
           have Nbq18 := Aside0.mk hbq18
           clear hbq18
           by_cases c19 : bq18 = true
           · subst c19
             rw [if_pos rfl] at H
             by_cases c20 : x3_1.length < 17592186044416
             · rw [if_pos c20] at H
               have LMc20 := Aside0.mk c20
               clear c20
               obtain ⟨y644, hy644⟩ : ∃ y_ : List Int, y_ = (x3_1 ++ [x14_1]) := ⟨_, rfl⟩
               replace H : (impl_SmallElements.l0 k1 y644 t639 t642 (wrap64 (x14_1 + 1))) = some r := by subst hy644; exact H
               have Ny644 := Aside0.mk hy644
               clear hy644
               have H' := Aside0.mk H
               clear H
               obtain ⟨Ao21, co21, eo21⟩ := Kd.R_slice HO_4.out
               subst eo21
               have p643 : 0 ≤ (x14_1 : Int) := od_
               have q643 : x14_1 < (t639.length : Int) := od_
               obtain ⟨ad643, e643, hx643_0⟩ := Kd.at_bool (Kd.R_reads' HO_4.out).2.2 x14_1 p643 q643
               (try rw [← Nbq18.out] at hx643_0)
               cases e643
               replace p643 := eq_true p643
               replace q643 := eq_true q643
               go_wp2_with (first | ((with_reducible refine gate_builtin (b := .append) (xs := #[.tmp 21, .tmp 23]) rfl ?_); at_builtin; refine Kd.R_append (Kd.int .i64) (w0 := w) w.heap.size rfl (.tmp 21) (.tmp 23) 27 3 (.int .i64 0) 8 rfl Tryz.underlying27 info3 rfl (by decide) (by omega) u3 x3_1 x14_1 [.int .i64 x14_1] (fun _ => True) (fun _ => False) rfl rfl ?aP (fun _ hk => hk.elim) ?aF ?aO ?aB ?aS ?aL ?_; (case aP => exact rfl); (case aB => exact (bq_ HB)); (case aF => exact (fun _ _ => trivial)); (case aO => exact (re_ HO_3.out)); (case aS => exact (below_size (bq_ HB))); (case aL => have := LMc20.out; omega); intro v645 w22 ho hb hg hat; rw [← Ny644.out] at ho; replace HO_4 := Aside0.mk (Kd.R_over' (re_ HO_4.out) (Kd.R_typed (re_ HO_3.out)) (by decide) hg); replace BK634 := Aside0.mk (blk_grown (be_ BK634.out) hg (Kd.R_ne HO_3.out BK634.out (by decide))); replace HB := Aside0.mk (hb); have HO646 := Aside0.mk (ho); clear HO_3; clear ho hb hg hat))
               go_roundg k1
               case measure => have := HK1.out; omega
               case rel => exact ⟨(y644), (wrap64 (x14_1 + 1)), rs_, H', ⟨by have := HK1.out; omega⟩, ⟨re_ HO646.out⟩, ⟨re_ HO_4.out⟩, ⟨be_ BK634.out⟩, ⟨bq_ HB⟩⟩
             · rw [if_neg c20] at H
               cases H
           · replace c19 := Bool.eq_false_iff.mpr c19
             subst c19
             rw [if_neg (show ¬ (false = true) by decide)] at H
             have H' := Aside0.mk H
             clear H
             obtain ⟨Ao23, co23, eo23⟩ := Kd.R_slice HO_4.out
             subst eo23
             have p643 : 0 ≤ (x14_1 : Int) := od_
             have q643 : x14_1 < (t639.length : Int) := od_
             obtain ⟨ad643, e643, hx643_0⟩ := Kd.at_bool (Kd.R_reads' HO_4.out).2.2 x14_1 p643 q643
             (try rw [← Nbq18.out] at hx643_0)
             cases e643
             replace p643 := eq_true p643
             replace q643 := eq_true q643
             go_wp2
             go_roundg k1
             case measure => have := HK1.out; omega
             case rel => exact ⟨(x3_1), (wrap64 (x14_1 + 1)), rs_, H', ⟨by have := HK1.out; omega⟩, ⟨re_ HO_3.out⟩, ⟨re_ HO_4.out⟩, ⟨be_ BK634.out⟩, ⟨bq_ HB⟩⟩
         · rw [if_neg c17] at H
           cases H
       · rw [if_neg c16] at H
         cases H
     · rw [if_neg c15] at H
       have c15b0 : decide (x14_1 < t642) = false := decide_eq_false c15
       clear c15
       obtain rfl := Option.some.inj H
       go_wp2
       go_ret
       exact ⟨_, rf_, re_ HO_3.out, bq_ HB⟩
 · replace c3 := Bool.eq_false_iff.mpr c3
   subst c3
   rw [if_neg (show ¬ (false = true) by decide)] at H
   obtain rfl := Option.some.inj H
   go_enter Tryz.func98, Tryz.ntmps98
   go_wp2_with (first | ((with_reducible refine gate_dst (N := 1) rfl ?_); refine bx_ 1 #[.slice A0_0 l0_0.length c0_0] 29 ?_; intro gb634 hg w24 hbox hb; have BK634 := Aside0.mk (hbox); have GW634 := gw_ hg HB; have GE634 := gw_ hg HB; replace HB := bo_ HB hb; clear hb hbox hg; have hcz25_0 := cz_ BK634; have hfz25_0 := blk_frozen BK634.out 0) | ((with_reducible refine gate_callee (f := 22) rfl ?_); refine gL_ (some 7) Tryz.func22 #[.agg #[.slice A0_0 l0_0.length c0_0]] ?_; (with_reducible refine (impl_IsSemigroup.calls k _ _ l0_0 false _ ?side1 ?side2 A2.out).mono ?_); (case side1 => exact ch_ HR0_0 HB); (case side2 => exact HC0_0.out); rintro e w26 ⟨rfl, hb⟩; refine ⟨_, rfl, ?_⟩; replace BK634 := bk_ BK634 hb; replace HB := bp_ HB hb; (try clear hb)))
   go_ret
   exact ⟨_, rf_, by first | exact Kd.R_nil _ _ _ _ _ | exact Kd.N_nil _ _ _ _ _ | exact Kd.V_nil _ _ _ _ _ | exact Kd.Q_nil _ _ _ _ _ | exact Kd.S_nil _ _ _ _ _, bq_ HB⟩
def impl_LeftCount.f (k : Nat) (l0_0 : List Int) : Option (Int) := (impl_IsSemigroup.f k l0_0).bind fun t648 => (if t648 = true then ((impl_SmallElements.f k l0_0).bind fun t649 => (some (t649.length : Int))) else (some (-1)))
theorem impl_LeftCount.calls (k : Nat) (A0_0 : Option Addr) (c0_0 : Nat) (l0_0 : List Int) (r : Int) (w : World) (hr0_0 : Kd.C (Kd.int .i64) w A0_0 l0_0.length l0_0) (hc0_0 : l0_0.length ≤ c0_0) (h : impl_LeftCount.f k l0_0 = some r) :
 Calls Tryz.prog 64 #[.agg #[.slice A0_0 l0_0.length c0_0]] w fun e w' => e = .returned (.int .i64 r) ∧ Below w.heap.size w w' := by
 have hu29 := Tryz.underlying29
 have HR0_0 := Aside0.mk hr0_0
 have HC0_0 := Aside0.mk hc0_0
 clear hr0_0 hc0_0
 have HB := Aside0.mk (Below.refl w.heap.size w)
 have H := h
 clear h
 unfold impl_LeftCount.f at H
 obtain ⟨t648, A2, H⟩ := ob_ H
 by_cases c3 : t648 = true
 · subst c3
   rw [if_pos rfl] at H
   obtain ⟨t649, A4, H⟩ := ob_ H
   obtain rfl := Option.some.inj H
   go_enter Tryz.func64, Tryz.ntmps64
   go_wp2_with (first | ((with_reducible refine gate_dst (N := 1) rfl ?_); refine bx_ 1 #[.slice A0_0 l0_0.length c0_0] 29 ?_; intro gb647 hg w5 hbox hb; have BK647 := Aside0.mk (hbox); have GW647 := gw_ hg HB; have GE647 := gw_ hg HB; replace HB := bo_ HB hb; clear hb hbox hg; have hcz6_0 := cz_ BK647; have hfz6_0 := blk_frozen BK647.out 0) | ((with_reducible refine gate_callee (f := 22) rfl ?_); refine gL_ (some 4) Tryz.func22 #[.agg #[.slice A0_0 l0_0.length c0_0]] ?_; (with_reducible refine (impl_IsSemigroup.calls k _ _ l0_0 true _ ?side1 ?side2 A2.out).mono ?_); (case side1 => exact ch_ HR0_0 HB); (case side2 => exact HC0_0.out); rintro e w7 ⟨rfl, hb⟩; refine ⟨_, rfl, ?_⟩; replace BK647 := bk_ BK647 hb; replace HB := bp_ HB hb; (try clear hb); have hcz8_0 := cz_ BK647; have hfz8_0 := blk_frozen BK647.out 0) | ((with_reducible refine gate_callee (f := 98) rfl ?_); refine gL_ (some 7) Tryz.func98 #[.agg #[.slice A0_0 l0_0.length c0_0]] ?_; (with_reducible refine (impl_SmallElements.calls k _ _ l0_0 t649 _ ?side1 ?side2 A4.out).mono ?_); (case side1 => exact ch_ HR0_0 HB); (case side2 => exact HC0_0.out); rintro e w9 ⟨v650, rfl, ho0, hb⟩; refine ⟨_, rfl, ?_⟩; have HO651 := Aside0.mk (Kd.R_lower ho0 (below_size (bq_ HB))); replace BK647 := bk_ BK647 hb; replace HB := bp_ HB hb; (try clear hb); (try clear ho0); obtain ⟨Ao10, co10, eo10⟩ := Kd.R_slice HO651.out; subst eo10))
   go_ret
   exact ⟨rf_, bq_ HB⟩
 · replace c3 := Bool.eq_false_iff.mpr c3
   subst c3
   rw [if_neg (show ¬ (false = true) by decide)] at H
   obtain rfl := Option.some.inj H
   go_enter Tryz.func64, Tryz.ntmps64
   go_wp2_with (first | ((with_reducible refine gate_dst (N := 1) rfl ?_); refine bx_ 1 #[.slice A0_0 l0_0.length c0_0] 29 ?_; intro gb647 hg w11 hbox hb; have BK647 := Aside0.mk (hbox); have GW647 := gw_ hg HB; have GE647 := gw_ hg HB; replace HB := bo_ HB hb; clear hb hbox hg; have hcz12_0 := cz_ BK647; have hfz12_0 := blk_frozen BK647.out 0) | ((with_reducible refine gate_callee (f := 22) rfl ?_); refine gL_ (some 4) Tryz.func22 #[.agg #[.slice A0_0 l0_0.length c0_0]] ?_; (with_reducible refine (impl_IsSemigroup.calls k _ _ l0_0 false _ ?side1 ?side2 A2.out).mono ?_); (case side1 => exact ch_ HR0_0 HB); (case side2 => exact HC0_0.out); rintro e w13 ⟨rfl, hb⟩; refine ⟨_, rfl, ?_⟩; replace BK647 := bk_ BK647 hb; replace HB := bp_ HB hb; (try clear hb)))
   go_ret
   exact ⟨rf_, bq_ HB⟩
def impl_WilfNumber.f (k : Nat) (l0_0 : List Int) : Option (Int) := (impl_IsSemigroup.f k l0_0).bind fun t653 => (if t653 = true then ((impl_LeftCount.f k l0_0).bind fun t654 => ((impl_ConductorOf.f k l0_0).bind fun t655 => (some (wrap64 ((wrap64 ((l0_0.length : Int) * t654)) - t655))))) else (some (-1)))
def impl_WilfNumber.T3 : Bool × List (List Nat × List Nat) := (true, [([], []), ([0], [0]), ([1], [1]), ([], []), ([3], [3]), ([2, 4], [2, 4]), ([], []), ([6, 4], [6]), ([5, 7], [5, 7]), ([8, 7, 0, 1, 2, 3, 4, 5, 6, 7, 8], [8])])
def impl_WilfNumber.B3 : List Nat := [0, 1, 3, 0, 8, 31, 0, 88, 255, 511]
theorem impl_WilfNumber.tab3 : rtab .any (opsOf Tryz.f33 3) = impl_WilfNumber.T3 := by kernel_rfl
theorem impl_WilfNumber.bits3 : waitsOk impl_WilfNumber.T3.2 impl_WilfNumber.B3 = true := by kernel_rfl
theorem impl_WilfNumber.calls (k : Nat) (A0_0 : Option Addr) (c0_0 : Nat) (l0_0 : List Int) (r : Int) (w : World) (hr0_0 : Kd.C (Kd.int .i64) w A0_0 l0_0.length l0_0) (hc0_0 : l0_0.length ≤ c0_0) (h : impl_WilfNumber.f k l0_0 = some r) :
 Calls Tryz.prog 33 #[.agg #[.slice A0_0 l0_0.length c0_0]] w fun e w' => e = .returned (.int .i64 r) ∧ Below w.heap.size w w' := by
 have hu29 := Tryz.underlying29
 have HR0_0 := Aside0.mk hr0_0
 have HC0_0 := Aside0.mk hc0_0
 clear hr0_0 hc0_0
 have HB := Aside0.mk (Below.refl w.heap.size w)
 have H := h
 clear h
 unfold impl_WilfNumber.f at H
 obtain ⟨t653, A2, H⟩ := ob_ H
 by_cases c3 : t653 = true
 · subst c3
   rw [if_pos rfl] at H
   obtain ⟨t654, A4, H⟩ := ob_ H
   obtain ⟨t655, A5, H⟩ := ob_ H
   obtain rfl := Option.some.inj H
   go_enter Tryz.func33, Tryz.ntmps33
   try go_wp2_with (first | ((with_reducible refine gate_dst (N := 1) rfl ?_); refine bx_ 1 #[.slice A0_0 l0_0.length c0_0] 29 ?_; intro gb652 hg w6 hbox hb; have BK652 := Aside0.mk (hbox); have GW652 := gw_ hg HB; have GE652 := gw_ hg HB; replace HB := bo_ HB hb; clear hb hbox hg; have hcz7_0 := cz_ BK652; have hfz7_0 := blk_frozen BK652.out 0) | ((with_reducible refine gate_callee (f := 22) rfl ?_); refine gL_ (some 4) Tryz.func22 #[.agg #[.slice A0_0 l0_0.length c0_0]] ?_; (with_reducible refine (impl_IsSemigroup.calls k _ _ l0_0 true _ ?side1 ?side2 A2.out).mono ?_); (case side1 => exact ch_ HR0_0 HB); (case side2 => exact HC0_0.out); rintro e w8 ⟨rfl, hb⟩; refine ⟨_, rfl, ?_⟩; replace BK652 := bk_ BK652 hb; replace HB := bp_ HB hb; (try clear hb)))
   replace BK652 := Aside0.mk (blk_drew BK652.out)
   replace HB := Aside0.mk (below_drew1 HB.out)
   refine start_ (n := 10) (S := fun w' => w'.cell? ⟨gb652, 0, none⟩ = some (.slice A0_0 l0_0.length c0_0)) (ds := []) (B_ 0 10) (by kernel_rfl) rfl rfl ((blk_cell BK652.out 0).trans rfl) (fun hHeld => ?_); refine with_tabW impl_WilfNumber.tab3 impl_WilfNumber.bits3 (fun HT_ HW_ => ?_)
   generalize w8.drew = w9 at BK652 HB hHeld ⊢
   refine pu_ HT_ 0 6 (B_ 1 10) ?_
   refine tk1_ HT_ HW_ hHeld 1 7 (B_ 3 10) ?_
   refine pu_ HT_ 2 8 (B_ 7 10) ?_
   refine tk1_ HT_ HW_ hHeld 3 9 (B_ 15 10) ?_
   refine tk1_ HT_ HW_ hHeld 6 12 (B_ 79 10) ?_
   refine on_ HT_ 4 10 (B_ 95 10) (fun K hK => ?_)
   refine goes_ Tryz.func64 (by kernel_rfl) rfl #[.agg #[.slice A0_0 l0_0.length c0_0]] (by rfl) rfl rfl (by (try simp only [List.map_toArray, List.map_cons, List.map_nil]); first | done | rfl | (simp only [List.length_drop, List.length_take]; rfl)) ?_
   with_reducible refine (impl_LeftCount.calls k _ _ l0_0 t654 _ ?side1 ?side2 A4.out).mono ?_
   (case side1 => exact ch_ HR0_0 HB)
   (case side2 => exact HC0_0.out)
   rintro e w10 ⟨rfl, hb⟩
   refine ⟨_, rfl, ?_⟩
   replace BK652 := bk_ BK652 hb
   replace HB := bp_ HB hb
   (try clear hb)
   refine hK.out _ _ ((blk_cell BK652.out 0).trans rfl) (fun hHeld => ?_)
   clear hK K
   refine norm_ (a' := ?_) ?_ ?_
   rotate_left
   · show Act.put _ (some 10) _ = _
     simp only [Act.put, z1_, z2_, z3_, i64_w, i32_w]
     rfl
   refine pu_ HT_ 5 11 (B_ 127 10) ?_
   refine on_ HT_ 7 13 (B_ 255 10) (fun K hK => ?_)
   refine goes_ Tryz.func65 (by kernel_rfl) rfl #[.agg #[.slice A0_0 l0_0.length c0_0]] (by rfl) rfl rfl (by (try simp only [List.map_toArray, List.map_cons, List.map_nil]); first | done | rfl | (simp only [List.length_drop, List.length_take]; rfl)) ?_
   with_reducible refine (impl_ConductorOf.calls k _ _ l0_0 t655 _ ?side1 ?side2 A5.out).mono ?_
   (case side1 => exact ch_ HR0_0 HB)
   (case side2 => exact HC0_0.out)
   rintro e w11 ⟨rfl, hb⟩
   refine ⟨_, rfl, ?_⟩
   replace BK652 := bk_ BK652 hb
   replace HB := bp_ HB hb
   (try clear hb)
   refine hK.out _ _ ((blk_cell BK652.out 0).trans rfl) (fun hHeld => ?_)
   clear hK K
   refine norm_ (a' := ?_) ?_ ?_
   rotate_left
   · show Act.put _ (some 13) _ = _
     simp only [Act.put, z1_, z2_, z3_, i64_w, i32_w]
     rfl
   refine pu_ HT_ 8 14 (B_ 511 10) ?_
   refine pu_ HT_ 9 2 (B_ 1023 10) ?_
   refine done_ (done_of HT_.out (by kernel_rfl)) ?_
   try go_wp2
   go_ret
   exact ⟨rf_, bq_ HB⟩
 · replace c3 := Bool.eq_false_iff.mpr c3
   subst c3
   rw [if_neg (show ¬ (false = true) by decide)] at H
   obtain rfl := Option.some.inj H
   go_enter Tryz.func33, Tryz.ntmps33
   go_wp2_with (first | ((with_reducible refine gate_dst (N := 1) rfl ?_); refine bx_ 1 #[.slice A0_0 l0_0.length c0_0] 29 ?_; intro gb652 hg w12 hbox hb; have BK652 := Aside0.mk (hbox); have GW652 := gw_ hg HB; have GE652 := gw_ hg HB; replace HB := bo_ HB hb; clear hb hbox hg; have hcz13_0 := cz_ BK652; have hfz13_0 := blk_frozen BK652.out 0) | ((with_reducible refine gate_callee (f := 22) rfl ?_); refine gL_ (some 4) Tryz.func22 #[.agg #[.slice A0_0 l0_0.length c0_0]] ?_; (with_reducible refine (impl_IsSemigroup.calls k _ _ l0_0 false _ ?side1 ?side2 A2.out).mono ?_); (case side1 => exact ch_ HR0_0 HB); (case side2 => exact HC0_0.out); rintro e w14 ⟨rfl, hb⟩; refine ⟨_, rfl, ?_⟩; replace BK652 := bk_ BK652 hb; replace HB := bp_ HB hb; (try clear hb)))
   go_ret
   exact ⟨rf_, bq_ HB⟩
def impl_DescribeSemigroup.j0 : Nat → ByteArray → List Int → Option (ByteArray)
 | 0, _, _ => none
 | k + 1, x3, x657000 => (impl_FrobeniusOf.f k x657000).bind fun t660 => ((impl_FormatI.f k t660).bind fun t661 => ((impl_GenusOf.f k x657000).bind fun t662 => ((impl_FormatI.f k t662).bind fun t663 => ((impl_TypeOf.f k x657000).bind fun t664 => ((impl_FormatI.f k t664).bind fun t665 => ((impl_GapText.f k x657000).bind fun t666 => (if 0 < (x657000.length : Int) then ((impl_AperySet.f k x657000 (rd x657000 0)).bind fun t668 => ((impl_ListText.f k t668).bind fun t671 => ((impl_WilfNumber.f k x657000).bind fun t672 => ((impl_FormatI.f k t672).bind fun t673 => ((impl_Join.f k (([(⟨#[102, 114, 111, 98, 101, 110, 105, 117, 115]⟩ : ByteArray), t661, (⟨#[103, 101, 110, 117, 115]⟩ : ByteArray), t663, (⟨#[116, 121, 112, 101]⟩ : ByteArray), t665, x3, (⟨#[103, 97, 112, 115]⟩ : ByteArray), t666, (⟨#[108, 101, 97, 115, 116]⟩ : ByteArray), t671, (⟨#[119, 105, 108, 102]⟩ : ByteArray), t673] : List ByteArray)) (⟨#[32]⟩ : ByteArray)).bind fun t677 => (some t677)))))) else (none))))))))
def impl_DescribeSemigroup.f (k : Nat) (l0_0 : List Int) : Option (ByteArray) := (impl_IsSemigroup.f k l0_0).bind fun t657 => (if t657 = true then ((impl_IsSymmetric.f k l0_0).bind fun t658 => (if t658 = true then (impl_DescribeSemigroup.j0 k (⟨#[115, 121, 109, 109, 101, 116, 114, 105, 99]⟩ : ByteArray) l0_0) else ((impl_IsPseudoSymmetric.f k l0_0).bind fun t659 => (if t659 = true then (impl_DescribeSemigroup.j0 k (⟨#[112, 115, 101, 117, 100, 111, 45, 115, 121, 109, 109, 101, 116, 114, 105, 99]⟩ : ByteArray) l0_0) else (impl_DescribeSemigroup.j0 k (⟨#[114, 101, 100, 117, 99, 105, 98, 108, 101]⟩ : ByteArray) l0_0))))) else (some (⟨#[]⟩ : ByteArray)))
def impl_DescribeSemigroup.T8 : Bool × List (List Nat × List Nat) := (true, [([], []), ([0], [0]), ([1, 1], [1]), ([], []), ([3, 2], [3]), ([4, 4], [4]), ([], []), ([6, 5], [6]), ([7, 7], [7]), ([], []), ([], []), ([10, 8], [10]), ([], []), ([], []), ([13], [13]), ([14], [14]), ([15], [15]), ([12, 16, 11], [12, 16]), ([17, 17], [17]), ([], []), ([19, 18], [19]), ([20, 20], [20]), ([2, 5, 8, 9, 11, 18, 21], [2, 5, 8, 9, 11, 18, 21]), ([22, 21], [22]), ([23, 23, 0, 1, 2, 3, 4, 5, 6, 7, 8, 9, 10, 11, 12, 13, 14, 15, 16, 17, 18, 19, 20, 21, 22, 23], [23])])
def impl_DescribeSemigroup.B8 : List Nat := [0, 1, 3, 0, 15, 31, 0, 127, 255, 0, 0, 1535, 0, 0, 8192, 24576, 57344, 130559, 261631, 0, 1048063, 2096639, 4194303, 8388607, 16777215]
theorem impl_DescribeSemigroup.tab8 : rtab .any (opsOf Tryz.f13 8) = impl_DescribeSemigroup.T8 := by kernel_rfl
theorem impl_DescribeSemigroup.bits8 : waitsOk impl_DescribeSemigroup.T8.2 impl_DescribeSemigroup.B8 = true := by kernel_rfl
theorem impl_DescribeSemigroup.calls (k : Nat) (A0_0 : Option Addr) (c0_0 : Nat) (l0_0 : List Int) (r : ByteArray) (w : World) (hr0_0 : Kd.C (Kd.int .i64) w A0_0 l0_0.length l0_0) (hc0_0 : l0_0.length ≤ c0_0) (hT : Tab_ w) (h : impl_DescribeSemigroup.f k l0_0 = some r) :
 Calls Tryz.prog 13 #[.agg #[.slice A0_0 l0_0.length c0_0]] w fun e w' => e = .returned (.string r) ∧ Below w.heap.size w w' := by
 have hTab := Aside0.mk hT
 clear hT
 have hu29 := Tryz.underlying29
 have HR0_0 := Aside0.mk hr0_0
 have HC0_0 := Aside0.mk hc0_0
 clear hr0_0 hc0_0
 have HB := Aside0.mk (Below.refl w.heap.size w)
 have H := h
 clear h
 unfold impl_DescribeSemigroup.f at H
 obtain ⟨t657, A2, H⟩ := ob_ H
 by_cases c3 : t657 = true
 · subst c3
   rw [if_pos rfl] at H
   obtain ⟨t658, A4, H⟩ := ob_ H
   have HC5 := Aside0.mk H
   clear H
   go_enter Tryz.func13, Tryz.ntmps13
   go_upto_if 8 with (first | ((with_reducible refine gate_dst (N := 1) rfl ?_); refine bx_ 1 #[.slice A0_0 l0_0.length c0_0] 29 ?_; intro gb656 hg w6 hbox hb; have BK656 := Aside0.mk (hbox); have GW656 := gw_ hg HB; have GE656 := gw_ hg HB; replace HB := bo_ HB hb; clear hb hbox hg; have hcz7_0 := cz_ BK656; have hfz7_0 := blk_frozen BK656.out 0) | ((with_reducible refine gate_callee (f := 22) rfl ?_); refine gL_ (some 5) Tryz.func22 #[.agg #[.slice A0_0 l0_0.length c0_0]] ?_; (with_reducible refine (impl_IsSemigroup.calls k _ _ l0_0 true _ ?side1 ?side2 A2.out).mono ?_); (case side1 => exact ch_ HR0_0 HB); (case side2 => exact HC0_0.out); rintro e w8 ⟨rfl, hb⟩; refine ⟨_, rfl, ?_⟩; replace BK656 := bk_ BK656 hb; replace HB := bp_ HB hb; (try clear hb); have hcz9_0 := cz_ BK656; have hfz9_0 := blk_frozen BK656.out 0) | ((with_reducible refine gate_callee (f := 23) rfl ?_); refine gL_ (some 8) Tryz.func23 #[.agg #[.slice A0_0 l0_0.length c0_0]] ?_; (with_reducible refine (impl_IsSymmetric.calls k _ _ l0_0 t658 _ ?side1 ?side2 A4.out).mono ?_); (case side1 => exact ch_ HR0_0 HB); (case side2 => exact HC0_0.out); rintro e w10 ⟨rfl, hb⟩; refine ⟨_, rfl, ?_⟩; replace BK656 := bk_ BK656 hb; replace HB := bp_ HB hb; (try clear hb)))
   (try simp only [Act.put, z1_, z2_, z3_])
   go_cut [3] (fun v3 wc => ∃ (kq : Nat) (x3_4 : ByteArray), v3 = .string x3_4 ∧ Aside0 (impl_DescribeSemigroup.j0 kq x3_4 l0_0 = some r) ∧ Aside0 (kq ≤ k) ∧ Aside0 (wc.heap[gb656]? = some (.cells #[(.slice A0_0 l0_0.length c0_0)] 29 (0, 0))) ∧ Aside0 (Below w.heap.size w wc))
   case first =>
    have H := HC5.out
    clear HC5
    by_cases c11 : t658 = true
    · subst c11
      rw [if_pos rfl] at H
      have H' := Aside0.mk H
      clear H
      go_wp2
      go_meet
      case rel => exact ⟨_, ((⟨#[115, 121, 109, 109, 101, 116, 114, 105, 99]⟩ : ByteArray)), rs_, H', ⟨by first | omega | exact Nat.le_refl _⟩, ⟨be_ BK656.out⟩, ⟨bq_ HB⟩⟩
    · replace c11 := Bool.eq_false_iff.mpr c11
      subst c11
      rw [if_neg (show ¬ (false = true) by decide)] at H
      obtain ⟨t659, A12, H⟩ := ob_ H
      by_cases c13 : t659 = true
      · subst c13
        rw [if_pos rfl] at H
        have H' := Aside0.mk H
        clear H
        have hcz14_0 := cz_ BK656
        have hfz14_0 := blk_frozen BK656.out 0
        go_wp2_with (first | ((with_reducible refine gate_callee (f := 24) rfl ?_); refine gL_ (some 10) Tryz.func24 #[.agg #[.slice A0_0 l0_0.length c0_0]] ?_; (with_reducible refine (impl_IsPseudoSymmetric.calls k _ _ l0_0 true _ ?side1 ?side2 A12.out).mono ?_); (case side1 => exact ch_ HR0_0 HB); (case side2 => exact HC0_0.out); rintro e w15 ⟨rfl, hb⟩; refine ⟨_, rfl, ?_⟩; replace BK656 := bk_ BK656 hb; replace HB := bp_ HB hb; (try clear hb)))
        go_meet
        case rel => exact ⟨_, ((⟨#[112, 115, 101, 117, 100, 111, 45, 115, 121, 109, 109, 101, 116, 114, 105, 99]⟩ : ByteArray)), rs_, H', ⟨by first | omega | exact Nat.le_refl _⟩, ⟨be_ BK656.out⟩, ⟨bq_ HB⟩⟩
      · replace c13 := Bool.eq_false_iff.mpr c13
        subst c13
        rw [if_neg (show ¬ (false = true) by decide)] at H
        have H' := Aside0.mk H
        clear H
        have hcz16_0 := cz_ BK656
        have hfz16_0 := blk_frozen BK656.out 0
        go_wp2_with (first | ((with_reducible refine gate_callee (f := 24) rfl ?_); refine gL_ (some 10) Tryz.func24 #[.agg #[.slice A0_0 l0_0.length c0_0]] ?_; (with_reducible refine (impl_IsPseudoSymmetric.calls k _ _ l0_0 false _ ?side1 ?side2 A12.out).mono ?_); (case side1 => exact ch_ HR0_0 HB); (case side2 => exact HC0_0.out); rintro e w17 ⟨rfl, hb⟩; refine ⟨_, rfl, ?_⟩; replace BK656 := bk_ BK656 hb; replace HB := bp_ HB hb; (try clear hb)))
        go_meet
        case rel => exact ⟨_, ((⟨#[114, 101, 100, 117, 99, 105, 98, 108, 101]⟩ : ByteArray)), rs_, H', ⟨by first | omega | exact Nat.le_refl _⟩, ⟨be_ BK656.out⟩, ⟨bq_ HB⟩⟩
   case rest =>
    clear HC5
    try clear c1
    try clear c2
    try clear p2
    try clear c3
    try clear c11
    try clear c13
    try clear hcz14_0
    try clear hcz16_0
    try clear hcz7_0
    try clear hcz9_0
    try clear hfz14_0
    try clear hfz16_0
    try clear hfz7_0
    try clear hfz9_0
    obtain ⟨kq, x3_4, rfl, HA, HJ4, BK656, HB⟩ := hcut
    cases kq with
    | zero => exact absurd HA.out (by simp [impl_DescribeSemigroup.j0])
    | succ kj4 =>
     have H := HA.out
     clear HA
     simp only [impl_DescribeSemigroup.j0] at H
     obtain ⟨t660, A18, H⟩ := ob_ H
     obtain ⟨t661, A19, H⟩ := ob_ H
     obtain ⟨t662, A20, H⟩ := ob_ H
     obtain ⟨t663, A21, H⟩ := ob_ H
     obtain ⟨t664, A22, H⟩ := ob_ H
     obtain ⟨t665, A23, H⟩ := ob_ H
     obtain ⟨t666, A24, H⟩ := ob_ H
     by_cases c25 : 0 < (l0_0.length : Int)
     · rw [if_pos c25] at H
       have c25b0 : decide (0 < (l0_0.length : Int)) = true := decide_eq_true c25
       have c25b1 : decide (0 < l0_0.length) = true := decide_eq_true (by omega)
       clear c25
       obtain ⟨t668, A26, H⟩ := ob_ H
       obtain ⟨t671, A27, H⟩ := ob_ H
       obtain ⟨t672, A28, H⟩ := ob_ H
       obtain ⟨t673, A29, H⟩ := ob_ H
       obtain ⟨y674, hy674⟩ : ∃ y_ : List ByteArray, y_ = (([(⟨#[102, 114, 111, 98, 101, 110, 105, 117, 115]⟩ : ByteArray), t661, (⟨#[103, 101, 110, 117, 115]⟩ : ByteArray), t663, (⟨#[116, 121, 112, 101]⟩ : ByteArray), t665, x3_4, (⟨#[103, 97, 112, 115]⟩ : ByteArray), t666, (⟨#[108, 101, 97, 115, 116]⟩ : ByteArray), t671, (⟨#[119, 105, 108, 102]⟩ : ByteArray), t673] : List ByteArray)) := ⟨_, rfl⟩
       replace H : ((impl_Join.f kj4 y674 (⟨#[32]⟩ : ByteArray)).bind fun t677 => (some t677)) = some r := by subst hy674; exact H
       have Ny674 := Aside0.mk hy674
       clear hy674
       obtain ⟨t677, A30, H⟩ := ob_ H
       obtain rfl := Option.some.inj H
       try go_wp2
       replace BK656 := Aside0.mk (blk_drew BK656.out)
       replace HB := Aside0.mk (below_drew1 HB.out)
       have p667 : 0 ≤ (0 : Int) := (by omega)
       have q667 : 0 < (l0_0.length : Int) := od_
       obtain ⟨ad667, e667, hx667_0⟩ := Kd.at_int HR0_0.out 0 p667 q667
       have hw667_0 := hx667_0
       (try rw [show ((0 : Int)).toNat = 0 from rfl] at hw667_0)
       (try rw [show 0 * 1 = 0 from rfl] at hw667_0)
       (try rw [Addr.add_zero'] at hw667_0)
       cases e667
       have qi667 : (0 < l0_0.length) = True := eq_true (by omega)
       (try rw [show ((0 : Int)).toNat = 0 from rfl] at hx667_0)
       (try rw [Addr.add_zero'] at hx667_0)
       (try replace hx667_0 := (HB.out.cell (World.block_lt_of_cell? w _ hx667_0)).trans hx667_0)
       replace p667 := eq_true p667
       replace q667 := eq_true q667
       refine start_ (n := 25) (S := fun w' => w'.cell? ⟨gb656, 0, none⟩ = some (.slice (some ad667) l0_0.length c0_0) ∧ w'.cell? ad667 = some (.int .i64 (rd l0_0 0))) (ds := []) (B_ 0 25) (by kernel_rfl) rfl rfl ⟨(blk_cell BK656.out 0).trans rfl, ((HB.out.cell (World.block_lt_of_cell? w _ hw667_0)).trans hw667_0)⟩ (fun hHeld => ?_); refine with_tabW impl_DescribeSemigroup.tab8 impl_DescribeSemigroup.bits8 (fun HT_ HW_ => ?_)
       generalize wc.drew = w31 at BK656 HB hx667_0 hHeld ⊢
       refine pu_ HT_ 9 20 (B_ 512 25) ?_
       refine pu_ HT_ 13 24 (B_ 8704 25) ?_
       refine tk2_ HT_ HW_ hHeld 0 11 (B_ 8705 25) ?_
       refine tk2_ HT_ HW_ hHeld 3 14 (B_ 8713 25) ?_
       refine tk2_ HT_ HW_ hHeld 6 17 (B_ 8777 25) ?_
       refine tk2_ HT_ HW_ hHeld 10 21 (B_ 9801 25) ?_
       refine tk2_ HT_ HW_ hHeld 12 23 (B_ 13897 25) ?_
       refine tk2_ HT_ HW_ hHeld 14 25 (B_ 30281 25) ?_
       refine pu_ HT_ 15 26 (B_ 63049 25) ?_
       refine tk2_ HT_ HW_ hHeld 16 27 (B_ 128585 25) ?_
       refine tk2_ HT_ HW_ hHeld 19 30 (B_ 652873 25) ?_
       refine on_ HT_ 1 12 (B_ 652875 25) (fun K hK => ?_)
       refine goes_ Tryz.func27 (by kernel_rfl) rfl #[.agg #[.slice (some ad667) l0_0.length c0_0]] (by rfl) rfl rfl (by (try simp only [List.map_toArray, List.map_cons, List.map_nil]); first | done | rfl | (simp only [List.length_drop, List.length_take]; rfl)) ?_
       with_reducible refine (impl_FrobeniusOf.calls kj4 _ _ l0_0 t660 _ ?side1 ?side2 A18.out).mono ?_
       (case side1 => exact ch_ HR0_0 HB)
       (case side2 => exact HC0_0.out)
       rintro e w32 ⟨rfl, hb⟩
       refine ⟨_, rfl, ?_⟩
       replace BK656 := bk_ BK656 hb
       replace HB := bp_ HB hb
       (try clear hb)
       refine hK.out _ _ ⟨(blk_cell BK656.out 0).trans rfl, ((HB.out.cell (World.block_lt_of_cell? w _ hw667_0)).trans hw667_0)⟩ (fun hHeld => ?_)
       clear hK K
       refine norm_ (a' := ?_) ?_ ?_
       rotate_left
       · show Act.put _ (some 12) _ = _
         simp only [Act.put, z1_, z2_, z3_, i64_w, i32_w]
         rfl
       refine on_ HT_ 2 13 (B_ 652879 25) (fun K hK => ?_)
       refine goes_ Tryz.func26 (by kernel_rfl) rfl #[.int .i64 t660] (by rfl) rfl rfl (by (try simp only [List.map_toArray, List.map_cons, List.map_nil]); first | done | rfl | (simp only [List.length_drop, List.length_take]; rfl)) ?_
       with_reducible refine (impl_FormatI.calls kj4 t660 t661 _ ?sideT A19.out).mono ?_
       (case sideT => exact hTab.out.below (bq_ HB))
       rintro e w33 ⟨rfl, hb⟩
       refine ⟨_, rfl, ?_⟩
       replace BK656 := bk_ BK656 hb
       replace HB := bp_ HB hb
       (try clear hb)
       refine hK.out _ _ ⟨(blk_cell BK656.out 0).trans rfl, ((HB.out.cell (World.block_lt_of_cell? w _ hw667_0)).trans hw667_0)⟩ (fun hHeld => ?_)
       clear hK K
       refine norm_ (a' := ?_) ?_ ?_
       rotate_left
       · show Act.put _ (some 13) _ = _
         simp only [Act.put, z1_, z2_, z3_, i64_w, i32_w]
         rfl
       refine on_ HT_ 4 15 (B_ 652895 25) (fun K hK => ?_)
       refine goes_ Tryz.func28 (by kernel_rfl) rfl #[.agg #[.slice (some ad667) l0_0.length c0_0]] (by rfl) rfl rfl (by (try simp only [List.map_toArray, List.map_cons, List.map_nil]); first | done | rfl | (simp only [List.length_drop, List.length_take]; rfl)) ?_
       with_reducible refine (impl_GenusOf.calls kj4 _ _ l0_0 t662 _ ?side1 ?side2 A20.out).mono ?_
       (case side1 => exact ch_ HR0_0 HB)
       (case side2 => exact HC0_0.out)
       rintro e w34 ⟨rfl, hb⟩
       refine ⟨_, rfl, ?_⟩
       replace BK656 := bk_ BK656 hb
       replace HB := bp_ HB hb
       (try clear hb)
       refine hK.out _ _ ⟨(blk_cell BK656.out 0).trans rfl, ((HB.out.cell (World.block_lt_of_cell? w _ hw667_0)).trans hw667_0)⟩ (fun hHeld => ?_)
       clear hK K
       refine norm_ (a' := ?_) ?_ ?_
       rotate_left
       · show Act.put _ (some 15) _ = _
         simp only [Act.put, z1_, z2_, z3_, i64_w, i32_w]
         rfl
       refine on_ HT_ 5 16 (B_ 652927 25) (fun K hK => ?_)
       refine goes_ Tryz.func26 (by kernel_rfl) rfl #[.int .i64 t662] (by rfl) rfl rfl (by (try simp only [List.map_toArray, List.map_cons, List.map_nil]); first | done | rfl | (simp only [List.length_drop, List.length_take]; rfl)) ?_
       with_reducible refine (impl_FormatI.calls kj4 t662 t663 _ ?sideT A21.out).mono ?_
       (case sideT => exact hTab.out.below (bq_ HB))
       rintro e w35 ⟨rfl, hb⟩
       refine ⟨_, rfl, ?_⟩
       replace BK656 := bk_ BK656 hb
       replace HB := bp_ HB hb
       (try clear hb)
       refine hK.out _ _ ⟨(blk_cell BK656.out 0).trans rfl, ((HB.out.cell (World.block_lt_of_cell? w _ hw667_0)).trans hw667_0)⟩ (fun hHeld => ?_)
       clear hK K
       refine norm_ (a' := ?_) ?_ ?_
       rotate_left
       · show Act.put _ (some 16) _ = _
         simp only [Act.put, z1_, z2_, z3_, i64_w, i32_w]
         rfl
       refine on_ HT_ 7 18 (B_ 653055 25) (fun K hK => ?_)
       refine goes_ Tryz.func29 (by kernel_rfl) rfl #[.agg #[.slice (some ad667) l0_0.length c0_0]] (by rfl) rfl rfl (by (try simp only [List.map_toArray, List.map_cons, List.map_nil]); first | done | rfl | (simp only [List.length_drop, List.length_take]; rfl)) ?_
       with_reducible refine (impl_TypeOf.calls kj4 _ _ l0_0 t664 _ ?side1 ?side2 A22.out).mono ?_
       (case side1 => exact ch_ HR0_0 HB)
       (case side2 => exact HC0_0.out)
       rintro e w36 ⟨rfl, hb⟩
       refine ⟨_, rfl, ?_⟩
       replace BK656 := bk_ BK656 hb
       replace HB := bp_ HB hb
       (try clear hb)
       refine hK.out _ _ ⟨(blk_cell BK656.out 0).trans rfl, ((HB.out.cell (World.block_lt_of_cell? w _ hw667_0)).trans hw667_0)⟩ (fun hHeld => ?_)
       clear hK K
       refine norm_ (a' := ?_) ?_ ?_
       rotate_left
       · show Act.put _ (some 18) _ = _
         simp only [Act.put, z1_, z2_, z3_, i64_w, i32_w]
         rfl
       refine on_ HT_ 8 19 (B_ 653311 25) (fun K hK => ?_)
       refine goes_ Tryz.func26 (by kernel_rfl) rfl #[.int .i64 t664] (by rfl) rfl rfl (by (try simp only [List.map_toArray, List.map_cons, List.map_nil]); first | done | rfl | (simp only [List.length_drop, List.length_take]; rfl)) ?_
       with_reducible refine (impl_FormatI.calls kj4 t664 t665 _ ?sideT A23.out).mono ?_
       (case sideT => exact hTab.out.below (bq_ HB))
       rintro e w37 ⟨rfl, hb⟩
       refine ⟨_, rfl, ?_⟩
       replace BK656 := bk_ BK656 hb
       replace HB := bp_ HB hb
       (try clear hb)
       refine hK.out _ _ ⟨(blk_cell BK656.out 0).trans rfl, ((HB.out.cell (World.block_lt_of_cell? w _ hw667_0)).trans hw667_0)⟩ (fun hHeld => ?_)
       clear hK K
       refine norm_ (a' := ?_) ?_ ?_
       rotate_left
       · show Act.put _ (some 19) _ = _
         simp only [Act.put, z1_, z2_, z3_, i64_w, i32_w]
         rfl
       refine on_ HT_ 11 22 (B_ 655359 25) (fun K hK => ?_)
       refine goes_ Tryz.func30 (by kernel_rfl) rfl #[.agg #[.slice (some ad667) l0_0.length c0_0]] (by rfl) rfl rfl (by (try simp only [List.map_toArray, List.map_cons, List.map_nil]); first | done | rfl | (simp only [List.length_drop, List.length_take]; rfl)) ?_
       with_reducible refine (impl_GapText.calls kj4 _ _ l0_0 t666 _ ?side1 ?side2 ?sideT A24.out).mono ?_
       (case sideT => exact hTab.out.below (bq_ HB))
       (case side1 => exact ch_ HR0_0 HB)
       (case side2 => exact HC0_0.out)
       rintro e w38 ⟨rfl, hb⟩
       refine ⟨_, rfl, ?_⟩
       replace BK656 := bk_ BK656 hb
       replace HB := bp_ HB hb
       (try clear hb)
       refine hK.out _ _ ⟨(blk_cell BK656.out 0).trans rfl, ((HB.out.cell (World.block_lt_of_cell? w _ hw667_0)).trans hw667_0)⟩ (fun hHeld => ?_)
       clear hK K
       refine norm_ (a' := ?_) ?_ ?_
       rotate_left
       · show Act.put _ (some 22) _ = _
         simp only [Act.put, z1_, z2_, z3_, i64_w, i32_w]
         rfl
       refine on_ HT_ 17 28 (B_ 786431 25) (fun K hK => ?_)
       refine goes_ Tryz.func32 (by kernel_rfl) rfl #[.agg #[.slice (some ad667) l0_0.length c0_0], .int .i64 (rd l0_0 0)] (by rfl) rfl rfl (by (try simp only [List.map_toArray, List.map_cons, List.map_nil]); first | done | rfl | (simp only [List.length_drop, List.length_take]; rfl)) ?_
       with_reducible refine (impl_AperySet.calls kj4 _ _ l0_0 (rd l0_0 0) t668 _ ?side1 ?side2 A26.out).mono ?_
       (case side1 => exact ch_ HR0_0 HB)
       (case side2 => exact HC0_0.out)
       rintro e w39 ⟨v669, rfl, ho0, hb⟩
       refine ⟨_, rfl, ?_⟩
       have HO670 := Aside0.mk (Kd.R_lower ho0 (below_size (bq_ HB)))
       replace BK656 := bk_ BK656 hb
       replace HB := bp_ HB hb
       (try clear hb)
       (try clear ho0)
       obtain ⟨Ao40, co40, eo40⟩ := Kd.R_slice HO670.out
       (first | subst eo40 | (injection eo40 with f1_ f2_ f3_; have f4_ := f1_.symm; have f5_ := f3_.symm; clear f1_ f2_ f3_; subst f4_; subst f5_))
       refine hK.out _ _ ⟨(blk_cell BK656.out 0).trans rfl, ((HB.out.cell (World.block_lt_of_cell? w _ hw667_0)).trans hw667_0)⟩ (fun hHeld => ?_)
       clear hK K
       refine norm_ (a' := ?_) ?_ ?_
       rotate_left
       · show Act.put _ (some 28) _ = _
         simp only [Act.put, z1_, z2_, z3_, i64_w, i32_w]
         rfl
       refine on_ HT_ 18 29 (B_ 1048575 25) (fun K hK => ?_)
       refine goes_ Tryz.func31 (by kernel_rfl) rfl #[.slice Ao40 t668.length co40] (by rfl) rfl rfl (by (try simp only [List.map_toArray, List.map_cons, List.map_nil]); first | done | rfl | (simp only [List.length_drop, List.length_take]; rfl)) ?_
       with_reducible refine (impl_ListText.calls kj4 _ _ t668 t671 _ ?side1 ?side2 ?sideT A27.out).mono ?_
       (case sideT => exact hTab.out.below (bq_ HB))
       (case side1 => exact ce_ ((Kd.R_reads' HO670.out).2.2))
       (case side2 => exact (Kd.R_reads' HO670.out).2.1)
       rintro e w41 ⟨rfl, hb⟩
       refine ⟨_, rfl, ?_⟩
       replace HO670 := Aside0.mk (Kd.R_below (re_ HO670.out) hb)
       replace BK656 := bk_ BK656 hb
       replace HB := bp_ HB hb
       (try clear hb)
       refine hK.out _ _ ⟨(blk_cell BK656.out 0).trans rfl, ((HB.out.cell (World.block_lt_of_cell? w _ hw667_0)).trans hw667_0)⟩ (fun hHeld => ?_)
       clear hK K
       refine norm_ (a' := ?_) ?_ ?_
       rotate_left
       · show Act.put _ (some 29) _ = _
         simp only [Act.put, z1_, z2_, z3_, i64_w, i32_w]
         rfl
       refine on_ HT_ 20 31 (B_ 2097151 25) (fun K hK => ?_)
       refine goes_ Tryz.func33 (by kernel_rfl) rfl #[.agg #[.slice (some ad667) l0_0.length c0_0]] (by rfl) rfl rfl (by (try simp only [List.map_toArray, List.map_cons, List.map_nil]); first | done | rfl | (simp only [List.length_drop, List.length_take]; rfl)) ?_
       with_reducible refine (impl_WilfNumber.calls kj4 _ _ l0_0 t672 _ ?side1 ?side2 A28.out).mono ?_
       (case side1 => exact ch_ HR0_0 HB)
       (case side2 => exact HC0_0.out)
       rintro e w42 ⟨rfl, hb⟩
       refine ⟨_, rfl, ?_⟩
       replace HO670 := Aside0.mk (Kd.R_below (re_ HO670.out) hb)
       replace BK656 := bk_ BK656 hb
       replace HB := bp_ HB hb
       (try clear hb)
       refine hK.out _ _ ⟨(blk_cell BK656.out 0).trans rfl, ((HB.out.cell (World.block_lt_of_cell? w _ hw667_0)).trans hw667_0)⟩ (fun hHeld => ?_)
       clear hK K
       refine norm_ (a' := ?_) ?_ ?_
       rotate_left
       · show Act.put _ (some 31) _ = _
         simp only [Act.put, z1_, z2_, z3_, i64_w, i32_w]
         rfl
       refine on_ HT_ 21 32 (B_ 4194303 25) (fun K hK => ?_)
       refine goes_ Tryz.func26 (by kernel_rfl) rfl #[.int .i64 t672] (by rfl) rfl rfl (by (try simp only [List.map_toArray, List.map_cons, List.map_nil]); first | done | rfl | (simp only [List.length_drop, List.length_take]; rfl)) ?_
       with_reducible refine (impl_FormatI.calls kj4 t672 t673 _ ?sideT A29.out).mono ?_
       (case sideT => exact hTab.out.below (bq_ HB))
       rintro e w43 ⟨rfl, hb⟩
       refine ⟨_, rfl, ?_⟩
       replace HO670 := Aside0.mk (Kd.R_below (re_ HO670.out) hb)
       replace BK656 := bk_ BK656 hb
       replace HB := bp_ HB hb
       (try clear hb)
       refine hK.out _ _ ⟨(blk_cell BK656.out 0).trans rfl, ((HB.out.cell (World.block_lt_of_cell? w _ hw667_0)).trans hw667_0)⟩ (fun hHeld => ?_)
       clear hK K
       refine norm_ (a' := ?_) ?_ ?_
       rotate_left
       · show Act.put _ (some 32) _ = _
         simp only [Act.put, z1_, z2_, z3_, i64_w, i32_w]
         rfl
       refine on_ HT_ 22 33 (B_ 8388607 25) (fun K hK => ?_)
       refine Kd.R_lit_step Kd.string _ 9 ?hg (N := 33) ?hd (xs := ([(⟨#[102, 114, 111, 98, 101, 110, 105, 117, 115]⟩ : ByteArray), t661, (⟨#[103, 101, 110, 117, 115]⟩ : ByteArray), t663, (⟨#[116, 121, 112, 101]⟩ : ByteArray), t665, x3_4, (⟨#[103, 97, 112, 115]⟩ : ByteArray), t666, (⟨#[108, 101, 97, 115, 116]⟩ : ByteArray), t671, (⟨#[119, 105, 108, 102]⟩ : ByteArray), t673] : List ByteArray)) (inner := [.string (⟨#[102, 114, 111, 98, 101, 110, 105, 117, 115]⟩ : ByteArray), .string t661, .string (⟨#[103, 101, 110, 117, 115]⟩ : ByteArray), .string t663, .string (⟨#[116, 121, 112, 101]⟩ : ByteArray), .string t665, .string x3_4, .string (⟨#[103, 97, 112, 115]⟩ : ByteArray), .string t666, .string (⟨#[108, 101, 97, 115, 116]⟩ : ByteArray), .string t671, .string (⟨#[119, 105, 108, 102]⟩ : ByteArray), .string t673]) (ok := fun _ => True) (okp := fun _ => True) ?hr ?hp (fun _ hk => hk) trivial (Below.refl _ _) (Nat.le_refl _) (by simp) ?_; (case hd => rfl); (case hg => rfl); (case hr => first | (go_simp; done) | (go_simp; rfl)); (case hp => exact (Reps.one (show Kd.M Kd.string _ _ _ (⟨#[102, 114, 111, 98, 101, 110, 105, 117, 115]⟩ : ByteArray) [.string (⟨#[102, 114, 111, 98, 101, 110, 105, 117, 115]⟩ : ByteArray)] from rfl) (Reps.one (show Kd.M Kd.string _ _ _ t661 [.string t661] from rfl) (Reps.one (show Kd.M Kd.string _ _ _ (⟨#[103, 101, 110, 117, 115]⟩ : ByteArray) [.string (⟨#[103, 101, 110, 117, 115]⟩ : ByteArray)] from rfl) (Reps.one (show Kd.M Kd.string _ _ _ t663 [.string t663] from rfl) (Reps.one (show Kd.M Kd.string _ _ _ (⟨#[116, 121, 112, 101]⟩ : ByteArray) [.string (⟨#[116, 121, 112, 101]⟩ : ByteArray)] from rfl) (Reps.one (show Kd.M Kd.string _ _ _ t665 [.string t665] from rfl) (Reps.one (show Kd.M Kd.string _ _ _ x3_4 [.string x3_4] from rfl) (Reps.one (show Kd.M Kd.string _ _ _ (⟨#[103, 97, 112, 115]⟩ : ByteArray) [.string (⟨#[103, 97, 112, 115]⟩ : ByteArray)] from rfl) (Reps.one (show Kd.M Kd.string _ _ _ t666 [.string t666] from rfl) (Reps.one (show Kd.M Kd.string _ _ _ (⟨#[108, 101, 97, 115, 116]⟩ : ByteArray) [.string (⟨#[108, 101, 97, 115, 116]⟩ : ByteArray)] from rfl) (Reps.one (show Kd.M Kd.string _ _ _ t671 [.string t671] from rfl) (Reps.one (show Kd.M Kd.string _ _ _ (⟨#[119, 105, 108, 102]⟩ : ByteArray) [.string (⟨#[119, 105, 108, 102]⟩ : ByteArray)] from rfl) (Reps.one (show Kd.M Kd.string _ _ _ t673 [.string t673] from rfl) (Reps.none _ _)))))))))))))))
       intro v675 w44 ho45 hb hg_ hnew_
       clear hg_ hnew_
       (first | rw [← Ny674.out] at ho45 | (simp only [Int.reduceToNat] at ho45; rw [← Ny674.out] at ho45))
       replace HO670 := Aside0.mk (Kd.R_below (re_ HO670.out) hb)
       have HO676 := Aside0.mk (Kd.R_lower ho45 (below_size (bq_ HB)))
       replace BK656 := bk_ BK656 hb
       replace HB := bp_ HB hb
       clear hb ho45
       obtain ⟨Ao46, co46, eo46⟩ := Kd.R_slice HO676.out
       (first | subst eo46 | (injection eo46 with f1_ f2_ f3_; have f4_ := f1_.symm; have f5_ := f3_.symm; clear f1_ f2_ f3_; subst f4_; subst f5_))
       refine hK.out _ _ ⟨(blk_cell BK656.out 0).trans rfl, ((HB.out.cell (World.block_lt_of_cell? w _ hw667_0)).trans hw667_0)⟩ (fun hHeld => ?_)
       clear hK K
       refine norm_ (a' := ?_) ?_ ?_
       rotate_left
       · show Act.put _ (some 33) _ = _
         simp only [Act.put, z1_, z2_, z3_, i64_w, i32_w]
         rfl
       refine on_ HT_ 23 34 (B_ 16777215 25) (fun K hK => ?_)
       refine goes_ Tryz.func25 (by kernel_rfl) rfl #[.slice Ao46 y674.length co46, .string (⟨#[32]⟩ : ByteArray)] (by rfl) rfl rfl (by (try simp only [List.map_toArray, List.map_cons, List.map_nil]); first | done | rfl | (simp only [List.length_drop, List.length_take]; rfl)) ?_
       with_reducible refine (impl_Join.calls kj4 _ _ y674 (⟨#[32]⟩ : ByteArray) t677 _ ?side1 ?side2 A30.out).mono ?_
       (case side1 => exact ce_ ((Kd.R_reads' HO676.out).2.2))
       (case side2 => exact (Kd.R_reads' HO676.out).2.1)
       rintro e w47 ⟨rfl, hb⟩
       refine ⟨_, rfl, ?_⟩
       replace HO670 := Aside0.mk (Kd.R_below (re_ HO670.out) hb)
       replace HO676 := Aside0.mk (Kd.R_below (re_ HO676.out) hb)
       replace BK656 := bk_ BK656 hb
       replace HB := bp_ HB hb
       (try clear hb)
       refine hK.out _ _ ⟨(blk_cell BK656.out 0).trans rfl, ((HB.out.cell (World.block_lt_of_cell? w _ hw667_0)).trans hw667_0)⟩ (fun hHeld => ?_)
       clear hK K
       refine norm_ (a' := ?_) ?_ ?_
       rotate_left
       · show Act.put _ (some 34) _ = _
         simp only [Act.put, z1_, z2_, z3_, i64_w, i32_w]
         rfl
       refine pu_ HT_ 24 2 (B_ 33554431 25) ?_
       refine done_ (done_of HT_.out (by kernel_rfl)) ?_
       try go_wp2
       go_ret
       exact ⟨rf_, bq_ HB⟩
     · rw [if_neg c25] at H
       cases H
 · replace c3 := Bool.eq_false_iff.mpr c3
   subst c3
   rw [if_neg (show ¬ (false = true) by decide)] at H
   obtain rfl := Option.some.inj H
   go_enter Tryz.func13, Tryz.ntmps13
   go_wp2_with (first | ((with_reducible refine gate_dst (N := 1) rfl ?_); refine bx_ 1 #[.slice A0_0 l0_0.length c0_0] 29 ?_; intro gb656 hg w48 hbox hb; have BK656 := Aside0.mk (hbox); have GW656 := gw_ hg HB; have GE656 := gw_ hg HB; replace HB := bo_ HB hb; clear hb hbox hg; have hcz49_0 := cz_ BK656; have hfz49_0 := blk_frozen BK656.out 0) | ((with_reducible refine gate_callee (f := 22) rfl ?_); refine gL_ (some 5) Tryz.func22 #[.agg #[.slice A0_0 l0_0.length c0_0]] ?_; (with_reducible refine (impl_IsSemigroup.calls k _ _ l0_0 false _ ?side1 ?side2 A2.out).mono ?_); (case side1 => exact ch_ HR0_0 HB); (case side2 => exact HC0_0.out); rintro e w50 ⟨rfl, hb⟩; refine ⟨_, rfl, ?_⟩; replace BK656 := bk_ BK656 hb; replace HB := bp_ HB hb; (try clear hb)))
   go_ret
   exact ⟨rf_, bq_ HB⟩
def stringslite_HasPrefix.f (a0 : ByteArray) (a1 : ByteArray) : Option (Bool) := if (a0.size : Int) ≥ (a1.size : Int) then (if 0 ≤ (a1.size : Int) then (if (a1.size : Int) ≤ (a0.size : Int) then (some ((a0.extract 0 ((a1.size : Int) : Int).toNat).toList == a1.toList)) else (none)) else (none)) else (some false)
theorem stringslite_HasPrefix.calls (a0 : ByteArray) (a1 : ByteArray) (r : Bool) (w : World) (h : stringslite_HasPrefix.f a0 a1 = some r) :
 Calls Tryz.prog 106 #[.string a0, .string a1] w fun e w' => e = .returned (.bool r) ∧ Drawn0 w w' := by
 have H := h
 clear h
 unfold stringslite_HasPrefix.f at H
 by_cases c3 : (a0.size : Int) ≥ (a1.size : Int)
 · rw [if_pos c3] at H
   have c3b0 : decide ((a1.size : Int) ≤ (a0.size : Int)) = true := decide_eq_true c3
   have c3b1 : decide (a1.size ≤ a0.size) = true := decide_eq_true (Int.ofNat_le.mp c3)
   clear c3
   by_cases c4 : 0 ≤ (a1.size : Int)
   · rw [if_pos c4] at H
     have c4b0 := eq_true c4
     have c4b1 : decide (0 ≤ (a1.size : Int)) = true := decide_eq_true c4
     clear c4
     by_cases c5 : (a1.size : Int) ≤ (a0.size : Int)
     · rw [if_pos c5] at H
       have c5b0 := eq_true c5
       have c5b1 : decide ((a1.size : Int) ≤ (a0.size : Int)) = true := decide_eq_true c5
       clear c5
       obtain rfl := Option.some.inj H
       go_enter Tryz.func106, Tryz.ntmps106
       go_wp2
       go_ret
       exact ⟨by first | rfl | (simp; done) | (simp [*]; done), by repeat (first | exact Drawn0.refl _ | apply Drawn0.step)⟩
     · rw [if_neg c5] at H
       cases H
   · rw [if_neg c4] at H
     cases H
 · rw [if_neg c3] at H
   have c3b0 : decide ((a1.size : Int) ≤ (a0.size : Int)) = false := decide_eq_false c3
   have c3b1 : decide (a1.size ≤ a0.size) = false := decide_eq_false (fun h => c3 (Int.ofNat_le.mpr h))
   clear c3
   obtain rfl := Option.some.inj H
   go_enter Tryz.func106, Tryz.ntmps106
   go_wp2
   go_ret
   exact ⟨by first | rfl | (simp; done) | (simp [*]; done), by repeat (first | exact Drawn0.refl _ | apply Drawn0.step)⟩
def stringslite_CutPrefix.f (a0 : ByteArray) (a1 : ByteArray) : Option (ByteArray × Bool) := (stringslite_HasPrefix.f a0 a1).bind fun t678 => (if t678 = true then (if 0 ≤ (a1.size : Int) then (if (a1.size : Int) ≤ (a0.size : Int) then (some (a0.extract ((a1.size : Int) : Int).toNat a0.size, true)) else (none)) else (none)) else (some (a0, false)))
theorem stringslite_CutPrefix.calls (a0 : ByteArray) (a1 : ByteArray) (r1 : ByteArray) (r2 : Bool) (w : World) (h : stringslite_CutPrefix.f a0 a1 = some (r1, r2)) :
 Calls Tryz.prog 84 #[.string a0, .string a1] w fun e w' => e = .returned (.tuple #[.string r1, .bool r2]) ∧ Drawn0 w w' := by
 have H := h
 clear h
 unfold stringslite_CutPrefix.f at H
 obtain ⟨t678, A3, H⟩ := ob_ H
 by_cases c4 : t678 = true
 · subst c4
   rw [if_pos rfl] at H
   by_cases c5 : 0 ≤ (a1.size : Int)
   · rw [if_pos c5] at H
     have c5b0 := eq_true c5
     have c5b1 : decide (0 ≤ (a1.size : Int)) = true := decide_eq_true c5
     clear c5
     by_cases c6 : (a1.size : Int) ≤ (a0.size : Int)
     · rw [if_pos c6] at H
       have c6b0 := eq_true c6
       have c6b1 : decide ((a1.size : Int) ≤ (a0.size : Int)) = true := decide_eq_true c6
       clear c6
       simp only [Option.some.injEq, Prod.mk.injEq] at H
       obtain ⟨rfl, rfl⟩ := H
       go_enter Tryz.func84, Tryz.ntmps84
       go_wp2_with (first | ((with_reducible refine gate_callee (f := 106) rfl ?_); refine gL_ (some 8) Tryz.func106 #[.string a0, .string a1] ?_; (with_reducible refine (stringslite_HasPrefix.calls a0 a1 true _ A3.out).mono ?_); rintro e w' ⟨rfl, ⟨nd, rfl⟩⟩; refine ⟨_, rfl, ?_⟩))
       go_ret2
       exact ⟨by first | rfl | (simp; done) | (simp [*]; done), by repeat (first | exact Drawn0.refl _ | apply Drawn0.step)⟩
     · rw [if_neg c6] at H
       cases H
   · rw [if_neg c5] at H
     cases H
 · replace c4 := Bool.eq_false_iff.mpr c4
   subst c4
   rw [if_neg (show ¬ (false = true) by decide)] at H
   simp only [Option.some.injEq, Prod.mk.injEq] at H
   obtain ⟨rfl, rfl⟩ := H
   go_enter Tryz.func84, Tryz.ntmps84
   go_wp2_with (first | ((with_reducible refine gate_callee (f := 106) rfl ?_); refine gL_ (some 8) Tryz.func106 #[.string a0, .string a1] ?_; (with_reducible refine (stringslite_HasPrefix.calls a0 a1 false _ A3.out).mono ?_); rintro e w' ⟨rfl, ⟨nd, rfl⟩⟩; refine ⟨_, rfl, ?_⟩))
   go_ret2
   exact ⟨by first | rfl | (simp; done) | (simp [*]; done), by repeat (first | exact Drawn0.refl _ | apply Drawn0.step)⟩
def strings_CutPrefix.f (a0 : ByteArray) (a1 : ByteArray) : Option (ByteArray × Bool) := (stringslite_CutPrefix.f a0 a1).bind fun bt679 => (some (bt679.1, bt679.2))
theorem strings_CutPrefix.calls (a0 : ByteArray) (a1 : ByteArray) (r1 : ByteArray) (r2 : Bool) (w : World) (h : strings_CutPrefix.f a0 a1 = some (r1, r2)) :
 Calls Tryz.prog 44 #[.string a0, .string a1] w fun e w' => e = .returned (.tuple #[.string r1, .bool r2]) ∧ Drawn0 w w' := by
 have H := h
 clear h
 unfold strings_CutPrefix.f at H
 obtain ⟨⟨t679, t680⟩, A3, H⟩ := ob_ H
 (try dsimp only at H)
 simp only [Option.some.injEq, Prod.mk.injEq] at H
 obtain ⟨rfl, rfl⟩ := H
 go_enter Tryz.func44, Tryz.ntmps44
 go_wp2_with (first | ((with_reducible refine gate_callee (f := 84) rfl ?_); refine gL_ (some 8) Tryz.func84 #[.string a0, .string a1] ?_; (with_reducible refine (stringslite_CutPrefix.calls a0 a1 t679 t680 _ A3.out).mono ?_); rintro e w' ⟨rfl, ⟨nd, rfl⟩⟩; refine ⟨_, rfl, ?_⟩))
 go_ret2
 exact ⟨by first | rfl | (simp; done) | (simp [*]; done), by repeat (first | exact Drawn0.refl _ | apply Drawn0.step)⟩
def stringslite_HasSuffix.f (a0 : ByteArray) (a1 : ByteArray) : Option (Bool) := if (a0.size : Int) ≥ (a1.size : Int) then (if 0 ≤ (wrap64 ((a0.size : Int) - (a1.size : Int))) then (if (wrap64 ((a0.size : Int) - (a1.size : Int))) ≤ (a0.size : Int) then (some ((a0.extract ((wrap64 ((a0.size : Int) - (a1.size : Int))) : Int).toNat a0.size).toList == a1.toList)) else (none)) else (none)) else (some false)
theorem stringslite_HasSuffix.calls (a0 : ByteArray) (a1 : ByteArray) (r : Bool) (w : World) (h : stringslite_HasSuffix.f a0 a1 = some r) :
 Calls Tryz.prog 107 #[.string a0, .string a1] w fun e w' => e = .returned (.bool r) ∧ Drawn0 w w' := by
 have H := h
 clear h
 unfold stringslite_HasSuffix.f at H
 by_cases c3 : (a0.size : Int) ≥ (a1.size : Int)
 · rw [if_pos c3] at H
   have c3b0 : decide ((a1.size : Int) ≤ (a0.size : Int)) = true := decide_eq_true c3
   have c3b1 : decide (a1.size ≤ a0.size) = true := decide_eq_true (Int.ofNat_le.mp c3)
   clear c3
   obtain ⟨ji4, hji4⟩ : ∃ j_ : Int, (wrap64 ((a0.size : Int) - (a1.size : Int))) = j_ := ⟨_, rfl⟩
   replace H : (if 0 ≤ (ji4) then (if (ji4) ≤ (a0.size : Int) then (some ((a0.extract ((ji4) : Int).toNat a0.size).toList == a1.toList)) else (none)) else (none)) = some r := by first | (rw [hji4] at H; exact H) | (simp only [hji4] at H ⊢; exact H)
   have hji4w : (IntKind.i64.wrap ((a0.size : Int) - (a1.size : Int))) = ji4 := (i64_w _).trans hji4
   by_cases c5 : 0 ≤ (ji4)
   · rw [if_pos c5] at H
     have c5b0 := eq_true c5
     have c5b1 : decide (0 ≤ (ji4)) = true := decide_eq_true c5
     clear c5
     by_cases c6 : (ji4) ≤ (a0.size : Int)
     · rw [if_pos c6] at H
       have c6b0 := eq_true c6
       have c6b1 : decide ((ji4) ≤ (a0.size : Int)) = true := decide_eq_true c6
       clear c6
       obtain rfl := Option.some.inj H
       go_enter Tryz.func107, Tryz.ntmps107
       go_wp2
       go_ret
       exact ⟨by first | rfl | (simp; done) | (simp only [← hji4] <;> (first | rfl | simp)) | (simp [*]; done), by repeat (first | exact Drawn0.refl _ | apply Drawn0.step)⟩
     · rw [if_neg c6] at H
       cases H
   · rw [if_neg c5] at H
     cases H
 · rw [if_neg c3] at H
   have c3b0 : decide ((a1.size : Int) ≤ (a0.size : Int)) = false := decide_eq_false c3
   have c3b1 : decide (a1.size ≤ a0.size) = false := decide_eq_false (fun h => c3 (Int.ofNat_le.mpr h))
   clear c3
   obtain rfl := Option.some.inj H
   go_enter Tryz.func107, Tryz.ntmps107
   go_wp2
   go_ret
   exact ⟨by first | rfl | (simp; done) | (simp [*]; done), by repeat (first | exact Drawn0.refl _ | apply Drawn0.step)⟩
end Go.Proofs.YteaiehpgigaoaaaGreatDoor.PB
end
