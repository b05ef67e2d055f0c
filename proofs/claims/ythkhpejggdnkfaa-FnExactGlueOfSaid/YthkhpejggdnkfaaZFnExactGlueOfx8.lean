-- Bundled by shake.py from this session's printed and written texts; Lean checks it.
import Derived.Test.YthkhpejggdnkfaaZFnExactGlueOfx1
import Derived.Test.YthkhpejggdnkfaaZFnExactGlueOfx4
import Derived.Test.YthkhpejggdnkfaaZFnExactGlueOfx5
import Derived.Test.YthkhpejggdnkfaaZFnExactGlueOfx6
section
namespace Go.Proofs.Ythkhpejggdnkfaa.PA
open Go.RowKit Go.Proofs.YthkhpejggdnkfaaW.PrintWords Go.Proofs.YthkhpejggdnkfaaW.PrintLast Go.Proofs.YthkhpejggdnkfaaW.PrintMore
set_option linter.unusedVariables false
set_option linter.unusedSimpArgs false
def impl_Contains.f (k : Nat) (l0_0 : List Int) (a1 : Int) : Option (Bool) := if a1 < 0 then (some false) else ((impl_IsSemigroup.f k l0_0).bind fun t624 => (if t624 = true then (if a1 ≥ 200 then (some true) else (if 0 < (l0_0.length : Int) then ((impl_leasts.f k l0_0 (rd l0_0 0)).bind fun t626 => (if (rd l0_0 0) = 0 then (none) else (if 0 ≤ (Int.tmod a1 (rd l0_0 0)) then (if (Int.tmod a1 (rd l0_0 0)) < (t626.length : Int) then (some (decide ((rd t626 (Int.tmod a1 (rd l0_0 0))) ≤ a1))) else (none)) else (none)))) else (none))) else (some false)))
def impl_Contains.T3 : Bool × List (List Nat × List Nat) := (true, [([], []), ([0], [0]), ([1], [1]), ([2], [2]), ([3, 2], [2, 3]), ([2], [2]), ([5, 2], [2, 5]), ([6, 2], [2, 6]), ([7, 2], [2, 7]), ([4, 8, 2, 2], [2, 4, 8]), ([2], [2]), ([2], [2]), ([11, 2], [2, 11]), ([12, 2], [2, 12]), ([13, 2], [2, 13]), ([10, 14, 2], [2, 10, 14]), ([9, 15, 2], [2, 9, 15]), ([16, 2], [2, 16]), ([2], [2]), ([17, 18, 2], [2, 17, 18]), ([2, 19], [2, 19]), ([20, 9, 0, 1, 2, 3, 4, 5, 6, 7, 8, 9, 10, 11, 12, 13, 14, 15, 16, 17, 18, 19, 20], [20])])
def impl_Contains.B3 : List Nat := [0, 1, 3, 7, 15, 7, 39, 103, 231, 511, 7, 7, 2055, 6151, 14343, 31751, 65535, 131071, 7, 524287, 1048575, 2097151]
theorem impl_Contains.tab3 : rtab .any (opsOf Try.f64 3) = impl_Contains.T3 := by kernel_rfl
theorem impl_Contains.bits3 : waitsOk impl_Contains.T3.2 impl_Contains.B3 = true := by kernel_rfl
set_option maxHeartbeats 8000000 in
set_option maxRecDepth 100000 in
theorem impl_Contains.calls (k : Nat) (A0_0 : Option Addr) (c0_0 : Nat) (l0_0 : List Int) (a1 : Int) (r : Bool) (w : World) (hr0_0 : Kd.C (Kd.int .i64) w A0_0 l0_0.length l0_0) (hc0_0 : l0_0.length ≤ c0_0) (h : impl_Contains.f k l0_0 a1 = some r) :
 Calls Try.prog 64 #[.agg #[.slice A0_0 l0_0.length c0_0], .int .i64 a1] w fun e w' => e = .returned (.bool r) ∧ Below w.heap.size w w' := by
 have hu44 := Try.underlying44
 have HR0_0 := Aside0.mk hr0_0
 have HC0_0 := Aside0.mk hc0_0
 clear hr0_0 hc0_0
 have HB := Aside0.mk (Below.refl w.heap.size w)
 have H : (if a1 < 0 then (some false) else ((impl_IsSemigroup.f k l0_0).bind fun t624 => (if t624 = true then (if a1 ≥ 200 then (some true) else (if 0 < (l0_0.length : Int) then ((impl_leasts.f k l0_0 (rd l0_0 0)).bind fun t626 => (if (rd l0_0 0) = 0 then (none) else (if 0 ≤ (Int.tmod a1 (rd l0_0 0)) then (if (Int.tmod a1 (rd l0_0 0)) < (t626.length : Int) then (some (decide ((rd t626 (Int.tmod a1 (rd l0_0 0))) ≤ a1))) else (none)) else (none)))) else (none))) else (some false)))) = some r := h
 clear h
 by_cases c3 : a1 < 0
 · rw [if_pos c3] at H
   have c3b0 : decide (a1 < 0) = true := decide_eq_true c3
   clear c3
   as_aux_lemma =>
    obtain rfl := Option.some.inj H
    go_enter Try.func64, Try.ntmps64
    go_wp2_with (first | ((with_reducible refine gate_dst (N := 2) rfl ?_); refine box_event ?hg (N := 2) ?hd (cs := #[.slice A0_0 l0_0.length c0_0]) (t := 44) ?hr ?_; (case hd => rfl); (case hg => rfl); (case hr => first | (go_simp; done) | (go_simp; rfl)); intro gb623 hg w4 hbox hb; have n0_ := Aside0.mk (below_step (bl_ HB.out) hb); have n1_ := Aside0.mk (hbox); have n2_ := Aside0.mk ((by rw [hg]; exact (below_size (bl_ HB.out)) : w.heap.size ≤ gb623)); have n3_ := Aside0.mk ((by rw [hg]; exact (below_size (bl_ HB.out)) : w.heap.size ≤ gb623)); clear HB; have HB := n0_; have BK623 := n1_; have GW623 := n2_; have GE623 := n3_; clear n0_ n1_ n2_ n3_; clear hb hbox hg))
    go_ret
    exact ⟨by first | rfl | (simp [errW_none, errW_some] <;> rfl) | (simp [*, errW_none, errW_some] <;> rfl), by repeat (first | (with_reducible first | exact HB.out | apply below_alloc | apply pw_below_drewN | apply below_drew1 | refine below_set ?_ GE623.out) | exact HB.out)⟩
 · rw [if_neg c3] at H
   have c3b0 : decide (a1 < 0) = false := decide_eq_false c3
   clear c3
   replace H := Option.bind_eq_some_iff.mp H
   obtain ⟨t624, A50, H⟩ := H
   replace H : (if t624 = true then (if a1 ≥ 200 then (some true) else (if 0 < (l0_0.length : Int) then ((impl_leasts.f k l0_0 (rd l0_0 0)).bind fun t626 => (if (rd l0_0 0) = 0 then (none) else (if 0 ≤ (Int.tmod a1 (rd l0_0 0)) then (if (Int.tmod a1 (rd l0_0 0)) < (t626.length : Int) then (some (decide ((rd t626 (Int.tmod a1 (rd l0_0 0))) ≤ a1))) else (none)) else (none)))) else (none))) else (some false)) = some r := H
   have A5 := Aside0.mk A50
   clear A50
   by_cases c6 : t624 = true
   · subst c6
     have H1 : (if a1 ≥ 200 then (some true) else (if 0 < (l0_0.length : Int) then ((impl_leasts.f k l0_0 (rd l0_0 0)).bind fun t626 => (if (rd l0_0 0) = 0 then (none) else (if 0 ≤ (Int.tmod a1 (rd l0_0 0)) then (if (Int.tmod a1 (rd l0_0 0)) < (t626.length : Int) then (some (decide ((rd t626 (Int.tmod a1 (rd l0_0 0))) ≤ a1))) else (none)) else (none)))) else (none))) = some r := by rw [if_pos rfl] at H; exact H
     clear H
     have H := H1
     clear H1
     by_cases c7 : a1 ≥ 200
     · rw [if_pos c7] at H
       have c7b0 : decide (200 ≤ a1) = true := decide_eq_true c7
       clear c7
       as_aux_lemma =>
        obtain rfl := Option.some.inj H
        go_enter Try.func64, Try.ntmps64
        try go_wp2_with (first | ((with_reducible refine gate_dst (N := 2) rfl ?_); refine box_event ?hg (N := 2) ?hd (cs := #[.slice A0_0 l0_0.length c0_0]) (t := 44) ?hr ?_; (case hd => rfl); (case hg => rfl); (case hr => first | (go_simp; done) | (go_simp; rfl)); intro gb623 hg w8 hbox hb; have n0_ := Aside0.mk (below_step (bl_ HB.out) hb); have n1_ := Aside0.mk (hbox); have n2_ := Aside0.mk ((by rw [hg]; exact (below_size (bl_ HB.out)) : w.heap.size ≤ gb623)); have n3_ := Aside0.mk ((by rw [hg]; exact (below_size (bl_ HB.out)) : w.heap.size ≤ gb623)); clear HB; have HB := n0_; have BK623 := n1_; have GW623 := n2_; have GE623 := n3_; clear n0_ n1_ n2_ n3_; clear hb hbox hg; have hcz9_0 : w8.cell? ⟨gb623, 0, none⟩ = some (.slice A0_0 l0_0.length c0_0) := (blk_cell BK623.out 0).trans rfl; have hfz9_0 := blk_frozen BK623.out 0) | (go_at_call 57; (with_reducible refine (impl_IsSemigroup.calls k _ _ l0_0 true _ ?side1 ?side2 A5.out).mono ?_); (case side1 => exact ce_ ((Kd.C_below HR0_0.out HB.out))); (case side2 => exact HC0_0.out); rintro e w10 ⟨rfl, hb⟩; have n0_ := Aside0.mk (blk_below (g := gb623) (o := .cells #[.slice A0_0 l0_0.length c0_0] 44 (0, 0)) (be_ BK623.out) hb); have n1_ := Aside0.mk (below_step (by repeat (first | (with_reducible first | exact HB.out | apply below_alloc | apply pw_below_drewN | apply below_drew1 | refine below_set ?_ GE623.out) | exact HB.out)) hb); clear BK623; clear HB; have BK623 := n0_; have HB := n1_; clear n0_ n1_; (try clear hb); (try clear hb2); (try clear hk); (try clear hi)))
        have n0_ := Aside0.mk (blk_drew BK623.out)
        have n1_ := Aside0.mk (below_drew1 HB.out)
        clear BK623
        clear HB
        have BK623 := n0_
        have HB := n1_
        clear n0_ n1_
        refine start_ (n := 22) (S := fun w' => True) (ds := []) (B_ 0 22) (by kernel_rfl) rfl rfl trivial (fun hHeld => ?_); refine with_tabW impl_Contains.tab3 impl_Contains.bits3 (fun HT_ HW_ => ?_)
        generalize w10.drew = w11 at BK623 HB hHeld ⊢
        refine pu_ HT_ 0 12 (B_ 1 22) ?_
        refine pu_ HT_ 1 13 (B_ 3 22) ?_
        refine pu_ HT_ 2 14 (B_ 7 22) ?_
        refine pn_ HT_ 3 15 (B_ 15 22) ?_
        refine pn_ HT_ 4 16 (B_ 31 22) ?_
        refine pn_ HT_ 5 17 (B_ 63 22) ?_
        refine pn_ HT_ 6 18 (B_ 127 22) ?_
        refine pn_ HT_ 7 19 (B_ 255 22) ?_
        refine pn_ HT_ 8 20 (B_ 511 22) ?_
        refine pn_ HT_ 9 21 (B_ 1023 22) ?_
        refine pn_ HT_ 10 22 (B_ 2047 22) ?_
        refine pn_ HT_ 11 23 (B_ 4095 22) ?_
        refine pn_ HT_ 12 24 (B_ 8191 22) ?_
        refine pn_ HT_ 13 25 (B_ 16383 22) ?_
        refine pn_ HT_ 14 26 (B_ 32767 22) ?_
        refine pn_ HT_ 15 27 (B_ 65535 22) ?_
        refine pn_ HT_ 16 28 (B_ 131071 22) ?_
        refine pn_ HT_ 17 29 (B_ 262143 22) ?_
        refine pn_ HT_ 18 30 (B_ 524287 22) ?_
        refine pn_ HT_ 19 31 (B_ 1048575 22) ?_
        refine pu_ HT_ 20 32 (B_ 2097151 22) ?_
        refine pu_ HT_ 21 4 (B_ 4194303 22) ?_
        refine done_ (done_of HT_.out (by kernel_rfl)) ?_
        try go_wp2
        go_ret
        exact ⟨by first | rfl | (simp [errW_none, errW_some] <;> rfl) | (simp [*, errW_none, errW_some] <;> rfl), by repeat (first | (with_reducible first | exact HB.out | apply below_alloc | apply pw_below_drewN | apply below_drew1 | refine below_set ?_ GE623.out) | exact HB.out)⟩
     · rw [if_neg c7] at H
       have c7b0 : decide (200 ≤ a1) = false := decide_eq_false c7
       clear c7
       by_cases c12 : 0 < (l0_0.length : Int)
       · rw [if_pos c12] at H
         have c12b0 : decide (0 < (l0_0.length : Int)) = true := decide_eq_true c12
         have c12b1 : decide (0 < l0_0.length) = true := decide_eq_true (by omega)
         clear c12
         replace H := Option.bind_eq_some_iff.mp H
         obtain ⟨t626, A130, H⟩ := H
         replace H : (if (rd l0_0 0) = 0 then (none) else (if 0 ≤ (Int.tmod a1 (rd l0_0 0)) then (if (Int.tmod a1 (rd l0_0 0)) < (t626.length : Int) then (some (decide ((rd t626 (Int.tmod a1 (rd l0_0 0))) ≤ a1))) else (none)) else (none))) = some r := H
         have A13 := Aside0.mk A130
         clear A130
         by_cases c14 : (rd l0_0 0) = 0
         · rw [if_pos c14] at H
           exact absurd H (by simp)
         · rw [if_neg c14] at H
           have c14b0 : ((rd l0_0 0) == 0) = false := beq_eq_false_iff_ne.mpr c14
           have c14b1 : ((rd l0_0 0) != 0) = true := bne_iff_ne.mpr c14
           obtain ⟨ji15, hji15⟩ : ∃ j_ : Int, (Int.tmod a1 (rd l0_0 0)) = j_ := ⟨_, rfl⟩
           replace H : (if 0 ≤ (ji15) then (if (ji15) < (t626.length : Int) then (some (decide ((rd t626 (ji15)) ≤ a1))) else (none)) else (none)) = some r := by first | (rw [hji15] at H; exact H) | (simp only [hji15] at H ⊢; exact H)
           (try rw [hji15] at A5)
           (try rw [hji15] at A13)
           by_cases c16 : 0 ≤ (ji15)
           · rw [if_pos c16] at H
             have c16b0 : decide (0 ≤ (ji15)) = true := decide_eq_true c16
             clear c16
             by_cases c17 : (ji15) < (t626.length : Int)
             · rw [if_pos c17] at H
               have c17b0 : decide ((ji15) < (t626.length : Int)) = true := decide_eq_true c17
               clear c17
               as_aux_lemma =>
                obtain rfl := Option.some.inj H
                go_enter Try.func64, Try.ntmps64
                try go_wp2_with (first | ((with_reducible refine gate_dst (N := 2) rfl ?_); refine box_event ?hg (N := 2) ?hd (cs := #[.slice A0_0 l0_0.length c0_0]) (t := 44) ?hr ?_; (case hd => rfl); (case hg => rfl); (case hr => first | (go_simp; done) | (go_simp; rfl)); intro gb623 hg w18 hbox hb; have n0_ := Aside0.mk (below_step (bl_ HB.out) hb); have n1_ := Aside0.mk (hbox); have n2_ := Aside0.mk ((by rw [hg]; exact (below_size (bl_ HB.out)) : w.heap.size ≤ gb623)); have n3_ := Aside0.mk ((by rw [hg]; exact (below_size (bl_ HB.out)) : w.heap.size ≤ gb623)); clear HB; have HB := n0_; have BK623 := n1_; have GW623 := n2_; have GE623 := n3_; clear n0_ n1_ n2_ n3_; clear hb hbox hg; have hcz19_0 : w18.cell? ⟨gb623, 0, none⟩ = some (.slice A0_0 l0_0.length c0_0) := (blk_cell BK623.out 0).trans rfl; have hfz19_0 := blk_frozen BK623.out 0) | (go_at_call 57; (with_reducible refine (impl_IsSemigroup.calls k _ _ l0_0 true _ ?side1 ?side2 A5.out).mono ?_); (case side1 => exact ce_ ((Kd.C_below HR0_0.out HB.out))); (case side2 => exact HC0_0.out); rintro e w20 ⟨rfl, hb⟩; have n0_ := Aside0.mk (blk_below (g := gb623) (o := .cells #[.slice A0_0 l0_0.length c0_0] 44 (0, 0)) (be_ BK623.out) hb); have n1_ := Aside0.mk (below_step (by repeat (first | (with_reducible first | exact HB.out | apply below_alloc | apply pw_below_drewN | apply below_drew1 | refine below_set ?_ GE623.out) | exact HB.out)) hb); clear BK623; clear HB; have BK623 := n0_; have HB := n1_; clear n0_ n1_; (try clear hb); (try clear hb2); (try clear hk); (try clear hi)))
                have n0_ := Aside0.mk (blk_drew BK623.out)
                have n1_ := Aside0.mk (below_drew1 HB.out)
                clear BK623
                clear HB
                have BK623 := n0_
                have HB := n1_
                clear n0_ n1_
                have p625 : 0 ≤ (0 : Int) := (by omega)
                have q625 : 0 < (l0_0.length : Int) := of_decide_eq_true (by first | (with_reducible assumption) | assumption)
                obtain ⟨ad625, e625, hx625_0⟩ := Kd.at_int HR0_0.out 0 p625 q625
                have hw625_0 := hx625_0
                (try rw [show ((0 : Int)).toNat = 0 from rfl] at hw625_0)
                (try rw [show 0 * 1 = 0 from rfl] at hw625_0)
                (try rw [Addr.add_zero'] at hw625_0)
                cases e625
                have qi625 : (0 < l0_0.length) = True := eq_true (by omega)
                (try rw [show ((0 : Int)).toNat = 0 from rfl] at hx625_0)
                (try rw [Addr.add_zero'] at hx625_0)
                (try replace hx625_0 := (HB.out.cell (World.block_lt_of_cell? w _ hx625_0)).trans hx625_0)
                replace p625 := eq_true p625
                replace q625 := eq_true q625
                have p629 : 0 ≤ (0 : Int) := (by omega)
                have q629 : 0 < (l0_0.length : Int) := of_decide_eq_true (by first | (with_reducible assumption) | assumption)
                obtain ⟨ad629, e629, hx629_0⟩ := Kd.at_int HR0_0.out 0 p629 q629
                have hw629_0 := hx629_0
                (try rw [show ((0 : Int)).toNat = 0 from rfl] at hw629_0)
                (try rw [show 0 * 1 = 0 from rfl] at hw629_0)
                (try rw [Addr.add_zero'] at hw629_0)
                obtain rfl : ad625 = ad629 := (by injection e629)
                have qi629 : (0 < l0_0.length) = True := eq_true (by omega)
                (try rw [show ((0 : Int)).toNat = 0 from rfl] at hx629_0)
                (try rw [Addr.add_zero'] at hx629_0)
                (try replace hx629_0 := (HB.out.cell (World.block_lt_of_cell? w _ hx629_0)).trans hx629_0)
                replace p629 := eq_true p629
                replace q629 := eq_true q629
                refine start_ (n := 22) (S := fun w' => w'.cell? ⟨gb623, 0, none⟩ = some (.slice (some ad625) l0_0.length c0_0) ∧ w'.cell? ad625 = some (.int .i64 (rd l0_0 0)) ∧ w'.cell? ad625 = some (.int .i64 (rd l0_0 0)) ∧ True) (ds := []) (B_ 0 22) (by kernel_rfl) rfl rfl ⟨(blk_cell BK623.out 0).trans rfl, ((HB.out.cell (World.block_lt_of_cell? w _ hw625_0)).trans hw625_0), ((HB.out.cell (World.block_lt_of_cell? w _ hw629_0)).trans hw629_0), trivial⟩ (fun hHeld => ?_); refine with_tabW impl_Contains.tab3 impl_Contains.bits3 (fun HT_ HW_ => ?_)
                generalize w20.drew = w21 at BK623 HB hx625_0 hx629_0 hHeld ⊢
                refine pu_ HT_ 0 12 (B_ 1 22) ?_
                refine pu_ HT_ 1 13 (B_ 3 22) ?_
                refine pu_ HT_ 2 14 (B_ 7 22) ?_
                refine pu_ HT_ 3 15 (B_ 15 22) ?_
                refine pu_ HT_ 5 17 (B_ 47 22) ?_
                refine pu_ HT_ 10 22 (B_ 1071 22) ?_
                refine pu_ HT_ 11 23 (B_ 3119 22) ?_
                refine pu_ HT_ 18 30 (B_ 265263 22) ?_
                refine take_ (i := 4) (N := some 16) (v := ?_) (a' := ?_) (B_ 265279 22) rfl rfl (take_ofW HT_.out HW_.out (by kernel_rfl)) (fun _ _ _ h => h) (Or.inl ⟨by rfl, ?_⟩) hHeld ?_ ?_
                rotate_left
                · rintro w' ⟨s0, s1, s2, s3⟩
                  go_simp
                  with_reducible rfl
                rotate_left
                · simp only [Act.put, z1_, z2_, z3_, i64_w, i32_w]
                  rfl
                refine take_ (i := 6) (N := some 18) (v := ?_) (a' := ?_) (B_ 265343 22) rfl rfl (take_ofW HT_.out HW_.out (by kernel_rfl)) (fun _ _ _ h => h) (Or.inl ⟨by rfl, ?_⟩) hHeld ?_ ?_
                rotate_left
                · rintro w' ⟨s0, s1, s2, s3⟩
                  go_simp
                  with_reducible rfl
                rotate_left
                · simp only [Act.put, z1_, z2_, z3_, i64_w, i32_w]
                  rfl
                refine pu_ HT_ 7 19 (B_ 265471 22) ?_
                refine take_ (i := 8) (N := some 20) (v := ?_) (a' := ?_) (B_ 265727 22) rfl rfl (take_ofW HT_.out HW_.out (by kernel_rfl)) (fun _ _ _ h => h) (Or.inl ⟨by rfl, ?_⟩) hHeld ?_ ?_
                rotate_left
                · rintro w' ⟨s0, s1, s2, s3⟩
                  go_simp
                  with_reducible rfl
                rotate_left
                · simp only [Act.put, z1_, z2_, z3_, i64_w, i32_w]
                  rfl
                refine take_ (i := 12) (N := some 24) (v := ?_) (a' := ?_) (B_ 269823 22) rfl rfl (take_ofW HT_.out HW_.out (by kernel_rfl)) (fun _ _ _ h => h) (Or.inl ⟨by rfl, ?_⟩) hHeld ?_ ?_
                rotate_left
                · rintro w' ⟨s0, s1, s2, s3⟩
                  go_simp
                  with_reducible rfl
                rotate_left
                · simp only [Act.put, z1_, z2_, z3_, i64_w, i32_w]
                  rfl
                refine pu_ HT_ 13 25 (B_ 278015 22) ?_
                refine take_ (i := 14) (N := some 26) (v := ?_) (a' := ?_) (B_ 294399 22) rfl rfl (take_ofW HT_.out HW_.out (by kernel_rfl)) (fun _ _ _ h => h) (Or.inl ⟨by rfl, ?_⟩) hHeld ?_ ?_
                rotate_left
                · rintro w' ⟨s0, s1, s2, s3⟩
                  go_simp
                  with_reducible rfl
                rotate_left
                · simp only [Act.put, z1_, z2_, z3_, i64_w, i32_w]
                  rfl
                refine pu_ HT_ 15 27 (B_ 327167 22) ?_
                refine one_ (i := 9) (N := some 21) (B_ 327679 22) rfl rfl (one_of HT_.out (by kernel_rfl)) (by decide) (fun K hK => ?_)
                refine goes_ Try.func79 (by kernel_rfl) rfl #[.slice (some ad625) l0_0.length c0_0, .int .i64 (rd l0_0 0)] (by rfl) rfl rfl (by (try simp only [List.map_toArray, List.map_cons, List.map_nil]); first | done | rfl | (simp only [List.length_drop, List.length_take]; rfl)) ?_
                with_reducible refine (impl_leasts.calls k _ _ l0_0 (rd l0_0 0) t626 _ ?side1 ?side2 A13.out).mono ?_
                (case side1 => exact ce_ ((Kd.C_below HR0_0.out HB.out)))
                (case side2 => exact HC0_0.out)
                rintro e w22 ⟨v627, rfl, ho0, hb⟩
                refine ⟨_, rfl, ?_⟩
                have n0_ := Aside0.mk (Kd.R_lower ho0 (below_size (by repeat (first | (with_reducible first | exact HB.out | apply below_alloc | apply pw_below_drewN | apply below_drew1 | refine below_set ?_ GE623.out) | exact HB.out))))
                have n1_ := Aside0.mk (blk_below (g := gb623) (o := .cells #[.slice (some ad625) l0_0.length c0_0] 44 (0, 0)) (be_ BK623.out) hb)
                have n2_ := Aside0.mk (below_step (by repeat (first | (with_reducible first | exact HB.out | apply below_alloc | apply pw_below_drewN | apply below_drew1 | refine below_set ?_ GE623.out) | exact HB.out)) hb)
                clear BK623
                clear HB
                have HO628 := n0_
                have BK623 := n1_
                have HB := n2_
                clear n0_ n1_ n2_
                (try clear hb)
                (try clear hb2)
                (try clear hk)
                (try clear hi)
                (try clear ho0)
                obtain ⟨Ao23, co23, eo23⟩ := Kd.R_slice HO628.out
                (first | subst eo23 | (injection eo23 with f1_ f2_ f3_; have f4_ := f1_.symm; have f5_ := f3_.symm; clear f1_ f2_ f3_; subst f4_; subst f5_))
                have p630 : 0 ≤ ((ji15) : Int) := of_decide_eq_true (by first | (with_reducible assumption) | assumption)
                have q630 : (ji15) < (t626.length : Int) := of_decide_eq_true (by first | (with_reducible assumption) | assumption)
                obtain ⟨ad630, e630, hx630_0⟩ := Kd.at_int (Kd.R_reads' HO628.out).2.2 (ji15) p630 q630
                cases e630
                replace p630 := eq_true p630
                replace q630 := eq_true q630
                refine hK.out _ _ ⟨(blk_cell BK623.out 0).trans rfl, ((HB.out.cell (World.block_lt_of_cell? w _ hw625_0)).trans hw625_0), ((HB.out.cell (World.block_lt_of_cell? w _ hw629_0)).trans hw629_0), trivial⟩ (fun _ => ?_); refine restart_ (S' := fun w' => w'.cell? ⟨gb623, 0, none⟩ = some (.slice (some ad625) l0_0.length c0_0) ∧ w'.cell? ad625 = some (.int .i64 (rd l0_0 0)) ∧ w'.cell? ad625 = some (.int .i64 (rd l0_0 0)) ∧ w'.cell? (ad630.add ((ji15)).toNat) = some (.int .i64 (rd t626 (ji15)))) (fun _ h => ⟨h.1, h.2.1, h.2.2.1, trivial⟩) ⟨(blk_cell BK623.out 0).trans rfl, ((HB.out.cell (World.block_lt_of_cell? w _ hw625_0)).trans hw625_0), ((HB.out.cell (World.block_lt_of_cell? w _ hw629_0)).trans hw629_0), hx630_0⟩ (fun hHeld => ?_)
                clear hK K
                refine norm_ (a' := ?_) ?_ ?_
                rotate_left
                · show Act.put _ (some 21) _ = _
                  simp only [Act.put, z1_, z2_, z3_, i64_w, i32_w]
                  rfl
                refine pu_ HT_ 16 28 (B_ 393215 22) ?_
                refine take_ (i := 17) (N := some 29) (v := ?_) (a' := ?_) (B_ 524287 22) rfl rfl (take_ofW HT_.out HW_.out (by kernel_rfl)) (fun _ _ _ h => h) (Or.inl ⟨by rfl, ?_⟩) hHeld ?_ ?_
                rotate_left
                · rintro w' ⟨s0, s1, s2, s3⟩
                  go_simp
                  with_reducible rfl
                rotate_left
                · simp only [Act.put, z1_, z2_, z3_, i64_w, i32_w]
                  rfl
                refine pu_ HT_ 19 31 (B_ 1048575 22) ?_
                refine pu_ HT_ 20 32 (B_ 2097151 22) ?_
                refine pu_ HT_ 21 4 (B_ 4194303 22) ?_
                refine done_ (done_of HT_.out (by kernel_rfl)) ?_
                try go_wp2
                go_ret
                exact ⟨by first | rfl | (simp [errW_none, errW_some] <;> rfl) | (simp only [← hji15]; first | rfl | (simp [errW_none, errW_some] <;> rfl)) | (simp [*, errW_none, errW_some] <;> rfl), by repeat (first | (with_reducible first | exact HB.out | apply below_alloc | apply pw_below_drewN | apply below_drew1 | refine below_set ?_ GE623.out) | exact HB.out)⟩
             · rw [if_neg c17] at H
               exact absurd H (by simp)
           · rw [if_neg c16] at H
             exact absurd H (by simp)
       · rw [if_neg c12] at H
         exact absurd H (by simp)
   · replace c6 := Bool.eq_false_iff.mpr c6
     subst c6
     have H1 : (some false) = some r := by rw [if_neg (show ¬ (false = true) by decide)] at H; exact H
     clear H
     have H := H1
     clear H1
     as_aux_lemma =>
      obtain rfl := Option.some.inj H
      go_enter Try.func64, Try.ntmps64
      go_wp2_with (first | ((with_reducible refine gate_dst (N := 2) rfl ?_); refine box_event ?hg (N := 2) ?hd (cs := #[.slice A0_0 l0_0.length c0_0]) (t := 44) ?hr ?_; (case hd => rfl); (case hg => rfl); (case hr => first | (go_simp; done) | (go_simp; rfl)); intro gb623 hg w24 hbox hb; have n0_ := Aside0.mk (below_step (bl_ HB.out) hb); have n1_ := Aside0.mk (hbox); have n2_ := Aside0.mk ((by rw [hg]; exact (below_size (bl_ HB.out)) : w.heap.size ≤ gb623)); have n3_ := Aside0.mk ((by rw [hg]; exact (below_size (bl_ HB.out)) : w.heap.size ≤ gb623)); clear HB; have HB := n0_; have BK623 := n1_; have GW623 := n2_; have GE623 := n3_; clear n0_ n1_ n2_ n3_; clear hb hbox hg; have hcz25_0 : w24.cell? ⟨gb623, 0, none⟩ = some (.slice A0_0 l0_0.length c0_0) := (blk_cell BK623.out 0).trans rfl; have hfz25_0 := blk_frozen BK623.out 0) | (go_at_call 57; (with_reducible refine (impl_IsSemigroup.calls k _ _ l0_0 false _ ?side1 ?side2 A5.out).mono ?_); (case side1 => exact ce_ ((Kd.C_below HR0_0.out HB.out))); (case side2 => exact HC0_0.out); rintro e w26 ⟨rfl, hb⟩; have n0_ := Aside0.mk (blk_below (g := gb623) (o := .cells #[.slice A0_0 l0_0.length c0_0] 44 (0, 0)) (be_ BK623.out) hb); have n1_ := Aside0.mk (below_step (by repeat (first | (with_reducible first | exact HB.out | apply below_alloc | apply pw_below_drewN | apply below_drew1 | refine below_set ?_ GE623.out) | exact HB.out)) hb); clear BK623; clear HB; have BK623 := n0_; have HB := n1_; clear n0_ n1_; (try clear hb); (try clear hb2); (try clear hk); (try clear hi)))
      go_ret
      exact ⟨by first | rfl | (simp [errW_none, errW_some] <;> rfl) | (simp [*, errW_none, errW_some] <;> rfl), by repeat (first | (with_reducible first | exact HB.out | apply below_alloc | apply pw_below_drewN | apply below_drew1 | refine below_set ?_ GE623.out) | exact HB.out)⟩
def slices_Index_int_int.l0 : Nat → List Int → Int → Int → Int → Option (Int)
 | 0, _, _, _, _ => none
 | k + 1, x0, x1, x7, x8 => if x8 < x7 then (if 0 ≤ x8 then (if x8 < (x0.length : Int) then (if x1 = (rd x0 x8) then (some x8) else (slices_Index_int_int.l0 k x0 x1 x7 (wrap64 (x8 + 1)))) else (none)) else (none)) else (some (-1))
def slices_Index_int_int.f (k : Nat) (l0 : List Int) (a1 : Int) : Option (Int) := slices_Index_int_int.l0 k l0 a1 (l0.length : Int) 0
set_option maxHeartbeats 8000000 in
set_option maxRecDepth 100000 in
theorem slices_Index_int_int.calls (k : Nat) (A0 : Option Addr) (c0 : Nat) (l0 : List Int) (a1 : Int) (r : Int) (w : World) (hr0 : Kd.C (Kd.int .i64) w A0 l0.length l0) (hc0 : l0.length ≤ c0) (h : slices_Index_int_int.f k l0 a1 = some r) :
 Calls Try.prog 83 #[.slice A0 l0.length c0, .int .i64 a1] w fun e w' => e = .returned (.int .i64 r) ∧ Drawn0 w w' := by
 have HR0 := Aside0.mk hr0
 have HC0 := Aside0.mk hc0
 clear hr0 hc0
 have H : (slices_Index_int_int.l0 k l0 a1 (l0.length : Int) 0) = some r := h
 clear h
 have H' := Aside0.mk H
 clear H
 go_enter Try.func83, Try.ntmps83
 go_wp2
 go_loopg [8] k (fun kq v8 w' => ∃ (x8_1 : Int), v8 = .int .i64 x8_1 ∧ Aside0 (slices_Index_int_int.l0 kq l0 a1 (l0.length : Int) x8_1 = some r) ∧ Aside0 (kq ≤ k) ∧ Drawn0 w w')
 case atStart => exact ⟨(0), (by first | rfl | (simp; done) | (simp [*]; done)), H', ⟨Nat.le_refl _⟩, by repeat (first | exact Drawn0.refl _ | apply Drawn0.step)⟩
 case round =>
  clear H'
  try clear p2
  obtain ⟨x8_1, rfl, HA, HK1, ⟨m1, rfl⟩⟩ := hrel
  cases gk with
  | zero => exact absurd HA.out (by simp [slices_Index_int_int.l0])
  | succ k1 =>
   have H := HA.out
   clear HA
   simp only [slices_Index_int_int.l0] at H
   by_cases c3 : x8_1 < (l0.length : Int)
   · rw [if_pos c3] at H
     have c3b0 : decide (x8_1 < (l0.length : Int)) = true := decide_eq_true c3
     clear c3
     by_cases c4 : 0 ≤ x8_1
     · rw [if_pos c4] at H
       have c4b0 : decide (0 ≤ x8_1) = true := decide_eq_true c4
       clear c4
       by_cases c5 : x8_1 < (l0.length : Int)
       · rw [if_pos c5] at H
         have c5b0 : decide (x8_1 < (l0.length : Int)) = true := decide_eq_true c5
         clear c5
         by_cases c6 : a1 = (rd l0 x8_1)
         · rw [if_pos c6] at H
           have c6b0 : (a1 == (rd l0 x8_1)) = true := beq_iff_eq.mpr c6
           have c6b1 : (a1 != (rd l0 x8_1)) = false := bne_eq_false_iff_eq.mpr c6
           clear c6
           as_aux_lemma =>
            obtain rfl := Option.some.inj H
            have p631 : 0 ≤ (x8_1 : Int) := of_decide_eq_true (by first | (with_reducible assumption) | assumption)
            have q631 : x8_1 < (l0.length : Int) := of_decide_eq_true (by first | (with_reducible assumption) | assumption)
            obtain ⟨ad631, e631, hx631_0⟩ := Kd.at_int HR0.out x8_1 p631 q631
            cases e631
            replace p631 := eq_true p631
            replace q631 := eq_true q631
            go_wp2
            go_ret
            exact ⟨by first | rfl | (simp; done) | (simp [*]; done), by repeat (first | exact Drawn0.refl _ | apply Drawn0.step)⟩
         · rw [if_neg c6] at H
           have c6b0 : (a1 == (rd l0 x8_1)) = false := beq_eq_false_iff_ne.mpr c6
           have c6b1 : (a1 != (rd l0 x8_1)) = true := bne_iff_ne.mpr c6
           as_aux_lemma =>
            have H' := Aside0.mk H
            clear H
            have p631 : 0 ≤ (x8_1 : Int) := of_decide_eq_true (by first | (with_reducible assumption) | assumption)
            have q631 : x8_1 < (l0.length : Int) := of_decide_eq_true (by first | (with_reducible assumption) | assumption)
            obtain ⟨ad631, e631, hx631_0⟩ := Kd.at_int HR0.out x8_1 p631 q631
            cases e631
            replace p631 := eq_true p631
            replace q631 := eq_true q631
            go_wp2
            go_roundg k1
            case measure => have := HK1.out; omega
            case rel => exact ⟨(wrap64 (x8_1 + 1)), (by first | rfl | (simp; done) | (simp [*]; done)), H', ⟨by have := HK1.out; omega⟩, by repeat (first | exact Drawn0.refl _ | apply Drawn0.step)⟩
       · rw [if_neg c5] at H
         exact absurd H (by simp)
     · rw [if_neg c4] at H
       exact absurd H (by simp)
   · rw [if_neg c3] at H
     have c3b0 : decide (x8_1 < (l0.length : Int)) = false := decide_eq_false c3
     clear c3
     as_aux_lemma =>
      obtain rfl := Option.some.inj H
      go_wp2
      go_ret
      exact ⟨by first | rfl | (simp; done) | (simp [*]; done), by repeat (first | exact Drawn0.refl _ | apply Drawn0.step)⟩
def slices_Contains_int_int.f (k : Nat) (l0 : List Int) (a1 : Int) : Option (Bool) := (slices_Index_int_int.f k l0 a1).bind fun t632 => (some (decide (t632 ≥ 0)))
set_option maxHeartbeats 8000000 in
set_option maxRecDepth 100000 in
theorem slices_Contains_int_int.calls (k : Nat) (A0 : Option Addr) (c0 : Nat) (l0 : List Int) (a1 : Int) (r : Bool) (w : World) (hr0 : Kd.C (Kd.int .i64) w A0 l0.length l0) (hc0 : l0.length ≤ c0) (h : slices_Contains_int_int.f k l0 a1 = some r) :
 Calls Try.prog 65 #[.slice A0 l0.length c0, .int .i64 a1] w fun e w' => e = .returned (.bool r) ∧ Drawn0 w w' := by
 have HR0 := Aside0.mk hr0
 have HC0 := Aside0.mk hc0
 clear hr0 hc0
 have H : ((slices_Index_int_int.f k l0 a1).bind fun t632 => (some (decide (t632 ≥ 0)))) = some r := h
 clear h
 replace H := Option.bind_eq_some_iff.mp H
 obtain ⟨t632, A30, H⟩ := H
 replace H : (some (decide (t632 ≥ 0))) = some r := H
 have A3 := Aside0.mk A30
 clear A30
 as_aux_lemma =>
  obtain rfl := Option.some.inj H
  go_enter Try.func65, Try.ntmps65
  go_wp2_with (first | ((with_reducible refine gate_callee (f := 83) rfl ?_); refine goesL_ (some 7) rfl rfl Try.func83 (by kernel_rfl) rfl #[.slice A0 l0.length c0, .int .i64 a1] rfl (by (try simp only [List.map_toArray, List.map_cons, List.map_nil]); first | done | rfl | (simp only [List.length_drop, List.length_take]; rfl)) ?_; (with_reducible refine (slices_Index_int_int.calls k _ _ l0 a1 t632 _ ?side1 ?side2 A3.out).mono ?_); (case side1 => exact ce_ (HR0.out)); (case side2 => exact HC0.out); rintro e w' ⟨rfl, ⟨nd, rfl⟩⟩; refine ⟨_, rfl, ?_⟩))
  go_ret
  exact ⟨by first | rfl | (simp; done) | (simp [*]; done), by repeat (first | exact Drawn0.refl _ | apply Drawn0.step)⟩
end Go.Proofs.Ythkhpejggdnkfaa.PA
end
section
namespace Go.Proofs.Ythkhpejggdnkfaa.PA
open Go.RowKit Go.Proofs.YthkhpejggdnkfaaW.PrintWords Go.Proofs.YthkhpejggdnkfaaW.PrintLast Go.Proofs.YthkhpejggdnkfaaW.PrintMore
set_option linter.unusedVariables false
set_option linter.unusedSimpArgs false
mutual
def impl_GlueOf.j0 : Nat → Int → Int → Bool → List Int → List Int → Option (List Int × Bool)
 | 0, _, _, _, _, _ => none
 | k + 1, x2, x3, x36, x634000, x635000 => if x36 = true then (some (([] : List Int), false)) else ((impl_within.f x2 1 60).bind fun t640 => (if t640 = true then ((impl_within.f x3 1 60).bind fun t641 => (if t641 = true then ((impl_GcdOf.f k x2 x3).bind fun t642 => (impl_GlueOf.j1 k x2 x3 (t642 != 1) x634000 x635000)) else (impl_GlueOf.j1 k x2 x3 true x634000 x635000))) else (impl_GlueOf.j1 k x2 x3 true x634000 x635000)))
def impl_GlueOf.j1 : Nat → Int → Int → Bool → List Int → List Int → Option (List Int × Bool)
 | 0, _, _, _, _, _ => none
 | k + 1, x2, x3, x51, x634000, x635000 => if x51 = true then (some (([] : List Int), false)) else (impl_GlueOf.l0 k x2 x3 (([] : List Int)) x634000 (x634000.length : Int) 0 x635000)
def impl_GlueOf.l0 : Nat → Int → Int → List Int → List Int → Int → Int → List Int → Option (List Int × Bool)
 | 0, _, _, _, _, _, _, _ => none
 | k + 1, x2, x3, x10, x55, x56, x57, x635000 => if x57 < x56 then (if 0 ≤ x57 then (if x57 < (x55.length : Int) then (if x10.length < 17592186044416 then (impl_GlueOf.l0 k x2 x3 (x10 ++ [wrap64 (x2 * (rd x55 x57))]) x55 x56 (wrap64 (x57 + 1)) x635000) else (none)) else (none)) else (none)) else (impl_GlueOf.l1 k x3 x10 x635000 (x635000.length : Int) 0)
def impl_GlueOf.l1 : Nat → Int → List Int → List Int → Int → Int → Option (List Int × Bool)
 | 0, _, _, _, _, _ => none
 | k + 1, x3, x10, x69, x70, x71 => if x71 < x70 then (if 0 ≤ x71 then (if x71 < (x69.length : Int) then (if x10.length < 17592186044416 then (impl_GlueOf.l1 k x3 (x10 ++ [wrap64 (x3 * (rd x69 x71))]) x69 x70 (wrap64 (x71 + 1))) else (none)) else (none)) else (none)) else ((impl_FromGens.f k x10).bind fun bt654 => (some (bt654.1, bt654.2)))
end
def impl_GlueOf.f (k : Nat) (l0_0 : List Int) (l1_0 : List Int) (a2 : Int) (a3 : Int) : Option (List Int × Bool) := (impl_Contains.f k l1_0 a2).bind fun t636 => (if t636 = true then ((slices_Contains_int_int.f k l1_0 a2).bind fun t637 => (if t637 = true then (impl_GlueOf.j0 k a2 a3 true l0_0 l1_0) else ((impl_Contains.f k l0_0 a3).bind fun t638 => (if t638 = true then ((slices_Contains_int_int.f k l0_0 a3).bind fun t639 => (impl_GlueOf.j0 k a2 a3 t639 l0_0 l1_0)) else (impl_GlueOf.j0 k a2 a3 true l0_0 l1_0))))) else (impl_GlueOf.j0 k a2 a3 true l0_0 l1_0))
set_option maxHeartbeats 8000000 in
set_option maxRecDepth 100000 in
theorem impl_GlueOf.calls (k : Nat) (A0_0 : Option Addr) (c0_0 : Nat) (l0_0 : List Int) (A1_0 : Option Addr) (c1_0 : Nat) (l1_0 : List Int) (a2 : Int) (a3 : Int) (r1 : List Int) (r2 : Bool) (w : World) (hr0_0 : Kd.C (Kd.int .i64) w A0_0 l0_0.length l0_0) (hc0_0 : l0_0.length ≤ c0_0) (hr1_0 : Kd.C (Kd.int .i64) w A1_0 l1_0.length l1_0) (hc1_0 : l1_0.length ≤ c1_0) (h : impl_GlueOf.f k l0_0 l1_0 a2 a3 = some (r1, r2)) :
 Calls Try.prog 33 #[.agg #[.slice A0_0 l0_0.length c0_0], .agg #[.slice A1_0 l1_0.length c1_0], .int .i64 a2, .int .i64 a3] w fun e w' => ∃ v0_ : Value, e = .returned (.tuple #[.agg #[v0_], .bool r2]) ∧ Kd.R (Kd.int .i64) 3 w' w.heap.size (fun _ => True) v0_ r1 ∧ Below w.heap.size w w' := by
 have hu44 := Try.underlying44
 have HR0_0 := Aside0.mk hr0_0
 have HC0_0 := Aside0.mk hc0_0
 clear hr0_0 hc0_0
 have HR1_0 := Aside0.mk hr1_0
 have HC1_0 := Aside0.mk hc1_0
 clear hr1_0 hc1_0
 have HB := Aside0.mk (Below.refl w.heap.size w)
 have H : ((impl_Contains.f k l1_0 a2).bind fun t636 => (if t636 = true then ((slices_Contains_int_int.f k l1_0 a2).bind fun t637 => (if t637 = true then (impl_GlueOf.j0 k a2 a3 true l0_0 l1_0) else ((impl_Contains.f k l0_0 a3).bind fun t638 => (if t638 = true then ((slices_Contains_int_int.f k l0_0 a3).bind fun t639 => (impl_GlueOf.j0 k a2 a3 t639 l0_0 l1_0)) else (impl_GlueOf.j0 k a2 a3 true l0_0 l1_0))))) else (impl_GlueOf.j0 k a2 a3 true l0_0 l1_0))) = some (r1, r2) := h
 clear h
 have HC5 := Aside0.mk H
 clear H
 go_enter Try.func33, Try.ntmps33
 go_upto_region 1 with (first | ((with_reducible refine gate_dst (N := 4) rfl ?_); refine box_event ?hg (N := 4) ?hd (cs := #[.slice A0_0 l0_0.length c0_0]) (t := 44) ?hr ?_; (case hd => rfl); (case hg => rfl); (case hr => first | (go_simp; done) | (go_simp; rfl)); intro gb633 hg w6 hbox hb; have n0_ := Aside0.mk (below_step (bl_ HB.out) hb); have n1_ := Aside0.mk (hbox); have n2_ := Aside0.mk ((by rw [hg]; exact (below_size (bl_ HB.out)) : w.heap.size ≤ gb633)); have n3_ := Aside0.mk ((by rw [hg]; exact (below_size (bl_ HB.out)) : w.heap.size ≤ gb633)); clear HB; have HB := n0_; have BK633 := n1_; have GW633 := n2_; have GE633 := n3_; clear n0_ n1_ n2_ n3_; clear hb hbox hg) | ((with_reducible refine gate_dst (N := 5) rfl ?_); refine box_event ?hg (N := 5) ?hd (cs := #[.slice A1_0 l1_0.length c1_0]) (t := 44) ?hr ?_; (case hd => rfl); (case hg => rfl); (case hr => first | (go_simp; done) | (go_simp; rfl)); intro gb634 hg w7 hbox hb; have n0_ := Aside0.mk (blk_below (g := gb633) (o := .cells #[.slice A0_0 l0_0.length c0_0] 44 (0, 0)) (be_ BK633.out) hb); have n1_ := Aside0.mk (below_step (by repeat (first | (with_reducible first | exact HB.out | apply below_alloc | apply pw_below_drewN | apply below_drew1 | refine below_set ?_ GE633.out) | exact HB.out)) hb); have n2_ := Aside0.mk (hbox); have n3_ := Aside0.mk ((by rw [hg]; exact (below_size (by repeat (first | (with_reducible first | exact HB.out | apply below_alloc | apply pw_below_drewN | apply below_drew1 | refine below_set ?_ GE633.out) | exact HB.out))) : w.heap.size ≤ gb634)); have n4_ := Aside0.mk ((by rw [hg]; exact (below_size (by repeat (first | (with_reducible first | exact HB.out | apply below_alloc | apply pw_below_drewN | apply below_drew1 | refine below_set ?_ GE633.out) | exact HB.out))) : w.heap.size ≤ gb634)); have n5_ := Aside0.mk ((by rw [hg]; exact Nat.ne_of_lt (blk_lt (g := gb633) (o := .cells #[.slice A0_0 l0_0.length c0_0] 44 (0, 0)) (be_ BK633.out)) : gb633 ≠ gb634)); have n6_ := Aside0.mk ((by rw [hg]; exact Nat.ne_of_gt (blk_lt (g := gb633) (o := .cells #[.slice A0_0 l0_0.length c0_0] 44 (0, 0)) (be_ BK633.out)) : gb634 ≠ gb633)); clear BK633; clear HB; have BK633 := n0_; have HB := n1_; have BK634 := n2_; have GW634 := n3_; have GE634 := n4_; have NB633_634 := n5_; have NB634_633 := n6_; clear n0_ n1_ n2_ n3_ n4_ n5_ n6_; clear hb hbox hg) | ((with_reducible refine gate_dst (N := 8) rfl ?_); refine box_event ?hg (N := 8) ?hd (cs := #[.slice none 0 0]) (t := 44) ?hr ?_; (case hd => rfl); (case hg => rfl); (case hr => first | (go_simp; done) | (go_simp; rfl)); intro gb635 hg w8 hbox hb; have n0_ := Aside0.mk (blk_below (g := gb633) (o := .cells #[.slice A0_0 l0_0.length c0_0] 44 (0, 0)) (be_ BK633.out) hb); have n1_ := Aside0.mk (blk_below (g := gb634) (o := .cells #[.slice A1_0 l1_0.length c1_0] 44 (0, 0)) (be_ BK634.out) hb); have n2_ := Aside0.mk (below_step (by repeat (first | (with_reducible first | exact HB.out | apply below_alloc | apply pw_below_drewN | apply below_drew1 | refine below_set ?_ GE633.out | refine below_set ?_ GE634.out) | exact HB.out)) hb); have n3_ := Aside0.mk (hbox); have n4_ := Aside0.mk ((by rw [hg]; exact (below_size (by repeat (first | (with_reducible first | exact HB.out | apply below_alloc | apply pw_below_drewN | apply below_drew1 | refine below_set ?_ GE633.out | refine below_set ?_ GE634.out) | exact HB.out))) : w.heap.size ≤ gb635)); have n5_ := Aside0.mk ((by rw [hg]; exact (below_size (by repeat (first | (with_reducible first | exact HB.out | apply below_alloc | apply pw_below_drewN | apply below_drew1 | refine below_set ?_ GE633.out | refine below_set ?_ GE634.out) | exact HB.out))) : w.heap.size ≤ gb635)); have n6_ := Aside0.mk ((by rw [hg]; exact Nat.ne_of_lt (blk_lt (g := gb633) (o := .cells #[.slice A0_0 l0_0.length c0_0] 44 (0, 0)) (be_ BK633.out)) : gb633 ≠ gb635)); have n7_ := Aside0.mk ((by rw [hg]; exact Nat.ne_of_gt (blk_lt (g := gb633) (o := .cells #[.slice A0_0 l0_0.length c0_0] 44 (0, 0)) (be_ BK633.out)) : gb635 ≠ gb633)); have n8_ := Aside0.mk ((by rw [hg]; exact Nat.ne_of_lt (blk_lt (g := gb634) (o := .cells #[.slice A1_0 l1_0.length c1_0] 44 (0, 0)) (be_ BK634.out)) : gb634 ≠ gb635)); have n9_ := Aside0.mk ((by rw [hg]; exact Nat.ne_of_gt (blk_lt (g := gb634) (o := .cells #[.slice A1_0 l1_0.length c1_0] 44 (0, 0)) (be_ BK634.out)) : gb635 ≠ gb634)); clear BK633; clear BK634; clear HB; have BK633 := n0_; have BK634 := n1_; have HB := n2_; have BK635 := n3_; have GW635 := n4_; have GE635 := n5_; have NB633_635 := n6_; have NB635_633 := n7_; have NB634_635 := n8_; have NB635_634 := n9_; clear n0_ n1_ n2_ n3_ n4_ n5_ n6_ n7_ n8_ n9_; clear hb hbox hg))
 (try simp only [Act.put, z1_, z2_, z3_])
 go_cut [36] (fun v36 wc => ∃ (kq : Nat) (x36_4 : Bool), v36 = .bool x36_4 ∧ Aside0 (impl_GlueOf.j0 kq a2 a3 x36_4 l0_0 l1_0 = some (r1, r2)) ∧ Aside0 (kq ≤ k) ∧ Aside0 (wc.heap[gb633]? = some (.cells #[(.slice A0_0 l0_0.length c0_0)] 44 (0, 0))) ∧ Aside0 (wc.heap[gb634]? = some (.cells #[(.slice A1_0 l1_0.length c1_0)] 44 (0, 0))) ∧ Aside0 (wc.heap[gb635]? = some (.cells #[(.slice none 0 0)] 44 (0, 0))) ∧ Aside0 (Below w.heap.size w wc))
 case first =>
  have H := HC5.out
  clear HC5
  replace H := Option.bind_eq_some_iff.mp H
  obtain ⟨t636, A90, H⟩ := H
  replace H : (if t636 = true then ((slices_Contains_int_int.f k l1_0 a2).bind fun t637 => (if t637 = true then (impl_GlueOf.j0 k a2 a3 true l0_0 l1_0) else ((impl_Contains.f k l0_0 a3).bind fun t638 => (if t638 = true then ((slices_Contains_int_int.f k l0_0 a3).bind fun t639 => (impl_GlueOf.j0 k a2 a3 t639 l0_0 l1_0)) else (impl_GlueOf.j0 k a2 a3 true l0_0 l1_0))))) else (impl_GlueOf.j0 k a2 a3 true l0_0 l1_0)) = some (r1, r2) := H
  have A9 := Aside0.mk A90
  clear A90
  by_cases c10 : t636 = true
  · subst c10
    have H1 : ((slices_Contains_int_int.f k l1_0 a2).bind fun t637 => (if t637 = true then (impl_GlueOf.j0 k a2 a3 true l0_0 l1_0) else ((impl_Contains.f k l0_0 a3).bind fun t638 => (if t638 = true then ((slices_Contains_int_int.f k l0_0 a3).bind fun t639 => (impl_GlueOf.j0 k a2 a3 t639 l0_0 l1_0)) else (impl_GlueOf.j0 k a2 a3 true l0_0 l1_0))))) = some (r1, r2) := by rw [if_pos rfl] at H; exact H
    clear H
    have H := H1
    clear H1
    replace H := Option.bind_eq_some_iff.mp H
    obtain ⟨t637, A110, H⟩ := H
    replace H : (if t637 = true then (impl_GlueOf.j0 k a2 a3 true l0_0 l1_0) else ((impl_Contains.f k l0_0 a3).bind fun t638 => (if t638 = true then ((slices_Contains_int_int.f k l0_0 a3).bind fun t639 => (impl_GlueOf.j0 k a2 a3 t639 l0_0 l1_0)) else (impl_GlueOf.j0 k a2 a3 true l0_0 l1_0)))) = some (r1, r2) := H
    have A11 := Aside0.mk A110
    clear A110
    by_cases c12 : t637 = true
    · subst c12
      have H1 : (impl_GlueOf.j0 k a2 a3 true l0_0 l1_0) = some (r1, r2) := by rw [if_pos rfl] at H; exact H
      clear H
      have H := H1
      clear H1
      as_aux_lemma =>
       have H' := Aside0.mk H
       clear H
       have hnb13 := NB634_633.out
       have hnc13 := NB633_634.out
       have hnb14 := NB634_635.out
       have hnc14 := NB635_634.out
       have hcz15_0 : w8.cell? ⟨gb634, 0, none⟩ = some (.slice A1_0 l1_0.length c1_0) := (blk_cell BK634.out 0).trans rfl
       have hfz15_0 := blk_frozen BK634.out 0
       go_wp2_with (first | ((with_reducible refine gate_callee (f := 64) rfl ?_); refine goesL_ (some 17) rfl rfl Try.func64 (by kernel_rfl) rfl #[.agg #[.slice A1_0 l1_0.length c1_0], .int .i64 a2] rfl (by (try simp only [List.map_toArray, List.map_cons, List.map_nil]); first | done | rfl | (simp only [List.length_drop, List.length_take]; rfl)) ?_; (with_reducible refine (impl_Contains.calls k _ _ l1_0 a2 true _ ?side1 ?side2 A9.out).mono ?_); (case side1 => exact ce_ ((Kd.C_below HR1_0.out HB.out))); (case side2 => exact HC1_0.out); rintro e w16 ⟨rfl, hb⟩; refine ⟨_, rfl, ?_⟩; have n0_ := Aside0.mk (blk_below (g := gb633) (o := .cells #[.slice A0_0 l0_0.length c0_0] 44 (0, 0)) (be_ BK633.out) hb); have n1_ := Aside0.mk (blk_below (g := gb634) (o := .cells #[.slice A1_0 l1_0.length c1_0] 44 (0, 0)) (be_ BK634.out) hb); have n2_ := Aside0.mk (blk_below (g := gb635) (o := .cells #[.slice none 0 0] 44 (0, 0)) (be_ BK635.out) hb); have n3_ := Aside0.mk (below_step (by repeat (first | (with_reducible first | exact HB.out | apply below_alloc | apply pw_below_drewN | apply below_drew1 | refine below_set ?_ GE633.out | refine below_set ?_ GE634.out | refine below_set ?_ GE635.out) | exact HB.out)) hb); clear BK633; clear BK634; clear BK635; clear HB; have BK633 := n0_; have BK634 := n1_; have BK635 := n2_; have HB := n3_; clear n0_ n1_ n2_ n3_; (try clear hb); (try clear hb2); (try clear hk); (try clear hi); have hcz17_0 : w16.cell? ⟨gb634, 0, none⟩ = some (.slice A1_0 l1_0.length c1_0) := (blk_cell BK634.out 0).trans rfl; have hfz17_0 := blk_frozen BK634.out 0) | (go_at_call 65; (with_reducible refine (slices_Contains_int_int.calls k _ _ l1_0 a2 true _ ?side1 ?side2 A11.out).mono ?_); (case side1 => exact ce_ ((Kd.C_below HR1_0.out HB.out))); (case side2 => exact HC1_0.out); rintro e w' ⟨rfl, ⟨nd, rfl⟩⟩))
       go_meet
       case rel => exact ⟨_, (true), (by first | rfl | (simp; done) | (simp [*]; done)), H', ⟨by first | omega | exact Nat.le_refl _⟩, ⟨be_ BK633.out⟩, ⟨be_ BK634.out⟩, ⟨be_ BK635.out⟩, ⟨by repeat (first | (with_reducible first | exact HB.out | apply below_alloc | apply pw_below_drewN | apply below_drew1 | refine below_set ?_ GE633.out | refine below_set ?_ GE634.out | refine below_set ?_ GE635.out) | exact HB.out)⟩⟩
    · replace c12 := Bool.eq_false_iff.mpr c12
      subst c12
      have H1 : ((impl_Contains.f k l0_0 a3).bind fun t638 => (if t638 = true then ((slices_Contains_int_int.f k l0_0 a3).bind fun t639 => (impl_GlueOf.j0 k a2 a3 t639 l0_0 l1_0)) else (impl_GlueOf.j0 k a2 a3 true l0_0 l1_0))) = some (r1, r2) := by rw [if_neg (show ¬ (false = true) by decide)] at H; exact H
      clear H
      have H := H1
      clear H1
      replace H := Option.bind_eq_some_iff.mp H
      obtain ⟨t638, A180, H⟩ := H
      replace H : (if t638 = true then ((slices_Contains_int_int.f k l0_0 a3).bind fun t639 => (impl_GlueOf.j0 k a2 a3 t639 l0_0 l1_0)) else (impl_GlueOf.j0 k a2 a3 true l0_0 l1_0)) = some (r1, r2) := H
      have A18 := Aside0.mk A180
      clear A180
      by_cases c19 : t638 = true
      · subst c19
        have H1 : ((slices_Contains_int_int.f k l0_0 a3).bind fun t639 => (impl_GlueOf.j0 k a2 a3 t639 l0_0 l1_0)) = some (r1, r2) := by rw [if_pos rfl] at H; exact H
        clear H
        have H := H1
        clear H1
        replace H := Option.bind_eq_some_iff.mp H
        obtain ⟨t639, A200, H⟩ := H
        replace H : (impl_GlueOf.j0 k a2 a3 t639 l0_0 l1_0) = some (r1, r2) := H
        have A20 := Aside0.mk A200
        clear A200
        as_aux_lemma =>
         have H' := Aside0.mk H
         clear H
         have hnb21 := NB634_633.out
         have hnc21 := NB633_634.out
         have hnb22 := NB634_635.out
         have hnc22 := NB635_634.out
         have hcz23_0 : w8.cell? ⟨gb634, 0, none⟩ = some (.slice A1_0 l1_0.length c1_0) := (blk_cell BK634.out 0).trans rfl
         have hfz23_0 := blk_frozen BK634.out 0
         go_wp2_with (first | ((with_reducible refine gate_callee (f := 64) rfl ?_); refine goesL_ (some 17) rfl rfl Try.func64 (by kernel_rfl) rfl #[.agg #[.slice A1_0 l1_0.length c1_0], .int .i64 a2] rfl (by (try simp only [List.map_toArray, List.map_cons, List.map_nil]); first | done | rfl | (simp only [List.length_drop, List.length_take]; rfl)) ?_; (with_reducible refine (impl_Contains.calls k _ _ l1_0 a2 true _ ?side1 ?side2 A9.out).mono ?_); (case side1 => exact ce_ ((Kd.C_below HR1_0.out HB.out))); (case side2 => exact HC1_0.out); rintro e w24 ⟨rfl, hb⟩; refine ⟨_, rfl, ?_⟩; have n0_ := Aside0.mk (blk_below (g := gb633) (o := .cells #[.slice A0_0 l0_0.length c0_0] 44 (0, 0)) (be_ BK633.out) hb); have n1_ := Aside0.mk (blk_below (g := gb634) (o := .cells #[.slice A1_0 l1_0.length c1_0] 44 (0, 0)) (be_ BK634.out) hb); have n2_ := Aside0.mk (blk_below (g := gb635) (o := .cells #[.slice none 0 0] 44 (0, 0)) (be_ BK635.out) hb); have n3_ := Aside0.mk (below_step (by repeat (first | (with_reducible first | exact HB.out | apply below_alloc | apply pw_below_drewN | apply below_drew1 | refine below_set ?_ GE633.out | refine below_set ?_ GE634.out | refine below_set ?_ GE635.out) | exact HB.out)) hb); clear BK633; clear BK634; clear BK635; clear HB; have BK633 := n0_; have BK634 := n1_; have BK635 := n2_; have HB := n3_; clear n0_ n1_ n2_ n3_; (try clear hb); (try clear hb2); (try clear hk); (try clear hi); have hcz25_0 : w24.cell? ⟨gb634, 0, none⟩ = some (.slice A1_0 l1_0.length c1_0) := (blk_cell BK634.out 0).trans rfl; have hfz25_0 := blk_frozen BK634.out 0) | (go_at_call 65; (with_reducible refine (slices_Contains_int_int.calls k _ _ l1_0 a2 false _ ?side1 ?side2 A11.out).mono ?_); (case side1 => exact ce_ ((Kd.C_below HR1_0.out HB.out))); (case side2 => exact HC1_0.out); rintro e w' ⟨rfl, ⟨nd, rfl⟩⟩; have hnb26 := NB633_635.out; have hnc26 := NB635_633.out; have hcz27_0 : w24.cell? ⟨gb633, 0, none⟩ = some (.slice A0_0 l0_0.length c0_0) := (blk_cell BK633.out 0).trans rfl; have hfz27_0 := blk_frozen BK633.out 0) | (go_at_call 64; (with_reducible refine (impl_Contains.calls k _ _ l0_0 a3 true _ ?side1 ?side2 A18.out).mono ?_); (case side1 => repeat (first | exact (Kd.C_below HR0_0.out (by repeat (first | (with_reducible first | exact HB.out | apply below_alloc | apply pw_below_drewN | apply below_drew1 | refine below_set ?_ GE633.out | refine below_set ?_ GE634.out | refine below_set ?_ GE635.out) | exact HB.out))) | (with_reducible refine Kd.C_alloc ?_ _) | (with_reducible refine Kd.C_drewN ?_ _) | (with_reducible refine Kd.C_drew ?_))); (case side2 => exact HC0_0.out); rintro e w28 ⟨rfl, hb⟩; have n0_ := Aside0.mk (blk_below (g := gb633) (o := .cells #[.slice A0_0 l0_0.length c0_0] 44 (0, 0)) (be_ BK633.out) hb); have n1_ := Aside0.mk (blk_below (g := gb634) (o := .cells #[.slice A1_0 l1_0.length c1_0] 44 (0, 0)) (be_ BK634.out) hb); have n2_ := Aside0.mk (blk_below (g := gb635) (o := .cells #[.slice none 0 0] 44 (0, 0)) (be_ BK635.out) hb); have n3_ := Aside0.mk (below_step (by repeat (first | (with_reducible first | exact HB.out | apply below_alloc | apply pw_below_drewN | apply below_drew1 | refine below_set ?_ GE633.out | refine below_set ?_ GE634.out | refine below_set ?_ GE635.out) | exact HB.out)) hb); clear BK633; clear BK634; clear BK635; clear HB; have BK633 := n0_; have BK634 := n1_; have BK635 := n2_; have HB := n3_; clear n0_ n1_ n2_ n3_; (try clear hb); (try clear hb2); (try clear hk); (try clear hi); have hcz29_0 : w28.cell? ⟨gb633, 0, none⟩ = some (.slice A0_0 l0_0.length c0_0) := (blk_cell BK633.out 0).trans rfl; have hfz29_0 := blk_frozen BK633.out 0) | (go_at_call 65; (with_reducible refine (slices_Contains_int_int.calls k _ _ l0_0 a3 t639 _ ?side1 ?side2 A20.out).mono ?_); (case side1 => exact ce_ ((Kd.C_below HR0_0.out HB.out))); (case side2 => exact HC0_0.out); rintro e w' ⟨rfl, ⟨nd, rfl⟩⟩))
         go_meet
         case rel => exact ⟨_, (t639), (by first | rfl | (simp; done) | (simp [*]; done)), H', ⟨by first | omega | exact Nat.le_refl _⟩, ⟨be_ BK633.out⟩, ⟨be_ BK634.out⟩, ⟨be_ BK635.out⟩, ⟨by repeat (first | (with_reducible first | exact HB.out | apply below_alloc | apply pw_below_drewN | apply below_drew1 | refine below_set ?_ GE633.out | refine below_set ?_ GE634.out | refine below_set ?_ GE635.out) | exact HB.out)⟩⟩
      · replace c19 := Bool.eq_false_iff.mpr c19
        subst c19
        have H1 : (impl_GlueOf.j0 k a2 a3 true l0_0 l1_0) = some (r1, r2) := by rw [if_neg (show ¬ (false = true) by decide)] at H; exact H
        clear H
        have H := H1
        clear H1
        as_aux_lemma =>
         have H' := Aside0.mk H
         clear H
         have hnb30 := NB634_633.out
         have hnc30 := NB633_634.out
         have hnb31 := NB634_635.out
         have hnc31 := NB635_634.out
         have hcz32_0 : w8.cell? ⟨gb634, 0, none⟩ = some (.slice A1_0 l1_0.length c1_0) := (blk_cell BK634.out 0).trans rfl
         have hfz32_0 := blk_frozen BK634.out 0
         go_wp2_with (first | ((with_reducible refine gate_callee (f := 64) rfl ?_); refine goesL_ (some 17) rfl rfl Try.func64 (by kernel_rfl) rfl #[.agg #[.slice A1_0 l1_0.length c1_0], .int .i64 a2] rfl (by (try simp only [List.map_toArray, List.map_cons, List.map_nil]); first | done | rfl | (simp only [List.length_drop, List.length_take]; rfl)) ?_; (with_reducible refine (impl_Contains.calls k _ _ l1_0 a2 true _ ?side1 ?side2 A9.out).mono ?_); (case side1 => exact ce_ ((Kd.C_below HR1_0.out HB.out))); (case side2 => exact HC1_0.out); rintro e w33 ⟨rfl, hb⟩; refine ⟨_, rfl, ?_⟩; have n0_ := Aside0.mk (blk_below (g := gb633) (o := .cells #[.slice A0_0 l0_0.length c0_0] 44 (0, 0)) (be_ BK633.out) hb); have n1_ := Aside0.mk (blk_below (g := gb634) (o := .cells #[.slice A1_0 l1_0.length c1_0] 44 (0, 0)) (be_ BK634.out) hb); have n2_ := Aside0.mk (blk_below (g := gb635) (o := .cells #[.slice none 0 0] 44 (0, 0)) (be_ BK635.out) hb); have n3_ := Aside0.mk (below_step (by repeat (first | (with_reducible first | exact HB.out | apply below_alloc | apply pw_below_drewN | apply below_drew1 | refine below_set ?_ GE633.out | refine below_set ?_ GE634.out | refine below_set ?_ GE635.out) | exact HB.out)) hb); clear BK633; clear BK634; clear BK635; clear HB; have BK633 := n0_; have BK634 := n1_; have BK635 := n2_; have HB := n3_; clear n0_ n1_ n2_ n3_; (try clear hb); (try clear hb2); (try clear hk); (try clear hi); have hcz34_0 : w33.cell? ⟨gb634, 0, none⟩ = some (.slice A1_0 l1_0.length c1_0) := (blk_cell BK634.out 0).trans rfl; have hfz34_0 := blk_frozen BK634.out 0) | (go_at_call 65; (with_reducible refine (slices_Contains_int_int.calls k _ _ l1_0 a2 false _ ?side1 ?side2 A11.out).mono ?_); (case side1 => exact ce_ ((Kd.C_below HR1_0.out HB.out))); (case side2 => exact HC1_0.out); rintro e w' ⟨rfl, ⟨nd, rfl⟩⟩; have hnb35 := NB633_635.out; have hnc35 := NB635_633.out; have hcz36_0 : w33.cell? ⟨gb633, 0, none⟩ = some (.slice A0_0 l0_0.length c0_0) := (blk_cell BK633.out 0).trans rfl; have hfz36_0 := blk_frozen BK633.out 0) | (go_at_call 64; (with_reducible refine (impl_Contains.calls k _ _ l0_0 a3 false _ ?side1 ?side2 A18.out).mono ?_); (case side1 => repeat (first | exact (Kd.C_below HR0_0.out (by repeat (first | (with_reducible first | exact HB.out | apply below_alloc | apply pw_below_drewN | apply below_drew1 | refine below_set ?_ GE633.out | refine below_set ?_ GE634.out | refine below_set ?_ GE635.out) | exact HB.out))) | (with_reducible refine Kd.C_alloc ?_ _) | (with_reducible refine Kd.C_drewN ?_ _) | (with_reducible refine Kd.C_drew ?_))); (case side2 => exact HC0_0.out); rintro e w37 ⟨rfl, hb⟩; have n0_ := Aside0.mk (blk_below (g := gb633) (o := .cells #[.slice A0_0 l0_0.length c0_0] 44 (0, 0)) (be_ BK633.out) hb); have n1_ := Aside0.mk (blk_below (g := gb634) (o := .cells #[.slice A1_0 l1_0.length c1_0] 44 (0, 0)) (be_ BK634.out) hb); have n2_ := Aside0.mk (blk_below (g := gb635) (o := .cells #[.slice none 0 0] 44 (0, 0)) (be_ BK635.out) hb); have n3_ := Aside0.mk (below_step (by repeat (first | (with_reducible first | exact HB.out | apply below_alloc | apply pw_below_drewN | apply below_drew1 | refine below_set ?_ GE633.out | refine below_set ?_ GE634.out | refine below_set ?_ GE635.out) | exact HB.out)) hb); clear BK633; clear BK634; clear BK635; clear HB; have BK633 := n0_; have BK634 := n1_; have BK635 := n2_; have HB := n3_; clear n0_ n1_ n2_ n3_; (try clear hb); (try clear hb2); (try clear hk); (try clear hi)))
         go_meet
         case rel => exact ⟨_, (true), (by first | rfl | (simp; done) | (simp [*]; done)), H', ⟨by first | omega | exact Nat.le_refl _⟩, ⟨be_ BK633.out⟩, ⟨be_ BK634.out⟩, ⟨be_ BK635.out⟩, ⟨by repeat (first | (with_reducible first | exact HB.out | apply below_alloc | apply pw_below_drewN | apply below_drew1 | refine below_set ?_ GE633.out | refine below_set ?_ GE634.out | refine below_set ?_ GE635.out) | exact HB.out)⟩⟩
  · replace c10 := Bool.eq_false_iff.mpr c10
    subst c10
    have H1 : (impl_GlueOf.j0 k a2 a3 true l0_0 l1_0) = some (r1, r2) := by rw [if_neg (show ¬ (false = true) by decide)] at H; exact H
    clear H
    have H := H1
    clear H1
    as_aux_lemma =>
     have H' := Aside0.mk H
     clear H
     have hnb38 := NB634_633.out
     have hnc38 := NB633_634.out
     have hnb39 := NB634_635.out
     have hnc39 := NB635_634.out
     have hcz40_0 : w8.cell? ⟨gb634, 0, none⟩ = some (.slice A1_0 l1_0.length c1_0) := (blk_cell BK634.out 0).trans rfl
     have hfz40_0 := blk_frozen BK634.out 0
     go_wp2_with (first | ((with_reducible refine gate_callee (f := 64) rfl ?_); refine goesL_ (some 17) rfl rfl Try.func64 (by kernel_rfl) rfl #[.agg #[.slice A1_0 l1_0.length c1_0], .int .i64 a2] rfl (by (try simp only [List.map_toArray, List.map_cons, List.map_nil]); first | done | rfl | (simp only [List.length_drop, List.length_take]; rfl)) ?_; (with_reducible refine (impl_Contains.calls k _ _ l1_0 a2 false _ ?side1 ?side2 A9.out).mono ?_); (case side1 => exact ce_ ((Kd.C_below HR1_0.out HB.out))); (case side2 => exact HC1_0.out); rintro e w41 ⟨rfl, hb⟩; refine ⟨_, rfl, ?_⟩; have n0_ := Aside0.mk (blk_below (g := gb633) (o := .cells #[.slice A0_0 l0_0.length c0_0] 44 (0, 0)) (be_ BK633.out) hb); have n1_ := Aside0.mk (blk_below (g := gb634) (o := .cells #[.slice A1_0 l1_0.length c1_0] 44 (0, 0)) (be_ BK634.out) hb); have n2_ := Aside0.mk (blk_below (g := gb635) (o := .cells #[.slice none 0 0] 44 (0, 0)) (be_ BK635.out) hb); have n3_ := Aside0.mk (below_step (by repeat (first | (with_reducible first | exact HB.out | apply below_alloc | apply pw_below_drewN | apply below_drew1 | refine below_set ?_ GE633.out | refine below_set ?_ GE634.out | refine below_set ?_ GE635.out) | exact HB.out)) hb); clear BK633; clear BK634; clear BK635; clear HB; have BK633 := n0_; have BK634 := n1_; have BK635 := n2_; have HB := n3_; clear n0_ n1_ n2_ n3_; (try clear hb); (try clear hb2); (try clear hk); (try clear hi)))
     go_meet
     case rel => exact ⟨_, (true), (by first | rfl | (simp; done) | (simp [*]; done)), H', ⟨by first | omega | exact Nat.le_refl _⟩, ⟨be_ BK633.out⟩, ⟨be_ BK634.out⟩, ⟨be_ BK635.out⟩, ⟨by repeat (first | (with_reducible first | exact HB.out | apply below_alloc | apply pw_below_drewN | apply below_drew1 | refine below_set ?_ GE633.out | refine below_set ?_ GE634.out | refine below_set ?_ GE635.out) | exact HB.out)⟩⟩
 case rest =>
  clear HC5
  try clear c1
  try clear c2
  try clear p2
  try clear c3
  try clear c6
  try clear c10
  try clear c12
  try clear c13
  try clear c14
  try clear c19
  try clear c21
  try clear c22
  try clear c26
  try clear c30
  try clear c31
  try clear c33
  try clear c35
  try clear c38
  try clear c39
  try clear hcz15_0
  try clear hcz17_0
  try clear hcz23_0
  try clear hcz25_0
  try clear hcz27_0
  try clear hcz29_0
  try clear hcz32_0
  try clear hcz34_0
  try clear hcz36_0
  try clear hcz40_0
  try clear hfz15_0
  try clear hfz17_0
  try clear hfz23_0
  try clear hfz25_0
  try clear hfz27_0
  try clear hfz29_0
  try clear hfz32_0
  try clear hfz34_0
  try clear hfz36_0
  try clear hfz40_0
  obtain ⟨kq, x36_4, rfl, HA, HJ4, BK633, BK634, BK635, HB⟩ := hcut
  cases kq with
  | zero => exact absurd HA.out (by simp [impl_GlueOf.j0])
  | succ kj4 =>
   have H := HA.out
   clear HA
   simp only [impl_GlueOf.j0] at H
   by_cases c42 : x36_4 = true
   · subst c42
     have H1 : (some (([] : List Int), false)) = some (r1, r2) := by rw [if_pos rfl] at H; exact H
     clear H
     have H := H1
     clear H1
     as_aux_lemma =>
      simp only [Option.some.injEq, Prod.mk.injEq] at H
      obtain ⟨rfl, rfl⟩ := H
      have hnb43 := NB635_633.out
      have hnc43 := NB633_635.out
      have hnb44 := NB635_634.out
      have hnc44 := NB634_635.out
      have hcz45_0 : wc.cell? ⟨gb635, 0, none⟩ = some (.slice none 0 0) := (blk_cell BK635.out 0).trans rfl
      have hfz45_0 := blk_frozen BK635.out 0
      go_wp2
      refine bodyPost_ret (results_ct rfl _ _ gb635 44 #[.slice none 0 0] (0, 0) _ rfl (by (with_reducible repeat (first | refine blk_drewN ?_ _ | refine blk_drew ?_ | refine blk_alloc ?_ _)); refine blk_put (cs := #[.slice none 0 0]) ?_ 0 _ rfl; (with_reducible repeat (first | refine blk_drewN ?_ _ | refine blk_drew ?_ | refine blk_alloc ?_ _)); exact BK635.out) Try.underlying44 rfl (by kernel_rfl)) rfl ?_
      exact ⟨_, by first | rfl | (simp [errW_none, errW_some] <;> rfl) | (simp [*, errW_none, errW_some] <;> rfl), by first | exact Kd.R_nil _ _ _ _ _ | exact Kd.N_nil _ _ _ _ _ | exact Kd.V_nil _ _ _ _ _ | exact Kd.Q_nil _ _ _ _ _ | exact Kd.S_nil _ _ _ _ _, by repeat (first | (with_reducible first | exact HB.out | apply below_alloc | apply pw_below_drewN | apply below_drew1 | refine below_set ?_ GE633.out | refine below_set ?_ GE634.out | refine below_set ?_ GE635.out) | exact HB.out)⟩
   · replace c42 := Bool.eq_false_iff.mpr c42
     subst c42
     have H1 : ((impl_within.f a2 1 60).bind fun t640 => (if t640 = true then ((impl_within.f a3 1 60).bind fun t641 => (if t641 = true then ((impl_GcdOf.f kj4 a2 a3).bind fun t642 => (impl_GlueOf.j1 kj4 a2 a3 (t642 != 1) l0_0 l1_0)) else (impl_GlueOf.j1 kj4 a2 a3 true l0_0 l1_0))) else (impl_GlueOf.j1 kj4 a2 a3 true l0_0 l1_0))) = some (r1, r2) := by rw [if_neg (show ¬ (false = true) by decide)] at H; exact H
     clear H
     have H := H1
     clear H1
     have HC46 := Aside0.mk H
     clear H
     go_upto_region 3 with (fail)
     go_cut [51] (fun v51 wc => ∃ (kq : Nat) (x51_45 : Bool), v51 = .bool x51_45 ∧ Aside0 (impl_GlueOf.j1 kq a2 a3 x51_45 l0_0 l1_0 = some (r1, r2)) ∧ Aside0 (kq ≤ kj4) ∧ Aside0 (wc.heap[gb633]? = some (.cells #[(.slice A0_0 l0_0.length c0_0)] 44 (0, 0))) ∧ Aside0 (wc.heap[gb634]? = some (.cells #[(.slice A1_0 l1_0.length c1_0)] 44 (0, 0))) ∧ Aside0 (wc.heap[gb635]? = some (.cells #[(.slice none 0 0)] 44 (0, 0))) ∧ Aside0 (Below w.heap.size w wc))
     case first =>
      have H := HC46.out
      clear HC46
      replace H := Option.bind_eq_some_iff.mp H
      obtain ⟨t640, A470, H⟩ := H
      replace H : (if t640 = true then ((impl_within.f a3 1 60).bind fun t641 => (if t641 = true then ((impl_GcdOf.f kj4 a2 a3).bind fun t642 => (impl_GlueOf.j1 kj4 a2 a3 (t642 != 1) l0_0 l1_0)) else (impl_GlueOf.j1 kj4 a2 a3 true l0_0 l1_0))) else (impl_GlueOf.j1 kj4 a2 a3 true l0_0 l1_0)) = some (r1, r2) := H
      have A47 := Aside0.mk A470
      clear A470
      by_cases c48 : t640 = true
      · subst c48
        have H1 : ((impl_within.f a3 1 60).bind fun t641 => (if t641 = true then ((impl_GcdOf.f kj4 a2 a3).bind fun t642 => (impl_GlueOf.j1 kj4 a2 a3 (t642 != 1) l0_0 l1_0)) else (impl_GlueOf.j1 kj4 a2 a3 true l0_0 l1_0))) = some (r1, r2) := by rw [if_pos rfl] at H; exact H
        clear H
        have H := H1
        clear H1
        replace H := Option.bind_eq_some_iff.mp H
        obtain ⟨t641, A490, H⟩ := H
        replace H : (if t641 = true then ((impl_GcdOf.f kj4 a2 a3).bind fun t642 => (impl_GlueOf.j1 kj4 a2 a3 (t642 != 1) l0_0 l1_0)) else (impl_GlueOf.j1 kj4 a2 a3 true l0_0 l1_0)) = some (r1, r2) := H
        have A49 := Aside0.mk A490
        clear A490
        by_cases c50 : t641 = true
        · subst c50
          have H1 : ((impl_GcdOf.f kj4 a2 a3).bind fun t642 => (impl_GlueOf.j1 kj4 a2 a3 (t642 != 1) l0_0 l1_0)) = some (r1, r2) := by rw [if_pos rfl] at H; exact H
          clear H
          have H := H1
          clear H1
          replace H := Option.bind_eq_some_iff.mp H
          obtain ⟨t642, A510, H⟩ := H
          replace H : (impl_GlueOf.j1 kj4 a2 a3 (t642 != 1) l0_0 l1_0) = some (r1, r2) := H
          have A51 := Aside0.mk A510
          clear A510
          as_aux_lemma =>
           have H' := Aside0.mk H
           clear H
           go_wp2_with (first | ((with_reducible refine gate_callee (f := 39) rfl ?_); refine goesL_ (some 39) rfl rfl Try.func39 (by kernel_rfl) rfl #[.int .i64 a2, .int .i64 1, .int .i64 60] rfl (by (try simp only [List.map_toArray, List.map_cons, List.map_nil]); first | done | rfl | (simp only [List.length_drop, List.length_take]; rfl)) ?_; (with_reducible refine (impl_within.calls a2 1 60 true _ A47.out).mono ?_); rintro e w' ⟨rfl, ⟨nd, rfl⟩⟩; refine ⟨_, rfl, ?_⟩) | (go_at_call 39; (with_reducible refine (impl_within.calls a3 1 60 true _ A49.out).mono ?_); rintro e w' ⟨rfl, ⟨nd, rfl⟩⟩) | (go_at_call 66; (with_reducible refine (impl_GcdOf.calls kj4 a2 a3 t642 _ A51.out).mono ?_); rintro e w52 ⟨rfl, hb⟩; have n0_ := Aside0.mk (blk_below (g := gb633) (o := .cells #[.slice A0_0 l0_0.length c0_0] 44 (0, 0)) (be_ BK633.out) hb); have n1_ := Aside0.mk (blk_below (g := gb634) (o := .cells #[.slice A1_0 l1_0.length c1_0] 44 (0, 0)) (be_ BK634.out) hb); have n2_ := Aside0.mk (blk_below (g := gb635) (o := .cells #[.slice none 0 0] 44 (0, 0)) (be_ BK635.out) hb); have n3_ := Aside0.mk (below_step (by repeat (first | (with_reducible first | exact HB.out | apply below_alloc | apply pw_below_drewN | apply below_drew1 | refine below_set ?_ GE633.out | refine below_set ?_ GE634.out | refine below_set ?_ GE635.out) | exact HB.out)) hb); clear BK633; clear BK634; clear BK635; clear HB; have BK633 := n0_; have BK634 := n1_; have BK635 := n2_; have HB := n3_; clear n0_ n1_ n2_ n3_; (try clear hb); (try clear hb2); (try clear hk); (try clear hi)))
           go_meet
           case rel => exact ⟨_, ((t642 != 1)), (by first | rfl | (simp; done) | (simp [*]; done)), H', ⟨by have := HJ4.out; first | omega | exact Nat.le_refl _⟩, ⟨be_ BK633.out⟩, ⟨be_ BK634.out⟩, ⟨be_ BK635.out⟩, ⟨by repeat (first | (with_reducible first | exact HB.out | apply below_alloc | apply pw_below_drewN | apply below_drew1 | refine below_set ?_ GE633.out | refine below_set ?_ GE634.out | refine below_set ?_ GE635.out) | exact HB.out)⟩⟩
        · replace c50 := Bool.eq_false_iff.mpr c50
          subst c50
          have H1 : (impl_GlueOf.j1 kj4 a2 a3 true l0_0 l1_0) = some (r1, r2) := by rw [if_neg (show ¬ (false = true) by decide)] at H; exact H
          clear H
          have H := H1
          clear H1
          as_aux_lemma =>
           have H' := Aside0.mk H
           clear H
           go_wp2_with (first | ((with_reducible refine gate_callee (f := 39) rfl ?_); refine goesL_ (some 39) rfl rfl Try.func39 (by kernel_rfl) rfl #[.int .i64 a2, .int .i64 1, .int .i64 60] rfl (by (try simp only [List.map_toArray, List.map_cons, List.map_nil]); first | done | rfl | (simp only [List.length_drop, List.length_take]; rfl)) ?_; (with_reducible refine (impl_within.calls a2 1 60 true _ A47.out).mono ?_); rintro e w' ⟨rfl, ⟨nd, rfl⟩⟩; refine ⟨_, rfl, ?_⟩) | (go_at_call 39; (with_reducible refine (impl_within.calls a3 1 60 false _ A49.out).mono ?_); rintro e w' ⟨rfl, ⟨nd, rfl⟩⟩))
           go_meet
           case rel => exact ⟨_, (true), (by first | rfl | (simp; done) | (simp [*]; done)), H', ⟨by have := HJ4.out; first | omega | exact Nat.le_refl _⟩, ⟨be_ BK633.out⟩, ⟨be_ BK634.out⟩, ⟨be_ BK635.out⟩, ⟨by repeat (first | (with_reducible first | exact HB.out | apply below_alloc | apply pw_below_drewN | apply below_drew1 | refine below_set ?_ GE633.out | refine below_set ?_ GE634.out | refine below_set ?_ GE635.out) | exact HB.out)⟩⟩
      · replace c48 := Bool.eq_false_iff.mpr c48
        subst c48
        have H1 : (impl_GlueOf.j1 kj4 a2 a3 true l0_0 l1_0) = some (r1, r2) := by rw [if_neg (show ¬ (false = true) by decide)] at H; exact H
        clear H
        have H := H1
        clear H1
        as_aux_lemma =>
         have H' := Aside0.mk H
         clear H
         go_wp2_with (first | ((with_reducible refine gate_callee (f := 39) rfl ?_); refine goesL_ (some 39) rfl rfl Try.func39 (by kernel_rfl) rfl #[.int .i64 a2, .int .i64 1, .int .i64 60] rfl (by (try simp only [List.map_toArray, List.map_cons, List.map_nil]); first | done | rfl | (simp only [List.length_drop, List.length_take]; rfl)) ?_; (with_reducible refine (impl_within.calls a2 1 60 false _ A47.out).mono ?_); rintro e w' ⟨rfl, ⟨nd, rfl⟩⟩; refine ⟨_, rfl, ?_⟩))
         go_meet
         case rel => exact ⟨_, (true), (by first | rfl | (simp; done) | (simp [*]; done)), H', ⟨by have := HJ4.out; first | omega | exact Nat.le_refl _⟩, ⟨be_ BK633.out⟩, ⟨be_ BK634.out⟩, ⟨be_ BK635.out⟩, ⟨by repeat (first | (with_reducible first | exact HB.out | apply below_alloc | apply pw_below_drewN | apply below_drew1 | refine below_set ?_ GE633.out | refine below_set ?_ GE634.out | refine below_set ?_ GE635.out) | exact HB.out)⟩⟩
     case rest =>
      clear HC46
      try clear c1
      try clear c2
      try clear p2
      try clear c3
      try clear c4
      try clear c5
      try clear c6
      try clear c10
      try clear c12
      try clear c13
      try clear c14
      try clear c19
      try clear c21
      try clear c22
      try clear c26
      try clear c30
      try clear c31
      try clear c33
      try clear c35
      try clear c38
      try clear c39
      try clear c42
      try clear c43
      try clear c44
      try clear c48
      try clear c50
      try clear hcz15_0
      try clear hcz17_0
      try clear hcz23_0
      try clear hcz25_0
      try clear hcz27_0
      try clear hcz29_0
      try clear hcz32_0
      try clear hcz34_0
      try clear hcz36_0
      try clear hcz40_0
      try clear hcz45_0
      try clear hfz15_0
      try clear hfz17_0
      try clear hfz23_0
      try clear hfz25_0
      try clear hfz27_0
      try clear hfz29_0
      try clear hfz32_0
      try clear hfz34_0
      try clear hfz36_0
      try clear hfz40_0
      try clear hfz45_0
      try clear p2
      obtain ⟨kq, x51_45, rfl, HA, HJ45, BK633, BK634, BK635, HB⟩ := hcut
      cases kq with
      | zero => exact absurd HA.out (by simp [impl_GlueOf.j1])
      | succ kj45 =>
       have H := HA.out
       clear HA
       simp only [impl_GlueOf.j1] at H
       by_cases c53 : x51_45 = true
       · subst c53
         have H1 : (some (([] : List Int), false)) = some (r1, r2) := by rw [if_pos rfl] at H; exact H
         clear H
         have H := H1
         clear H1
         as_aux_lemma =>
          simp only [Option.some.injEq, Prod.mk.injEq] at H
          obtain ⟨rfl, rfl⟩ := H
          have hnb54 := NB635_633.out
          have hnc54 := NB633_635.out
          have hnb55 := NB635_634.out
          have hnc55 := NB634_635.out
          have hcz56_0 : wc.cell? ⟨gb635, 0, none⟩ = some (.slice none 0 0) := (blk_cell BK635.out 0).trans rfl
          have hfz56_0 := blk_frozen BK635.out 0
          go_wp2
          refine bodyPost_ret (results_ct rfl _ _ gb635 44 #[.slice none 0 0] (0, 0) _ rfl (by (with_reducible repeat (first | refine blk_drewN ?_ _ | refine blk_drew ?_ | refine blk_alloc ?_ _)); refine blk_put (cs := #[.slice none 0 0]) ?_ 0 _ rfl; (with_reducible repeat (first | refine blk_drewN ?_ _ | refine blk_drew ?_ | refine blk_alloc ?_ _)); exact BK635.out) Try.underlying44 rfl (by kernel_rfl)) rfl ?_
          exact ⟨_, by first | rfl | (simp [errW_none, errW_some] <;> rfl) | (simp [*, errW_none, errW_some] <;> rfl), by first | exact Kd.R_nil _ _ _ _ _ | exact Kd.N_nil _ _ _ _ _ | exact Kd.V_nil _ _ _ _ _ | exact Kd.Q_nil _ _ _ _ _ | exact Kd.S_nil _ _ _ _ _, by repeat (first | (with_reducible first | exact HB.out | apply below_alloc | apply pw_below_drewN | apply below_drew1 | refine below_set ?_ GE633.out | refine below_set ?_ GE634.out | refine below_set ?_ GE635.out) | exact HB.out)⟩
       · replace c53 := Bool.eq_false_iff.mpr c53
         subst c53
         have H1 : (impl_GlueOf.l0 kj45 a2 a3 (([] : List Int)) l0_0 (l0_0.length : Int) 0 l1_0) = some (r1, r2) := by rw [if_neg (show ¬ (false = true) by decide)] at H; exact H
         clear H
         have H := H1
         clear H1
         obtain ⟨y643, hy643⟩ : ∃ y_ : List Int, y_ = (([] : List Int)) := ⟨_, rfl⟩
         replace H : (impl_GlueOf.l0 kj45 a2 a3 y643 l0_0 (l0_0.length : Int) 0 l1_0) = some (r1, r2) := by first | (rw [hy643]; with_reducible exact H) | (have H2_ := (Option.bind_some _ _).symm.trans H; rw [hy643]; with_reducible exact H2_) | (have H2_ := (Option.bind_some _ _).symm.trans H; with_reducible exact H2_) | with_reducible exact H | (rw [hy643]; exact H) | exact H
         have Ny643 := Aside0.mk hy643
         clear hy643
         have H' := Aside0.mk H
         clear H
         go_wp2_with (first | ((with_reducible refine gate_dst (N := 53) rfl ?_); refine Kd.R_lit (Kd.int .i64) _ 3 ?hg (N := 53) ?hd (xs := ([] : List Int)) (inner := []) (ok := fun _ => True) (okp := fun _ => True) ?hr ?hp (fun _ hk => hk) trivial (Below.refl _ _) (Nat.le_refl _) (by simp) ?_; (case hd => rfl); (case hg => rfl); (case hr => first | (go_simp; done) | (go_simp; rfl)); (case hp => exact (Reps.none _ _)); intro v644 w57 ho58 hb hg_ hnew_; clear hg_ hnew_; (first | rw [← Ny643.out] at ho58 | (simp only [Int.reduceToNat] at ho58; rw [← Ny643.out] at ho58)); have n0_ := Aside0.mk (Kd.R_lower ho58 (below_size (by repeat (first | (with_reducible first | exact HB.out | apply below_alloc | apply pw_below_drewN | apply below_drew1 | refine below_set ?_ GE633.out | refine below_set ?_ GE634.out | refine below_set ?_ GE635.out) | exact HB.out)))); have n1_ := Aside0.mk (blk_below (g := gb633) (o := .cells #[.slice A0_0 l0_0.length c0_0] 44 (0, 0)) (be_ BK633.out) hb); have n2_ := Aside0.mk (blk_below (g := gb634) (o := .cells #[.slice A1_0 l1_0.length c1_0] 44 (0, 0)) (be_ BK634.out) hb); have n3_ := Aside0.mk (blk_below (g := gb635) (o := .cells #[.slice none 0 0] 44 (0, 0)) (be_ BK635.out) hb); have n4_ := Aside0.mk (below_step (by repeat (first | (with_reducible first | exact HB.out | apply below_alloc | apply pw_below_drewN | apply below_drew1 | refine below_set ?_ GE633.out | refine below_set ?_ GE634.out | refine below_set ?_ GE635.out) | exact HB.out)) hb); clear BK633; clear BK634; clear BK635; clear HB; have HO645 := n0_; have BK633 := n1_; have BK634 := n2_; have BK635 := n3_; have HB := n4_; clear n0_ n1_ n2_ n3_ n4_; clear hb ho58; have hnb59 := NB633_634.out; have hnc59 := NB634_633.out; have hnb60 := NB633_635.out; have hnc60 := NB635_633.out; have hcz61_0 : w57.cell? ⟨gb633, 0, none⟩ = some (.slice A0_0 l0_0.length c0_0) := (blk_cell BK633.out 0).trans rfl; have hfz61_0 := blk_frozen BK633.out 0))
         go_loopg [10, 57] kj45 (fun kq v10 v57 w' => ∃ (x10_3 : List Int) (x57_3 : Int), v57 = .int .i64 x57_3 ∧ Aside0 (impl_GlueOf.l0 kq a2 a3 x10_3 l0_0 (l0_0.length : Int) x57_3 l1_0 = some (r1, r2)) ∧ Aside0 (kq ≤ kj45) ∧ Aside0 (Kd.R (Kd.int .i64) 3 w' w.heap.size (fun _ => True) v10 x10_3) ∧ Aside0 (w'.heap[gb633]? = some (.cells #[(.slice A0_0 l0_0.length c0_0)] 44 (0, 0))) ∧ Aside0 (w'.heap[gb634]? = some (.cells #[(.slice A1_0 l1_0.length c1_0)] 44 (0, 0))) ∧ Aside0 (w'.heap[gb635]? = some (.cells #[(.slice none 0 0)] 44 (0, 0))) ∧ Aside0 (Below w.heap.size w w'))
         case atStart => exact ⟨(y643), (0), (by first | rfl | (simp; done) | (simp [*]; done)), H', ⟨Nat.le_refl _⟩, ⟨re_ HO645.out⟩, ⟨be_ BK633.out⟩, ⟨be_ BK634.out⟩, ⟨be_ BK635.out⟩, ⟨by repeat (first | (with_reducible first | exact HB.out | apply below_alloc | apply pw_below_drewN | apply below_drew1 | refine below_set ?_ GE633.out | refine below_set ?_ GE634.out | refine below_set ?_ GE635.out) | exact HB.out)⟩⟩
         case round =>
          clear H'
          try clear c1
          try clear c2
          try clear p2
          try clear c3
          try clear c4
          try clear c5
          try clear c6
          try clear c10
          try clear c12
          try clear c13
          try clear c14
          try clear c19
          try clear c21
          try clear c22
          try clear c26
          try clear c30
          try clear c31
          try clear c33
          try clear c35
          try clear c38
          try clear c39
          try clear c42
          try clear c43
          try clear c44
          try clear c48
          try clear c50
          try clear c53
          try clear c54
          try clear c55
          try clear c59
          try clear c60
          try clear hcz15_0
          try clear hcz17_0
          try clear hcz23_0
          try clear hcz25_0
          try clear hcz27_0
          try clear hcz29_0
          try clear hcz32_0
          try clear hcz34_0
          try clear hcz36_0
          try clear hcz40_0
          try clear hcz45_0
          try clear hcz56_0
          try clear hcz61_0
          try clear hfz15_0
          try clear hfz17_0
          try clear hfz23_0
          try clear hfz25_0
          try clear hfz27_0
          try clear hfz29_0
          try clear hfz32_0
          try clear hfz34_0
          try clear hfz36_0
          try clear hfz40_0
          try clear hfz45_0
          try clear hfz56_0
          try clear hfz61_0
          try clear p2
          obtain ⟨x10_3, x57_3, rfl, HA, HK3, HO_10, BK633, BK634, BK635, HB⟩ := hrel
          cases gk with
          | zero => exact absurd HA.out (by simp [impl_GlueOf.l0])
          | succ k3 =>
           have H := HA.out
           clear HA
           simp only [impl_GlueOf.l0] at H
           by_cases c62 : x57_3 < (l0_0.length : Int)
           · rw [if_pos c62] at H
             have c62b0 : decide (x57_3 < (l0_0.length : Int)) = true := decide_eq_true c62
             clear c62
             by_cases c63 : 0 ≤ x57_3
             · rw [if_pos c63] at H
               have c63b0 : decide (0 ≤ x57_3) = true := decide_eq_true c63
               clear c63
               by_cases c64 : x57_3 < (l0_0.length : Int)
               · rw [if_pos c64] at H
                 have c64b0 : decide (x57_3 < (l0_0.length : Int)) = true := decide_eq_true c64
                 clear c64
                 by_cases c65 : x10_3.length < 17592186044416
                 · rw [if_pos c65] at H
                   have LMc65 := Aside0.mk c65
                   clear c65
                   obtain ⟨y647, hy647⟩ : ∃ y_ : List Int, y_ = (x10_3 ++ [wrap64 (a2 * (rd l0_0 x57_3))]) := ⟨_, rfl⟩
                   replace H : (impl_GlueOf.l0 k3 a2 a3 y647 l0_0 (l0_0.length : Int) (wrap64 (x57_3 + 1)) l1_0) = some (r1, r2) := by first | (rw [hy647]; with_reducible exact H) | (have H2_ := (Option.bind_some _ _).symm.trans H; rw [hy647]; with_reducible exact H2_) | (have H2_ := (Option.bind_some _ _).symm.trans H; with_reducible exact H2_) | with_reducible exact H | (rw [hy647]; exact H) | exact H
                   have Ny647 := Aside0.mk hy647
                   clear hy647
                   as_aux_lemma =>
                    have H' := Aside0.mk H
                    clear H
                    have p646 : 0 ≤ (x57_3 : Int) := of_decide_eq_true (by first | (with_reducible assumption) | assumption)
                    have q646 : x57_3 < (l0_0.length : Int) := of_decide_eq_true (by first | (with_reducible assumption) | assumption)
                    obtain ⟨ad646, e646, hx646_0⟩ := Kd.at_int HR0_0.out x57_3 p646 q646
                    cases e646
                    (try replace hx646_0 := (HB.out.cell (World.block_lt_of_cell? w _ hx646_0)).trans hx646_0)
                    replace p646 := eq_true p646
                    replace q646 := eq_true q646
                    go_wp2_with (first | ((with_reducible refine gate_builtin (b := .append) (xs := #[.tmp 61, .tmp 65]) rfl ?_); at_builtin; refine Kd.R_append (Kd.int .i64) (w0 := w) w.heap.size rfl (.tmp 61) (.tmp 65) 22 3 (.int .i64 0) 8 rfl Try.underlying22 info3 rfl (by decide) (by omega) u10 x10_3 (wrap64 (a2 * (rd l0_0 x57_3))) [.int .i64 (wrap64 (a2 * (rd l0_0 x57_3)))] (fun _ => True) (fun _ => False) rfl rfl ?aP (fun _ hk => hk.elim) ?aF ?aO ?aB ?aS ?aL ?_; (case aP => exact rfl); (case aB => exact (by repeat (first | (with_reducible first | exact HB.out | apply below_alloc | apply pw_below_drewN | apply below_drew1 | refine below_set ?_ GE633.out | refine below_set ?_ GE634.out | refine below_set ?_ GE635.out) | exact HB.out))); (case aF => exact (fun _ _ => trivial)); (case aO => exact (re_ HO_10.out)); (case aS => exact (below_size (by repeat (first | (with_reducible first | exact HB.out | apply below_alloc | apply pw_below_drewN | apply below_drew1 | refine below_set ?_ GE633.out | refine below_set ?_ GE634.out | refine below_set ?_ GE635.out) | exact HB.out)))); (case aL => have := LMc65.out; omega); intro v648 w66 ho hb hg hat; rw [← Ny647.out] at ho; have n0_ := Aside0.mk (blk_grown (g := gb633) (o := .cells #[.slice (some ad646) l0_0.length c0_0] 44 (0, 0)) (be_ BK633.out) hg (Kd.R_ne HO_10.out BK633.out (by decide))); have n1_ := Aside0.mk (blk_grown (g := gb634) (o := .cells #[.slice A1_0 l1_0.length c1_0] 44 (0, 0)) (be_ BK634.out) hg (Kd.R_ne HO_10.out BK634.out (by decide))); have n2_ := Aside0.mk (blk_grown (g := gb635) (o := .cells #[.slice none 0 0] 44 (0, 0)) (be_ BK635.out) hg (Kd.R_ne HO_10.out BK635.out (by decide))); have n3_ := Aside0.mk (hb); have n4_ := Aside0.mk (ho); clear BK633; clear BK634; clear BK635; clear HB; clear HO_10; have BK633 := n0_; have BK634 := n1_; have BK635 := n2_; have HB := n3_; have HO649 := n4_; clear n0_ n1_ n2_ n3_ n4_; clear ho hb hg hat))
                    go_roundg k3
                    case measure => have := HJ4.out; have := HJ45.out; have := HK3.out; omega
                    case rel => exact ⟨(y647), (wrap64 (x57_3 + 1)), (by first | rfl | (simp; done) | (simp [*]; done)), H', ⟨by have := HJ4.out; have := HJ45.out; have := HK3.out; omega⟩, ⟨re_ HO649.out⟩, ⟨be_ BK633.out⟩, ⟨be_ BK634.out⟩, ⟨be_ BK635.out⟩, ⟨by repeat (first | (with_reducible first | exact HB.out | apply below_alloc | apply pw_below_drewN | apply below_drew1 | refine below_set ?_ GE633.out | refine below_set ?_ GE634.out | refine below_set ?_ GE635.out) | exact HB.out)⟩⟩
                 · rw [if_neg c65] at H
                   exact absurd H (by simp)
               · rw [if_neg c64] at H
                 exact absurd H (by simp)
             · rw [if_neg c63] at H
               exact absurd H (by simp)
           · rw [if_neg c62] at H
             have c62b0 : decide (x57_3 < (l0_0.length : Int)) = false := decide_eq_false c62
             clear c62
             have H' := Aside0.mk H
             clear H
             have hnb67 := NB634_633.out
             have hnc67 := NB633_634.out
             have hnb68 := NB634_635.out
             have hnc68 := NB635_634.out
             have hcz69_0 : wr.cell? ⟨gb634, 0, none⟩ = some (.slice A1_0 l1_0.length c1_0) := (blk_cell BK634.out 0).trans rfl
             have hfz69_0 := blk_frozen BK634.out 0
             go_wp2
             go_loopg [10, 71] k3 (fun kq v10 v71 w' => ∃ (x10_4 : List Int) (x71_4 : Int), v71 = .int .i64 x71_4 ∧ Aside0 (impl_GlueOf.l1 kq a3 x10_4 l1_0 (l1_0.length : Int) x71_4 = some (r1, r2)) ∧ Aside0 (kq ≤ k3) ∧ Aside0 (Kd.R (Kd.int .i64) 3 w' w.heap.size (fun _ => True) v10 x10_4) ∧ Aside0 (w'.heap[gb633]? = some (.cells #[(.slice A0_0 l0_0.length c0_0)] 44 (0, 0))) ∧ Aside0 (w'.heap[gb634]? = some (.cells #[(.slice A1_0 l1_0.length c1_0)] 44 (0, 0))) ∧ Aside0 (w'.heap[gb635]? = some (.cells #[(.slice none 0 0)] 44 (0, 0))) ∧ Aside0 (Below w.heap.size w w'))
             case atStart => exact ⟨(x10_3), (0), (by first | rfl | (simp; done) | (simp [*]; done)), H', ⟨Nat.le_refl _⟩, ⟨re_ HO_10.out⟩, ⟨be_ BK633.out⟩, ⟨be_ BK634.out⟩, ⟨be_ BK635.out⟩, ⟨by repeat (first | (with_reducible first | exact HB.out | apply below_alloc | apply pw_below_drewN | apply below_drew1 | refine below_set ?_ GE633.out | refine below_set ?_ GE634.out | refine below_set ?_ GE635.out) | exact HB.out)⟩⟩
             case round =>
              clear H'
              try clear c1
              try clear c2
              try clear p2
              try clear c3
              try clear c4
              try clear c5
              try clear c6
              try clear p6
              try clear q6
              try clear hx6
              try clear c10
              try clear c12
              try clear c13
              try clear c14
              try clear c19
              try clear c21
              try clear c22
              try clear c26
              try clear c30
              try clear c31
              try clear c33
              try clear c35
              try clear c38
              try clear c39
              try clear c42
              try clear c43
              try clear c44
              try clear c48
              try clear c50
              try clear c53
              try clear c54
              try clear c55
              try clear c59
              try clear c60
              try clear c62
              try clear c62b0
              try clear c63
              try clear c63b0
              try clear c64
              try clear c64b0
              try clear p64
              try clear q64
              try clear hx64
              try clear c65
              try clear c67
              try clear c68
              try clear hcz15_0
              try clear hcz17_0
              try clear hcz23_0
              try clear hcz25_0
              try clear hcz27_0
              try clear hcz29_0
              try clear hcz32_0
              try clear hcz34_0
              try clear hcz36_0
              try clear hcz40_0
              try clear hcz45_0
              try clear hcz56_0
              try clear hcz61_0
              try clear hcz69_0
              try clear hfz15_0
              try clear hfz17_0
              try clear hfz23_0
              try clear hfz25_0
              try clear hfz27_0
              try clear hfz29_0
              try clear hfz32_0
              try clear hfz34_0
              try clear hfz36_0
              try clear hfz40_0
              try clear hfz45_0
              try clear hfz56_0
              try clear hfz61_0
              try clear hfz69_0
              try clear hx646_0
              try clear p2
              try clear p646
              try clear q646
              obtain ⟨x10_4, x71_4, rfl, HA, HK4, HO_10, BK633, BK634, BK635, HB⟩ := hrel
              cases gk with
              | zero => exact absurd HA.out (by simp [impl_GlueOf.l1])
              | succ k4 =>
               have H := HA.out
               clear HA
               simp only [impl_GlueOf.l1] at H
               by_cases c70 : x71_4 < (l1_0.length : Int)
               · rw [if_pos c70] at H
                 have c70b0 : decide (x71_4 < (l1_0.length : Int)) = true := decide_eq_true c70
                 clear c70
                 by_cases c71 : 0 ≤ x71_4
                 · rw [if_pos c71] at H
                   have c71b0 : decide (0 ≤ x71_4) = true := decide_eq_true c71
                   clear c71
                   by_cases c72 : x71_4 < (l1_0.length : Int)
                   · rw [if_pos c72] at H
                     have c72b0 : decide (x71_4 < (l1_0.length : Int)) = true := decide_eq_true c72
                     clear c72
                     by_cases c73 : x10_4.length < 17592186044416
                     · rw [if_pos c73] at H
                       have LMc73 := Aside0.mk c73
                       clear c73
                       obtain ⟨y651, hy651⟩ : ∃ y_ : List Int, y_ = (x10_4 ++ [wrap64 (a3 * (rd l1_0 x71_4))]) := ⟨_, rfl⟩
                       replace H : (impl_GlueOf.l1 k4 a3 y651 l1_0 (l1_0.length : Int) (wrap64 (x71_4 + 1))) = some (r1, r2) := by first | (rw [hy651]; with_reducible exact H) | (have H2_ := (Option.bind_some _ _).symm.trans H; rw [hy651]; with_reducible exact H2_) | (have H2_ := (Option.bind_some _ _).symm.trans H; with_reducible exact H2_) | with_reducible exact H | (rw [hy651]; exact H) | exact H
                       have Ny651 := Aside0.mk hy651
                       clear hy651
                       as_aux_lemma =>
                        have H' := Aside0.mk H
                        clear H
                        have p650 : 0 ≤ (x71_4 : Int) := of_decide_eq_true (by first | (with_reducible assumption) | assumption)
                        have q650 : x71_4 < (l1_0.length : Int) := of_decide_eq_true (by first | (with_reducible assumption) | assumption)
                        obtain ⟨ad650, e650, hx650_0⟩ := Kd.at_int HR1_0.out x71_4 p650 q650
                        cases e650
                        (try replace hx650_0 := (HB.out.cell (World.block_lt_of_cell? w _ hx650_0)).trans hx650_0)
                        replace p650 := eq_true p650
                        replace q650 := eq_true q650
                        go_wp2_with (first | ((with_reducible refine gate_builtin (b := .append) (xs := #[.tmp 75, .tmp 79]) rfl ?_); at_builtin; refine Kd.R_append (Kd.int .i64) (w0 := w) w.heap.size rfl (.tmp 75) (.tmp 79) 22 3 (.int .i64 0) 8 rfl Try.underlying22 info3 rfl (by decide) (by omega) u10 x10_4 (wrap64 (a3 * (rd l1_0 x71_4))) [.int .i64 (wrap64 (a3 * (rd l1_0 x71_4)))] (fun _ => True) (fun _ => False) rfl rfl ?aP (fun _ hk => hk.elim) ?aF ?aO ?aB ?aS ?aL ?_; (case aP => exact rfl); (case aB => exact (by repeat (first | (with_reducible first | exact HB.out | apply below_alloc | apply pw_below_drewN | apply below_drew1 | refine below_set ?_ GE633.out | refine below_set ?_ GE634.out | refine below_set ?_ GE635.out) | exact HB.out))); (case aF => exact (fun _ _ => trivial)); (case aO => exact (re_ HO_10.out)); (case aS => exact (below_size (by repeat (first | (with_reducible first | exact HB.out | apply below_alloc | apply pw_below_drewN | apply below_drew1 | refine below_set ?_ GE633.out | refine below_set ?_ GE634.out | refine below_set ?_ GE635.out) | exact HB.out)))); (case aL => have := LMc73.out; omega); intro v652 w74 ho hb hg hat; rw [← Ny651.out] at ho; have n0_ := Aside0.mk (blk_grown (g := gb633) (o := .cells #[.slice A0_0 l0_0.length c0_0] 44 (0, 0)) (be_ BK633.out) hg (Kd.R_ne HO_10.out BK633.out (by decide))); have n1_ := Aside0.mk (blk_grown (g := gb634) (o := .cells #[.slice (some ad650) l1_0.length c1_0] 44 (0, 0)) (be_ BK634.out) hg (Kd.R_ne HO_10.out BK634.out (by decide))); have n2_ := Aside0.mk (blk_grown (g := gb635) (o := .cells #[.slice none 0 0] 44 (0, 0)) (be_ BK635.out) hg (Kd.R_ne HO_10.out BK635.out (by decide))); have n3_ := Aside0.mk (hb); have n4_ := Aside0.mk (ho); clear BK633; clear BK634; clear BK635; clear HB; clear HO_10; have BK633 := n0_; have BK634 := n1_; have BK635 := n2_; have HB := n3_; have HO653 := n4_; clear n0_ n1_ n2_ n3_ n4_; clear ho hb hg hat))
                        go_roundg k4
                        case measure => have := HJ4.out; have := HJ45.out; have := HK3.out; have := HK4.out; omega
                        case rel => exact ⟨(y651), (wrap64 (x71_4 + 1)), (by first | rfl | (simp; done) | (simp [*]; done)), H', ⟨by have := HJ4.out; have := HJ45.out; have := HK3.out; have := HK4.out; omega⟩, ⟨re_ HO653.out⟩, ⟨be_ BK633.out⟩, ⟨be_ BK634.out⟩, ⟨be_ BK635.out⟩, ⟨by repeat (first | (with_reducible first | exact HB.out | apply below_alloc | apply pw_below_drewN | apply below_drew1 | refine below_set ?_ GE633.out | refine below_set ?_ GE634.out | refine below_set ?_ GE635.out) | exact HB.out)⟩⟩
                     · rw [if_neg c73] at H
                       exact absurd H (by simp)
                   · rw [if_neg c72] at H
                     exact absurd H (by simp)
                 · rw [if_neg c71] at H
                   exact absurd H (by simp)
               · rw [if_neg c70] at H
                 have c70b0 : decide (x71_4 < (l1_0.length : Int)) = false := decide_eq_false c70
                 clear c70
                 replace H := Option.bind_eq_some_iff.mp H
                 obtain ⟨⟨t654, t657⟩, A750, H⟩ := H
                 replace H : (some (t654, t657)) = some (r1, r2) := H
                 have A75 := Aside0.mk A750
                 clear A750
                 as_aux_lemma =>
                  simp only [Option.some.injEq, Prod.mk.injEq] at H
                  obtain ⟨rfl, rfl⟩ := H
                  obtain ⟨Ao76, co76, eo76⟩ := Kd.R_slice HO_10.out
                  subst eo76
                  go_wp2_with (first | ((with_reducible refine gate_callee (f := 67) rfl ?_); refine goesL_ (some 83) rfl rfl Try.func67 (by kernel_rfl) rfl #[.slice Ao76 x10_4.length co76] rfl (by (try simp only [List.map_toArray, List.map_cons, List.map_nil]); first | done | rfl | (simp only [List.length_drop, List.length_take]; rfl)) ?_; (with_reducible refine (impl_FromGens.calls k4 _ _ x10_4 t654 t657 _ ?side1 ?side2 A75.out).mono ?_); (case side1 => exact ce_ ((Kd.R_reads' HO_10.out).2.2)); (case side2 => exact (Kd.R_reads' HO_10.out).2.1); rintro e w77 ⟨v655, rfl, ho0, hb⟩; refine ⟨_, rfl, ?_⟩; have n0_ := Aside0.mk (Kd.R_elder' (re_ HO_10.out) (Kd.R_base ho0) hb); have n1_ := Aside0.mk (Kd.R_lower (Kd.R_new' ho0 (Kd.R_lt (re_ HO_10.out))) (below_size (by repeat (first | (with_reducible first | exact HB.out | apply below_alloc | apply pw_below_drewN | apply below_drew1 | refine below_set ?_ GE633.out | refine below_set ?_ GE634.out | refine below_set ?_ GE635.out) | exact HB.out)))); have n2_ := Aside0.mk (blk_below (g := gb633) (o := .cells #[.slice A0_0 l0_0.length c0_0] 44 (0, 0)) (be_ BK633.out) hb); have n3_ := Aside0.mk (blk_below (g := gb634) (o := .cells #[.slice A1_0 l1_0.length c1_0] 44 (0, 0)) (be_ BK634.out) hb); have n4_ := Aside0.mk (blk_below (g := gb635) (o := .cells #[.slice none 0 0] 44 (0, 0)) (be_ BK635.out) hb); have n5_ := Aside0.mk (below_step (by repeat (first | (with_reducible first | exact HB.out | apply below_alloc | apply pw_below_drewN | apply below_drew1 | refine below_set ?_ GE633.out | refine below_set ?_ GE634.out | refine below_set ?_ GE635.out) | exact HB.out)) hb); clear HO_10; clear BK633; clear BK634; clear BK635; clear HB; have HO_10 := n0_; have HO656 := n1_; have BK633 := n2_; have BK634 := n3_; have BK635 := n4_; have HB := n5_; clear n0_ n1_ n2_ n3_ n4_ n5_; (try clear hb); (try clear hb2); (try clear hk); (try clear hi); (try clear ho0); obtain ⟨Ao78, co78, eo78⟩ := Kd.R_slice HO656.out; subst eo78; have hnb79 := NB635_633.out; have hnc79 := NB633_635.out; have hnb80 := NB635_634.out; have hnc80 := NB634_635.out; have hcz81_0 : w77.cell? ⟨gb635, 0, none⟩ = some (.slice none 0 0) := (blk_cell BK635.out 0).trans rfl; have hfz81_0 := blk_frozen BK635.out 0))
                  refine bodyPost_ret (results_ct rfl _ _ gb635 44 #[.slice Ao78 t654.length co78] (0, 0) _ rfl (by (with_reducible repeat (first | refine blk_drewN ?_ _ | refine blk_drew ?_ | refine blk_alloc ?_ _)); refine blk_put (cs := #[.slice none 0 0]) ?_ 0 _ rfl; (with_reducible repeat (first | refine blk_drewN ?_ _ | refine blk_drew ?_ | refine blk_alloc ?_ _)); exact BK635.out) Try.underlying44 rfl (by kernel_rfl)) rfl ?_
                  exact ⟨_, by first | rfl | (simp [errW_none, errW_some] <;> rfl) | (simp [*, errW_none, errW_some] <;> rfl), by (with_reducible repeat (first | apply Kd.R_alloc | apply Kd.R_drewN | apply Kd.R_drew)); exact Kd.R_mono (Kd.R_far (p := ⟨gb635, 0, none⟩) (Kd.R_types HO656.out BK635.out (by decide)) (fun _ hk => hk.2) (.slice Ao78 t654.length co78)) (fun _ hk => trivial), by repeat (first | (with_reducible first | exact HB.out | apply below_alloc | apply pw_below_drewN | apply below_drew1 | refine below_set ?_ GE633.out | refine below_set ?_ GE634.out | refine below_set ?_ GE635.out) | exact HB.out)⟩
def laws_heldSemigroup.f (k : Nat) (l0_0 : List Int) (a1 : Int) : Option (Int) := (laws_heldIntS.f k l0_0 a1).bind fun t659 => (if t659 < 0 then (some (-1)) else (some t659))
set_option maxHeartbeats 8000000 in
set_option maxRecDepth 100000 in
theorem laws_heldSemigroup.calls (k : Nat) (A0_0 : Option Addr) (c0_0 : Nat) (l0_0 : List Int) (a1 : Int) (r : Int) (w : World) (hr0_0 : Kd.C (Kd.int .i64) w A0_0 l0_0.length l0_0) (hc0_0 : l0_0.length ≤ c0_0) (h : laws_heldSemigroup.f k l0_0 a1 = some r) :
 Calls Try.prog 34 #[.agg #[.slice A0_0 l0_0.length c0_0], .int .i64 a1] w fun e w' => e = .returned (.int .i64 r) ∧ Below w.heap.size w w' := by
 have hu44 := Try.underlying44
 have HR0_0 := Aside0.mk hr0_0
 have HC0_0 := Aside0.mk hc0_0
 clear hr0_0 hc0_0
 have HB := Aside0.mk (Below.refl w.heap.size w)
 have H : ((laws_heldIntS.f k l0_0 a1).bind fun t659 => (if t659 < 0 then (some (-1)) else (some t659))) = some r := h
 clear h
 replace H := Option.bind_eq_some_iff.mp H
 obtain ⟨t659, A30, H⟩ := H
 replace H : (if t659 < 0 then (some (-1)) else (some t659)) = some r := H
 have A3 := Aside0.mk A30
 clear A30
 by_cases c4 : t659 < 0
 · rw [if_pos c4] at H
   have c4b0 : decide (t659 < 0) = true := decide_eq_true c4
   clear c4
   as_aux_lemma =>
    obtain rfl := Option.some.inj H
    go_enter Try.func34, Try.ntmps34
    go_wp2_with (first | ((with_reducible refine gate_dst (N := 2) rfl ?_); refine box_event ?hg (N := 2) ?hd (cs := #[.slice A0_0 l0_0.length c0_0]) (t := 44) ?hr ?_; (case hd => rfl); (case hg => rfl); (case hr => first | (go_simp; done) | (go_simp; rfl)); intro gb658 hg w5 hbox hb; have n0_ := Aside0.mk (below_step (bl_ HB.out) hb); have n1_ := Aside0.mk (hbox); have n2_ := Aside0.mk ((by rw [hg]; exact (below_size (bl_ HB.out)) : w.heap.size ≤ gb658)); have n3_ := Aside0.mk ((by rw [hg]; exact (below_size (bl_ HB.out)) : w.heap.size ≤ gb658)); clear HB; have HB := n0_; have BK658 := n1_; have GW658 := n2_; have GE658 := n3_; clear n0_ n1_ n2_ n3_; clear hb hbox hg; have hcz6_0 : w5.cell? ⟨gb658, 0, none⟩ = some (.slice A0_0 l0_0.length c0_0) := (blk_cell BK658.out 0).trans rfl; have hfz6_0 := blk_frozen BK658.out 0) | ((with_reducible refine gate_callee (f := 12) rfl ?_); refine goesL_ (some 8) rfl rfl Try.func12 (by kernel_rfl) rfl #[.slice A0_0 l0_0.length c0_0, .int .i64 a1] rfl (by (try simp only [List.map_toArray, List.map_cons, List.map_nil]); first | done | rfl | (simp only [List.length_drop, List.length_take]; rfl)) ?_; (with_reducible refine (laws_heldIntS.calls k _ _ l0_0 a1 t659 _ ?side1 ?side2 A3.out).mono ?_); (case side1 => exact ce_ ((Kd.C_below HR0_0.out HB.out))); (case side2 => exact HC0_0.out); rintro e w' ⟨rfl, ⟨nd, rfl⟩⟩; refine ⟨_, rfl, ?_⟩))
    go_ret
    exact ⟨by first | rfl | (simp [errW_none, errW_some] <;> rfl) | (simp [*, errW_none, errW_some] <;> rfl), by repeat (first | (with_reducible first | exact HB.out | apply below_alloc | apply pw_below_drewN | apply below_drew1 | refine below_set ?_ GE658.out) | exact HB.out)⟩
 · rw [if_neg c4] at H
   have c4b0 : decide (t659 < 0) = false := decide_eq_false c4
   clear c4
   as_aux_lemma =>
    obtain rfl := Option.some.inj H
    go_enter Try.func34, Try.ntmps34
    go_wp2_with (first | ((with_reducible refine gate_dst (N := 2) rfl ?_); refine box_event ?hg (N := 2) ?hd (cs := #[.slice A0_0 l0_0.length c0_0]) (t := 44) ?hr ?_; (case hd => rfl); (case hg => rfl); (case hr => first | (go_simp; done) | (go_simp; rfl)); intro gb658 hg w7 hbox hb; have n0_ := Aside0.mk (below_step (bl_ HB.out) hb); have n1_ := Aside0.mk (hbox); have n2_ := Aside0.mk ((by rw [hg]; exact (below_size (bl_ HB.out)) : w.heap.size ≤ gb658)); have n3_ := Aside0.mk ((by rw [hg]; exact (below_size (bl_ HB.out)) : w.heap.size ≤ gb658)); clear HB; have HB := n0_; have BK658 := n1_; have GW658 := n2_; have GE658 := n3_; clear n0_ n1_ n2_ n3_; clear hb hbox hg; have hcz8_0 : w7.cell? ⟨gb658, 0, none⟩ = some (.slice A0_0 l0_0.length c0_0) := (blk_cell BK658.out 0).trans rfl; have hfz8_0 := blk_frozen BK658.out 0) | ((with_reducible refine gate_callee (f := 12) rfl ?_); refine goesL_ (some 8) rfl rfl Try.func12 (by kernel_rfl) rfl #[.slice A0_0 l0_0.length c0_0, .int .i64 a1] rfl (by (try simp only [List.map_toArray, List.map_cons, List.map_nil]); first | done | rfl | (simp only [List.length_drop, List.length_take]; rfl)) ?_; (with_reducible refine (laws_heldIntS.calls k _ _ l0_0 a1 t659 _ ?side1 ?side2 A3.out).mono ?_); (case side1 => exact ce_ ((Kd.C_below HR0_0.out HB.out))); (case side2 => exact HC0_0.out); rintro e w' ⟨rfl, ⟨nd, rfl⟩⟩; refine ⟨_, rfl, ?_⟩))
    go_ret
    exact ⟨by first | rfl | (simp [errW_none, errW_some] <;> rfl) | (simp [*, errW_none, errW_some] <;> rfl), by repeat (first | (with_reducible first | exact HB.out | apply below_alloc | apply pw_below_drewN | apply below_drew1 | refine below_set ?_ GE658.out) | exact HB.out)⟩
end Go.Proofs.Ythkhpejggdnkfaa.PA
end
