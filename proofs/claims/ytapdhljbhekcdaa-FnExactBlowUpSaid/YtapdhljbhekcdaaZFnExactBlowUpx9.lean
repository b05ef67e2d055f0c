-- Bundled by shake.py from this session's printed and written texts; Lean checks it.
import Derived.Test.YtapdhljbhekcdaaZFnExactBlowUpx1
import Derived.Test.YtapdhljbhekcdaaZFnExactBlowUpx5
import Derived.Test.YtapdhljbhekcdaaZFnExactBlowUpx8
section
namespace Go.Proofs.Ytapdhljbhekcdaa.PC
open Go.RowKit Go.Proofs.YtapdhljbhekcdaaW.PrintWords Go.Proofs.YtapdhljbhekcdaaW.PrintLast Go.Proofs.YtapdhljbhekcdaaW.PrintMore
set_option linter.unusedVariables false
set_option linter.unusedSimpArgs false
mutual
def laws_FnExactBlowUp.j0 : Nat → Bool → Bool → Bool → List Int → List Int → List Int → List Int → Option (Bool)
 | 0, _, _, _, _, _, _, _ => none
 | k + 1, x5, x8, x40, x516000, x525000, x529000, x534000 => if x40 = true then (some false) else ((laws_toSemigroup.f k x516000).bind fun t535 => ((laws_eqSemigroup.f k x529000 t535).bind fun t538 => (if t538 = true then ((laws_markSemigroup.f k x529000 1).bind fun bt539 => (if bt539.1 < 0 then (laws_FnExactBlowUp.j1 k x5 true x516000 x525000 x534000) else ((laws_eqSemigroup.f k x534000 x525000).bind fun t541 => (if t541 = true then (laws_FnExactBlowUp.j1 k x5 (x8 != x5) x516000 x525000 x534000) else (laws_FnExactBlowUp.j1 k x5 true x516000 x525000 x534000))))) else (some false))))
def laws_FnExactBlowUp.j1 : Nat → Bool → Bool → List Int → List Int → List Int → Option (Bool)
 | 0, _, _, _, _, _ => none
 | k + 1, x5, x61, x516000, x525000, x534000 => if x61 = true then (some false) else ((laws_markSemigroup.f k x534000 1).bind fun bt542 => ((laws_heldSemigroup.f k bt542.2 1).bind fun t544 => (if t544 < 0 then (some false) else (if t544 = bt542.1 then ((laws_toSemigroup.f k x516000).bind fun t545 => ((impl_BlowUp.f k t545).bind fun bt548 => ((laws_eqSemigroup.f k bt548.1 x525000).bind fun t553 => (if t553 = true then (laws_FnExactBlowUp.j2 k bt542.1 (bt548.2 != x5) bt542.2) else (laws_FnExactBlowUp.j2 k bt542.1 true bt542.2))))) else (some false)))))
def laws_FnExactBlowUp.j2 : Nat → Int → Bool → List Int → Option (Bool)
 | 0, _, _, _ => none
 | k + 1, x10, x87, x534000 => if x87 = true then (some false) else ((laws_heldSemigroup.f k x534000 1).bind fun t554 => (if t554 < 0 then (some false) else (if t554 = x10 then (some true) else (some false))))
end
def laws_FnExactBlowUp.f (k : Nat) (l0_0 : List Int) : Option (Bool) := (laws_szSemigroup.f l0_0 1048576).bind fun t516 => (if t516 < 0 then (some true) else ((laws_toSemigroup.f k l0_0).bind fun t517 => ((spec_BlowUp.f k t517).bind fun bt520 => ((laws_toSemigroup.f k l0_0).bind fun t525 => ((impl_BlowUp.f k t525).bind fun bt529 => ((laws_eqSemigroup.f k bt529.1 bt520.1).bind fun t534 => (if t534 = true then (laws_FnExactBlowUp.j0 k bt520.2 bt529.2 (bt529.2 != bt520.2) l0_0 bt520.1 t525 bt529.1) else (laws_FnExactBlowUp.j0 k bt520.2 bt529.2 true l0_0 bt520.1 t525 bt529.1))))))))
set_option maxHeartbeats 8000000 in
set_option maxRecDepth 100000 in
theorem laws_FnExactBlowUp.calls (k : Nat) (A0_0 : Option Addr) (c0_0 : Nat) (l0_0 : List Int) (r : Bool) (w : World) (hr0_0 : Kd.C (Kd.int .i64) w A0_0 l0_0.length l0_0) (hc0_0 : l0_0.length ≤ c0_0) (h : laws_FnExactBlowUp.f k l0_0 = some r) (hr_ : r = true := by rfl) :
 Calls Try.prog 14 #[.agg #[.slice A0_0 l0_0.length c0_0]] w fun e w' => e = .returned (.bool r) ∧ Below w.heap.size w w' := by
 have hr_ := Aside0.mk hr_
 have hu24 := Try.underlying24
 have hu27 := Try.underlying27
 have HR0_0 := Aside0.mk hr0_0
 have HC0_0 := Aside0.mk hc0_0
 clear hr0_0 hc0_0
 have HB := Aside0.mk (Below.refl w.heap.size w)
 have H : ((laws_szSemigroup.f l0_0 1048576).bind fun t516 => (if t516 < 0 then (some true) else ((laws_toSemigroup.f k l0_0).bind fun t517 => ((spec_BlowUp.f k t517).bind fun bt520 => ((laws_toSemigroup.f k l0_0).bind fun t525 => ((impl_BlowUp.f k t525).bind fun bt529 => ((laws_eqSemigroup.f k bt529.1 bt520.1).bind fun t534 => (if t534 = true then (laws_FnExactBlowUp.j0 k bt520.2 bt529.2 (bt529.2 != bt520.2) l0_0 bt520.1 t525 bt529.1) else (laws_FnExactBlowUp.j0 k bt520.2 bt529.2 true l0_0 bt520.1 t525 bt529.1))))))))) = some r := h
 clear h
 replace H := Option.bind_eq_some_iff.mp H
 obtain ⟨t516, A20, H⟩ := H
 replace H : (if t516 < 0 then (some true) else ((laws_toSemigroup.f k l0_0).bind fun t517 => ((spec_BlowUp.f k t517).bind fun bt520 => ((laws_toSemigroup.f k l0_0).bind fun t525 => ((impl_BlowUp.f k t525).bind fun bt529 => ((laws_eqSemigroup.f k bt529.1 bt520.1).bind fun t534 => (if t534 = true then (laws_FnExactBlowUp.j0 k bt520.2 bt529.2 (bt529.2 != bt520.2) l0_0 bt520.1 t525 bt529.1) else (laws_FnExactBlowUp.j0 k bt520.2 bt529.2 true l0_0 bt520.1 t525 bt529.1)))))))) = some r := H
 have A2 := Aside0.mk A20
 clear A20
 by_cases c3 : t516 < 0
 · rw [if_pos c3] at H
   have c3b0 : decide (t516 < 0) = true := decide_eq_true c3
   clear c3
   as_aux_lemma =>
    obtain rfl := Option.some.inj H
    go_enter Try.func14, Try.ntmps14
    go_wp2_with (first | ((with_reducible refine gate_dst (N := 1) rfl ?_); refine box_event ?hg (N := 1) ?hd (cs := #[.slice A0_0 l0_0.length c0_0]) (t := 24) ?hr ?_; (case hd => rfl); (case hg => rfl); (case hr => first | (go_simp; done) | (go_simp; rfl)); intro gb515 hg w4 hbox hb; have n0_ := Aside0.mk (below_step (bl_ HB.out) hb); have n1_ := Aside0.mk (hbox); have n2_ := Aside0.mk ((by rw [hg]; exact (below_size (bl_ HB.out)) : w.heap.size ≤ gb515)); have n3_ := Aside0.mk ((by rw [hg]; exact (below_size (bl_ HB.out)) : w.heap.size ≤ gb515)); clear HB; have HB := n0_; have BK515 := n1_; have GW515 := n2_; have GE515 := n3_; clear n0_ n1_ n2_ n3_; clear hb hbox hg; have hcz5_0 : w4.cell? ⟨gb515, 0, none⟩ = some (.slice A0_0 l0_0.length c0_0) := (blk_cell BK515.out 0).trans rfl; have hfz5_0 := blk_frozen BK515.out 0) | ((with_reducible refine gate_callee (f := 15) rfl ?_); refine goesL_ (some 16) rfl rfl Try.func15 (by kernel_rfl) rfl #[.agg #[.slice A0_0 l0_0.length c0_0], .int .i64 1048576] rfl (by (try simp only [List.map_toArray, List.map_cons, List.map_nil]); first | done | rfl | (simp only [List.length_drop, List.length_take]; rfl)) ?_; (with_reducible refine (laws_szSemigroup.calls _ _ l0_0 1048576 t516 _ ?side1 ?side2 A2.out).mono ?_); (case side1 => exact ce_ ((Kd.C_below HR0_0.out HB.out))); (case side2 => exact HC0_0.out); rintro e w6 ⟨rfl, hb⟩; refine ⟨_, rfl, ?_⟩; have n0_ := Aside0.mk (blk_below (g := gb515) (o := .cells #[.slice A0_0 l0_0.length c0_0] 24 (0, 0)) (be_ BK515.out) hb); have n1_ := Aside0.mk (below_step (by repeat (first | (with_reducible first | exact HB.out | apply below_alloc | apply pw_below_drewN | apply below_drew1 | refine below_set ?_ GE515.out) | exact HB.out)) hb); clear BK515; clear HB; have BK515 := n0_; have HB := n1_; clear n0_ n1_; (try clear hb); (try clear hb2); (try clear hk); (try clear hi)))
    go_ret
    exact ⟨by first | rfl | (simp [errW_none, errW_some] <;> rfl) | (simp [*, errW_none, errW_some] <;> rfl), by repeat (first | (with_reducible first | exact HB.out | apply below_alloc | apply pw_below_drewN | apply below_drew1 | refine below_set ?_ GE515.out) | exact HB.out)⟩
 · rw [if_neg c3] at H
   have c3b0 : decide (t516 < 0) = false := decide_eq_false c3
   clear c3
   replace H := Option.bind_eq_some_iff.mp H
   obtain ⟨t517, A70, H⟩ := H
   replace H : ((spec_BlowUp.f k t517).bind fun bt520 => ((laws_toSemigroup.f k l0_0).bind fun t525 => ((impl_BlowUp.f k t525).bind fun bt529 => ((laws_eqSemigroup.f k bt529.1 bt520.1).bind fun t534 => (if t534 = true then (laws_FnExactBlowUp.j0 k bt520.2 bt529.2 (bt529.2 != bt520.2) l0_0 bt520.1 t525 bt529.1) else (laws_FnExactBlowUp.j0 k bt520.2 bt529.2 true l0_0 bt520.1 t525 bt529.1)))))) = some r := H
   have A7 := Aside0.mk A70
   clear A70
   replace H := Option.bind_eq_some_iff.mp H
   obtain ⟨⟨t520, t523⟩, A80, H⟩ := H
   replace H : ((laws_toSemigroup.f k l0_0).bind fun t525 => ((impl_BlowUp.f k t525).bind fun bt529 => ((laws_eqSemigroup.f k bt529.1 t520).bind fun t534 => (if t534 = true then (laws_FnExactBlowUp.j0 k t523 bt529.2 (bt529.2 != t523) l0_0 t520 t525 bt529.1) else (laws_FnExactBlowUp.j0 k t523 bt529.2 true l0_0 t520 t525 bt529.1))))) = some r := H
   have A8 := Aside0.mk A80
   clear A80
   replace H := Option.bind_eq_some_iff.mp H
   obtain ⟨t525, A90, H⟩ := H
   replace H : ((impl_BlowUp.f k t525).bind fun bt529 => ((laws_eqSemigroup.f k bt529.1 t520).bind fun t534 => (if t534 = true then (laws_FnExactBlowUp.j0 k t523 bt529.2 (bt529.2 != t523) l0_0 t520 t525 bt529.1) else (laws_FnExactBlowUp.j0 k t523 bt529.2 true l0_0 t520 t525 bt529.1)))) = some r := H
   have A9 := Aside0.mk A90
   clear A90
   replace H := Option.bind_eq_some_iff.mp H
   obtain ⟨⟨t529, t532⟩, A100, H⟩ := H
   replace H : ((laws_eqSemigroup.f k t529 t520).bind fun t534 => (if t534 = true then (laws_FnExactBlowUp.j0 k t523 t532 (t532 != t523) l0_0 t520 t525 t529) else (laws_FnExactBlowUp.j0 k t523 t532 true l0_0 t520 t525 t529))) = some r := H
   have A10 := Aside0.mk A100
   clear A100
   have HC11 := Aside0.mk H
   clear H
   go_enter Try.func14, Try.ntmps14
   go_upto_region 8 with (first | ((with_reducible refine gate_dst (N := 1) rfl ?_); refine box_event ?hg (N := 1) ?hd (cs := #[.slice A0_0 l0_0.length c0_0]) (t := 24) ?hr ?_; (case hd => rfl); (case hg => rfl); (case hr => first | (go_simp; done) | (go_simp; rfl)); intro gb515 hg w12 hbox hb; have n0_ := Aside0.mk (below_step (bl_ HB.out) hb); have n1_ := Aside0.mk (hbox); have n2_ := Aside0.mk ((by rw [hg]; exact (below_size (bl_ HB.out)) : w.heap.size ≤ gb515)); have n3_ := Aside0.mk ((by rw [hg]; exact (below_size (bl_ HB.out)) : w.heap.size ≤ gb515)); clear HB; have HB := n0_; have BK515 := n1_; have GW515 := n2_; have GE515 := n3_; clear n0_ n1_ n2_ n3_; clear hb hbox hg; have hcz13_0 : w12.cell? ⟨gb515, 0, none⟩ = some (.slice A0_0 l0_0.length c0_0) := (blk_cell BK515.out 0).trans rfl; have hfz13_0 := blk_frozen BK515.out 0) | ((with_reducible refine gate_callee (f := 15) rfl ?_); refine goesL_ (some 16) rfl rfl Try.func15 (by kernel_rfl) rfl #[.agg #[.slice A0_0 l0_0.length c0_0], .int .i64 1048576] rfl (by (try simp only [List.map_toArray, List.map_cons, List.map_nil]); first | done | rfl | (simp only [List.length_drop, List.length_take]; rfl)) ?_; (with_reducible refine (laws_szSemigroup.calls _ _ l0_0 1048576 t516 _ ?side1 ?side2 A2.out).mono ?_); (case side1 => exact ce_ ((Kd.C_below HR0_0.out HB.out))); (case side2 => exact HC0_0.out); rintro e w14 ⟨rfl, hb⟩; refine ⟨_, rfl, ?_⟩; have n0_ := Aside0.mk (blk_below (g := gb515) (o := .cells #[.slice A0_0 l0_0.length c0_0] 24 (0, 0)) (be_ BK515.out) hb); have n1_ := Aside0.mk (below_step (by repeat (first | (with_reducible first | exact HB.out | apply below_alloc | apply pw_below_drewN | apply below_drew1 | refine below_set ?_ GE515.out) | exact HB.out)) hb); clear BK515; clear HB; have BK515 := n0_; have HB := n1_; clear n0_ n1_; (try clear hb); (try clear hb2); (try clear hk); (try clear hi); have hcz15_0 : w14.cell? ⟨gb515, 0, none⟩ = some (.slice A0_0 l0_0.length c0_0) := (blk_cell BK515.out 0).trans rfl; have hfz15_0 := blk_frozen BK515.out 0) | ((with_reducible refine gate_callee (f := 17) rfl ?_); refine goesL_ (some 21) rfl rfl Try.func17 (by kernel_rfl) rfl #[.agg #[.slice A0_0 l0_0.length c0_0]] rfl (by (try simp only [List.map_toArray, List.map_cons, List.map_nil]); first | done | rfl | (simp only [List.length_drop, List.length_take]; rfl)) ?_; (with_reducible refine (laws_toSemigroup.calls k _ _ l0_0 t517 _ ?side1 ?side2 A7.out).mono ?_); (case side1 => exact ce_ ((Kd.C_below HR0_0.out HB.out))); (case side2 => exact HC0_0.out); rintro e w16 ⟨v518, rfl, ho0, hb⟩; refine ⟨_, rfl, ?_⟩; have n0_ := Aside0.mk (Kd.R_lower ho0 (below_size (by repeat (first | (with_reducible first | exact HB.out | apply below_alloc | apply pw_below_drewN | apply below_drew1 | refine below_set ?_ GE515.out) | exact HB.out)))); have n1_ := Aside0.mk (blk_below (g := gb515) (o := .cells #[.slice A0_0 l0_0.length c0_0] 24 (0, 0)) (be_ BK515.out) hb); have n2_ := Aside0.mk (below_step (by repeat (first | (with_reducible first | exact HB.out | apply below_alloc | apply pw_below_drewN | apply below_drew1 | refine below_set ?_ GE515.out) | exact HB.out)) hb); clear BK515; clear HB; have HO519 := n0_; have BK515 := n1_; have HB := n2_; clear n0_ n1_ n2_; (try clear hb); (try clear hb2); (try clear hk); (try clear hi); (try clear ho0); obtain ⟨Ao17, co17, eo17⟩ := Kd.R_slice HO519.out; subst eo17) | ((with_reducible refine gate_callee (f := 52) rfl ?_); refine goesL_ (some 22) rfl rfl Try.func52 (by kernel_rfl) rfl #[.agg #[.slice Ao17 t517.length co17]] rfl (by (try simp only [List.map_toArray, List.map_cons, List.map_nil]); first | done | rfl | (simp only [List.length_drop, List.length_take]; rfl)) ?_; (with_reducible refine (spec_BlowUp.calls k _ _ t517 t520 t523 _ ?side1 ?side2 A8.out).mono ?_); (case side1 => exact ce_ ((Kd.R_reads' HO519.out).2.2)); (case side2 => exact (Kd.R_reads' HO519.out).2.1); rintro e w18 ⟨v521, rfl, ho0, hb⟩; refine ⟨_, rfl, ?_⟩; have n0_ := Aside0.mk (Kd.R_elder' (re_ HO519.out) (Kd.R_base ho0) hb); have n1_ := Aside0.mk (Kd.R_lower (Kd.R_new' ho0 (Kd.R_lt (re_ HO519.out))) (below_size (by repeat (first | (with_reducible first | exact HB.out | apply below_alloc | apply pw_below_drewN | apply below_drew1 | refine below_set ?_ GE515.out) | exact HB.out)))); have n2_ := Aside0.mk (blk_below (g := gb515) (o := .cells #[.slice A0_0 l0_0.length c0_0] 24 (0, 0)) (be_ BK515.out) hb); have n3_ := Aside0.mk (below_step (by repeat (first | (with_reducible first | exact HB.out | apply below_alloc | apply pw_below_drewN | apply below_drew1 | refine below_set ?_ GE515.out) | exact HB.out)) hb); clear HO519; clear BK515; clear HB; have HO519 := n0_; have HO522 := n1_; have BK515 := n2_; have HB := n3_; clear n0_ n1_ n2_ n3_; (try clear hb); (try clear hb2); (try clear hk); (try clear hi); (try clear ho0)) | ((with_reducible refine gate_dst (N := 4) rfl ?_); refine box_event ?hg (N := 4) ?hd (cs := #[.slice none 0 0]) (t := 27) ?hr ?_; (case hd => rfl); (case hg => rfl); (case hr => first | (go_simp; done) | (go_simp; rfl)); intro gb524 hg w19 hbox hb; have n0_ := Aside0.mk (Kd.R_below (re_ HO519.out) hb); have n1_ := Aside0.mk (Kd.R_below (re_ HO522.out) hb); have n2_ := Aside0.mk (blk_below (g := gb515) (o := .cells #[.slice A0_0 l0_0.length c0_0] 24 (0, 0)) (be_ BK515.out) hb); have n3_ := Aside0.mk (below_step (by repeat (first | (with_reducible first | exact HB.out | apply below_alloc | apply pw_below_drewN | apply below_drew1 | refine below_set ?_ GE515.out) | exact HB.out)) hb); have n4_ := Aside0.mk (hbox); have n5_ := Aside0.mk ((by rw [hg]; exact (below_size (by repeat (first | (with_reducible first | exact HB.out | apply below_alloc | apply pw_below_drewN | apply below_drew1 | refine below_set ?_ GE515.out) | exact HB.out))) : w.heap.size ≤ gb524)); have n6_ := Aside0.mk ((by rw [hg]; exact (below_size (by repeat (first | (with_reducible first | exact HB.out | apply below_alloc | apply pw_below_drewN | apply below_drew1 | refine below_set ?_ GE515.out) | exact HB.out))) : w.heap.size ≤ gb524)); have n7_ := Aside0.mk ((by rw [hg]; exact Nat.ne_of_lt (blk_lt (g := gb515) (o := .cells #[.slice A0_0 l0_0.length c0_0] 24 (0, 0)) (be_ BK515.out)) : gb515 ≠ gb524)); have n8_ := Aside0.mk ((by rw [hg]; exact Nat.ne_of_gt (blk_lt (g := gb515) (o := .cells #[.slice A0_0 l0_0.length c0_0] 24 (0, 0)) (be_ BK515.out)) : gb524 ≠ gb515)); clear HO519; clear HO522; clear BK515; clear HB; have HO519 := n0_; have HO522 := n1_; have BK515 := n2_; have HB := n3_; have BK524 := n4_; have GW524 := n5_; have GE524 := n6_; have NB515_524 := n7_; have NB524_515 := n8_; clear n0_ n1_ n2_ n3_ n4_ n5_ n6_ n7_ n8_; clear hb hbox hg; obtain ⟨Ao20, co20, eo20⟩ := Kd.R_slice HO522.out; subst eo20; have hnb21 := NB524_515.out; have hnc21 := NB515_524.out; have hcz22_0 : w19.cell? ⟨gb524, 0, none⟩ = some (.slice none 0 0) := (blk_cell BK524.out 0).trans rfl; have hfz22_0 := blk_frozen BK524.out 0; have hcz23_0 : w19.cell? ⟨gb515, 0, none⟩ = some (.slice A0_0 l0_0.length c0_0) := (blk_cell BK515.out 0).trans rfl; have hfz23_0 := blk_frozen BK515.out 0) | ((with_reducible refine gate_callee (f := 17) rfl ?_); refine goesL_ (some 26) rfl rfl Try.func17 (by kernel_rfl) rfl #[.agg #[.slice A0_0 l0_0.length c0_0]] rfl (by (try simp only [List.map_toArray, List.map_cons, List.map_nil]); first | done | rfl | (simp only [List.length_drop, List.length_take]; rfl)) ?_; (with_reducible refine (laws_toSemigroup.calls k _ _ l0_0 t525 _ ?side1 ?side2 A9.out).mono ?_); (case side1 => exact Kd.C_below HR0_0.out (by repeat (first | (with_reducible first | exact HB.out | apply below_alloc | apply pw_below_drewN | apply below_drew1 | refine below_set ?_ GE515.out | refine below_set ?_ GE524.out) | exact HB.out))); (case side2 => exact HC0_0.out); rintro e w24 ⟨v526, rfl, ho0, hb⟩; refine ⟨_, rfl, ?_⟩; have n0_ := Aside0.mk (Kd.R_elder' (by (with_reducible repeat (first | apply Kd.R_alloc | apply Kd.R_drewN | apply Kd.R_drew)); exact (Kd.R_mono (Kd.R_far (p := ⟨gb524, 0, none⟩) (Kd.R_types HO519.out BK524.out (by decide)) (fun _ hk => hk.2) (.slice Ao20 t520.length co20)) (fun _ h_ => h_.1))) (Kd.R_base ho0) hb); have n1_ := Aside0.mk (Kd.R_elder' (by (with_reducible repeat (first | apply Kd.R_alloc | apply Kd.R_drewN | apply Kd.R_drew)); exact (Kd.R_mono (Kd.R_far (p := ⟨gb524, 0, none⟩) (Kd.R_types HO522.out BK524.out (by decide)) (fun _ hk => hk.2) (.slice Ao20 t520.length co20)) (fun _ h_ => h_.1))) (Kd.R_base ho0) hb); have n2_ := Aside0.mk (Kd.R_lower (Kd.R_new' (Kd.R_new' ho0 (Kd.R_lt (by (with_reducible repeat (first | apply Kd.R_alloc | apply Kd.R_drewN | apply Kd.R_drew)); exact (Kd.R_mono (Kd.R_far (p := ⟨gb524, 0, none⟩) (Kd.R_types HO519.out BK524.out (by decide)) (fun _ hk => hk.2) (.slice Ao20 t520.length co20)) (fun _ h_ => h_.1))))) (Kd.R_lt (by (with_reducible repeat (first | apply Kd.R_alloc | apply Kd.R_drewN | apply Kd.R_drew)); exact (Kd.R_mono (Kd.R_far (p := ⟨gb524, 0, none⟩) (Kd.R_types HO522.out BK524.out (by decide)) (fun _ hk => hk.2) (.slice Ao20 t520.length co20)) (fun _ h_ => h_.1))))) (below_size (by repeat (first | (with_reducible first | exact HB.out | apply below_alloc | apply pw_below_drewN | apply below_drew1 | refine below_set ?_ GE515.out | refine below_set ?_ GE524.out) | exact HB.out)))); have n3_ := Aside0.mk (blk_below (g := gb515) (o := .cells #[.slice A0_0 l0_0.length c0_0] 24 (0, 0)) (by (with_reducible repeat (first | refine blk_drewN ?_ _ | refine blk_drew ?_ | refine blk_alloc ?_ _)); refine blk_far ?_ NB515_524.out _; (with_reducible repeat (first | refine blk_drewN ?_ _ | refine blk_drew ?_ | refine blk_alloc ?_ _)); exact BK515.out) hb); have n4_ := Aside0.mk (blk_below (g := gb524) (o := .cells #[.slice Ao20 t520.length co20] 27 (0, 0)) (by (with_reducible repeat (first | refine blk_drewN ?_ _ | refine blk_drew ?_ | refine blk_alloc ?_ _)); refine blk_put (cs := #[.slice none 0 0]) ?_ 0 _ rfl; (with_reducible repeat (first | refine blk_drewN ?_ _ | refine blk_drew ?_ | refine blk_alloc ?_ _)); exact BK524.out) hb); have n5_ := Aside0.mk (below_step (by repeat (first | (with_reducible first | exact HB.out | apply below_alloc | apply pw_below_drewN | apply below_drew1 | refine below_set ?_ GE515.out | refine below_set ?_ GE524.out) | exact HB.out)) hb); clear HO519; clear HO522; clear BK515; clear BK524; clear HB; have HO519 := n0_; have HO522 := n1_; have HO527 := n2_; have BK515 := n3_; have BK524 := n4_; have HB := n5_; clear n0_ n1_ n2_ n3_ n4_ n5_; (try clear hb); (try clear hb2); (try clear hk); (try clear hi); (try clear ho0)) | ((with_reducible refine gate_dst (N := 6) rfl ?_); refine box_event ?hg (N := 6) ?hd (cs := #[.slice none 0 0]) (t := 27) ?hr ?_; (case hd => rfl); (case hg => rfl); (case hr => first | (go_simp; done) | (go_simp; rfl)); intro gb528 hg w25 hbox hb; have n0_ := Aside0.mk (Kd.R_below (re_ HO519.out) hb); have n1_ := Aside0.mk (Kd.R_below (re_ HO522.out) hb); have n2_ := Aside0.mk (Kd.R_below (re_ HO527.out) hb); have n3_ := Aside0.mk (blk_below (g := gb515) (o := .cells #[.slice A0_0 l0_0.length c0_0] 24 (0, 0)) (be_ BK515.out) hb); have n4_ := Aside0.mk (blk_below (g := gb524) (o := .cells #[.slice Ao20 t520.length co20] 27 (0, 0)) (be_ BK524.out) hb); have n5_ := Aside0.mk (below_step (by repeat (first | (with_reducible first | exact HB.out | apply below_alloc | apply pw_below_drewN | apply below_drew1 | refine below_set ?_ GE515.out | refine below_set ?_ GE524.out) | exact HB.out)) hb); have n6_ := Aside0.mk (hbox); have n7_ := Aside0.mk ((by rw [hg]; exact (below_size (by repeat (first | (with_reducible first | exact HB.out | apply below_alloc | apply pw_below_drewN | apply below_drew1 | refine below_set ?_ GE515.out | refine below_set ?_ GE524.out) | exact HB.out))) : w.heap.size ≤ gb528)); have n8_ := Aside0.mk ((by rw [hg]; exact (below_size (by repeat (first | (with_reducible first | exact HB.out | apply below_alloc | apply pw_below_drewN | apply below_drew1 | refine below_set ?_ GE515.out | refine below_set ?_ GE524.out) | exact HB.out))) : w.heap.size ≤ gb528)); have n9_ := Aside0.mk ((by rw [hg]; exact Nat.ne_of_lt (blk_lt (g := gb515) (o := .cells #[.slice A0_0 l0_0.length c0_0] 24 (0, 0)) (be_ BK515.out)) : gb515 ≠ gb528)); have n10_ := Aside0.mk ((by rw [hg]; exact Nat.ne_of_gt (blk_lt (g := gb515) (o := .cells #[.slice A0_0 l0_0.length c0_0] 24 (0, 0)) (be_ BK515.out)) : gb528 ≠ gb515)); have n11_ := Aside0.mk ((by rw [hg]; exact Nat.ne_of_lt (blk_lt (g := gb524) (o := .cells #[.slice Ao20 t520.length co20] 27 (0, 0)) (be_ BK524.out)) : gb524 ≠ gb528)); have n12_ := Aside0.mk ((by rw [hg]; exact Nat.ne_of_gt (blk_lt (g := gb524) (o := .cells #[.slice Ao20 t520.length co20] 27 (0, 0)) (be_ BK524.out)) : gb528 ≠ gb524)); clear HO519; clear HO522; clear HO527; clear BK515; clear BK524; clear HB; have HO519 := n0_; have HO522 := n1_; have HO527 := n2_; have BK515 := n3_; have BK524 := n4_; have HB := n5_; have BK528 := n6_; have GW528 := n7_; have GE528 := n8_; have NB515_528 := n9_; have NB528_515 := n10_; have NB524_528 := n11_; have NB528_524 := n12_; clear n0_ n1_ n2_ n3_ n4_ n5_ n6_ n7_ n8_ n9_ n10_ n11_ n12_; clear hb hbox hg; obtain ⟨Ao26, co26, eo26⟩ := Kd.R_slice HO527.out; subst eo26; have hnb27 := NB528_515.out; have hnc27 := NB515_528.out; have hnb28 := NB528_524.out; have hnc28 := NB524_528.out; have hcz29_0 : w25.cell? ⟨gb528, 0, none⟩ = some (.slice none 0 0) := (blk_cell BK528.out 0).trans rfl; have hfz29_0 := blk_frozen BK528.out 0) | ((with_reducible refine gate_callee (f := 53) rfl ?_); refine goesL_ (some 29) rfl rfl Try.func53 (by kernel_rfl) rfl #[.agg #[.slice Ao26 t525.length co26]] rfl (by (try simp only [List.map_toArray, List.map_cons, List.map_nil]); first | done | rfl | (simp only [List.length_drop, List.length_take]; rfl)) ?_; (with_reducible refine (impl_BlowUp.calls k _ _ t525 t529 t532 _ ?side1 ?side2 A10.out).mono ?_); (case side1 => refine (Kd.R_reads' (e := 3) (base := w.heap.size) (ok := fun k_ => ((True ∧ some k_ ≠ (.slice Ao17 t517.length co17 : Value).ownBlock) ∧ some k_ ≠ (.slice Ao20 t520.length co20 : Value).ownBlock)) (n := t525.length) (c := co26) ?_).2.2; exact (by (with_reducible repeat (first | apply Kd.R_alloc | apply Kd.R_drewN | apply Kd.R_drew)); exact (Kd.R_mono (Kd.R_far (p := ⟨gb528, 0, none⟩) (Kd.R_types HO527.out BK528.out (by decide)) (fun _ hk => hk.2) (.slice Ao26 t525.length co26)) (fun _ h_ => h_.1)))); (case side2 => exact (Kd.R_reads' HO527.out).2.1); rintro e w30 ⟨v530, rfl, ho0, hb⟩; refine ⟨_, rfl, ?_⟩; have n0_ := Aside0.mk (Kd.R_elder' (by (with_reducible repeat (first | apply Kd.R_alloc | apply Kd.R_drewN | apply Kd.R_drew)); exact (Kd.R_mono (Kd.R_far (p := ⟨gb528, 0, none⟩) (Kd.R_types HO519.out BK528.out (by decide)) (fun _ hk => hk.2) (.slice Ao26 t525.length co26)) (fun _ h_ => h_.1))) (Kd.R_base ho0) hb); have n1_ := Aside0.mk (Kd.R_elder' (by (with_reducible repeat (first | apply Kd.R_alloc | apply Kd.R_drewN | apply Kd.R_drew)); exact (Kd.R_mono (Kd.R_far (p := ⟨gb528, 0, none⟩) (Kd.R_types HO522.out BK528.out (by decide)) (fun _ hk => hk.2) (.slice Ao26 t525.length co26)) (fun _ h_ => h_.1))) (Kd.R_base ho0) hb); have n2_ := Aside0.mk (Kd.R_elder' (by (with_reducible repeat (first | apply Kd.R_alloc | apply Kd.R_drewN | apply Kd.R_drew)); exact (Kd.R_mono (Kd.R_far (p := ⟨gb528, 0, none⟩) (Kd.R_types HO527.out BK528.out (by decide)) (fun _ hk => hk.2) (.slice Ao26 t525.length co26)) (fun _ h_ => h_.1))) (Kd.R_base ho0) hb); have n3_ := Aside0.mk (Kd.R_lower (Kd.R_new' (Kd.R_new' (Kd.R_new' ho0 (Kd.R_lt (by (with_reducible repeat (first | apply Kd.R_alloc | apply Kd.R_drewN | apply Kd.R_drew)); exact (Kd.R_mono (Kd.R_far (p := ⟨gb528, 0, none⟩) (Kd.R_types HO519.out BK528.out (by decide)) (fun _ hk => hk.2) (.slice Ao26 t525.length co26)) (fun _ h_ => h_.1))))) (Kd.R_lt (by (with_reducible repeat (first | apply Kd.R_alloc | apply Kd.R_drewN | apply Kd.R_drew)); exact (Kd.R_mono (Kd.R_far (p := ⟨gb528, 0, none⟩) (Kd.R_types HO522.out BK528.out (by decide)) (fun _ hk => hk.2) (.slice Ao26 t525.length co26)) (fun _ h_ => h_.1))))) (Kd.R_lt (by (with_reducible repeat (first | apply Kd.R_alloc | apply Kd.R_drewN | apply Kd.R_drew)); exact (Kd.R_mono (Kd.R_far (p := ⟨gb528, 0, none⟩) (Kd.R_types HO527.out BK528.out (by decide)) (fun _ hk => hk.2) (.slice Ao26 t525.length co26)) (fun _ h_ => h_.1))))) (below_size (by repeat (first | (with_reducible first | exact HB.out | apply below_alloc | apply pw_below_drewN | apply below_drew1 | refine below_set ?_ GE515.out | refine below_set ?_ GE524.out | refine below_set ?_ GE528.out) | exact HB.out)))); have n4_ := Aside0.mk (blk_below (g := gb515) (o := .cells #[.slice A0_0 l0_0.length c0_0] 24 (0, 0)) (by (with_reducible repeat (first | refine blk_drewN ?_ _ | refine blk_drew ?_ | refine blk_alloc ?_ _)); refine blk_far ?_ NB515_528.out _; (with_reducible repeat (first | refine blk_drewN ?_ _ | refine blk_drew ?_ | refine blk_alloc ?_ _)); exact BK515.out) hb); have n5_ := Aside0.mk (blk_below (g := gb524) (o := .cells #[.slice Ao20 t520.length co20] 27 (0, 0)) (by (with_reducible repeat (first | refine blk_drewN ?_ _ | refine blk_drew ?_ | refine blk_alloc ?_ _)); refine blk_far ?_ NB524_528.out _; (with_reducible repeat (first | refine blk_drewN ?_ _ | refine blk_drew ?_ | refine blk_alloc ?_ _)); exact BK524.out) hb); have n6_ := Aside0.mk (blk_below (g := gb528) (o := .cells #[.slice Ao26 t525.length co26] 27 (0, 0)) (by (with_reducible repeat (first | refine blk_drewN ?_ _ | refine blk_drew ?_ | refine blk_alloc ?_ _)); refine blk_put (cs := #[.slice none 0 0]) ?_ 0 _ rfl; (with_reducible repeat (first | refine blk_drewN ?_ _ | refine blk_drew ?_ | refine blk_alloc ?_ _)); exact BK528.out) hb); have n7_ := Aside0.mk (below_step (by repeat (first | (with_reducible first | exact HB.out | apply below_alloc | apply pw_below_drewN | apply below_drew1 | refine below_set ?_ GE515.out | refine below_set ?_ GE524.out | refine below_set ?_ GE528.out) | exact HB.out)) hb); clear HO519; clear HO522; clear HO527; clear BK515; clear BK524; clear BK528; clear HB; have HO519 := n0_; have HO522 := n1_; have HO527 := n2_; have HO531 := n3_; have BK515 := n4_; have BK524 := n5_; have BK528 := n6_; have HB := n7_; clear n0_ n1_ n2_ n3_ n4_ n5_ n6_ n7_; (try clear hb); (try clear hb2); (try clear hk); (try clear hi); (try clear ho0)) | ((with_reducible refine gate_dst (N := 7) rfl ?_); refine box_event ?hg (N := 7) ?hd (cs := #[.slice none 0 0]) (t := 27) ?hr ?_; (case hd => rfl); (case hg => rfl); (case hr => first | (go_simp; done) | (go_simp; rfl)); intro gb533 hg w31 hbox hb; have n0_ := Aside0.mk (Kd.R_below (re_ HO519.out) hb); have n1_ := Aside0.mk (Kd.R_below (re_ HO522.out) hb); have n2_ := Aside0.mk (Kd.R_below (re_ HO527.out) hb); have n3_ := Aside0.mk (Kd.R_below (re_ HO531.out) hb); have n4_ := Aside0.mk (blk_below (g := gb515) (o := .cells #[.slice A0_0 l0_0.length c0_0] 24 (0, 0)) (be_ BK515.out) hb); have n5_ := Aside0.mk (blk_below (g := gb524) (o := .cells #[.slice Ao20 t520.length co20] 27 (0, 0)) (be_ BK524.out) hb); have n6_ := Aside0.mk (blk_below (g := gb528) (o := .cells #[.slice Ao26 t525.length co26] 27 (0, 0)) (be_ BK528.out) hb); have n7_ := Aside0.mk (below_step (by repeat (first | (with_reducible first | exact HB.out | apply below_alloc | apply pw_below_drewN | apply below_drew1 | refine below_set ?_ GE515.out | refine below_set ?_ GE524.out | refine below_set ?_ GE528.out) | exact HB.out)) hb); have n8_ := Aside0.mk (hbox); have n9_ := Aside0.mk ((by rw [hg]; exact (below_size (by repeat (first | (with_reducible first | exact HB.out | apply below_alloc | apply pw_below_drewN | apply below_drew1 | refine below_set ?_ GE515.out | refine below_set ?_ GE524.out | refine below_set ?_ GE528.out) | exact HB.out))) : w.heap.size ≤ gb533)); have n10_ := Aside0.mk ((by rw [hg]; exact (below_size (by repeat (first | (with_reducible first | exact HB.out | apply below_alloc | apply pw_below_drewN | apply below_drew1 | refine below_set ?_ GE515.out | refine below_set ?_ GE524.out | refine below_set ?_ GE528.out) | exact HB.out))) : w.heap.size ≤ gb533)); have n11_ := Aside0.mk ((by rw [hg]; exact Nat.ne_of_lt (blk_lt (g := gb515) (o := .cells #[.slice A0_0 l0_0.length c0_0] 24 (0, 0)) (be_ BK515.out)) : gb515 ≠ gb533)); have n12_ := Aside0.mk ((by rw [hg]; exact Nat.ne_of_gt (blk_lt (g := gb515) (o := .cells #[.slice A0_0 l0_0.length c0_0] 24 (0, 0)) (be_ BK515.out)) : gb533 ≠ gb515)); have n13_ := Aside0.mk ((by rw [hg]; exact Nat.ne_of_lt (blk_lt (g := gb524) (o := .cells #[.slice Ao20 t520.length co20] 27 (0, 0)) (be_ BK524.out)) : gb524 ≠ gb533)); have n14_ := Aside0.mk ((by rw [hg]; exact Nat.ne_of_gt (blk_lt (g := gb524) (o := .cells #[.slice Ao20 t520.length co20] 27 (0, 0)) (be_ BK524.out)) : gb533 ≠ gb524)); have n15_ := Aside0.mk ((by rw [hg]; exact Nat.ne_of_lt (blk_lt (g := gb528) (o := .cells #[.slice Ao26 t525.length co26] 27 (0, 0)) (be_ BK528.out)) : gb528 ≠ gb533)); have n16_ := Aside0.mk ((by rw [hg]; exact Nat.ne_of_gt (blk_lt (g := gb528) (o := .cells #[.slice Ao26 t525.length co26] 27 (0, 0)) (be_ BK528.out)) : gb533 ≠ gb528)); clear HO519; clear HO522; clear HO527; clear HO531; clear BK515; clear BK524; clear BK528; clear HB; have HO519 := n0_; have HO522 := n1_; have HO527 := n2_; have HO531 := n3_; have BK515 := n4_; have BK524 := n5_; have BK528 := n6_; have HB := n7_; have BK533 := n8_; have GW533 := n9_; have GE533 := n10_; have NB515_533 := n11_; have NB533_515 := n12_; have NB524_533 := n13_; have NB533_524 := n14_; have NB528_533 := n15_; have NB533_528 := n16_; clear n0_ n1_ n2_ n3_ n4_ n5_ n6_ n7_ n8_ n9_ n10_ n11_ n12_ n13_ n14_ n15_ n16_; clear hb hbox hg; obtain ⟨Ao32, co32, eo32⟩ := Kd.R_slice HO531.out; subst eo32; have hnb33 := NB533_515.out; have hnc33 := NB515_533.out; have hnb34 := NB533_524.out; have hnc34 := NB524_533.out; have hnb35 := NB533_528.out; have hnc35 := NB528_533.out; have hcz36_0 : w31.cell? ⟨gb533, 0, none⟩ = some (.slice none 0 0) := (blk_cell BK533.out 0).trans rfl; have hfz36_0 := blk_frozen BK533.out 0))
   (try simp only [Act.put, z1_, z2_, z3_])
   go_cut [40] (fun v40 wc => ∃ (kq : Nat) (x40_10 : Bool), v40 = .bool x40_10 ∧ Aside0 (laws_FnExactBlowUp.j0 kq t523 t532 x40_10 l0_0 t520 t525 t529 = some r) ∧ Aside0 (kq ≤ k) ∧ Aside0 (Kd.R (Kd.int .i64) 3 wc w.heap.size (fun k_ => some k_ ≠ ((.slice Ao26 t525.length co26) : Value).ownBlock ∧ some k_ ≠ ((.slice Ao32 t529.length co32) : Value).ownBlock) (.slice Ao20 t520.length co20) t520) ∧ Aside0 (Kd.R (Kd.int .i64) 3 wc w.heap.size (fun k_ => some k_ ≠ ((.slice Ao20 t520.length co20) : Value).ownBlock ∧ some k_ ≠ ((.slice Ao32 t529.length co32) : Value).ownBlock) (.slice Ao26 t525.length co26) t525) ∧ Aside0 (Kd.R (Kd.int .i64) 3 wc w.heap.size (fun k_ => some k_ ≠ ((.slice Ao20 t520.length co20) : Value).ownBlock ∧ some k_ ≠ ((.slice Ao26 t525.length co26) : Value).ownBlock) (.slice Ao32 t529.length co32) t529) ∧ Aside0 (wc.heap[gb515]? = some (.cells #[(.slice A0_0 l0_0.length c0_0)] 24 (0, 0))) ∧ Aside0 (wc.heap[gb524]? = some (.cells #[(.slice Ao20 t520.length co20)] 27 (0, 0))) ∧ Aside0 (wc.heap[gb528]? = some (.cells #[(.slice Ao26 t525.length co26)] 27 (0, 0))) ∧ Aside0 (wc.heap[gb533]? = some (.cells #[(.slice Ao32 t529.length co32)] 27 (0, 0))) ∧ Aside0 (Below w.heap.size w wc))
   case first =>
    have H := HC11.out
    clear HC11
    replace H := Option.bind_eq_some_iff.mp H
    obtain ⟨t534, A370, H⟩ := H
    replace H : (if t534 = true then (laws_FnExactBlowUp.j0 k t523 t532 (t532 != t523) l0_0 t520 t525 t529) else (laws_FnExactBlowUp.j0 k t523 t532 true l0_0 t520 t525 t529)) = some r := H
    have A37 := Aside0.mk A370
    clear A370
    by_cases c38 : t534 = true
    · subst c38
      have H1 : (laws_FnExactBlowUp.j0 k t523 t532 (t532 != t523) l0_0 t520 t525 t529) = some r := by rw [if_pos rfl] at H; exact H
      clear H
      have H := H1
      clear H1
      as_aux_lemma =>
       have H' := Aside0.mk H
       clear H
       have hnb39 := NB533_515.out
       have hnc39 := NB515_533.out
       have hnb40 := NB533_524.out
       have hnc40 := NB524_533.out
       have hnb41 := NB533_528.out
       have hnc41 := NB528_533.out
       have hcz42_0 : w31.cell? ⟨gb533, 0, none⟩ = some (.slice none 0 0) := (blk_cell BK533.out 0).trans rfl
       have hfz42_0 := blk_frozen BK533.out 0
       have hnb43 := NB524_515.out
       have hnc43 := NB515_524.out
       have hnb44 := NB524_528.out
       have hnc44 := NB528_524.out
       have hcz45_0 : w31.cell? ⟨gb524, 0, none⟩ = some (.slice Ao20 t520.length co20) := (blk_cell BK524.out 0).trans rfl
       have hfz45_0 := blk_frozen BK524.out 0
       go_wp2_with (first | ((with_reducible refine gate_callee (f := 19) rfl ?_); refine goesL_ (some 34) rfl rfl Try.func19 (by kernel_rfl) rfl #[.agg #[.slice Ao32 t529.length co32], .agg #[.slice Ao20 t520.length co20]] rfl (by (try simp only [List.map_toArray, List.map_cons, List.map_nil]); first | done | rfl | (simp only [List.length_drop, List.length_take]; rfl)) ?_; (with_reducible refine (laws_eqSemigroup.calls k _ _ t529 _ _ t520 true _ ?side1 ?side2 ?side3 ?side4 A37.out).mono ?_); (case side1 => refine (Kd.R_reads' (e := 3) (base := w.heap.size) (ok := fun k_ => (((True ∧ some k_ ≠ (.slice Ao17 t517.length co17 : Value).ownBlock) ∧ some k_ ≠ (.slice Ao20 t520.length co20 : Value).ownBlock) ∧ some k_ ≠ (.slice Ao26 t525.length co26 : Value).ownBlock)) (n := t529.length) (c := co32) ?_).2.2; exact (by (with_reducible repeat (first | apply Kd.R_alloc | apply Kd.R_drewN | apply Kd.R_drew)); exact (Kd.R_mono (Kd.R_far (p := ⟨gb533, 0, none⟩) (Kd.R_types HO531.out BK533.out (by decide)) (fun _ hk => hk.2) (.slice Ao32 t529.length co32)) (fun _ h_ => h_.1)))); (case side2 => exact (Kd.R_reads' HO531.out).2.1); (case side3 => refine (Kd.R_reads' (e := 3) (base := w.heap.size) (ok := fun k_ => (((True ∧ some k_ ≠ (.slice Ao17 t517.length co17 : Value).ownBlock) ∧ some k_ ≠ (.slice Ao26 t525.length co26 : Value).ownBlock) ∧ some k_ ≠ (.slice Ao32 t529.length co32 : Value).ownBlock)) (n := t520.length) (c := co20) ?_).2.2; exact (by (with_reducible repeat (first | apply Kd.R_alloc | apply Kd.R_drewN | apply Kd.R_drew)); exact (Kd.R_mono (Kd.R_far (p := ⟨gb533, 0, none⟩) (Kd.R_types HO522.out BK533.out (by decide)) (fun _ hk => hk.2) (.slice Ao32 t529.length co32)) (fun _ h_ => h_.1)))); (case side4 => exact (Kd.R_reads' HO522.out).2.1); rintro e w46 ⟨rfl, hb⟩; refine ⟨_, rfl, ?_⟩; have n0_ := Aside0.mk (Kd.R_below (by (with_reducible repeat (first | apply Kd.R_alloc | apply Kd.R_drewN | apply Kd.R_drew)); exact (Kd.R_mono (Kd.R_far (p := ⟨gb533, 0, none⟩) (Kd.R_types HO519.out BK533.out (by decide)) (fun _ hk => hk.2) (.slice Ao32 t529.length co32)) (fun _ h_ => h_.1))) hb); have n1_ := Aside0.mk (Kd.R_below (by (with_reducible repeat (first | apply Kd.R_alloc | apply Kd.R_drewN | apply Kd.R_drew)); exact (Kd.R_mono (Kd.R_far (p := ⟨gb533, 0, none⟩) (Kd.R_types HO522.out BK533.out (by decide)) (fun _ hk => hk.2) (.slice Ao32 t529.length co32)) (fun _ h_ => h_.1))) hb); have n2_ := Aside0.mk (Kd.R_below (by (with_reducible repeat (first | apply Kd.R_alloc | apply Kd.R_drewN | apply Kd.R_drew)); exact (Kd.R_mono (Kd.R_far (p := ⟨gb533, 0, none⟩) (Kd.R_types HO527.out BK533.out (by decide)) (fun _ hk => hk.2) (.slice Ao32 t529.length co32)) (fun _ h_ => h_.1))) hb); have n3_ := Aside0.mk (Kd.R_below (by (with_reducible repeat (first | apply Kd.R_alloc | apply Kd.R_drewN | apply Kd.R_drew)); exact (Kd.R_mono (Kd.R_far (p := ⟨gb533, 0, none⟩) (Kd.R_types HO531.out BK533.out (by decide)) (fun _ hk => hk.2) (.slice Ao32 t529.length co32)) (fun _ h_ => h_.1))) hb); have n4_ := Aside0.mk (blk_below (g := gb515) (o := .cells #[.slice A0_0 l0_0.length c0_0] 24 (0, 0)) (by (with_reducible repeat (first | refine blk_drewN ?_ _ | refine blk_drew ?_ | refine blk_alloc ?_ _)); refine blk_far ?_ NB515_533.out _; (with_reducible repeat (first | refine blk_drewN ?_ _ | refine blk_drew ?_ | refine blk_alloc ?_ _)); exact BK515.out) hb); have n5_ := Aside0.mk (blk_below (g := gb524) (o := .cells #[.slice Ao20 t520.length co20] 27 (0, 0)) (by (with_reducible repeat (first | refine blk_drewN ?_ _ | refine blk_drew ?_ | refine blk_alloc ?_ _)); refine blk_far ?_ NB524_533.out _; (with_reducible repeat (first | refine blk_drewN ?_ _ | refine blk_drew ?_ | refine blk_alloc ?_ _)); exact BK524.out) hb); have n6_ := Aside0.mk (blk_below (g := gb528) (o := .cells #[.slice Ao26 t525.length co26] 27 (0, 0)) (by (with_reducible repeat (first | refine blk_drewN ?_ _ | refine blk_drew ?_ | refine blk_alloc ?_ _)); refine blk_far ?_ NB528_533.out _; (with_reducible repeat (first | refine blk_drewN ?_ _ | refine blk_drew ?_ | refine blk_alloc ?_ _)); exact BK528.out) hb); have n7_ := Aside0.mk (blk_below (g := gb533) (o := .cells #[.slice Ao32 t529.length co32] 27 (0, 0)) (by (with_reducible repeat (first | refine blk_drewN ?_ _ | refine blk_drew ?_ | refine blk_alloc ?_ _)); refine blk_put (cs := #[.slice none 0 0]) ?_ 0 _ rfl; (with_reducible repeat (first | refine blk_drewN ?_ _ | refine blk_drew ?_ | refine blk_alloc ?_ _)); exact BK533.out) hb); have n8_ := Aside0.mk (below_step (by repeat (first | (with_reducible first | exact HB.out | apply below_alloc | apply pw_below_drewN | apply below_drew1 | refine below_set ?_ GE515.out | refine below_set ?_ GE524.out | refine below_set ?_ GE528.out | refine below_set ?_ GE533.out) | exact HB.out)) hb); clear HO519; clear HO522; clear HO527; clear HO531; clear BK515; clear BK524; clear BK528; clear BK533; clear HB; have HO519 := n0_; have HO522 := n1_; have HO527 := n2_; have HO531 := n3_; have BK515 := n4_; have BK524 := n5_; have BK528 := n6_; have BK533 := n7_; have HB := n8_; clear n0_ n1_ n2_ n3_ n4_ n5_ n6_ n7_ n8_; (try clear hb); (try clear hb2); (try clear hk); (try clear hi)))
       go_meet
       case rel => exact ⟨_, ((t532 != t523)), (by first | rfl | (simp; done) | (simp [*]; done)), H', ⟨by first | omega | exact Nat.le_refl _⟩, ⟨by (with_reducible repeat (first | apply Kd.R_alloc | apply Kd.R_drewN | apply Kd.R_drew)); exact Kd.R_mono HO522.out (fun _ hk => ⟨hk.1.2, hk.2⟩)⟩, ⟨by (with_reducible repeat (first | apply Kd.R_alloc | apply Kd.R_drewN | apply Kd.R_drew)); exact Kd.R_mono HO527.out (fun _ hk => ⟨hk.1.2, hk.2⟩)⟩, ⟨by (with_reducible repeat (first | apply Kd.R_alloc | apply Kd.R_drewN | apply Kd.R_drew)); exact Kd.R_mono HO531.out (fun _ hk => ⟨hk.1.2, hk.2⟩)⟩, ⟨be_ BK515.out⟩, ⟨be_ BK524.out⟩, ⟨be_ BK528.out⟩, ⟨be_ BK533.out⟩, ⟨by repeat (first | (with_reducible first | exact HB.out | apply below_alloc | apply pw_below_drewN | apply below_drew1 | refine below_set ?_ GE515.out | refine below_set ?_ GE524.out | refine below_set ?_ GE528.out | refine below_set ?_ GE533.out) | exact HB.out)⟩⟩
    · replace c38 := Bool.eq_false_iff.mpr c38
      subst c38
      have H1 : (laws_FnExactBlowUp.j0 k t523 t532 true l0_0 t520 t525 t529) = some r := by rw [if_neg (show ¬ (false = true) by decide)] at H; exact H
      exact absurd (H1.trans (congrArg some hr_.out)) (by cases k <;> simp [laws_FnExactBlowUp.j0])
   case rest =>
    clear HC11
    try clear c1
    try clear c2
    try clear p2
    try clear c3
    try clear c3b0
    try clear c4
    try clear c5
    try clear c14
    try clear c15
    try clear c17
    try clear c19
    try clear c21
    try clear c27
    try clear c28
    try clear c33
    try clear c34
    try clear c35
    try clear c38
    try clear c39
    try clear c40
    try clear c41
    try clear c43
    try clear c44
    try clear c47
    try clear c48
    try clear c49
    try clear c51
    try clear c52
    try clear c53
    try clear hcz13_0
    try clear hcz15_0
    try clear hcz22_0
    try clear hcz23_0
    try clear hcz29_0
    try clear hcz36_0
    try clear hcz42_0
    try clear hcz45_0
    try clear hcz50_0
    try clear hcz53_0
    try clear hcz5_0
    try clear hfz13_0
    try clear hfz15_0
    try clear hfz22_0
    try clear hfz23_0
    try clear hfz29_0
    try clear hfz36_0
    try clear hfz42_0
    try clear hfz45_0
    try clear hfz50_0
    try clear hfz53_0
    try clear hfz5_0
    obtain ⟨kq, x40_10, rfl, HA, HJ10, HO_525000, HO_529000, HO_534000, BK515, BK524, BK528, BK533, HB⟩ := hcut
    cases kq with
    | zero => exact absurd HA.out (by simp [laws_FnExactBlowUp.j0])
    | succ kj10 =>
     have H := HA.out
     clear HA
     simp only [laws_FnExactBlowUp.j0] at H
     by_cases c55 : x40_10 = true
     · subst c55
       have H1 : (some false) = some r := by rw [if_pos rfl] at H; exact H
       exact absurd (H1.trans (congrArg some hr_.out)) (by simp)
     · replace c55 := Bool.eq_false_iff.mpr c55
       subst c55
       have H1 : ((laws_toSemigroup.f kj10 l0_0).bind fun t535 => ((laws_eqSemigroup.f kj10 t525 t535).bind fun t538 => (if t538 = true then ((laws_markSemigroup.f kj10 t525 1).bind fun bt539 => (if bt539.1 < 0 then (laws_FnExactBlowUp.j1 kj10 t523 true l0_0 t520 t529) else ((laws_eqSemigroup.f kj10 t529 t520).bind fun t541 => (if t541 = true then (laws_FnExactBlowUp.j1 kj10 t523 (t532 != t523) l0_0 t520 t529) else (laws_FnExactBlowUp.j1 kj10 t523 true l0_0 t520 t529))))) else (some false)))) = some r := by rw [if_neg (show ¬ (false = true) by decide)] at H; exact H
       clear H
       have H := H1
       clear H1
       replace H := Option.bind_eq_some_iff.mp H
       obtain ⟨t535, A560, H⟩ := H
       replace H : ((laws_eqSemigroup.f kj10 t525 t535).bind fun t538 => (if t538 = true then ((laws_markSemigroup.f kj10 t525 1).bind fun bt539 => (if bt539.1 < 0 then (laws_FnExactBlowUp.j1 kj10 t523 true l0_0 t520 t529) else ((laws_eqSemigroup.f kj10 t529 t520).bind fun t541 => (if t541 = true then (laws_FnExactBlowUp.j1 kj10 t523 (t532 != t523) l0_0 t520 t529) else (laws_FnExactBlowUp.j1 kj10 t523 true l0_0 t520 t529))))) else (some false))) = some r := H
       have A56 := Aside0.mk A560
       clear A560
       replace H := Option.bind_eq_some_iff.mp H
       obtain ⟨t538, A570, H⟩ := H
       replace H : (if t538 = true then ((laws_markSemigroup.f kj10 t525 1).bind fun bt539 => (if bt539.1 < 0 then (laws_FnExactBlowUp.j1 kj10 t523 true l0_0 t520 t529) else ((laws_eqSemigroup.f kj10 t529 t520).bind fun t541 => (if t541 = true then (laws_FnExactBlowUp.j1 kj10 t523 (t532 != t523) l0_0 t520 t529) else (laws_FnExactBlowUp.j1 kj10 t523 true l0_0 t520 t529))))) else (some false)) = some r := H
       have A57 := Aside0.mk A570
       clear A570
       by_cases c58 : t538 = true
       · subst c58
         have H1 : ((laws_markSemigroup.f kj10 t525 1).bind fun bt539 => (if bt539.1 < 0 then (laws_FnExactBlowUp.j1 kj10 t523 true l0_0 t520 t529) else ((laws_eqSemigroup.f kj10 t529 t520).bind fun t541 => (if t541 = true then (laws_FnExactBlowUp.j1 kj10 t523 (t532 != t523) l0_0 t520 t529) else (laws_FnExactBlowUp.j1 kj10 t523 true l0_0 t520 t529))))) = some r := by rw [if_pos rfl] at H; exact H
         clear H
         have H := H1
         clear H1
         replace H := Option.bind_eq_some_iff.mp H
         obtain ⟨⟨t539, t540⟩, A590, H⟩ := H
         replace H : (if t539 < 0 then (laws_FnExactBlowUp.j1 kj10 t523 true l0_0 t520 t529) else ((laws_eqSemigroup.f kj10 t529 t520).bind fun t541 => (if t541 = true then (laws_FnExactBlowUp.j1 kj10 t523 (t532 != t523) l0_0 t520 t529) else (laws_FnExactBlowUp.j1 kj10 t523 true l0_0 t520 t529)))) = some r := H
         have A59 := Aside0.mk A590
         clear A590
         have HC60 := Aside0.mk H
         clear H
         try go_wp2
         have n0_ := Aside0.mk (Kd.R_drew HO_525000.out)
         have n1_ := Aside0.mk (Kd.R_drew HO_529000.out)
         have n2_ := Aside0.mk (Kd.R_drew HO_534000.out)
         have n3_ := Aside0.mk (blk_drew BK515.out)
         have n4_ := Aside0.mk (blk_drew BK524.out)
         have n5_ := Aside0.mk (blk_drew BK528.out)
         have n6_ := Aside0.mk (blk_drew BK533.out)
         have n7_ := Aside0.mk (below_drew1 HB.out)
         clear HO_525000
         clear HO_529000
         clear HO_534000
         clear BK515
         clear BK524
         clear BK528
         clear BK533
         clear HB
         have HO_525000 := n0_
         have HO_529000 := n1_
         have HO_534000 := n2_
         have BK515 := n3_
         have BK524 := n4_
         have BK528 := n5_
         have BK533 := n6_
         have HB := n7_
         clear n0_ n1_ n2_ n3_ n4_ n5_ n6_ n7_
         refine start_ (n := 5) (S := fun w' => w'.cell? ⟨gb528, 0, none⟩ = some (.slice Ao26 t525.length co26) ∧ w'.cell? ⟨gb515, 0, none⟩ = some (.slice A0_0 l0_0.length c0_0)) (ds := []) (B_ 0 5) (by kernel_rfl) rfl rfl ⟨(blk_cell BK528.out 0).trans rfl, (blk_cell BK515.out 0).trans rfl⟩ (fun hHeld => ?_)
         generalize wc.drew = w61 at HO_525000 HO_529000 HO_534000 BK515 BK524 BK528 BK533 HB hHeld ⊢
         refine take_ (i := 0) (N := some 41) (v := ?_) (a' := ?_) (B_ 1 5) rfl rfl (by kernel_rfl) (fun _ _ _ h => h) (Or.inl ⟨by rfl, ?_⟩) hHeld ?_ ?_
         rotate_left
         · rintro w' ⟨s0, s1⟩
           go_simp
           with_reducible rfl
         rotate_left
         · simp only [Act.put, z1_, z2_, z3_, i64_w, i32_w]
           rfl
         refine take_ (i := 1) (N := some 42) (v := ?_) (a' := ?_) (B_ 3 5) rfl rfl (by kernel_rfl) (fun _ _ _ h => h) (Or.inl ⟨by rfl, ?_⟩) hHeld ?_ ?_
         rotate_left
         · rintro w' ⟨s0, s1⟩
           go_simp
           with_reducible rfl
         rotate_left
         · simp only [Act.put, z1_, z2_, z3_, i64_w, i32_w]
           rfl
         refine one_ (i := 2) (N := some 43) (B_ 7 5) rfl rfl (by kernel_rfl) (by decide) (fun K hK => ?_)
         refine goes_ Try.func17 (by kernel_rfl) rfl #[.agg #[.slice A0_0 l0_0.length c0_0]] (by rfl) rfl rfl (by (try simp only [List.map_toArray, List.map_cons, List.map_nil]); first | done | rfl | (simp only [List.length_drop, List.length_take]; rfl)) ?_
         with_reducible refine (laws_toSemigroup.calls kj10 _ _ l0_0 t535 _ ?side1 ?side2 A56.out).mono ?_
         (case side1 => exact ce_ ((Kd.C_below HR0_0.out HB.out)))
         (case side2 => exact HC0_0.out)
         rintro e w62 ⟨v536, rfl, ho0, hb⟩
         refine ⟨_, rfl, ?_⟩
         have n0_ := Aside0.mk (Kd.R_elder' (re_ HO_525000.out) (Kd.R_base ho0) hb)
         have n1_ := Aside0.mk (Kd.R_elder' (re_ HO_529000.out) (Kd.R_base ho0) hb)
         have n2_ := Aside0.mk (Kd.R_elder' (re_ HO_534000.out) (Kd.R_base ho0) hb)
         have n3_ := Aside0.mk (Kd.R_lower (Kd.R_new' (Kd.R_new' (Kd.R_new' ho0 (Kd.R_lt (re_ HO_525000.out))) (Kd.R_lt (re_ HO_529000.out))) (Kd.R_lt (re_ HO_534000.out))) (below_size (by repeat (first | (with_reducible first | exact HB.out | apply below_alloc | apply pw_below_drewN | apply below_drew1 | refine below_set ?_ GE515.out | refine below_set ?_ GE524.out | refine below_set ?_ GE528.out | refine below_set ?_ GE533.out) | exact HB.out))))
         have n4_ := Aside0.mk (blk_below (g := gb515) (o := .cells #[.slice A0_0 l0_0.length c0_0] 24 (0, 0)) (be_ BK515.out) hb)
         have n5_ := Aside0.mk (blk_below (g := gb524) (o := .cells #[.slice Ao20 t520.length co20] 27 (0, 0)) (be_ BK524.out) hb)
         have n6_ := Aside0.mk (blk_below (g := gb528) (o := .cells #[.slice Ao26 t525.length co26] 27 (0, 0)) (be_ BK528.out) hb)
         have n7_ := Aside0.mk (blk_below (g := gb533) (o := .cells #[.slice Ao32 t529.length co32] 27 (0, 0)) (be_ BK533.out) hb)
         have n8_ := Aside0.mk (below_step (by repeat (first | (with_reducible first | exact HB.out | apply below_alloc | apply pw_below_drewN | apply below_drew1 | refine below_set ?_ GE515.out | refine below_set ?_ GE524.out | refine below_set ?_ GE528.out | refine below_set ?_ GE533.out) | exact HB.out)) hb)
         clear HO_525000
         clear HO_529000
         clear HO_534000
         clear BK515
         clear BK524
         clear BK528
         clear BK533
         clear HB
         have HO_525000 := n0_
         have HO_529000 := n1_
         have HO_534000 := n2_
         have HO537 := n3_
         have BK515 := n4_
         have BK524 := n5_
         have BK528 := n6_
         have BK533 := n7_
         have HB := n8_
         clear n0_ n1_ n2_ n3_ n4_ n5_ n6_ n7_ n8_
         (try clear hb)
         (try clear hb2)
         (try clear hk)
         (try clear hi)
         (try clear ho0)
         obtain ⟨Ao63, co63, eo63⟩ := Kd.R_slice HO537.out
         (first | subst eo63 | (injection eo63 with f1_ f2_ f3_; have f4_ := f1_.symm; have f5_ := f3_.symm; clear f1_ f2_ f3_; subst f4_; subst f5_))
         refine hK.out _ _ ⟨(blk_cell BK528.out 0).trans rfl, (blk_cell BK515.out 0).trans rfl⟩ (fun hHeld => ?_)
         clear hK K
         refine norm_ (a' := ?_) ?_ ?_
         rotate_left
         · show Act.put _ (some 43) _ = _
           simp only [Act.put, z1_, z2_, z3_, i64_w, i32_w]
           rfl
         refine one_ (i := 3) (N := some 44) (B_ 15 5) rfl rfl (by kernel_rfl) (by decide) (fun K hK => ?_)
         refine goes_ Try.func19 (by kernel_rfl) rfl #[.agg #[.slice Ao26 t525.length co26], .agg #[.slice Ao63 t535.length co63]] (by rfl) rfl rfl (by (try simp only [List.map_toArray, List.map_cons, List.map_nil]); first | done | rfl | (simp only [List.length_drop, List.length_take]; rfl)) ?_
         with_reducible refine (laws_eqSemigroup.calls kj10 _ _ t525 _ _ t535 true _ ?side1 ?side2 ?side3 ?side4 A57.out).mono ?_
         (case side1 => exact ce_ ((Kd.R_reads' HO_529000.out).2.2))
         (case side2 => exact (Kd.R_reads' HO_529000.out).2.1)
         (case side3 => exact ce_ ((Kd.R_reads' HO537.out).2.2))
         (case side4 => exact (Kd.R_reads' HO537.out).2.1)
         rintro e w64 ⟨rfl, hb⟩
         refine ⟨_, rfl, ?_⟩
         have n0_ := Aside0.mk (Kd.R_below (re_ HO_525000.out) hb)
         have n1_ := Aside0.mk (Kd.R_below (re_ HO_529000.out) hb)
         have n2_ := Aside0.mk (Kd.R_below (re_ HO_534000.out) hb)
         have n3_ := Aside0.mk (Kd.R_below (re_ HO537.out) hb)
         have n4_ := Aside0.mk (blk_below (g := gb515) (o := .cells #[.slice A0_0 l0_0.length c0_0] 24 (0, 0)) (be_ BK515.out) hb)
         have n5_ := Aside0.mk (blk_below (g := gb524) (o := .cells #[.slice Ao20 t520.length co20] 27 (0, 0)) (be_ BK524.out) hb)
         have n6_ := Aside0.mk (blk_below (g := gb528) (o := .cells #[.slice Ao26 t525.length co26] 27 (0, 0)) (be_ BK528.out) hb)
         have n7_ := Aside0.mk (blk_below (g := gb533) (o := .cells #[.slice Ao32 t529.length co32] 27 (0, 0)) (be_ BK533.out) hb)
         have n8_ := Aside0.mk (below_step (by repeat (first | (with_reducible first | exact HB.out | apply below_alloc | apply pw_below_drewN | apply below_drew1 | refine below_set ?_ GE515.out | refine below_set ?_ GE524.out | refine below_set ?_ GE528.out | refine below_set ?_ GE533.out) | exact HB.out)) hb)
         clear HO_525000
         clear HO_529000
         clear HO_534000
         clear HO537
         clear BK515
         clear BK524
         clear BK528
         clear BK533
         clear HB
         have HO_525000 := n0_
         have HO_529000 := n1_
         have HO_534000 := n2_
         have HO537 := n3_
         have BK515 := n4_
         have BK524 := n5_
         have BK528 := n6_
         have BK533 := n7_
         have HB := n8_
         clear n0_ n1_ n2_ n3_ n4_ n5_ n6_ n7_ n8_
         (try clear hb)
         (try clear hb2)
         (try clear hk)
         (try clear hi)
         refine hK.out _ _ ⟨(blk_cell BK528.out 0).trans rfl, (blk_cell BK515.out 0).trans rfl⟩ (fun hHeld => ?_)
         clear hK K
         refine norm_ (a' := ?_) ?_ ?_
         rotate_left
         · show Act.put _ (some 44) _ = _
           simp only [Act.put, z1_, z2_, z3_, i64_w, i32_w]
           rfl
         refine pure_ (i := 4) (N := some 45) (v := ?_) (a' := ?_) (B_ 31 5) rfl rfl (by kernel_rfl) (fun _ _ _ h => h) (Or.inl ⟨by rfl, ?_⟩) ?_ ?_
         rotate_left
         · intro w'
           go_simp
           with_reducible rfl
         rotate_left
         · simp only [Act.put, z1_, z2_, z3_, i64_w, i32_w]
           rfl
         refine done_ (by kernel_rfl) ?_
         have hnb65 := NB528_515.out
         have hnc65 := NB515_528.out
         have hnb66 := NB528_524.out
         have hnc66 := NB524_528.out
         have hnb67 := NB528_533.out
         have hnc67 := NB533_528.out
         have hcz68_0 : w64.cell? ⟨gb528, 0, none⟩ = some (.slice Ao26 t525.length co26) := (blk_cell BK528.out 0).trans rfl
         have hfz68_0 := blk_frozen BK528.out 0
         go_upto_region 14 with (first | ((with_reducible refine gate_callee (f := 47) rfl ?_); refine goesL_ (some 48) rfl rfl Try.func47 (by kernel_rfl) rfl #[.agg #[.slice Ao26 t525.length co26], .int .i64 1] rfl (by (try simp only [List.map_toArray, List.map_cons, List.map_nil]); first | done | rfl | (simp only [List.length_drop, List.length_take]; rfl)) ?_; (with_reducible refine (laws_markSemigroup.calls kj10 (fun k_ => some k_ = (.slice Ao26 t525.length co26 : Value).ownBlock) (.slice Ao26 t525.length co26) t525 1 t539 t540 w _ ?side1 ?side2 A59.out).mono ?_); (case side1 => repeat (first | (with_reducible first | exact HB.out | apply below_alloc | apply pw_below_drewN | apply below_drew1 | refine below_set ?_ GE515.out | refine below_set ?_ GE524.out | refine below_set ?_ GE528.out | refine below_set ?_ GE533.out) | exact HB.out)); (case side2 => exact Kd.R_tight rfl HO_529000.out); rintro e w69 ⟨rfl, hy0, hb, hkp⟩; refine ⟨_, rfl, ?_⟩; have n0_ := Aside0.mk (Kd.R_mono (ok' := fun k_ => some k_ ≠ (.slice Ao26 t525.length co26 : Value).ownBlock ∧ some k_ ≠ (.slice Ao32 t529.length co32 : Value).ownBlock ∧ some k_ ≠ (.slice Ao63 t535.length co63 : Value).ownBlock) (Kd.R_keptB (HO_525000.out) hkp (fun k_ hk_ hs_ => (hk_.1.1) hs_)) (fun k_ hk_ => ⟨hk_.1.1.1, hk_.1.1.2, hk_.1.2⟩)); have n1_ := Aside0.mk (Kd.R_reok rfl hy0 (fun k_ e_ => HO_529000.out.1 k_ e_)); have n2_ := Aside0.mk (Kd.R_mono (ok' := fun k_ => some k_ ≠ (.slice Ao20 t520.length co20 : Value).ownBlock ∧ some k_ ≠ (.slice Ao26 t525.length co26 : Value).ownBlock ∧ some k_ ≠ (.slice Ao63 t535.length co63 : Value).ownBlock) (Kd.R_keptB (HO_534000.out) hkp (fun k_ hk_ hs_ => (hk_.1.2) hs_)) (fun k_ hk_ => ⟨hk_.1.1.1, hk_.1.1.2, hk_.1.2⟩)); have n3_ := Aside0.mk (blk_kept (be_ BK515.out) hkp (fun hs_ => (fun e_ => (Kd.R_ne HO_529000.out BK515.out (by decide)) e_) hs_)); have n4_ := Aside0.mk (blk_kept (be_ BK524.out) hkp (fun hs_ => (fun e_ => (Kd.R_ne HO_529000.out BK524.out (by decide)) e_) hs_)); have n5_ := Aside0.mk (blk_kept (be_ BK528.out) hkp (fun hs_ => (fun e_ => (Kd.R_ne HO_529000.out BK528.out (by decide)) e_) hs_)); have n6_ := Aside0.mk (blk_kept (be_ BK533.out) hkp (fun hs_ => (fun e_ => (Kd.R_ne HO_529000.out BK533.out (by decide)) e_) hs_)); have n7_ := Aside0.mk (Kd.R_mono (ok' := fun k_ => some k_ ≠ (.slice Ao20 t520.length co20 : Value).ownBlock ∧ some k_ ≠ (.slice Ao26 t525.length co26 : Value).ownBlock ∧ some k_ ≠ (.slice Ao32 t529.length co32 : Value).ownBlock) (Kd.R_keptB (HO537.out) hkp (fun k_ hk_ hs_ => (hk_.1.2) hs_)) (fun k_ hk_ => ⟨hk_.1.1.1.2, hk_.1.1.2, hk_.1.2⟩)); have n8_ := Aside0.mk (hb); clear HO_525000; clear HO_529000; clear HO_534000; clear BK515; clear BK524; clear BK528; clear BK533; clear HO537; clear HB; have HO_525000 := n0_; have HO_529000 := n1_; have HO_534000 := n2_; have BK515 := n3_; have BK524 := n4_; have BK528 := n5_; have BK533 := n6_; have HO537 := n7_; have HB := n8_; clear n0_ n1_ n2_ n3_ n4_ n5_ n6_ n7_ n8_; (try clear hb); (try clear hkp); (try clear hy0)))
         (try simp only [Act.put, z1_, z2_, z3_])
         go_cut [61] (fun v61 wc => ∃ (kq : Nat) (x61_59 : Bool), v61 = .bool x61_59 ∧ Aside0 (laws_FnExactBlowUp.j1 kq t523 x61_59 l0_0 t520 t529 = some r) ∧ Aside0 (kq ≤ kj10) ∧ Aside0 (Kd.R (Kd.int .i64) 3 wc w.heap.size (fun k_ => some k_ ≠ ((.slice Ao26 t525.length co26) : Value).ownBlock ∧ some k_ ≠ ((.slice Ao32 t529.length co32) : Value).ownBlock) (.slice Ao20 t520.length co20) t520) ∧ Aside0 (Kd.R (Kd.int .i64) 3 wc w.heap.size (fun k_ => some k_ ≠ ((.slice Ao20 t520.length co20) : Value).ownBlock ∧ some k_ ≠ ((.slice Ao32 t529.length co32) : Value).ownBlock) (.slice Ao26 t525.length co26) t540) ∧ Aside0 (Kd.R (Kd.int .i64) 3 wc w.heap.size (fun k_ => some k_ ≠ ((.slice Ao20 t520.length co20) : Value).ownBlock ∧ some k_ ≠ ((.slice Ao26 t525.length co26) : Value).ownBlock) (.slice Ao32 t529.length co32) t529) ∧ Aside0 (wc.heap[gb515]? = some (.cells #[(.slice A0_0 l0_0.length c0_0)] 24 (0, 0))) ∧ Aside0 (wc.heap[gb524]? = some (.cells #[(.slice Ao20 t520.length co20)] 27 (0, 0))) ∧ Aside0 (wc.heap[gb528]? = some (.cells #[(.slice Ao26 t525.length co26)] 27 (0, 0))) ∧ Aside0 (wc.heap[gb533]? = some (.cells #[(.slice Ao32 t529.length co32)] 27 (0, 0))) ∧ Aside0 (Below w.heap.size w wc))
         case first =>
          have H := HC60.out
          clear HC60
          by_cases c70 : t539 < 0
          · rw [if_pos c70] at H
            exact absurd (H.trans (congrArg some hr_.out)) (by cases kj10 <;> simp [laws_FnExactBlowUp.j1])
          · rw [if_neg c70] at H
            have c70b0 : decide (t539 < 0) = false := decide_eq_false c70
            clear c70
            (first | rw [c70b0] | (simp only [i64_w, i32_w]; rw [c70b0]) | skip)
            replace H := Option.bind_eq_some_iff.mp H
            obtain ⟨t541, A710, H⟩ := H
            replace H : (if t541 = true then (laws_FnExactBlowUp.j1 kj10 t523 (t532 != t523) l0_0 t520 t529) else (laws_FnExactBlowUp.j1 kj10 t523 true l0_0 t520 t529)) = some r := H
            have A71 := Aside0.mk A710
            clear A710
            by_cases c72 : t541 = true
            · subst c72
              have H1 : (laws_FnExactBlowUp.j1 kj10 t523 (t532 != t523) l0_0 t520 t529) = some r := by rw [if_pos rfl] at H; exact H
              clear H
              have H := H1
              clear H1
              as_aux_lemma =>
               have H' := Aside0.mk H
               clear H
               have hnb73 := NB533_515.out
               have hnc73 := NB515_533.out
               have hnb74 := NB533_524.out
               have hnc74 := NB524_533.out
               have hnb75 := NB533_528.out
               have hnc75 := NB528_533.out
               have hcz76_0 : w69.cell? ⟨gb533, 0, none⟩ = some (.slice Ao32 t529.length co32) := (blk_cell BK533.out 0).trans rfl
               have hfz76_0 := blk_frozen BK533.out 0
               have hnb77 := NB524_515.out
               have hnc77 := NB515_524.out
               have hnb78 := NB524_528.out
               have hnc78 := NB528_524.out
               have hcz79_0 : w69.cell? ⟨gb524, 0, none⟩ = some (.slice Ao20 t520.length co20) := (blk_cell BK524.out 0).trans rfl
               have hfz79_0 := blk_frozen BK524.out 0
               go_wp2_with (first | (go_at_call 19; (with_reducible refine (laws_eqSemigroup.calls kj10 _ _ t529 _ _ t520 true _ ?side1 ?side2 ?side3 ?side4 A71.out).mono ?_); (case side1 => exact ce_ ((Kd.R_reads' HO_534000.out).2.2)); (case side2 => exact (Kd.R_reads' HO_534000.out).2.1); (case side3 => exact ce_ ((Kd.R_reads' HO_525000.out).2.2)); (case side4 => exact (Kd.R_reads' HO_525000.out).2.1); rintro e w80 ⟨rfl, hb⟩; have n0_ := Aside0.mk (Kd.R_below (re_ HO_525000.out) hb); have n1_ := Aside0.mk (Kd.R_below (re_ HO_529000.out) hb); have n2_ := Aside0.mk (Kd.R_below (re_ HO_534000.out) hb); have n3_ := Aside0.mk (Kd.R_below (re_ HO537.out) hb); have n4_ := Aside0.mk (blk_below (g := gb515) (o := .cells #[.slice A0_0 l0_0.length c0_0] 24 (0, 0)) (be_ BK515.out) hb); have n5_ := Aside0.mk (blk_below (g := gb524) (o := .cells #[.slice Ao20 t520.length co20] 27 (0, 0)) (be_ BK524.out) hb); have n6_ := Aside0.mk (blk_below (g := gb528) (o := .cells #[.slice Ao26 t525.length co26] 27 (0, 0)) (be_ BK528.out) hb); have n7_ := Aside0.mk (blk_below (g := gb533) (o := .cells #[.slice Ao32 t529.length co32] 27 (0, 0)) (be_ BK533.out) hb); have n8_ := Aside0.mk (below_step (by repeat (first | (with_reducible first | exact HB.out | apply below_alloc | apply pw_below_drewN | apply below_drew1 | refine below_set ?_ GE515.out | refine below_set ?_ GE524.out | refine below_set ?_ GE528.out | refine below_set ?_ GE533.out) | exact HB.out)) hb); clear HO_525000; clear HO_529000; clear HO_534000; clear HO537; clear BK515; clear BK524; clear BK528; clear BK533; clear HB; have HO_525000 := n0_; have HO_529000 := n1_; have HO_534000 := n2_; have HO537 := n3_; have BK515 := n4_; have BK524 := n5_; have BK528 := n6_; have BK533 := n7_; have HB := n8_; clear n0_ n1_ n2_ n3_ n4_ n5_ n6_ n7_ n8_; (try clear hb); (try clear hb2); (try clear hk); (try clear hi)))
               go_meet
               case rel => exact ⟨_, ((t532 != t523)), (by first | rfl | (simp; done) | (simp [*]; done)), H', ⟨by have := HJ10.out; first | omega | exact Nat.le_refl _⟩, ⟨by (with_reducible repeat (first | apply Kd.R_alloc | apply Kd.R_drewN | apply Kd.R_drew)); exact Kd.R_mono HO_525000.out (fun _ hk => ⟨hk.1, hk.2.1⟩)⟩, ⟨by (with_reducible repeat (first | apply Kd.R_alloc | apply Kd.R_drewN | apply Kd.R_drew)); exact Kd.R_mono HO_529000.out (fun _ hk => ⟨hk.1.1, hk.1.2⟩)⟩, ⟨by (with_reducible repeat (first | apply Kd.R_alloc | apply Kd.R_drewN | apply Kd.R_drew)); exact Kd.R_mono HO_534000.out (fun _ hk => ⟨hk.1, hk.2.1⟩)⟩, ⟨be_ BK515.out⟩, ⟨be_ BK524.out⟩, ⟨be_ BK528.out⟩, ⟨be_ BK533.out⟩, ⟨by repeat (first | (with_reducible first | exact HB.out | apply below_alloc | apply pw_below_drewN | apply below_drew1 | refine below_set ?_ GE515.out | refine below_set ?_ GE524.out | refine below_set ?_ GE528.out | refine below_set ?_ GE533.out) | exact HB.out)⟩⟩
            · replace c72 := Bool.eq_false_iff.mpr c72
              subst c72
              have H1 : (laws_FnExactBlowUp.j1 kj10 t523 true l0_0 t520 t529) = some r := by rw [if_neg (show ¬ (false = true) by decide)] at H; exact H
              exact absurd (H1.trans (congrArg some hr_.out)) (by cases kj10 <;> simp [laws_FnExactBlowUp.j1])
         case rest =>
          clear HC60
          try clear c1
          try clear c2
          try clear p2
          try clear c3
          try clear c3b0
          try clear c4
          try clear c5
          try clear c6
          try clear c7
          try clear c8
          try clear c14
          try clear c15
          try clear c17
          try clear c19
          try clear c21
          try clear c27
          try clear c28
          try clear c33
          try clear c34
          try clear c35
          try clear c38
          try clear c39
          try clear c40
          try clear c41
          try clear c43
          try clear c44
          try clear c47
          try clear c48
          try clear c49
          try clear c51
          try clear c52
          try clear c53
          try clear c55
          try clear c58
          try clear c65
          try clear c66
          try clear c67
          try clear c70
          try clear c70b0
          try clear c72
          try clear c73
          try clear c74
          try clear c75
          try clear c77
          try clear c78
          try clear c81
          try clear c82
          try clear c83
          try clear c85
          try clear c86
          try clear hcz13_0
          try clear hcz15_0
          try clear hcz22_0
          try clear hcz23_0
          try clear hcz29_0
          try clear hcz36_0
          try clear hcz42_0
          try clear hcz45_0
          try clear hcz50_0
          try clear hcz53_0
          try clear hcz5_0
          try clear hcz68_0
          try clear hcz76_0
          try clear hcz79_0
          try clear hcz84_0
          try clear hcz87_0
          try clear hfz13_0
          try clear hfz15_0
          try clear hfz22_0
          try clear hfz23_0
          try clear hfz29_0
          try clear hfz36_0
          try clear hfz42_0
          try clear hfz45_0
          try clear hfz50_0
          try clear hfz53_0
          try clear hfz5_0
          try clear hfz68_0
          try clear hfz76_0
          try clear hfz79_0
          try clear hfz84_0
          try clear hfz87_0
          try clear p2
          obtain ⟨kq, x61_59, rfl, HA, HJ59, HO_525000, HO_529000, HO_534000, BK515, BK524, BK528, BK533, HB⟩ := hcut
          have hl529000_59 := (Kd.R_reads' HO_529000.out).1
          rw [hl529000_59] at HO_529000
          (try simp only [hl529000_59])
          (try simp only [hl529000_59] at BK515)
          (try simp only [hl529000_59] at BK524)
          (try simp only [hl529000_59] at BK528)
          (try simp only [hl529000_59] at BK533)
          (try simp only [hl529000_59] at HO_525000)
          (try simp only [hl529000_59] at HO_534000)
          cases kq with
          | zero => exact absurd HA.out (by simp [laws_FnExactBlowUp.j1])
          | succ kj59 =>
           have H := HA.out
           clear HA
           simp only [laws_FnExactBlowUp.j1] at H
           by_cases c89 : x61_59 = true
           · subst c89
             have H1 : (some false) = some r := by rw [if_pos rfl] at H; exact H
             exact absurd (H1.trans (congrArg some hr_.out)) (by simp)
           · replace c89 := Bool.eq_false_iff.mpr c89
             subst c89
             have H1 : ((laws_markSemigroup.f kj59 t529 1).bind fun bt542 => ((laws_heldSemigroup.f kj59 bt542.2 1).bind fun t544 => (if t544 < 0 then (some false) else (if t544 = bt542.1 then ((laws_toSemigroup.f kj59 l0_0).bind fun t545 => ((impl_BlowUp.f kj59 t545).bind fun bt548 => ((laws_eqSemigroup.f kj59 bt548.1 t520).bind fun t553 => (if t553 = true then (laws_FnExactBlowUp.j2 kj59 bt542.1 (bt548.2 != t523) bt542.2) else (laws_FnExactBlowUp.j2 kj59 bt542.1 true bt542.2))))) else (some false))))) = some r := by rw [if_neg (show ¬ (false = true) by decide)] at H; exact H
             clear H
             have H := H1
             clear H1
             replace H := Option.bind_eq_some_iff.mp H
             obtain ⟨⟨t542, t543⟩, A900, H⟩ := H
             replace H : ((laws_heldSemigroup.f kj59 t543 1).bind fun t544 => (if t544 < 0 then (some false) else (if t544 = t542 then ((laws_toSemigroup.f kj59 l0_0).bind fun t545 => ((impl_BlowUp.f kj59 t545).bind fun bt548 => ((laws_eqSemigroup.f kj59 bt548.1 t520).bind fun t553 => (if t553 = true then (laws_FnExactBlowUp.j2 kj59 t542 (bt548.2 != t523) t543) else (laws_FnExactBlowUp.j2 kj59 t542 true t543))))) else (some false)))) = some r := H
             have A90 := Aside0.mk A900
             clear A900
             replace H := Option.bind_eq_some_iff.mp H
             obtain ⟨t544, A910, H⟩ := H
             replace H : (if t544 < 0 then (some false) else (if t544 = t542 then ((laws_toSemigroup.f kj59 l0_0).bind fun t545 => ((impl_BlowUp.f kj59 t545).bind fun bt548 => ((laws_eqSemigroup.f kj59 bt548.1 t520).bind fun t553 => (if t553 = true then (laws_FnExactBlowUp.j2 kj59 t542 (bt548.2 != t523) t543) else (laws_FnExactBlowUp.j2 kj59 t542 true t543))))) else (some false))) = some r := H
             have A91 := Aside0.mk A910
             clear A910
             by_cases c92 : t544 < 0
             · rw [if_pos c92] at H
               exact absurd (H.trans (congrArg some hr_.out)) (by simp)
             · rw [if_neg c92] at H
               have c92b0 : decide (t544 < 0) = false := decide_eq_false c92
               clear c92
               by_cases c100 : t544 = t542
               · rw [if_pos c100] at H
                 have c100b0 : (t544 == t542) = true := beq_iff_eq.mpr c100
                 have c100b1 : (t544 != t542) = false := bne_eq_false_iff_eq.mpr c100
                 clear c100
                 replace H := Option.bind_eq_some_iff.mp H
                 obtain ⟨t545, A1010, H⟩ := H
                 replace H : ((impl_BlowUp.f kj59 t545).bind fun bt548 => ((laws_eqSemigroup.f kj59 bt548.1 t520).bind fun t553 => (if t553 = true then (laws_FnExactBlowUp.j2 kj59 t542 (bt548.2 != t523) t543) else (laws_FnExactBlowUp.j2 kj59 t542 true t543)))) = some r := H
                 have A101 := Aside0.mk A1010
                 clear A1010
                 replace H := Option.bind_eq_some_iff.mp H
                 obtain ⟨⟨t548, t551⟩, A1020, H⟩ := H
                 replace H : ((laws_eqSemigroup.f kj59 t548 t520).bind fun t553 => (if t553 = true then (laws_FnExactBlowUp.j2 kj59 t542 (t551 != t523) t543) else (laws_FnExactBlowUp.j2 kj59 t542 true t543))) = some r := H
                 have A102 := Aside0.mk A1020
                 clear A1020
                 have HC103 := Aside0.mk H
                 clear H
                 have hnb104 := NB533_515.out
                 have hnc104 := NB515_533.out
                 have hnb105 := NB533_524.out
                 have hnc105 := NB524_533.out
                 have hnb106 := NB533_528.out
                 have hnc106 := NB528_533.out
                 have hcz107_0 : wc.cell? ⟨gb533, 0, none⟩ = some (.slice Ao32 t529.length co32) := (blk_cell BK533.out 0).trans rfl
                 have hfz107_0 := blk_frozen BK533.out 0
                 go_upto_region 25 with (first | ((with_reducible refine gate_callee (f := 47) rfl ?_); refine goesL_ (some 64) rfl rfl Try.func47 (by kernel_rfl) rfl #[.agg #[.slice Ao32 t529.length co32], .int .i64 1] rfl (by (try simp only [List.map_toArray, List.map_cons, List.map_nil]); first | done | rfl | (simp only [List.length_drop, List.length_take]; rfl)) ?_; (with_reducible refine (laws_markSemigroup.calls kj59 (fun k_ => some k_ = (.slice Ao32 t529.length co32 : Value).ownBlock) (.slice Ao32 t529.length co32) t529 1 t542 t543 w _ ?side1 ?side2 A90.out).mono ?_); (case side1 => repeat (first | (with_reducible first | exact HB.out | apply below_alloc | apply pw_below_drewN | apply below_drew1 | refine below_set ?_ GE515.out | refine below_set ?_ GE524.out | refine below_set ?_ GE528.out | refine below_set ?_ GE533.out) | exact HB.out)); (case side2 => exact Kd.R_tight rfl HO_534000.out); rintro e w108 ⟨rfl, hy0, hb, hkp⟩; refine ⟨_, rfl, ?_⟩; have n0_ := Aside0.mk (Kd.R_mono (ok' := fun k_ => some k_ ≠ (.slice Ao26 t540.length co26 : Value).ownBlock ∧ some k_ ≠ (.slice Ao32 t529.length co32 : Value).ownBlock) (Kd.R_keptB (HO_525000.out) hkp (fun k_ hk_ hs_ => (hk_.2) hs_)) (fun k_ hk_ => ⟨hk_.1.1, hk_.1.2⟩)); have n1_ := Aside0.mk (Kd.R_mono (ok' := fun k_ => some k_ ≠ (.slice Ao20 t520.length co20 : Value).ownBlock ∧ some k_ ≠ (.slice Ao32 t529.length co32 : Value).ownBlock) (Kd.R_keptB (HO_529000.out) hkp (fun k_ hk_ hs_ => (hk_.2) hs_)) (fun k_ hk_ => ⟨hk_.1.1, hk_.1.2⟩)); have n2_ := Aside0.mk (Kd.R_reok rfl hy0 (fun k_ e_ => HO_534000.out.1 k_ e_)); have n3_ := Aside0.mk (blk_kept (be_ BK515.out) hkp (fun hs_ => (fun e_ => (Kd.R_ne HO_534000.out BK515.out (by decide)) e_) hs_)); have n4_ := Aside0.mk (blk_kept (be_ BK524.out) hkp (fun hs_ => (fun e_ => (Kd.R_ne HO_534000.out BK524.out (by decide)) e_) hs_)); have n5_ := Aside0.mk (blk_kept (be_ BK528.out) hkp (fun hs_ => (fun e_ => (Kd.R_ne HO_534000.out BK528.out (by decide)) e_) hs_)); have n6_ := Aside0.mk (blk_kept (be_ BK533.out) hkp (fun hs_ => (fun e_ => (Kd.R_ne HO_534000.out BK533.out (by decide)) e_) hs_)); have n7_ := Aside0.mk (hb); clear HO_525000; clear HO_529000; clear HO_534000; clear BK515; clear BK524; clear BK528; clear BK533; clear HB; have HO_525000 := n0_; have HO_529000 := n1_; have HO_534000 := n2_; have BK515 := n3_; have BK524 := n4_; have BK528 := n5_; have BK533 := n6_; have HB := n7_; clear n0_ n1_ n2_ n3_ n4_ n5_ n6_ n7_; (try clear hb); (try clear hkp); (try clear hy0); have hcz109_0 : w108.cell? ⟨gb533, 0, none⟩ = some (.slice Ao32 t529.length co32) := (blk_cell BK533.out 0).trans rfl; have hfz109_0 := blk_frozen BK533.out 0) | ((with_reducible refine gate_callee (f := 48) rfl ?_); refine goesL_ (some 67) rfl rfl Try.func48 (by kernel_rfl) rfl #[.agg #[.slice Ao32 t543.length co32], .int .i64 1] rfl (by (try simp only [List.map_toArray, List.map_cons, List.map_nil]); first | done | (rw [show t543.length = t529.length from (Kd.R_reads' HO_534000.out).1.symm] <;> rfl) | rfl | (simp only [List.length_drop, List.length_take]; rfl)) ?_; (with_reducible refine (laws_heldSemigroup.calls kj59 _ _ t543 1 t544 _ ?side1 ?side2 A91.out).mono ?_); (case side1 => exact ce_ ((Kd.R_reads' HO_534000.out).2.2)); (case side2 => rw [show t543.length = t529.length from (Kd.R_reads' HO_534000.out).1.symm]; exact (Kd.R_reads' HO_534000.out).2.1); rintro e w110 ⟨rfl, hb⟩; refine ⟨_, rfl, ?_⟩; have n0_ := Aside0.mk (Kd.R_below (re_ HO_525000.out) hb); have n1_ := Aside0.mk (Kd.R_below (re_ HO_529000.out) hb); have n2_ := Aside0.mk (Kd.R_below (re_ HO_534000.out) hb); have n3_ := Aside0.mk (blk_below (g := gb515) (o := .cells #[.slice A0_0 l0_0.length c0_0] 24 (0, 0)) (be_ BK515.out) hb); have n4_ := Aside0.mk (blk_below (g := gb524) (o := .cells #[.slice Ao20 t520.length co20] 27 (0, 0)) (be_ BK524.out) hb); have n5_ := Aside0.mk (blk_below (g := gb528) (o := .cells #[.slice Ao26 t540.length co26] 27 (0, 0)) (be_ BK528.out) hb); have n6_ := Aside0.mk (blk_below (g := gb533) (o := .cells #[.slice Ao32 t529.length co32] 27 (0, 0)) (be_ BK533.out) hb); have n7_ := Aside0.mk (below_step (by repeat (first | (with_reducible first | exact HB.out | apply below_alloc | apply pw_below_drewN | apply below_drew1 | refine below_set ?_ GE515.out | refine below_set ?_ GE524.out | refine below_set ?_ GE528.out | refine below_set ?_ GE533.out) | exact HB.out)) hb); clear HO_525000; clear HO_529000; clear HO_534000; clear BK515; clear BK524; clear BK528; clear BK533; clear HB; have HO_525000 := n0_; have HO_529000 := n1_; have HO_534000 := n2_; have BK515 := n3_; have BK524 := n4_; have BK528 := n5_; have BK533 := n6_; have HB := n7_; clear n0_ n1_ n2_ n3_ n4_ n5_ n6_ n7_; (try clear hb); (try clear hb2); (try clear hk); (try clear hi); have hnb111 := NB515_524.out; have hnc111 := NB524_515.out; have hnb112 := NB515_528.out; have hnc112 := NB528_515.out; have hcz113_0 : w110.cell? ⟨gb515, 0, none⟩ = some (.slice A0_0 l0_0.length c0_0) := (blk_cell BK515.out 0).trans rfl; have hfz113_0 := blk_frozen BK515.out 0) | ((with_reducible refine gate_callee (f := 17) rfl ?_); refine goesL_ (some 75) rfl rfl Try.func17 (by kernel_rfl) rfl #[.agg #[.slice A0_0 l0_0.length c0_0]] rfl (by (try simp only [List.map_toArray, List.map_cons, List.map_nil]); first | done | rfl | (simp only [List.length_drop, List.length_take]; rfl)) ?_; (with_reducible refine (laws_toSemigroup.calls kj59 _ _ l0_0 t545 _ ?side1 ?side2 A101.out).mono ?_); (case side1 => exact ce_ ((Kd.C_below HR0_0.out HB.out))); (case side2 => exact HC0_0.out); rintro e w114 ⟨v546, rfl, ho0, hb⟩; refine ⟨_, rfl, ?_⟩; have n0_ := Aside0.mk (Kd.R_elder' (re_ HO_525000.out) (Kd.R_base ho0) hb); have n1_ := Aside0.mk (Kd.R_elder' (re_ HO_529000.out) (Kd.R_base ho0) hb); have n2_ := Aside0.mk (Kd.R_elder' (re_ HO_534000.out) (Kd.R_base ho0) hb); have n3_ := Aside0.mk (Kd.R_lower (Kd.R_new' (Kd.R_new' (Kd.R_new' ho0 (Kd.R_lt (re_ HO_525000.out))) (Kd.R_lt (re_ HO_529000.out))) (Kd.R_lt (re_ HO_534000.out))) (below_size (by repeat (first | (with_reducible first | exact HB.out | apply below_alloc | apply pw_below_drewN | apply below_drew1 | refine below_set ?_ GE515.out | refine below_set ?_ GE524.out | refine below_set ?_ GE528.out | refine below_set ?_ GE533.out) | exact HB.out)))); have n4_ := Aside0.mk (blk_below (g := gb515) (o := .cells #[.slice A0_0 l0_0.length c0_0] 24 (0, 0)) (be_ BK515.out) hb); have n5_ := Aside0.mk (blk_below (g := gb524) (o := .cells #[.slice Ao20 t520.length co20] 27 (0, 0)) (be_ BK524.out) hb); have n6_ := Aside0.mk (blk_below (g := gb528) (o := .cells #[.slice Ao26 t540.length co26] 27 (0, 0)) (be_ BK528.out) hb); have n7_ := Aside0.mk (blk_below (g := gb533) (o := .cells #[.slice Ao32 t529.length co32] 27 (0, 0)) (be_ BK533.out) hb); have n8_ := Aside0.mk (below_step (by repeat (first | (with_reducible first | exact HB.out | apply below_alloc | apply pw_below_drewN | apply below_drew1 | refine below_set ?_ GE515.out | refine below_set ?_ GE524.out | refine below_set ?_ GE528.out | refine below_set ?_ GE533.out) | exact HB.out)) hb); clear HO_525000; clear HO_529000; clear HO_534000; clear BK515; clear BK524; clear BK528; clear BK533; clear HB; have HO_525000 := n0_; have HO_529000 := n1_; have HO_534000 := n2_; have HO547 := n3_; have BK515 := n4_; have BK524 := n5_; have BK528 := n6_; have BK533 := n7_; have HB := n8_; clear n0_ n1_ n2_ n3_ n4_ n5_ n6_ n7_ n8_; (try clear hb); (try clear hb2); (try clear hk); (try clear hi); (try clear ho0); obtain ⟨Ao115, co115, eo115⟩ := Kd.R_slice HO547.out; subst eo115) | ((with_reducible refine gate_callee (f := 53) rfl ?_); refine goesL_ (some 76) rfl rfl Try.func53 (by kernel_rfl) rfl #[.agg #[.slice Ao115 t545.length co115]] rfl (by (try simp only [List.map_toArray, List.map_cons, List.map_nil]); first | done | rfl | (simp only [List.length_drop, List.length_take]; rfl)) ?_; (with_reducible refine (impl_BlowUp.calls kj59 _ _ t545 t548 t551 _ ?side1 ?side2 A102.out).mono ?_); (case side1 => exact ce_ ((Kd.R_reads' HO547.out).2.2)); (case side2 => exact (Kd.R_reads' HO547.out).2.1); rintro e w116 ⟨v549, rfl, ho0, hb⟩; refine ⟨_, rfl, ?_⟩; have n0_ := Aside0.mk (Kd.R_elder' (re_ HO_525000.out) (Kd.R_base ho0) hb); have n1_ := Aside0.mk (Kd.R_elder' (re_ HO_529000.out) (Kd.R_base ho0) hb); have n2_ := Aside0.mk (Kd.R_elder' (re_ HO_534000.out) (Kd.R_base ho0) hb); have n3_ := Aside0.mk (Kd.R_elder' (re_ HO547.out) (Kd.R_base ho0) hb); have n4_ := Aside0.mk (Kd.R_lower (Kd.R_new' (Kd.R_new' (Kd.R_new' (Kd.R_new' ho0 (Kd.R_lt (re_ HO_525000.out))) (Kd.R_lt (re_ HO_529000.out))) (Kd.R_lt (re_ HO_534000.out))) (Kd.R_lt (re_ HO547.out))) (below_size (by repeat (first | (with_reducible first | exact HB.out | apply below_alloc | apply pw_below_drewN | apply below_drew1 | refine below_set ?_ GE515.out | refine below_set ?_ GE524.out | refine below_set ?_ GE528.out | refine below_set ?_ GE533.out) | exact HB.out)))); have n5_ := Aside0.mk (blk_below (g := gb515) (o := .cells #[.slice A0_0 l0_0.length c0_0] 24 (0, 0)) (be_ BK515.out) hb); have n6_ := Aside0.mk (blk_below (g := gb524) (o := .cells #[.slice Ao20 t520.length co20] 27 (0, 0)) (be_ BK524.out) hb); have n7_ := Aside0.mk (blk_below (g := gb528) (o := .cells #[.slice Ao26 t540.length co26] 27 (0, 0)) (be_ BK528.out) hb); have n8_ := Aside0.mk (blk_below (g := gb533) (o := .cells #[.slice Ao32 t529.length co32] 27 (0, 0)) (be_ BK533.out) hb); have n9_ := Aside0.mk (below_step (by repeat (first | (with_reducible first | exact HB.out | apply below_alloc | apply pw_below_drewN | apply below_drew1 | refine below_set ?_ GE515.out | refine below_set ?_ GE524.out | refine below_set ?_ GE528.out | refine below_set ?_ GE533.out) | exact HB.out)) hb); clear HO_525000; clear HO_529000; clear HO_534000; clear HO547; clear BK515; clear BK524; clear BK528; clear BK533; clear HB; have HO_525000 := n0_; have HO_529000 := n1_; have HO_534000 := n2_; have HO547 := n3_; have HO550 := n4_; have BK515 := n5_; have BK524 := n6_; have BK528 := n7_; have BK533 := n8_; have HB := n9_; clear n0_ n1_ n2_ n3_ n4_ n5_ n6_ n7_ n8_ n9_; (try clear hb); (try clear hb2); (try clear hk); (try clear hi); (try clear ho0)) | ((with_reducible refine gate_dst (N := 12) rfl ?_); refine box_event ?hg (N := 12) ?hd (cs := #[.slice none 0 0]) (t := 27) ?hr ?_; (case hd => rfl); (case hg => rfl); (case hr => first | (go_simp; done) | (go_simp; rfl)); intro gb552 hg w117 hbox hb; have n0_ := Aside0.mk (Kd.R_below (re_ HO_525000.out) hb); have n1_ := Aside0.mk (Kd.R_below (re_ HO_529000.out) hb); have n2_ := Aside0.mk (Kd.R_below (re_ HO_534000.out) hb); have n3_ := Aside0.mk (Kd.R_below (re_ HO547.out) hb); have n4_ := Aside0.mk (Kd.R_below (re_ HO550.out) hb); have n5_ := Aside0.mk (blk_below (g := gb515) (o := .cells #[.slice A0_0 l0_0.length c0_0] 24 (0, 0)) (be_ BK515.out) hb); have n6_ := Aside0.mk (blk_below (g := gb524) (o := .cells #[.slice Ao20 t520.length co20] 27 (0, 0)) (be_ BK524.out) hb); have n7_ := Aside0.mk (blk_below (g := gb528) (o := .cells #[.slice Ao26 t540.length co26] 27 (0, 0)) (be_ BK528.out) hb); have n8_ := Aside0.mk (blk_below (g := gb533) (o := .cells #[.slice Ao32 t529.length co32] 27 (0, 0)) (be_ BK533.out) hb); have n9_ := Aside0.mk (below_step (by repeat (first | (with_reducible first | exact HB.out | apply below_alloc | apply pw_below_drewN | apply below_drew1 | refine below_set ?_ GE515.out | refine below_set ?_ GE524.out | refine below_set ?_ GE528.out | refine below_set ?_ GE533.out) | exact HB.out)) hb); have n10_ := Aside0.mk (hbox); have n11_ := Aside0.mk ((by rw [hg]; exact (below_size (by repeat (first | (with_reducible first | exact HB.out | apply below_alloc | apply pw_below_drewN | apply below_drew1 | refine below_set ?_ GE515.out | refine below_set ?_ GE524.out | refine below_set ?_ GE528.out | refine below_set ?_ GE533.out) | exact HB.out))) : w.heap.size ≤ gb552)); have n12_ := Aside0.mk ((by rw [hg]; exact (below_size (by repeat (first | (with_reducible first | exact HB.out | apply below_alloc | apply pw_below_drewN | apply below_drew1 | refine below_set ?_ GE515.out | refine below_set ?_ GE524.out | refine below_set ?_ GE528.out | refine below_set ?_ GE533.out) | exact HB.out))) : w.heap.size ≤ gb552)); have n13_ := Aside0.mk ((by rw [hg]; exact Nat.ne_of_lt (blk_lt (g := gb515) (o := .cells #[.slice A0_0 l0_0.length c0_0] 24 (0, 0)) (be_ BK515.out)) : gb515 ≠ gb552)); have n14_ := Aside0.mk ((by rw [hg]; exact Nat.ne_of_gt (blk_lt (g := gb515) (o := .cells #[.slice A0_0 l0_0.length c0_0] 24 (0, 0)) (be_ BK515.out)) : gb552 ≠ gb515)); have n15_ := Aside0.mk ((by rw [hg]; exact Nat.ne_of_lt (blk_lt (g := gb524) (o := .cells #[.slice Ao20 t520.length co20] 27 (0, 0)) (be_ BK524.out)) : gb524 ≠ gb552)); have n16_ := Aside0.mk ((by rw [hg]; exact Nat.ne_of_gt (blk_lt (g := gb524) (o := .cells #[.slice Ao20 t520.length co20] 27 (0, 0)) (be_ BK524.out)) : gb552 ≠ gb524)); have n17_ := Aside0.mk ((by rw [hg]; exact Nat.ne_of_lt (blk_lt (g := gb528) (o := .cells #[.slice Ao26 t540.length co26] 27 (0, 0)) (be_ BK528.out)) : gb528 ≠ gb552)); have n18_ := Aside0.mk ((by rw [hg]; exact Nat.ne_of_gt (blk_lt (g := gb528) (o := .cells #[.slice Ao26 t540.length co26] 27 (0, 0)) (be_ BK528.out)) : gb552 ≠ gb528)); have n19_ := Aside0.mk ((by rw [hg]; exact Nat.ne_of_lt (blk_lt (g := gb533) (o := .cells #[.slice Ao32 t529.length co32] 27 (0, 0)) (be_ BK533.out)) : gb533 ≠ gb552)); have n20_ := Aside0.mk ((by rw [hg]; exact Nat.ne_of_gt (blk_lt (g := gb533) (o := .cells #[.slice Ao32 t529.length co32] 27 (0, 0)) (be_ BK533.out)) : gb552 ≠ gb533)); clear HO_525000; clear HO_529000; clear HO_534000; clear HO547; clear HO550; clear BK515; clear BK524; clear BK528; clear BK533; clear HB; have HO_525000 := n0_; have HO_529000 := n1_; have HO_534000 := n2_; have HO547 := n3_; have HO550 := n4_; have BK515 := n5_; have BK524 := n6_; have BK528 := n7_; have BK533 := n8_; have HB := n9_; have BK552 := n10_; have GW552 := n11_; have GE552 := n12_; have NB515_552 := n13_; have NB552_515 := n14_; have NB524_552 := n15_; have NB552_524 := n16_; have NB528_552 := n17_; have NB552_528 := n18_; have NB533_552 := n19_; have NB552_533 := n20_; clear n0_ n1_ n2_ n3_ n4_ n5_ n6_ n7_ n8_ n9_ n10_ n11_ n12_ n13_ n14_ n15_ n16_ n17_ n18_ n19_ n20_; clear hb hbox hg; obtain ⟨Ao118, co118, eo118⟩ := Kd.R_slice HO550.out; subst eo118; have hnb119 := NB552_515.out; have hnc119 := NB515_552.out; have hnb120 := NB552_524.out; have hnc120 := NB524_552.out; have hnb121 := NB552_528.out; have hnc121 := NB528_552.out; have hnb122 := NB552_533.out; have hnc122 := NB533_552.out; have hcz123_0 : w117.cell? ⟨gb552, 0, none⟩ = some (.slice none 0 0) := (blk_cell BK552.out 0).trans rfl; have hfz123_0 := blk_frozen BK552.out 0))
                 (try simp only [Act.put, z1_, z2_, z3_])
                 go_cut [87] (fun v87 wc => ∃ (kq : Nat) (x87_102 : Bool), v87 = .bool x87_102 ∧ Aside0 (laws_FnExactBlowUp.j2 kq t542 x87_102 t543 = some r) ∧ Aside0 (kq ≤ kj59) ∧ Aside0 (Kd.R (Kd.int .i64) 3 wc w.heap.size (fun k_ => some k_ ≠ ((.slice Ao26 t540.length co26) : Value).ownBlock ∧ some k_ ≠ ((.slice Ao32 t529.length co32) : Value).ownBlock ∧ some k_ ≠ ((.slice Ao118 t548.length co118) : Value).ownBlock) (.slice Ao20 t520.length co20) t520) ∧ Aside0 (Kd.R (Kd.int .i64) 3 wc w.heap.size (fun k_ => some k_ ≠ ((.slice Ao20 t520.length co20) : Value).ownBlock ∧ some k_ ≠ ((.slice Ao32 t529.length co32) : Value).ownBlock ∧ some k_ ≠ ((.slice Ao118 t548.length co118) : Value).ownBlock) (.slice Ao26 t540.length co26) t540) ∧ Aside0 (Kd.R (Kd.int .i64) 3 wc w.heap.size (fun k_ => some k_ ≠ ((.slice Ao20 t520.length co20) : Value).ownBlock ∧ some k_ ≠ ((.slice Ao26 t540.length co26) : Value).ownBlock ∧ some k_ ≠ ((.slice Ao118 t548.length co118) : Value).ownBlock) (.slice Ao32 t529.length co32) t543) ∧ Aside0 (Kd.R (Kd.int .i64) 3 wc w.heap.size (fun k_ => some k_ ≠ ((.slice Ao20 t520.length co20) : Value).ownBlock ∧ some k_ ≠ ((.slice Ao26 t540.length co26) : Value).ownBlock ∧ some k_ ≠ ((.slice Ao32 t529.length co32) : Value).ownBlock) (.slice Ao118 t548.length co118) t548) ∧ Aside0 (wc.heap[gb515]? = some (.cells #[(.slice A0_0 l0_0.length c0_0)] 24 (0, 0))) ∧ Aside0 (wc.heap[gb524]? = some (.cells #[(.slice Ao20 t520.length co20)] 27 (0, 0))) ∧ Aside0 (wc.heap[gb528]? = some (.cells #[(.slice Ao26 t540.length co26)] 27 (0, 0))) ∧ Aside0 (wc.heap[gb533]? = some (.cells #[(.slice Ao32 t529.length co32)] 27 (0, 0))) ∧ Aside0 (wc.heap[gb552]? = some (.cells #[(.slice Ao118 t548.length co118)] 27 (0, 0))) ∧ Aside0 (Below w.heap.size w wc))
                 case first =>
                  have H := HC103.out
                  clear HC103
                  replace H := Option.bind_eq_some_iff.mp H
                  obtain ⟨t553, A1240, H⟩ := H
                  replace H : (if t553 = true then (laws_FnExactBlowUp.j2 kj59 t542 (t551 != t523) t543) else (laws_FnExactBlowUp.j2 kj59 t542 true t543)) = some r := H
                  have A124 := Aside0.mk A1240
                  clear A1240
                  by_cases c125 : t553 = true
                  · subst c125
                    have H1 : (laws_FnExactBlowUp.j2 kj59 t542 (t551 != t523) t543) = some r := by rw [if_pos rfl] at H; exact H
                    clear H
                    have H := H1
                    clear H1
                    as_aux_lemma =>
                     have H' := Aside0.mk H
                     clear H
                     have hnb126 := NB552_515.out
                     have hnc126 := NB515_552.out
                     have hnb127 := NB552_524.out
                     have hnc127 := NB524_552.out
                     have hnb128 := NB552_528.out
                     have hnc128 := NB528_552.out
                     have hnb129 := NB552_533.out
                     have hnc129 := NB533_552.out
                     have hcz130_0 : w117.cell? ⟨gb552, 0, none⟩ = some (.slice none 0 0) := (blk_cell BK552.out 0).trans rfl
                     have hfz130_0 := blk_frozen BK552.out 0
                     have hnb131 := NB524_515.out
                     have hnc131 := NB515_524.out
                     have hnb132 := NB524_528.out
                     have hnc132 := NB528_524.out
                     have hnb133 := NB524_533.out
                     have hnc133 := NB533_524.out
                     have hcz134_0 : w117.cell? ⟨gb524, 0, none⟩ = some (.slice Ao20 t520.length co20) := (blk_cell BK524.out 0).trans rfl
                     have hfz134_0 := blk_frozen BK524.out 0
                     go_wp2_with (first | ((with_reducible refine gate_callee (f := 19) rfl ?_); refine goesL_ (some 81) rfl rfl Try.func19 (by kernel_rfl) rfl #[.agg #[.slice Ao118 t548.length co118], .agg #[.slice Ao20 t520.length co20]] rfl (by (try simp only [List.map_toArray, List.map_cons, List.map_nil]); first | done | rfl | (simp only [List.length_drop, List.length_take]; rfl)) ?_; (with_reducible refine (laws_eqSemigroup.calls kj59 _ _ t548 _ _ t520 true _ ?side1 ?side2 ?side3 ?side4 A124.out).mono ?_); (case side1 => refine (Kd.R_reads' (e := 3) (base := w.heap.size) (ok := fun k_ => ((((True ∧ some k_ ≠ (.slice Ao20 t520.length co20 : Value).ownBlock) ∧ some k_ ≠ (.slice Ao26 t540.length co26 : Value).ownBlock) ∧ some k_ ≠ (.slice Ao32 t529.length co32 : Value).ownBlock) ∧ some k_ ≠ (.slice Ao115 t545.length co115 : Value).ownBlock)) (n := t548.length) (c := co118) ?_).2.2; exact (by (with_reducible repeat (first | apply Kd.R_alloc | apply Kd.R_drewN | apply Kd.R_drew)); exact (Kd.R_mono (Kd.R_far (p := ⟨gb552, 0, none⟩) (Kd.R_types HO550.out BK552.out (by decide)) (fun _ hk => hk.2) (.slice Ao118 t548.length co118)) (fun _ h_ => h_.1)))); (case side2 => exact (Kd.R_reads' HO550.out).2.1); (case side3 => refine (Kd.R_reads' (e := 3) (base := w.heap.size) (ok := fun k_ => (((some k_ ≠ (.slice Ao26 t540.length co26 : Value).ownBlock ∧ some k_ ≠ (.slice Ao32 t529.length co32 : Value).ownBlock) ∧ some k_ ≠ (.slice Ao115 t545.length co115 : Value).ownBlock) ∧ some k_ ≠ (.slice Ao118 t548.length co118 : Value).ownBlock)) (n := t520.length) (c := co20) ?_).2.2; exact (by (with_reducible repeat (first | apply Kd.R_alloc | apply Kd.R_drewN | apply Kd.R_drew)); exact (Kd.R_mono (Kd.R_far (p := ⟨gb552, 0, none⟩) (Kd.R_types HO_525000.out BK552.out (by decide)) (fun _ hk => hk.2) (.slice Ao118 t548.length co118)) (fun _ h_ => h_.1)))); (case side4 => exact (Kd.R_reads' HO_525000.out).2.1); rintro e w135 ⟨rfl, hb⟩; refine ⟨_, rfl, ?_⟩; have n0_ := Aside0.mk (Kd.R_below (by (with_reducible repeat (first | apply Kd.R_alloc | apply Kd.R_drewN | apply Kd.R_drew)); exact (Kd.R_mono (Kd.R_far (p := ⟨gb552, 0, none⟩) (Kd.R_types HO_525000.out BK552.out (by decide)) (fun _ hk => hk.2) (.slice Ao118 t548.length co118)) (fun _ h_ => h_.1))) hb); have n1_ := Aside0.mk (Kd.R_below (by (with_reducible repeat (first | apply Kd.R_alloc | apply Kd.R_drewN | apply Kd.R_drew)); exact (Kd.R_mono (Kd.R_far (p := ⟨gb552, 0, none⟩) (Kd.R_types HO_529000.out BK552.out (by decide)) (fun _ hk => hk.2) (.slice Ao118 t548.length co118)) (fun _ h_ => h_.1))) hb); have n2_ := Aside0.mk (Kd.R_below (by (with_reducible repeat (first | apply Kd.R_alloc | apply Kd.R_drewN | apply Kd.R_drew)); exact (Kd.R_mono (Kd.R_far (p := ⟨gb552, 0, none⟩) (Kd.R_types HO_534000.out BK552.out (by decide)) (fun _ hk => hk.2) (.slice Ao118 t548.length co118)) (fun _ h_ => h_.1))) hb); have n3_ := Aside0.mk (Kd.R_below (by (with_reducible repeat (first | apply Kd.R_alloc | apply Kd.R_drewN | apply Kd.R_drew)); exact (Kd.R_mono (Kd.R_far (p := ⟨gb552, 0, none⟩) (Kd.R_types HO547.out BK552.out (by decide)) (fun _ hk => hk.2) (.slice Ao118 t548.length co118)) (fun _ h_ => h_.1))) hb); have n4_ := Aside0.mk (Kd.R_below (by (with_reducible repeat (first | apply Kd.R_alloc | apply Kd.R_drewN | apply Kd.R_drew)); exact (Kd.R_mono (Kd.R_far (p := ⟨gb552, 0, none⟩) (Kd.R_types HO550.out BK552.out (by decide)) (fun _ hk => hk.2) (.slice Ao118 t548.length co118)) (fun _ h_ => h_.1))) hb); have n5_ := Aside0.mk (blk_below (g := gb515) (o := .cells #[.slice A0_0 l0_0.length c0_0] 24 (0, 0)) (by (with_reducible repeat (first | refine blk_drewN ?_ _ | refine blk_drew ?_ | refine blk_alloc ?_ _)); refine blk_far ?_ NB515_552.out _; (with_reducible repeat (first | refine blk_drewN ?_ _ | refine blk_drew ?_ | refine blk_alloc ?_ _)); exact BK515.out) hb); have n6_ := Aside0.mk (blk_below (g := gb524) (o := .cells #[.slice Ao20 t520.length co20] 27 (0, 0)) (by (with_reducible repeat (first | refine blk_drewN ?_ _ | refine blk_drew ?_ | refine blk_alloc ?_ _)); refine blk_far ?_ NB524_552.out _; (with_reducible repeat (first | refine blk_drewN ?_ _ | refine blk_drew ?_ | refine blk_alloc ?_ _)); exact BK524.out) hb); have n7_ := Aside0.mk (blk_below (g := gb528) (o := .cells #[.slice Ao26 t540.length co26] 27 (0, 0)) (by (with_reducible repeat (first | refine blk_drewN ?_ _ | refine blk_drew ?_ | refine blk_alloc ?_ _)); refine blk_far ?_ NB528_552.out _; (with_reducible repeat (first | refine blk_drewN ?_ _ | refine blk_drew ?_ | refine blk_alloc ?_ _)); exact BK528.out) hb); have n8_ := Aside0.mk (blk_below (g := gb533) (o := .cells #[.slice Ao32 t529.length co32] 27 (0, 0)) (by (with_reducible repeat (first | refine blk_drewN ?_ _ | refine blk_drew ?_ | refine blk_alloc ?_ _)); refine blk_far ?_ NB533_552.out _; (with_reducible repeat (first | refine blk_drewN ?_ _ | refine blk_drew ?_ | refine blk_alloc ?_ _)); exact BK533.out) hb); have n9_ := Aside0.mk (blk_below (g := gb552) (o := .cells #[.slice Ao118 t548.length co118] 27 (0, 0)) (by (with_reducible repeat (first | refine blk_drewN ?_ _ | refine blk_drew ?_ | refine blk_alloc ?_ _)); refine blk_put (cs := #[.slice none 0 0]) ?_ 0 _ rfl; (with_reducible repeat (first | refine blk_drewN ?_ _ | refine blk_drew ?_ | refine blk_alloc ?_ _)); exact BK552.out) hb); have n10_ := Aside0.mk (below_step (by repeat (first | (with_reducible first | exact HB.out | apply below_alloc | apply pw_below_drewN | apply below_drew1 | refine below_set ?_ GE515.out | refine below_set ?_ GE524.out | refine below_set ?_ GE528.out | refine below_set ?_ GE533.out | refine below_set ?_ GE552.out) | exact HB.out)) hb); clear HO_525000; clear HO_529000; clear HO_534000; clear HO547; clear HO550; clear BK515; clear BK524; clear BK528; clear BK533; clear BK552; clear HB; have HO_525000 := n0_; have HO_529000 := n1_; have HO_534000 := n2_; have HO547 := n3_; have HO550 := n4_; have BK515 := n5_; have BK524 := n6_; have BK528 := n7_; have BK533 := n8_; have BK552 := n9_; have HB := n10_; clear n0_ n1_ n2_ n3_ n4_ n5_ n6_ n7_ n8_ n9_ n10_; (try clear hb); (try clear hb2); (try clear hk); (try clear hi)))
                     go_meet
                     case rel => exact ⟨_, ((t551 != t523)), (by first | rfl | (simp; done) | (simp [*]; done)), H', ⟨by have := HJ10.out; have := HJ59.out; first | omega | exact Nat.le_refl _⟩, ⟨by (try simp only [hl529000_59]); (with_reducible repeat (first | apply Kd.R_alloc | apply Kd.R_drewN | apply Kd.R_drew)); exact Kd.R_mono HO_525000.out (fun _ hk => ⟨hk.1.1.1, ⟨hk.1.1.2, hk.2⟩⟩)⟩, ⟨by (try simp only [hl529000_59]); (with_reducible repeat (first | apply Kd.R_alloc | apply Kd.R_drewN | apply Kd.R_drew)); exact Kd.R_mono HO_529000.out (fun _ hk => ⟨hk.1.1.1, ⟨hk.1.1.2, hk.2⟩⟩)⟩, ⟨by (try simp only [hl529000_59]); (with_reducible repeat (first | apply Kd.R_alloc | apply Kd.R_drewN | apply Kd.R_drew)); exact Kd.R_mono HO_534000.out (fun _ hk => ⟨hk.1.1.1, ⟨hk.1.1.2, hk.2⟩⟩)⟩, ⟨by (try simp only [hl529000_59]); (with_reducible repeat (first | apply Kd.R_alloc | apply Kd.R_drewN | apply Kd.R_drew)); exact Kd.R_mono HO550.out (fun _ hk => ⟨hk.1.1.1.2, ⟨hk.1.1.2, hk.1.2⟩⟩)⟩, ⟨by (try simp only [hl529000_59]); (with_reducible repeat (first | refine blk_drewN ?_ _ | refine blk_drew ?_ | refine blk_alloc ?_ _)); exact BK515.out⟩, ⟨by (try simp only [hl529000_59]); (with_reducible repeat (first | refine blk_drewN ?_ _ | refine blk_drew ?_ | refine blk_alloc ?_ _)); exact BK524.out⟩, ⟨by (try simp only [hl529000_59]); (with_reducible repeat (first | refine blk_drewN ?_ _ | refine blk_drew ?_ | refine blk_alloc ?_ _)); exact BK528.out⟩, ⟨by (try simp only [hl529000_59]); (with_reducible repeat (first | refine blk_drewN ?_ _ | refine blk_drew ?_ | refine blk_alloc ?_ _)); exact BK533.out⟩, ⟨by (try simp only [hl529000_59]); (with_reducible repeat (first | refine blk_drewN ?_ _ | refine blk_drew ?_ | refine blk_alloc ?_ _)); exact BK552.out⟩, ⟨by repeat (first | (with_reducible first | exact HB.out | apply below_alloc | apply pw_below_drewN | apply below_drew1 | refine below_set ?_ GE515.out | refine below_set ?_ GE524.out | refine below_set ?_ GE528.out | refine below_set ?_ GE533.out | refine below_set ?_ GE552.out) | exact HB.out)⟩⟩
                  · replace c125 := Bool.eq_false_iff.mpr c125
                    subst c125
                    have H1 : (laws_FnExactBlowUp.j2 kj59 t542 true t543) = some r := by rw [if_neg (show ¬ (false = true) by decide)] at H; exact H
                    exact absurd (H1.trans (congrArg some hr_.out)) (by cases kj59 <;> simp [laws_FnExactBlowUp.j2])
                 case rest =>
                  clear HC103
                  try clear c1
                  try clear c2
                  try clear p2
                  try clear c3
                  try clear c3b0
                  try clear c4
                  try clear c5
                  try clear c6
                  try clear c7
                  try clear c8
                  try clear c9
                  try clear c10
                  try clear c11
                  try clear c12
                  try clear c13
                  try clear c14
                  try clear c15
                  try clear c17
                  try clear c19
                  try clear c21
                  try clear c27
                  try clear c28
                  try clear c33
                  try clear c34
                  try clear c35
                  try clear c38
                  try clear c39
                  try clear c40
                  try clear c41
                  try clear c43
                  try clear c44
                  try clear c47
                  try clear c48
                  try clear c49
                  try clear c51
                  try clear c52
                  try clear c53
                  try clear c55
                  try clear c58
                  try clear c65
                  try clear c66
                  try clear c67
                  try clear c70
                  try clear c70b0
                  try clear c72
                  try clear c73
                  try clear c74
                  try clear c75
                  try clear c77
                  try clear c78
                  try clear c81
                  try clear c82
                  try clear c83
                  try clear c85
                  try clear c86
                  try clear c89
                  try clear c92
                  try clear c92b0
                  try clear c93
                  try clear c94
                  try clear c95
                  try clear c100
                  try clear c100b0
                  try clear c100b1
                  try clear c104
                  try clear c105
                  try clear c106
                  try clear c111
                  try clear c112
                  try clear c119
                  try clear c120
                  try clear c121
                  try clear c122
                  try clear c125
                  try clear c126
                  try clear c127
                  try clear c128
                  try clear c129
                  try clear c131
                  try clear c132
                  try clear c133
                  try clear c136
                  try clear c137
                  try clear c138
                  try clear c139
                  try clear c141
                  try clear c142
                  try clear c143
                  try clear hcz107_0
                  try clear hcz109_0
                  try clear hcz113_0
                  try clear hcz123_0
                  try clear hcz130_0
                  try clear hcz134_0
                  try clear hcz13_0
                  try clear hcz140_0
                  try clear hcz144_0
                  try clear hcz15_0
                  try clear hcz22_0
                  try clear hcz23_0
                  try clear hcz29_0
                  try clear hcz36_0
                  try clear hcz42_0
                  try clear hcz45_0
                  try clear hcz50_0
                  try clear hcz53_0
                  try clear hcz5_0
                  try clear hcz68_0
                  try clear hcz76_0
                  try clear hcz79_0
                  try clear hcz84_0
                  try clear hcz87_0
                  try clear hcz96_0
                  try clear hcz98_0
                  try clear hfz107_0
                  try clear hfz109_0
                  try clear hfz113_0
                  try clear hfz123_0
                  try clear hfz130_0
                  try clear hfz134_0
                  try clear hfz13_0
                  try clear hfz140_0
                  try clear hfz144_0
                  try clear hfz15_0
                  try clear hfz22_0
                  try clear hfz23_0
                  try clear hfz29_0
                  try clear hfz36_0
                  try clear hfz42_0
                  try clear hfz45_0
                  try clear hfz50_0
                  try clear hfz53_0
                  try clear hfz5_0
                  try clear hfz68_0
                  try clear hfz76_0
                  try clear hfz79_0
                  try clear hfz84_0
                  try clear hfz87_0
                  try clear hfz96_0
                  try clear hfz98_0
                  try clear p2
                  obtain ⟨kq, x87_102, rfl, HA, HJ102, HO_525000, HO_529000, HO_534000, HO_553000, BK515, BK524, BK528, BK533, BK552, HB⟩ := hcut
                  have hl534000_102 := (Kd.R_reads' HO_534000.out).1
                  rw [hl534000_102] at HO_534000
                  (try simp only [hl534000_102])
                  (try simp only [hl534000_102] at BK515)
                  (try simp only [hl534000_102] at BK524)
                  (try simp only [hl534000_102] at BK528)
                  (try simp only [hl534000_102] at BK533)
                  (try simp only [hl534000_102] at BK552)
                  (try simp only [hl534000_102] at HO_525000)
                  (try simp only [hl534000_102] at HO_529000)
                  (try simp only [hl534000_102] at HO_553000)
                  cases kq with
                  | zero => exact absurd HA.out (by simp [laws_FnExactBlowUp.j2])
                  | succ kj102 =>
                   have H := HA.out
                   clear HA
                   simp only [laws_FnExactBlowUp.j2] at H
                   by_cases c146 : x87_102 = true
                   · subst c146
                     have H1 : (some false) = some r := by rw [if_pos rfl] at H; exact H
                     exact absurd (H1.trans (congrArg some hr_.out)) (by simp)
                   · replace c146 := Bool.eq_false_iff.mpr c146
                     subst c146
                     have H1 : ((laws_heldSemigroup.f kj102 t543 1).bind fun t554 => (if t554 < 0 then (some false) else (if t554 = t542 then (some true) else (some false)))) = some r := by rw [if_neg (show ¬ (false = true) by decide)] at H; exact H
                     clear H
                     have H := H1
                     clear H1
                     replace H := Option.bind_eq_some_iff.mp H
                     obtain ⟨t554, A1470, H⟩ := H
                     replace H : (if t554 < 0 then (some false) else (if t554 = t542 then (some true) else (some false))) = some r := H
                     have A147 := Aside0.mk A1470
                     clear A1470
                     by_cases c148 : t554 < 0
                     · rw [if_pos c148] at H
                       exact absurd (H.trans (congrArg some hr_.out)) (by simp)
                     · rw [if_neg c148] at H
                       have c148b0 : decide (t554 < 0) = false := decide_eq_false c148
                       clear c148
                       by_cases c155 : t554 = t542
                       · rw [if_pos c155] at H
                         have c155b0 : (t554 == t542) = true := beq_iff_eq.mpr c155
                         have c155b1 : (t554 != t542) = false := bne_eq_false_iff_eq.mpr c155
                         clear c155
                         as_aux_lemma =>
                          obtain rfl := Option.some.inj H
                          have hnb156 := NB533_515.out
                          have hnc156 := NB515_533.out
                          have hnb157 := NB533_524.out
                          have hnc157 := NB524_533.out
                          have hnb158 := NB533_528.out
                          have hnc158 := NB528_533.out
                          have hnb159 := NB533_552.out
                          have hnc159 := NB552_533.out
                          have hcz160_0 : wc.cell? ⟨gb533, 0, none⟩ = some (.slice Ao32 t543.length co32) := (blk_cell BK533.out 0).trans rfl
                          have hfz160_0 := blk_frozen BK533.out 0
                          go_wp2_with (first | ((with_reducible refine gate_callee (f := 48) rfl ?_); refine goesL_ (some 90) rfl rfl Try.func48 (by kernel_rfl) rfl #[.agg #[.slice Ao32 t543.length co32], .int .i64 1] rfl (by (try simp only [List.map_toArray, List.map_cons, List.map_nil]); first | done | rfl | (simp only [List.length_drop, List.length_take]; rfl)) ?_; (with_reducible refine (laws_heldSemigroup.calls kj102 _ _ t543 1 t554 _ ?side1 ?side2 A147.out).mono ?_); (case side1 => exact ce_ ((Kd.R_reads' HO_534000.out).2.2)); (case side2 => exact (Kd.R_reads' HO_534000.out).2.1); rintro e w161 ⟨rfl, hb⟩; refine ⟨_, rfl, ?_⟩; have n0_ := Aside0.mk (Kd.R_below (re_ HO_525000.out) hb); have n1_ := Aside0.mk (Kd.R_below (re_ HO_529000.out) hb); have n2_ := Aside0.mk (Kd.R_below (re_ HO_534000.out) hb); have n3_ := Aside0.mk (Kd.R_below (re_ HO_553000.out) hb); have n4_ := Aside0.mk (blk_below (g := gb515) (o := .cells #[.slice A0_0 l0_0.length c0_0] 24 (0, 0)) (be_ BK515.out) hb); have n5_ := Aside0.mk (blk_below (g := gb524) (o := .cells #[.slice Ao20 t520.length co20] 27 (0, 0)) (be_ BK524.out) hb); have n6_ := Aside0.mk (blk_below (g := gb528) (o := .cells #[.slice Ao26 t540.length co26] 27 (0, 0)) (be_ BK528.out) hb); have n7_ := Aside0.mk (blk_below (g := gb533) (o := .cells #[.slice Ao32 t543.length co32] 27 (0, 0)) (be_ BK533.out) hb); have n8_ := Aside0.mk (blk_below (g := gb552) (o := .cells #[.slice Ao118 t548.length co118] 27 (0, 0)) (be_ BK552.out) hb); have n9_ := Aside0.mk (below_step (by repeat (first | (with_reducible first | exact HB.out | apply below_alloc | apply pw_below_drewN | apply below_drew1 | refine below_set ?_ GE515.out | refine below_set ?_ GE524.out | refine below_set ?_ GE528.out | refine below_set ?_ GE533.out | refine below_set ?_ GE552.out) | exact HB.out)) hb); clear HO_525000; clear HO_529000; clear HO_534000; clear HO_553000; clear BK515; clear BK524; clear BK528; clear BK533; clear BK552; clear HB; have HO_525000 := n0_; have HO_529000 := n1_; have HO_534000 := n2_; have HO_553000 := n3_; have BK515 := n4_; have BK524 := n5_; have BK528 := n6_; have BK533 := n7_; have BK552 := n8_; have HB := n9_; clear n0_ n1_ n2_ n3_ n4_ n5_ n6_ n7_ n8_ n9_; (try clear hb); (try clear hb2); (try clear hk); (try clear hi)))
                          go_ret
                          exact ⟨by first | rfl | (simp [errW_none, errW_some] <;> rfl) | (simp [*, errW_none, errW_some] <;> rfl), by repeat (first | (with_reducible first | exact HB.out | apply below_alloc | apply pw_below_drewN | apply below_drew1 | refine below_set ?_ GE515.out | refine below_set ?_ GE524.out | refine below_set ?_ GE528.out | refine below_set ?_ GE533.out | refine below_set ?_ GE552.out) | exact HB.out)⟩
                       · rw [if_neg c155] at H
                         exact absurd (H.trans (congrArg some hr_.out)) (by simp)
               · rw [if_neg c100] at H
                 exact absurd (H.trans (congrArg some hr_.out)) (by simp)
       · replace c58 := Bool.eq_false_iff.mpr c58
         subst c58
         have H1 : (some false) = some r := by rw [if_neg (show ¬ (false = true) by decide)] at H; exact H
         exact absurd (H1.trans (congrArg some hr_.out)) (by simp)
end Go.Proofs.Ytapdhljbhekcdaa.PC
end
section
namespace Go.Proofs.Ytapdhljbhekcdaa.E
open Go.RowKit Go.Proofs.YtapdhljbhekcdaaW.PrintWords Go.Proofs.YtapdhljbhekcdaaW.PrintLast Go.Proofs.YtapdhljbhekcdaaW.PrintMore
set_option linter.unusedVariables false
set_option linter.unusedSimpArgs false
theorem w64 {x : Int} (h1 : -9223372036854775808 ≤ x) (h2 : x ≤ 9223372036854775807) : wrap64 x = x := by
 unfold wrap64; omega
theorem nd_t {p : Prop} [Decidable p] (h : ¬ p) : (!decide p) = true := by simp [h]
theorem emod_le_self {n x : Int} (h : 0 ≤ n) (hx : 0 < x) : n % x ≤ n := by
 have h1 := Int.mul_ediv_add_emod n x
 have h2 : 0 ≤ x * (n / x) := Int.mul_nonneg (by omega) (Int.ediv_nonneg h (by omega))
 omega
theorem ev_ifp {α : Type} {c : Prop} [Decidable c] {a b : Nat → Option α} {r : α} (h : c) (k : Ev a r) : Ev (fun n => if c then a n else b n) r :=
 Ev.congr (fun _ => if_pos h) k
theorem ev_ifn {α : Type} {c : Prop} [Decidable c] {a b : Nat → Option α} {r : α} (h : ¬ c) (k : Ev b r) : Ev (fun n => if c then a n else b n) r :=
 Ev.congr (fun _ => if_neg h) k
theorem ev_bind {α β : Type} {g : Nat → Option α} {f : Nat → α → Option β} (a : α) {r : β} (h : Ev g a) (k : Ev (fun n => f n a) r) : Ev (fun n => (g n).bind (f n)) r := Ev.bind h k
theorem ev_to {α : Type} {g : Nat → Option α} {a b : α} (h : Ev g a) (e : a = b) : Ev g b := e ▸ h
theorem rd_lt {l : List Int} {i : Int} (h0 : 0 ≤ i) (h : i < l.length) : rd l i = l[i.toNat]'(by omega) := by
 unfold rd; rw [List.getD_eq_getElem?_getD, List.getElem?_eq_getElem (by omega)]; rfl
theorem rd_mem {l : List Int} {i : Int} (h0 : 0 ≤ i) (h : i < l.length) : rd l i ∈ l := by
 rw [rd_lt h0 h]; exact List.getElem_mem _
theorem drop_rd {l : List Int} {i : Int} (h0 : 0 ≤ i) (h : i < l.length) : l.drop i.toNat = rd l i :: l.drop (i + 1).toNat := by
 rw [rd_lt h0 h, List.drop_eq_getElem_cons (by omega)]
 congr 2; omega
theorem take_rd {l : List Int} {i : Int} (h0 : 0 ≤ i) (h : i < l.length) : l.take (i + 1).toNat = l.take i.toNat ++ [rd l i] := by
 rw [rd_lt h0 h, show (i + 1).toNat = i.toNat + 1 from by omega, List.take_succ_eq_append_getElem (by omega)]
theorem rd_ext {l m : List Int} (hl : l.length = m.length) (h : ∀ i : Int, 0 ≤ i → i < l.length → rd l i = rd m i) : l = m := by
 refine List.ext_getElem hl fun n h1 h2 => ?_
 have := h n (by omega) (by omega)
 rw [rd_lt (by omega) (by omega), rd_lt (by omega) (by omega)] at this
 simpa using this
theorem rd_set {l : List Int} {i j : Int} (x : Int) (hi : 0 ≤ i) (hi' : i < l.length) (hj : 0 ≤ j) : rd (l.set i.toNat x) j = if j = i then x else rd l j := by
 unfold rd
 rw [List.getD_eq_getElem?_getD, List.getD_eq_getElem?_getD, List.getElem?_set]
 by_cases h : j = i
 · subst h; rw [if_pos rfl, if_pos rfl, if_pos (by omega)]; rfl
 · rw [if_neg h, if_neg (by omega)]
theorem rd_rep {n : Nat} {x : Int} {i : Int} (hi : 0 ≤ i) (h : i < n) : rd (List.replicate n x) i = x := by
 rw [rd_lt hi (by simpa using h)]; simp
theorem mem_rd {l : List Int} {x : Int} (h : x ∈ l) : ∃ i : Int, 0 ≤ i ∧ i < l.length ∧ rd l i = x := by
 obtain ⟨n, hn, rfl⟩ := List.mem_iff_getElem.1 h
 exact ⟨n, by omega, by omega, by rw [rd_lt (by omega) (by omega)]; simp⟩
def marks (a : Int) : Nat → List Int
 | 0 => []
 | n + 1 => a :: marks (a + 1) n
theorem marks_len (a : Int) (n : Nat) : (marks a n).length = n := by
 induction n generalizing a with
 | zero => rfl
 | succ n ih => simp [marks, ih]
theorem marks_rd (a : Int) (n : Nat) (i : Int) (h0 : 0 ≤ i) (h : i < n) : rd (marks a n) i = a + i := by
 induction n generalizing a i with
 | zero => omega
 | succ n ih =>
  by_cases h1 : i = 0
  · subst h1; simp [marks, rd]
  · have := ih (a + 1) (i - 1) (by omega) (by omega)
    unfold rd at this ⊢
    rw [marks, show i.toNat = (i - 1).toNat + 1 from by omega, List.getD_cons_succ, this]
    omega
end Go.Proofs.Ytapdhljbhekcdaa.E
end
section
namespace Go.Proofs.Ytapdhljbhekcdaa.E
open Go.RowKit Go.Proofs.YtapdhljbhekcdaaW.PrintWords Go.Proofs.YtapdhljbhekcdaaW.PrintLast Go.Proofs.YtapdhljbhekcdaaW.PrintMore
set_option linter.unusedVariables false
set_option linter.unusedSimpArgs false
inductive Way (v : List Int) : Int → Int → Prop
 | zero : Way v 0 0
 | add {x k c : Int} : x ∈ v → Way v k c → Way v (k + x) (c + 1)
theorem Way.mono {v u : List Int} (h : ∀ x ∈ v, x ∈ u) {k c : Int} (w : Way v k c) : Way u k c := by
 induction w with
 | zero => exact .zero
 | add hx _ ih => exact .add (h _ hx) ih
theorem Way.pos {v : List Int} (h : ∀ x ∈ v, 1 ≤ x) {k c : Int} (w : Way v k c) : 0 ≤ c ∧ c ≤ k := by
 induction w with
 | zero => omega
 | add hx _ ih => have := h _ hx; omega
theorem Way.plus {v : List Int} {k c : Int} (w : Way v k c) {k' c' : Int} (w' : Way v k' c') : Way v (k + k') (c + c') := by
 induction w' with
 | zero => simpa using w
 | @add x k1 c1 hx _ ih =>
  rw [← Int.add_assoc, ← Int.add_assoc]
  exact .add hx ih
theorem Way.times {v : List Int} {x : Int} (hx : x ∈ v) (j : Nat) : Way v (j * x) j := by
 induction j with
 | zero => simpa using Way.zero
 | succ j ih =>
  have := Way.add hx ih
  rw [show ((j + 1 : Nat) : Int) * x = j * x + x from by rw [Int.natCast_add, Int.add_mul]; simp]
  exact this
theorem Way.last {v : List Int} {k c : Int} (w : Way v k c) : (k = 0 ∧ c = 0) ∨ ∃ x ∈ v, Way v (k - x) (c - 1) := by
 cases w with
 | zero => exact .inl ⟨rfl, rfl⟩
 | @add x k c hx hw => exact .inr ⟨x, hx, by rwa [show k + x - x = k from by omega, show c + 1 - 1 = c from by omega]⟩
theorem Way.split {u : List Int} {x : Int} {k c : Int} (w : Way (u ++ [x]) k c) : ∃ j : Nat, Way u (k - j * x) (c - j) := by
 induction w with
 | zero => exact ⟨0, by simpa using Way.zero⟩
 | @add y k c hy _ ih =>
  obtain ⟨j, h⟩ := ih
  rcases List.mem_append.1 hy with hu | hx
  · refine ⟨j, ?_⟩
    have := Way.add hu h
    rwa [show k - j * x + y = k + y - j * x from by omega, show c - (j : Int) + 1 = c + 1 - j from by omega] at this
  · obtain rfl : y = x := by simpa using hx
    refine ⟨j + 1, ?_⟩
    rw [show ((j + 1 : Nat) : Int) * y = j * y + y from by rw [Int.natCast_add, Int.add_mul]; simp, show k + y - (j * y + y) = k - j * y from by omega, show c + 1 - ((j + 1 : Nat) : Int) = c - j from by omega]
    exact h
def Fw (v : List Int) (k m : Int) : Prop := (m = -1 ∧ ∀ c, ¬ Way v k c) ∨ (Way v k m ∧ ∀ c, Way v k c → m ≤ c)
theorem Fw.one {v : List Int} (hv : ∀ x ∈ v, 1 ≤ x) {k m m' : Int} (h : Fw v k m) (h' : Fw v k m') : m = m' := by
 rcases h with ⟨h1, h2⟩ | ⟨h1, h2⟩ <;> rcases h' with ⟨h3, h4⟩ | ⟨h3, h4⟩
 · omega
 · exact absurd h3 (h2 _)
 · exact absurd h1 (h4 _)
 · have := h2 _ h3; have := h4 _ h1; omega
theorem Fw.ge {v : List Int} (hv : ∀ x ∈ v, 1 ≤ x) {k m : Int} (h : Fw v k m) : -1 ≤ m := by
 rcases h with ⟨h1, h2⟩ | ⟨h1, h2⟩
 · omega
 · have := h1.pos hv; omega
theorem Fw.le {v : List Int} (hv : ∀ x ∈ v, 1 ≤ x) {k m : Int} (h : Fw v k m) (hk : 0 ≤ k) : m ≤ k := by
 rcases h with ⟨h1, h2⟩ | ⟨h1, h2⟩
 · omega
 · have := h1.pos hv; omega
theorem Fw.way {v : List Int} {k m : Int} (h : Fw v k m) (hm : 0 ≤ m) : Way v k m ∧ ∀ c, Way v k c → m ≤ c := by
 rcases h with ⟨h1, h2⟩ | h
 · omega
 · exact h
theorem Fw.nil {k : Int} (hk : 0 ≤ k) : Fw [] k (if k = 0 then 0 else -1) := by
 by_cases h : k = 0
 · subst h
   exact .inr ⟨.zero, fun c w => (w.pos (by simp)).1⟩
 · rw [if_neg h]
   refine .inl ⟨rfl, fun c w => ?_⟩
   rcases w.last with ⟨h1, _⟩ | ⟨x, hx, _⟩
   · exact h h1
   · simp at hx
theorem Fw.below {u : List Int} {x k m : Int} (hu : ∀ y ∈ u, 1 ≤ y) (hk : k < x) (h : Fw u k m) (h0 : 0 ≤ k) : Fw (u ++ [x]) k m := by
 have hv : ∀ y ∈ u ++ [x], 1 ≤ y := by
  intro y hy
  rcases List.mem_append.1 hy with hy | hy
  · exact hu y hy
  · have : y = x := by simpa using hy
    omega
 have key : ∀ c, Way (u ++ [x]) k c → Way u k c := by
  intro c w
  obtain ⟨j, hj⟩ := w.split
  by_cases h : j = 0
  · subst h; simpa using hj
  · exfalso
    have := hj.pos hu
    have hj1 : x ≤ (j : Int) * x := by
     have := Int.mul_le_mul_of_nonneg_right (show (1 : Int) ≤ j from by omega) (show 0 ≤ x from by omega)
     omega
    omega
 rcases h with ⟨h1, h2⟩ | ⟨h1, h2⟩
 · exact .inl ⟨h1, fun c w => h2 c (key c w)⟩
 · exact .inr ⟨h1.mono (fun y hy => List.mem_append.2 (.inl hy)), fun c w => h2 c (key c w)⟩
end Go.Proofs.Ytapdhljbhekcdaa.E
end
