-- Bundled by shake.py from this session's printed and written texts; Lean checks it.
import Derived.KernelRfl
import Derived.Test.YteaiehpgigaoaaaGreatDoorZFnExactDescribeExamplex1
import Derived.Test.YteaiehpgigaoaaaGreatDoorZFnExactDescribeExamplex10
import Derived.Test.YteaiehpgigaoaaaGreatDoorZFnExactDescribeExamplex12
import Derived.Test.YteaiehpgigaoaaaGreatDoorZFnExactDescribeExamplex4
import Derived.Test.YteaiehpgigaoaaaGreatDoorZFnExactDescribeExamplex7
import Derived.Test.YteaiehpgigaoaaaGreatDoorZFnExactDescribeExamplex9
section
namespace Go.Proofs.YteaiehpgigaoaaaGreatDoor.PA
open Go.RowKit Go.Proofs.YteaiehpgigaoaaaGreatDoorW.PrintWords Go.Proofs.YteaiehpgigaoaaaGreatDoorW.PrintLast Go.Proofs.YteaiehpgigaoaaaGreatDoorW.PrintMore
attribute [local go_sem] max2_int min2_int max_two min_two max_three min_three max_four min_four
set_option linter.unusedVariables false
set_option linter.unusedSimpArgs false
def impl_ParseSemigroup.f (k : Nat) (a0 : ByteArray) : Option (List Int × Bool) := (strings_CutPrefix.f a0 (⟨#[60]⟩ : ByteArray)).bind fun bt713 => ((strings_CutSuffix.f bt713.1 (⟨#[62]⟩ : ByteArray)).bind fun bt715 => ((impl_ParseList.f k bt715.1).bind fun bt717 => (if bt713.2 = true then (if bt715.2 = true then (if bt717.2 = true then ((impl_IsSemigroup.f k bt717.1).bind fun t722 => (if t722 = true then (some (bt717.1, true)) else (some (([] : List Int), false)))) else (some (([] : List Int), false))) else (some (([] : List Int), false))) else (some (([] : List Int), false)))))
set_option maxHeartbeats 8000000 in
set_option maxRecDepth 100000 in
theorem impl_ParseSemigroup.calls (k : Nat) (a0 : ByteArray) (r1 : List Int) (r2 : Bool) (w : World) (h : impl_ParseSemigroup.f k a0 = some (r1, r2)) :
 Calls Tryz.prog 15 #[.string a0] w fun e w' => ∃ v0_ : Value, e = .returned (.tuple #[.agg #[v0_], .bool r2]) ∧ Kd.R (Kd.int .i64) 3 w' w.heap.size (fun _ => True) v0_ r1 ∧ Below w.heap.size w w' := by
 have hu29 := Tryz.underlying29
 have HB := Aside0.mk (Below.refl w.heap.size w)
 have H : ((strings_CutPrefix.f a0 (⟨#[60]⟩ : ByteArray)).bind fun bt713 => ((strings_CutSuffix.f bt713.1 (⟨#[62]⟩ : ByteArray)).bind fun bt715 => ((impl_ParseList.f k bt715.1).bind fun bt717 => (if bt713.2 = true then (if bt715.2 = true then (if bt717.2 = true then ((impl_IsSemigroup.f k bt717.1).bind fun t722 => (if t722 = true then (some (bt717.1, true)) else (some (([] : List Int), false)))) else (some (([] : List Int), false))) else (some (([] : List Int), false))) else (some (([] : List Int), false)))))) = some (r1, r2) := h
 clear h
 replace H := Option.bind_eq_some_iff.mp H
 obtain ⟨⟨t713, t714⟩, A20, H⟩ := H
 replace H : ((strings_CutSuffix.f t713 (⟨#[62]⟩ : ByteArray)).bind fun bt715 => ((impl_ParseList.f k bt715.1).bind fun bt717 => (if t714 = true then (if bt715.2 = true then (if bt717.2 = true then ((impl_IsSemigroup.f k bt717.1).bind fun t722 => (if t722 = true then (some (bt717.1, true)) else (some (([] : List Int), false)))) else (some (([] : List Int), false))) else (some (([] : List Int), false))) else (some (([] : List Int), false))))) = some (r1, r2) := H
 have A2 := Aside0.mk A20
 clear A20
 replace H := Option.bind_eq_some_iff.mp H
 obtain ⟨⟨t715, t716⟩, A30, H⟩ := H
 replace H : ((impl_ParseList.f k t715).bind fun bt717 => (if t714 = true then (if t716 = true then (if bt717.2 = true then ((impl_IsSemigroup.f k bt717.1).bind fun t722 => (if t722 = true then (some (bt717.1, true)) else (some (([] : List Int), false)))) else (some (([] : List Int), false))) else (some (([] : List Int), false))) else (some (([] : List Int), false)))) = some (r1, r2) := H
 have A3 := Aside0.mk A30
 clear A30
 replace H := Option.bind_eq_some_iff.mp H
 obtain ⟨⟨t717, t718⟩, A40, H⟩ := H
 replace H : (if t714 = true then (if t716 = true then (if t718 = true then ((impl_IsSemigroup.f k t717).bind fun t722 => (if t722 = true then (some (t717, true)) else (some (([] : List Int), false)))) else (some (([] : List Int), false))) else (some (([] : List Int), false))) else (some (([] : List Int), false))) = some (r1, r2) := H
 have A4 := Aside0.mk A40
 clear A40
 by_cases c5 : t714 = true
 · subst c5
   have H1 : (if t716 = true then (if t718 = true then ((impl_IsSemigroup.f k t717).bind fun t722 => (if t722 = true then (some (t717, true)) else (some (([] : List Int), false)))) else (some (([] : List Int), false))) else (some (([] : List Int), false))) = some (r1, r2) := by rw [if_pos rfl] at H; exact H
   clear H
   have H := H1
   clear H1
   by_cases c6 : t716 = true
   · subst c6
     have H1 : (if t718 = true then ((impl_IsSemigroup.f k t717).bind fun t722 => (if t722 = true then (some (t717, true)) else (some (([] : List Int), false)))) else (some (([] : List Int), false))) = some (r1, r2) := by rw [if_pos rfl] at H; exact H
     clear H
     have H := H1
     clear H1
     by_cases c7 : t718 = true
     · subst c7
       have H1 : ((impl_IsSemigroup.f k t717).bind fun t722 => (if t722 = true then (some (t717, true)) else (some (([] : List Int), false)))) = some (r1, r2) := by rw [if_pos rfl] at H; exact H
       clear H
       have H := H1
       clear H1
       replace H := Option.bind_eq_some_iff.mp H
       obtain ⟨t722, A80, H⟩ := H
       replace H : (if t722 = true then (some (t717, true)) else (some (([] : List Int), false))) = some (r1, r2) := H
       have A8 := Aside0.mk A80
       clear A80
       by_cases c9 : t722 = true
       · subst c9
         have H1 : (some (t717, true)) = some (r1, r2) := by rw [if_pos rfl] at H; exact H
         clear H
         have H := H1
         clear H1
         simp only [Option.some.injEq, Prod.mk.injEq] at H
         obtain ⟨rfl, rfl⟩ := H
         go_enter Tryz.func15, Tryz.ntmps15
         go_wp2_with (first | ((with_reducible refine gate_dst (N := 2) rfl ?_); refine box_event ?hg (N := 2) ?hd (cs := #[.slice none 0 0]) (t := 29) ?hr ?_; (case hd => rfl); (case hg => rfl); (case hr => first | (go_simp; done) | (go_simp; rfl)); intro gb712 hg w10 hbox hb; have BK712 := Aside0.mk (hbox); have GW712 := Aside0.mk ((by rw [hg]; exact (below_size (bl_ HB.out)) : w.heap.size ≤ gb712)); have GE712 := Aside0.mk ((by rw [hg]; exact (below_size (bl_ HB.out)) : w.heap.size ≤ gb712)); replace HB := Aside0.mk (below_step (bl_ HB.out) hb); clear hb hbox hg) | ((with_reducible refine gate_callee (f := 44) rfl ?_); refine gL_ (some 12) Tryz.func44 #[.string a0, .string (⟨#[60]⟩ : ByteArray)] ?_; (with_reducible refine (strings_CutPrefix.calls a0 (⟨#[60]⟩ : ByteArray) t713 true _ A2.out).mono ?_); rintro e w' ⟨rfl, ⟨nd, rfl⟩⟩; refine ⟨_, rfl, ?_⟩; (try (rw [drewN_self w10]; generalize hq_ : World.drewN w10 _ = w10; have n0_ : Aside0 (w10.heap[gb712]? = some (.cells #[.slice none 0 0] 29 (0, 0))) := ⟨by rw [← hq_]; exact (be_ BK712.out)⟩; have n1_ : Aside0 (Below w.heap.size w w10) := ⟨by rw [← hq_]; exact (by repeat (first | (with_reducible first | exact HB.out | apply below_alloc | apply pw_below_drewN | apply below_drew1 | refine below_set ?_ GE712.out) | exact HB.out))⟩; clear BK712 HB hq_; have BK712 := n0_; have HB := n1_; clear n0_ n1_))) | ((with_reducible refine gate_callee (f := 45) rfl ?_); refine gL_ (some 17) Tryz.func45 #[.string t713, .string (⟨#[62]⟩ : ByteArray)] ?_; (with_reducible refine (strings_CutSuffix.calls t713 (⟨#[62]⟩ : ByteArray) t715 true _ A3.out).mono ?_); rintro e w' ⟨rfl, ⟨nd, rfl⟩⟩; refine ⟨_, rfl, ?_⟩; (try (rw [drewN_self w10]; generalize hq_ : World.drewN w10 _ = w10; have n0_ : Aside0 (w10.heap[gb712]? = some (.cells #[.slice none 0 0] 29 (0, 0))) := ⟨by rw [← hq_]; exact (be_ BK712.out)⟩; have n1_ : Aside0 (Below w.heap.size w w10) := ⟨by rw [← hq_]; exact (by repeat (first | (with_reducible first | exact HB.out | apply below_alloc | apply pw_below_drewN | apply below_drew1 | refine below_set ?_ GE712.out) | exact HB.out))⟩; clear BK712 HB hq_; have BK712 := n0_; have HB := n1_; clear n0_ n1_))) | ((with_reducible refine gate_callee (f := 46) rfl ?_); refine gL_ (some 22) Tryz.func46 #[.string t715] ?_; (with_reducible refine (impl_ParseList.calls k t715 t717 true _ A4.out).mono ?_); rintro e w11 ⟨v719, rfl, ho0, hb⟩; refine ⟨_, rfl, ?_⟩; have HO720 := Aside0.mk (Kd.R_lower ho0 (below_size (by repeat (first | (with_reducible first | exact HB.out | apply below_alloc | apply pw_below_drewN | apply below_drew1 | refine below_set ?_ GE712.out) | exact HB.out)))); replace BK712 := Aside0.mk (blk_below (be_ BK712.out) hb); replace HB := Aside0.mk (below_step (by repeat (first | (with_reducible first | exact HB.out | apply below_alloc | apply pw_below_drewN | apply below_drew1 | refine below_set ?_ GE712.out) | exact HB.out)) hb); (try clear hb); (try clear hb2); (try clear hk); (try clear hi); (try clear ho0); obtain ⟨Ao12, co12, eo12⟩ := Kd.R_slice HO720.out; subst eo12) | ((with_reducible refine gate_dst (N := 9) rfl ?_); refine box_event ?hg (N := 9) ?hd (cs := #[.slice none 0 0]) (t := 29) ?hr ?_; (case hd => rfl); (case hg => rfl); (case hr => first | (go_simp; done) | (go_simp; rfl)); intro gb721 hg w13 hbox hb; replace HO720 := Aside0.mk (Kd.R_below (re_ HO720.out) hb); have BK721 := Aside0.mk (hbox); have GW721 := Aside0.mk ((by rw [hg]; exact (below_size (by repeat (first | (with_reducible first | exact HB.out | apply below_alloc | apply pw_below_drewN | apply below_drew1 | refine below_set ?_ GE712.out) | exact HB.out))) : w.heap.size ≤ gb721)); have GE721 := Aside0.mk ((by rw [hg]; exact (below_size (by repeat (first | (with_reducible first | exact HB.out | apply below_alloc | apply pw_below_drewN | apply below_drew1 | refine below_set ?_ GE712.out) | exact HB.out))) : w.heap.size ≤ gb721)); replace HB := Aside0.mk (below_step (by repeat (first | (with_reducible first | exact HB.out | apply below_alloc | apply pw_below_drewN | apply below_drew1 | refine below_set ?_ GE712.out) | exact HB.out)) hb); have NB712_721 := Aside0.mk ((by rw [hg]; exact Nat.ne_of_lt (blk_lt (be_ BK712.out)) : gb712 ≠ gb721)); have NB721_712 := Aside0.mk ((by rw [hg]; exact Nat.ne_of_gt (blk_lt (be_ BK712.out)) : gb721 ≠ gb712)); replace BK712 := Aside0.mk (blk_below (be_ BK712.out) hb); clear hb hbox hg; have hnb14 := NB721_712.out; have hnc14 := NB712_721.out; have hcz15_0 : w13.cell? ⟨gb721, 0, none⟩ = some (.slice none 0 0) := (blk_cell BK721.out 0).trans rfl; have hfz15_0 := blk_frozen BK721.out 0) | (go_at_call 22; (with_reducible refine (impl_IsSemigroup.calls k _ _ t717 true _ ?side1 ?side2 A8.out).mono ?_); (case side1 => refine (Kd.R_reads' (e := 3) (base := w.heap.size) (ok := fun k_ => True) (n := t717.length) (c := co12) ?_).2.2; exact (by (with_reducible repeat (first | apply Kd.R_alloc | apply Kd.R_drewN | apply Kd.R_drew)); exact (Kd.R_mono (Kd.R_far (p := ⟨gb721, 0, none⟩) (Kd.R_types HO720.out BK721.out (by decide)) (fun _ hk => hk.2) (.slice Ao12 t717.length co12)) (fun _ h_ => h_.1)))); (case side2 => exact (Kd.R_reads' HO720.out).2.1); rintro e w16 ⟨rfl, hb⟩; replace HO720 := Aside0.mk (Kd.R_below (by (with_reducible repeat (first | apply Kd.R_alloc | apply Kd.R_drewN | apply Kd.R_drew)); exact (Kd.R_mono (Kd.R_far (p := ⟨gb721, 0, none⟩) (Kd.R_types HO720.out BK721.out (by decide)) (fun _ hk => hk.2) (.slice Ao12 t717.length co12)) (fun _ h_ => h_.1))) hb); replace BK712 := Aside0.mk (blk_below (g := gb712) (o := .cells #[.slice none 0 0] 29 (0, 0)) (by (with_reducible repeat (first | refine blk_drewN ?_ _ | refine blk_drew ?_ | refine blk_alloc ?_ _)); refine blk_far ?_ NB712_721.out _; (with_reducible repeat (first | refine blk_drewN ?_ _ | refine blk_drew ?_ | refine blk_alloc ?_ _)); exact BK712.out) hb); replace BK721 := Aside0.mk (blk_below (g := gb721) (o := .cells #[.slice Ao12 t717.length co12] 29 (0, 0)) (by (with_reducible repeat (first | refine blk_drewN ?_ _ | refine blk_drew ?_ | refine blk_alloc ?_ _)); refine blk_put (cs := #[.slice none 0 0]) ?_ 0 _ rfl; (with_reducible repeat (first | refine blk_drewN ?_ _ | refine blk_drew ?_ | refine blk_alloc ?_ _)); exact BK721.out) hb); replace HB := Aside0.mk (below_step (by repeat (first | (with_reducible first | exact HB.out | apply below_alloc | apply pw_below_drewN | apply below_drew1 | refine below_set ?_ (Aside0.out (by assumption))) | exact HB.out)) hb); (try clear hb); (try clear hb2); (try clear hk); (try clear hi); have hcz17_0 : w16.cell? ⟨gb721, 0, none⟩ = some (.slice Ao12 t717.length co12) := (blk_cell BK721.out 0).trans rfl; have hfz17_0 := blk_frozen BK721.out 0; have hcz18_0 : w16.cell? ⟨gb712, 0, none⟩ = some (.slice none 0 0) := (blk_cell BK712.out 0).trans rfl; have hfz18_0 := blk_frozen BK712.out 0))
         refine bodyPost_ret (results_ct rfl _ _ gb712 29 #[.slice Ao12 t717.length co12] (0, 0) _ rfl (by (with_reducible repeat (first | refine blk_drewN ?_ _ | refine blk_drew ?_ | refine blk_alloc ?_ _)); refine blk_put (cs := #[.slice none 0 0]) ?_ 0 _ rfl; (with_reducible repeat (first | refine blk_drewN ?_ _ | refine blk_drew ?_ | refine blk_alloc ?_ _)); exact BK712.out) Tryz.underlying29 rfl (by kernel_rfl)) rfl ?_
         exact ⟨_, by first | rfl | (simp [errW_none, errW_some] <;> rfl) | (simp [*, errW_none, errW_some] <;> rfl), by (with_reducible repeat (first | apply Kd.R_alloc | apply Kd.R_drewN | apply Kd.R_drew)); exact Kd.R_mono (Kd.R_far (p := ⟨gb712, 0, none⟩) (Kd.R_types HO720.out BK712.out (by decide)) (fun _ hk => hk.2) (.slice Ao12 t717.length co12)) (fun _ hk => trivial), by repeat (first | (with_reducible first | exact HB.out | apply below_alloc | apply pw_below_drewN | apply below_drew1 | refine below_set ?_ (Aside0.out (by assumption))) | exact HB.out)⟩
       · replace c9 := Bool.eq_false_iff.mpr c9
         subst c9
         have H1 : (some (([] : List Int), false)) = some (r1, r2) := by rw [if_neg (show ¬ (false = true) by decide)] at H; exact H
         clear H
         have H := H1
         clear H1
         simp only [Option.some.injEq, Prod.mk.injEq] at H
         obtain ⟨rfl, rfl⟩ := H
         go_enter Tryz.func15, Tryz.ntmps15
         go_wp2_with (first | ((with_reducible refine gate_dst (N := 2) rfl ?_); refine box_event ?hg (N := 2) ?hd (cs := #[.slice none 0 0]) (t := 29) ?hr ?_; (case hd => rfl); (case hg => rfl); (case hr => first | (go_simp; done) | (go_simp; rfl)); intro gb712 hg w19 hbox hb; have BK712 := Aside0.mk (hbox); have GW712 := Aside0.mk ((by rw [hg]; exact (below_size (bl_ HB.out)) : w.heap.size ≤ gb712)); have GE712 := Aside0.mk ((by rw [hg]; exact (below_size (bl_ HB.out)) : w.heap.size ≤ gb712)); replace HB := Aside0.mk (below_step (bl_ HB.out) hb); clear hb hbox hg) | ((with_reducible refine gate_callee (f := 44) rfl ?_); refine gL_ (some 12) Tryz.func44 #[.string a0, .string (⟨#[60]⟩ : ByteArray)] ?_; (with_reducible refine (strings_CutPrefix.calls a0 (⟨#[60]⟩ : ByteArray) t713 true _ A2.out).mono ?_); rintro e w' ⟨rfl, ⟨nd, rfl⟩⟩; refine ⟨_, rfl, ?_⟩; (try (rw [drewN_self w19]; generalize hq_ : World.drewN w19 _ = w19; have n0_ : Aside0 (w19.heap[gb712]? = some (.cells #[.slice none 0 0] 29 (0, 0))) := ⟨by rw [← hq_]; exact (be_ BK712.out)⟩; have n1_ : Aside0 (Below w.heap.size w w19) := ⟨by rw [← hq_]; exact (by repeat (first | (with_reducible first | exact HB.out | apply below_alloc | apply pw_below_drewN | apply below_drew1 | refine below_set ?_ GE712.out) | exact HB.out))⟩; clear BK712 HB hq_; have BK712 := n0_; have HB := n1_; clear n0_ n1_))) | ((with_reducible refine gate_callee (f := 45) rfl ?_); refine gL_ (some 17) Tryz.func45 #[.string t713, .string (⟨#[62]⟩ : ByteArray)] ?_; (with_reducible refine (strings_CutSuffix.calls t713 (⟨#[62]⟩ : ByteArray) t715 true _ A3.out).mono ?_); rintro e w' ⟨rfl, ⟨nd, rfl⟩⟩; refine ⟨_, rfl, ?_⟩; (try (rw [drewN_self w19]; generalize hq_ : World.drewN w19 _ = w19; have n0_ : Aside0 (w19.heap[gb712]? = some (.cells #[.slice none 0 0] 29 (0, 0))) := ⟨by rw [← hq_]; exact (be_ BK712.out)⟩; have n1_ : Aside0 (Below w.heap.size w w19) := ⟨by rw [← hq_]; exact (by repeat (first | (with_reducible first | exact HB.out | apply below_alloc | apply pw_below_drewN | apply below_drew1 | refine below_set ?_ GE712.out) | exact HB.out))⟩; clear BK712 HB hq_; have BK712 := n0_; have HB := n1_; clear n0_ n1_))) | ((with_reducible refine gate_callee (f := 46) rfl ?_); refine gL_ (some 22) Tryz.func46 #[.string t715] ?_; (with_reducible refine (impl_ParseList.calls k t715 t717 true _ A4.out).mono ?_); rintro e w20 ⟨v719, rfl, ho0, hb⟩; refine ⟨_, rfl, ?_⟩; have HO720 := Aside0.mk (Kd.R_lower ho0 (below_size (by repeat (first | (with_reducible first | exact HB.out | apply below_alloc | apply pw_below_drewN | apply below_drew1 | refine below_set ?_ GE712.out) | exact HB.out)))); replace BK712 := Aside0.mk (blk_below (be_ BK712.out) hb); replace HB := Aside0.mk (below_step (by repeat (first | (with_reducible first | exact HB.out | apply below_alloc | apply pw_below_drewN | apply below_drew1 | refine below_set ?_ GE712.out) | exact HB.out)) hb); (try clear hb); (try clear hb2); (try clear hk); (try clear hi); (try clear ho0); obtain ⟨Ao21, co21, eo21⟩ := Kd.R_slice HO720.out; subst eo21) | ((with_reducible refine gate_dst (N := 9) rfl ?_); refine box_event ?hg (N := 9) ?hd (cs := #[.slice none 0 0]) (t := 29) ?hr ?_; (case hd => rfl); (case hg => rfl); (case hr => first | (go_simp; done) | (go_simp; rfl)); intro gb721 hg w22 hbox hb; replace HO720 := Aside0.mk (Kd.R_below (re_ HO720.out) hb); have BK721 := Aside0.mk (hbox); have GW721 := Aside0.mk ((by rw [hg]; exact (below_size (by repeat (first | (with_reducible first | exact HB.out | apply below_alloc | apply pw_below_drewN | apply below_drew1 | refine below_set ?_ GE712.out) | exact HB.out))) : w.heap.size ≤ gb721)); have GE721 := Aside0.mk ((by rw [hg]; exact (below_size (by repeat (first | (with_reducible first | exact HB.out | apply below_alloc | apply pw_below_drewN | apply below_drew1 | refine below_set ?_ GE712.out) | exact HB.out))) : w.heap.size ≤ gb721)); replace HB := Aside0.mk (below_step (by repeat (first | (with_reducible first | exact HB.out | apply below_alloc | apply pw_below_drewN | apply below_drew1 | refine below_set ?_ GE712.out) | exact HB.out)) hb); have NB712_721 := Aside0.mk ((by rw [hg]; exact Nat.ne_of_lt (blk_lt (be_ BK712.out)) : gb712 ≠ gb721)); have NB721_712 := Aside0.mk ((by rw [hg]; exact Nat.ne_of_gt (blk_lt (be_ BK712.out)) : gb721 ≠ gb712)); replace BK712 := Aside0.mk (blk_below (be_ BK712.out) hb); clear hb hbox hg; have hnb23 := NB721_712.out; have hnc23 := NB712_721.out; have hcz24_0 : w22.cell? ⟨gb721, 0, none⟩ = some (.slice none 0 0) := (blk_cell BK721.out 0).trans rfl; have hfz24_0 := blk_frozen BK721.out 0) | (go_at_call 22; (with_reducible refine (impl_IsSemigroup.calls k _ _ t717 false _ ?side1 ?side2 A8.out).mono ?_); (case side1 => refine (Kd.R_reads' (e := 3) (base := w.heap.size) (ok := fun k_ => True) (n := t717.length) (c := co21) ?_).2.2; exact (by (with_reducible repeat (first | apply Kd.R_alloc | apply Kd.R_drewN | apply Kd.R_drew)); exact (Kd.R_mono (Kd.R_far (p := ⟨gb721, 0, none⟩) (Kd.R_types HO720.out BK721.out (by decide)) (fun _ hk => hk.2) (.slice Ao21 t717.length co21)) (fun _ h_ => h_.1)))); (case side2 => exact (Kd.R_reads' HO720.out).2.1); rintro e w25 ⟨rfl, hb⟩; replace HO720 := Aside0.mk (Kd.R_below (by (with_reducible repeat (first | apply Kd.R_alloc | apply Kd.R_drewN | apply Kd.R_drew)); exact (Kd.R_mono (Kd.R_far (p := ⟨gb721, 0, none⟩) (Kd.R_types HO720.out BK721.out (by decide)) (fun _ hk => hk.2) (.slice Ao21 t717.length co21)) (fun _ h_ => h_.1))) hb); replace BK712 := Aside0.mk (blk_below (g := gb712) (o := .cells #[.slice none 0 0] 29 (0, 0)) (by (with_reducible repeat (first | refine blk_drewN ?_ _ | refine blk_drew ?_ | refine blk_alloc ?_ _)); refine blk_far ?_ NB712_721.out _; (with_reducible repeat (first | refine blk_drewN ?_ _ | refine blk_drew ?_ | refine blk_alloc ?_ _)); exact BK712.out) hb); replace BK721 := Aside0.mk (blk_below (g := gb721) (o := .cells #[.slice Ao21 t717.length co21] 29 (0, 0)) (by (with_reducible repeat (first | refine blk_drewN ?_ _ | refine blk_drew ?_ | refine blk_alloc ?_ _)); refine blk_put (cs := #[.slice none 0 0]) ?_ 0 _ rfl; (with_reducible repeat (first | refine blk_drewN ?_ _ | refine blk_drew ?_ | refine blk_alloc ?_ _)); exact BK721.out) hb); replace HB := Aside0.mk (below_step (by repeat (first | (with_reducible first | exact HB.out | apply below_alloc | apply pw_below_drewN | apply below_drew1 | refine below_set ?_ (Aside0.out (by assumption))) | exact HB.out)) hb); (try clear hb); (try clear hb2); (try clear hk); (try clear hi); have hcz26_0 : w25.cell? ⟨gb712, 0, none⟩ = some (.slice none 0 0) := (blk_cell BK712.out 0).trans rfl; have hfz26_0 := blk_frozen BK712.out 0))
         refine bodyPost_ret (results_ct rfl _ _ gb712 29 #[.slice none 0 0] (0, 0) _ rfl (by (with_reducible repeat (first | refine blk_drewN ?_ _ | refine blk_drew ?_ | refine blk_alloc ?_ _)); refine blk_put (cs := #[.slice none 0 0]) ?_ 0 _ rfl; (with_reducible repeat (first | refine blk_drewN ?_ _ | refine blk_drew ?_ | refine blk_alloc ?_ _)); exact BK712.out) Tryz.underlying29 rfl (by kernel_rfl)) rfl ?_
         exact ⟨_, by first | rfl | (simp [errW_none, errW_some] <;> rfl) | (simp [*, errW_none, errW_some] <;> rfl), by first | exact Kd.R_nil _ _ _ _ _ | exact Kd.N_nil _ _ _ _ _ | exact Kd.V_nil _ _ _ _ _ | exact Kd.Q_nil _ _ _ _ _ | exact Kd.S_nil _ _ _ _ _, by repeat (first | (with_reducible first | exact HB.out | apply below_alloc | apply pw_below_drewN | apply below_drew1 | refine below_set ?_ (Aside0.out (by assumption))) | exact HB.out)⟩
     · replace c7 := Bool.eq_false_iff.mpr c7
       subst c7
       have H1 : (some (([] : List Int), false)) = some (r1, r2) := by rw [if_neg (show ¬ (false = true) by decide)] at H; exact H
       clear H
       have H := H1
       clear H1
       simp only [Option.some.injEq, Prod.mk.injEq] at H
       obtain ⟨rfl, rfl⟩ := H
       go_enter Tryz.func15, Tryz.ntmps15
       go_wp2_with (first | ((with_reducible refine gate_dst (N := 2) rfl ?_); refine box_event ?hg (N := 2) ?hd (cs := #[.slice none 0 0]) (t := 29) ?hr ?_; (case hd => rfl); (case hg => rfl); (case hr => first | (go_simp; done) | (go_simp; rfl)); intro gb712 hg w27 hbox hb; have BK712 := Aside0.mk (hbox); have GW712 := Aside0.mk ((by rw [hg]; exact (below_size (bl_ HB.out)) : w.heap.size ≤ gb712)); have GE712 := Aside0.mk ((by rw [hg]; exact (below_size (bl_ HB.out)) : w.heap.size ≤ gb712)); replace HB := Aside0.mk (below_step (bl_ HB.out) hb); clear hb hbox hg) | ((with_reducible refine gate_callee (f := 44) rfl ?_); refine gL_ (some 12) Tryz.func44 #[.string a0, .string (⟨#[60]⟩ : ByteArray)] ?_; (with_reducible refine (strings_CutPrefix.calls a0 (⟨#[60]⟩ : ByteArray) t713 true _ A2.out).mono ?_); rintro e w' ⟨rfl, ⟨nd, rfl⟩⟩; refine ⟨_, rfl, ?_⟩; (try (rw [drewN_self w27]; generalize hq_ : World.drewN w27 _ = w27; have n0_ : Aside0 (w27.heap[gb712]? = some (.cells #[.slice none 0 0] 29 (0, 0))) := ⟨by rw [← hq_]; exact (be_ BK712.out)⟩; have n1_ : Aside0 (Below w.heap.size w w27) := ⟨by rw [← hq_]; exact (by repeat (first | (with_reducible first | exact HB.out | apply below_alloc | apply pw_below_drewN | apply below_drew1 | refine below_set ?_ GE712.out) | exact HB.out))⟩; clear BK712 HB hq_; have BK712 := n0_; have HB := n1_; clear n0_ n1_))) | ((with_reducible refine gate_callee (f := 45) rfl ?_); refine gL_ (some 17) Tryz.func45 #[.string t713, .string (⟨#[62]⟩ : ByteArray)] ?_; (with_reducible refine (strings_CutSuffix.calls t713 (⟨#[62]⟩ : ByteArray) t715 true _ A3.out).mono ?_); rintro e w' ⟨rfl, ⟨nd, rfl⟩⟩; refine ⟨_, rfl, ?_⟩; (try (rw [drewN_self w27]; generalize hq_ : World.drewN w27 _ = w27; have n0_ : Aside0 (w27.heap[gb712]? = some (.cells #[.slice none 0 0] 29 (0, 0))) := ⟨by rw [← hq_]; exact (be_ BK712.out)⟩; have n1_ : Aside0 (Below w.heap.size w w27) := ⟨by rw [← hq_]; exact (by repeat (first | (with_reducible first | exact HB.out | apply below_alloc | apply pw_below_drewN | apply below_drew1 | refine below_set ?_ GE712.out) | exact HB.out))⟩; clear BK712 HB hq_; have BK712 := n0_; have HB := n1_; clear n0_ n1_))) | ((with_reducible refine gate_callee (f := 46) rfl ?_); refine gL_ (some 22) Tryz.func46 #[.string t715] ?_; (with_reducible refine (impl_ParseList.calls k t715 t717 false _ A4.out).mono ?_); rintro e w28 ⟨v719, rfl, ho0, hb⟩; refine ⟨_, rfl, ?_⟩; have HO720 := Aside0.mk (Kd.R_lower ho0 (below_size (by repeat (first | (with_reducible first | exact HB.out | apply below_alloc | apply pw_below_drewN | apply below_drew1 | refine below_set ?_ GE712.out) | exact HB.out)))); replace BK712 := Aside0.mk (blk_below (be_ BK712.out) hb); replace HB := Aside0.mk (below_step (by repeat (first | (with_reducible first | exact HB.out | apply below_alloc | apply pw_below_drewN | apply below_drew1 | refine below_set ?_ GE712.out) | exact HB.out)) hb); (try clear hb); (try clear hb2); (try clear hk); (try clear hi); (try clear ho0); obtain ⟨Ao29, co29, eo29⟩ := Kd.R_slice HO720.out; subst eo29) | ((with_reducible refine gate_dst (N := 9) rfl ?_); refine box_event ?hg (N := 9) ?hd (cs := #[.slice none 0 0]) (t := 29) ?hr ?_; (case hd => rfl); (case hg => rfl); (case hr => first | (go_simp; done) | (go_simp; rfl)); intro gb721 hg w30 hbox hb; replace HO720 := Aside0.mk (Kd.R_below (re_ HO720.out) hb); have BK721 := Aside0.mk (hbox); have GW721 := Aside0.mk ((by rw [hg]; exact (below_size (by repeat (first | (with_reducible first | exact HB.out | apply below_alloc | apply pw_below_drewN | apply below_drew1 | refine below_set ?_ GE712.out) | exact HB.out))) : w.heap.size ≤ gb721)); have GE721 := Aside0.mk ((by rw [hg]; exact (below_size (by repeat (first | (with_reducible first | exact HB.out | apply below_alloc | apply pw_below_drewN | apply below_drew1 | refine below_set ?_ GE712.out) | exact HB.out))) : w.heap.size ≤ gb721)); replace HB := Aside0.mk (below_step (by repeat (first | (with_reducible first | exact HB.out | apply below_alloc | apply pw_below_drewN | apply below_drew1 | refine below_set ?_ GE712.out) | exact HB.out)) hb); have NB712_721 := Aside0.mk ((by rw [hg]; exact Nat.ne_of_lt (blk_lt (be_ BK712.out)) : gb712 ≠ gb721)); have NB721_712 := Aside0.mk ((by rw [hg]; exact Nat.ne_of_gt (blk_lt (be_ BK712.out)) : gb721 ≠ gb712)); replace BK712 := Aside0.mk (blk_below (be_ BK712.out) hb); clear hb hbox hg; have hnb31 := NB721_712.out; have hnc31 := NB712_721.out; have hcz32_0 : w30.cell? ⟨gb721, 0, none⟩ = some (.slice none 0 0) := (blk_cell BK721.out 0).trans rfl; have hfz32_0 := blk_frozen BK721.out 0; have hcz33_0 : w30.cell? ⟨gb712, 0, none⟩ = some (.slice none 0 0) := (blk_cell BK712.out 0).trans rfl; have hfz33_0 := blk_frozen BK712.out 0))
       refine bodyPost_ret (results_ct rfl _ _ gb712 29 #[.slice none 0 0] (0, 0) _ rfl (by (with_reducible repeat (first | refine blk_drewN ?_ _ | refine blk_drew ?_ | refine blk_alloc ?_ _)); refine blk_put (cs := #[.slice none 0 0]) ?_ 0 _ rfl; (with_reducible repeat (first | refine blk_drewN ?_ _ | refine blk_drew ?_ | refine blk_alloc ?_ _)); refine blk_far ?_ NB712_721.out _; (with_reducible repeat (first | refine blk_drewN ?_ _ | refine blk_drew ?_ | refine blk_alloc ?_ _)); exact BK712.out) Tryz.underlying29 rfl (by kernel_rfl)) rfl ?_
       exact ⟨_, by first | rfl | (simp [errW_none, errW_some] <;> rfl) | (simp [*, errW_none, errW_some] <;> rfl), by first | exact Kd.R_nil _ _ _ _ _ | exact Kd.N_nil _ _ _ _ _ | exact Kd.V_nil _ _ _ _ _ | exact Kd.Q_nil _ _ _ _ _ | exact Kd.S_nil _ _ _ _ _, by repeat (first | (with_reducible first | exact HB.out | apply below_alloc | apply pw_below_drewN | apply below_drew1 | refine below_set ?_ (Aside0.out (by assumption))) | exact HB.out)⟩
   · replace c6 := Bool.eq_false_iff.mpr c6
     subst c6
     have H1 : (some (([] : List Int), false)) = some (r1, r2) := by rw [if_neg (show ¬ (false = true) by decide)] at H; exact H
     clear H
     have H := H1
     clear H1
     simp only [Option.some.injEq, Prod.mk.injEq] at H
     obtain ⟨rfl, rfl⟩ := H
     go_enter Tryz.func15, Tryz.ntmps15
     go_wp2_with (first | ((with_reducible refine gate_dst (N := 2) rfl ?_); refine box_event ?hg (N := 2) ?hd (cs := #[.slice none 0 0]) (t := 29) ?hr ?_; (case hd => rfl); (case hg => rfl); (case hr => first | (go_simp; done) | (go_simp; rfl)); intro gb712 hg w34 hbox hb; have BK712 := Aside0.mk (hbox); have GW712 := Aside0.mk ((by rw [hg]; exact (below_size (bl_ HB.out)) : w.heap.size ≤ gb712)); have GE712 := Aside0.mk ((by rw [hg]; exact (below_size (bl_ HB.out)) : w.heap.size ≤ gb712)); replace HB := Aside0.mk (below_step (bl_ HB.out) hb); clear hb hbox hg) | ((with_reducible refine gate_callee (f := 44) rfl ?_); refine gL_ (some 12) Tryz.func44 #[.string a0, .string (⟨#[60]⟩ : ByteArray)] ?_; (with_reducible refine (strings_CutPrefix.calls a0 (⟨#[60]⟩ : ByteArray) t713 true _ A2.out).mono ?_); rintro e w' ⟨rfl, ⟨nd, rfl⟩⟩; refine ⟨_, rfl, ?_⟩; (try (rw [drewN_self w34]; generalize hq_ : World.drewN w34 _ = w34; have n0_ : Aside0 (w34.heap[gb712]? = some (.cells #[.slice none 0 0] 29 (0, 0))) := ⟨by rw [← hq_]; exact (be_ BK712.out)⟩; have n1_ : Aside0 (Below w.heap.size w w34) := ⟨by rw [← hq_]; exact (by repeat (first | (with_reducible first | exact HB.out | apply below_alloc | apply pw_below_drewN | apply below_drew1 | refine below_set ?_ GE712.out) | exact HB.out))⟩; clear BK712 HB hq_; have BK712 := n0_; have HB := n1_; clear n0_ n1_))) | ((with_reducible refine gate_callee (f := 45) rfl ?_); refine gL_ (some 17) Tryz.func45 #[.string t713, .string (⟨#[62]⟩ : ByteArray)] ?_; (with_reducible refine (strings_CutSuffix.calls t713 (⟨#[62]⟩ : ByteArray) t715 false _ A3.out).mono ?_); rintro e w' ⟨rfl, ⟨nd, rfl⟩⟩; refine ⟨_, rfl, ?_⟩; (try (rw [drewN_self w34]; generalize hq_ : World.drewN w34 _ = w34; have n0_ : Aside0 (w34.heap[gb712]? = some (.cells #[.slice none 0 0] 29 (0, 0))) := ⟨by rw [← hq_]; exact (be_ BK712.out)⟩; have n1_ : Aside0 (Below w.heap.size w w34) := ⟨by rw [← hq_]; exact (by repeat (first | (with_reducible first | exact HB.out | apply below_alloc | apply pw_below_drewN | apply below_drew1 | refine below_set ?_ GE712.out) | exact HB.out))⟩; clear BK712 HB hq_; have BK712 := n0_; have HB := n1_; clear n0_ n1_))) | ((with_reducible refine gate_callee (f := 46) rfl ?_); refine gL_ (some 22) Tryz.func46 #[.string t715] ?_; (with_reducible refine (impl_ParseList.calls k t715 t717 t718 _ A4.out).mono ?_); rintro e w35 ⟨v719, rfl, ho0, hb⟩; refine ⟨_, rfl, ?_⟩; have HO720 := Aside0.mk (Kd.R_lower ho0 (below_size (by repeat (first | (with_reducible first | exact HB.out | apply below_alloc | apply pw_below_drewN | apply below_drew1 | refine below_set ?_ GE712.out) | exact HB.out)))); replace BK712 := Aside0.mk (blk_below (be_ BK712.out) hb); replace HB := Aside0.mk (below_step (by repeat (first | (with_reducible first | exact HB.out | apply below_alloc | apply pw_below_drewN | apply below_drew1 | refine below_set ?_ GE712.out) | exact HB.out)) hb); (try clear hb); (try clear hb2); (try clear hk); (try clear hi); (try clear ho0); obtain ⟨Ao36, co36, eo36⟩ := Kd.R_slice HO720.out; subst eo36) | ((with_reducible refine gate_dst (N := 9) rfl ?_); refine box_event ?hg (N := 9) ?hd (cs := #[.slice none 0 0]) (t := 29) ?hr ?_; (case hd => rfl); (case hg => rfl); (case hr => first | (go_simp; done) | (go_simp; rfl)); intro gb721 hg w37 hbox hb; replace HO720 := Aside0.mk (Kd.R_below (re_ HO720.out) hb); have BK721 := Aside0.mk (hbox); have GW721 := Aside0.mk ((by rw [hg]; exact (below_size (by repeat (first | (with_reducible first | exact HB.out | apply below_alloc | apply pw_below_drewN | apply below_drew1 | refine below_set ?_ GE712.out) | exact HB.out))) : w.heap.size ≤ gb721)); have GE721 := Aside0.mk ((by rw [hg]; exact (below_size (by repeat (first | (with_reducible first | exact HB.out | apply below_alloc | apply pw_below_drewN | apply below_drew1 | refine below_set ?_ GE712.out) | exact HB.out))) : w.heap.size ≤ gb721)); replace HB := Aside0.mk (below_step (by repeat (first | (with_reducible first | exact HB.out | apply below_alloc | apply pw_below_drewN | apply below_drew1 | refine below_set ?_ GE712.out) | exact HB.out)) hb); have NB712_721 := Aside0.mk ((by rw [hg]; exact Nat.ne_of_lt (blk_lt (be_ BK712.out)) : gb712 ≠ gb721)); have NB721_712 := Aside0.mk ((by rw [hg]; exact Nat.ne_of_gt (blk_lt (be_ BK712.out)) : gb721 ≠ gb712)); replace BK712 := Aside0.mk (blk_below (be_ BK712.out) hb); clear hb hbox hg; have hnb38 := NB721_712.out; have hnc38 := NB712_721.out; have hcz39_0 : w37.cell? ⟨gb721, 0, none⟩ = some (.slice none 0 0) := (blk_cell BK721.out 0).trans rfl; have hfz39_0 := blk_frozen BK721.out 0; have hcz40_0 : w37.cell? ⟨gb712, 0, none⟩ = some (.slice none 0 0) := (blk_cell BK712.out 0).trans rfl; have hfz40_0 := blk_frozen BK712.out 0))
     refine bodyPost_ret (results_ct rfl _ _ gb712 29 #[.slice none 0 0] (0, 0) _ rfl (by (with_reducible repeat (first | refine blk_drewN ?_ _ | refine blk_drew ?_ | refine blk_alloc ?_ _)); refine blk_put (cs := #[.slice none 0 0]) ?_ 0 _ rfl; (with_reducible repeat (first | refine blk_drewN ?_ _ | refine blk_drew ?_ | refine blk_alloc ?_ _)); refine blk_far ?_ NB712_721.out _; (with_reducible repeat (first | refine blk_drewN ?_ _ | refine blk_drew ?_ | refine blk_alloc ?_ _)); exact BK712.out) Tryz.underlying29 rfl (by kernel_rfl)) rfl ?_
     exact ⟨_, by first | rfl | (simp [errW_none, errW_some] <;> rfl) | (simp [*, errW_none, errW_some] <;> rfl), by first | exact Kd.R_nil _ _ _ _ _ | exact Kd.N_nil _ _ _ _ _ | exact Kd.V_nil _ _ _ _ _ | exact Kd.Q_nil _ _ _ _ _ | exact Kd.S_nil _ _ _ _ _, by repeat (first | (with_reducible first | exact HB.out | apply below_alloc | apply pw_below_drewN | apply below_drew1 | refine below_set ?_ (Aside0.out (by assumption))) | exact HB.out)⟩
 · replace c5 := Bool.eq_false_iff.mpr c5
   subst c5
   have H1 : (some (([] : List Int), false)) = some (r1, r2) := by rw [if_neg (show ¬ (false = true) by decide)] at H; exact H
   clear H
   have H := H1
   clear H1
   simp only [Option.some.injEq, Prod.mk.injEq] at H
   obtain ⟨rfl, rfl⟩ := H
   go_enter Tryz.func15, Tryz.ntmps15
   go_wp2_with (first | ((with_reducible refine gate_dst (N := 2) rfl ?_); refine box_event ?hg (N := 2) ?hd (cs := #[.slice none 0 0]) (t := 29) ?hr ?_; (case hd => rfl); (case hg => rfl); (case hr => first | (go_simp; done) | (go_simp; rfl)); intro gb712 hg w41 hbox hb; have BK712 := Aside0.mk (hbox); have GW712 := Aside0.mk ((by rw [hg]; exact (below_size (bl_ HB.out)) : w.heap.size ≤ gb712)); have GE712 := Aside0.mk ((by rw [hg]; exact (below_size (bl_ HB.out)) : w.heap.size ≤ gb712)); replace HB := Aside0.mk (below_step (bl_ HB.out) hb); clear hb hbox hg) | ((with_reducible refine gate_callee (f := 44) rfl ?_); refine gL_ (some 12) Tryz.func44 #[.string a0, .string (⟨#[60]⟩ : ByteArray)] ?_; (with_reducible refine (strings_CutPrefix.calls a0 (⟨#[60]⟩ : ByteArray) t713 false _ A2.out).mono ?_); rintro e w' ⟨rfl, ⟨nd, rfl⟩⟩; refine ⟨_, rfl, ?_⟩; (try (rw [drewN_self w41]; generalize hq_ : World.drewN w41 _ = w41; have n0_ : Aside0 (w41.heap[gb712]? = some (.cells #[.slice none 0 0] 29 (0, 0))) := ⟨by rw [← hq_]; exact (be_ BK712.out)⟩; have n1_ : Aside0 (Below w.heap.size w w41) := ⟨by rw [← hq_]; exact (by repeat (first | (with_reducible first | exact HB.out | apply below_alloc | apply pw_below_drewN | apply below_drew1 | refine below_set ?_ GE712.out) | exact HB.out))⟩; clear BK712 HB hq_; have BK712 := n0_; have HB := n1_; clear n0_ n1_))) | ((with_reducible refine gate_callee (f := 45) rfl ?_); refine gL_ (some 17) Tryz.func45 #[.string t713, .string (⟨#[62]⟩ : ByteArray)] ?_; (with_reducible refine (strings_CutSuffix.calls t713 (⟨#[62]⟩ : ByteArray) t715 t716 _ A3.out).mono ?_); rintro e w' ⟨rfl, ⟨nd, rfl⟩⟩; refine ⟨_, rfl, ?_⟩; (try (rw [drewN_self w41]; generalize hq_ : World.drewN w41 _ = w41; have n0_ : Aside0 (w41.heap[gb712]? = some (.cells #[.slice none 0 0] 29 (0, 0))) := ⟨by rw [← hq_]; exact (be_ BK712.out)⟩; have n1_ : Aside0 (Below w.heap.size w w41) := ⟨by rw [← hq_]; exact (by repeat (first | (with_reducible first | exact HB.out | apply below_alloc | apply pw_below_drewN | apply below_drew1 | refine below_set ?_ GE712.out) | exact HB.out))⟩; clear BK712 HB hq_; have BK712 := n0_; have HB := n1_; clear n0_ n1_))) | ((with_reducible refine gate_callee (f := 46) rfl ?_); refine gL_ (some 22) Tryz.func46 #[.string t715] ?_; (with_reducible refine (impl_ParseList.calls k t715 t717 t718 _ A4.out).mono ?_); rintro e w42 ⟨v719, rfl, ho0, hb⟩; refine ⟨_, rfl, ?_⟩; have HO720 := Aside0.mk (Kd.R_lower ho0 (below_size (by repeat (first | (with_reducible first | exact HB.out | apply below_alloc | apply pw_below_drewN | apply below_drew1 | refine below_set ?_ GE712.out) | exact HB.out)))); replace BK712 := Aside0.mk (blk_below (be_ BK712.out) hb); replace HB := Aside0.mk (below_step (by repeat (first | (with_reducible first | exact HB.out | apply below_alloc | apply pw_below_drewN | apply below_drew1 | refine below_set ?_ GE712.out) | exact HB.out)) hb); (try clear hb); (try clear hb2); (try clear hk); (try clear hi); (try clear ho0); obtain ⟨Ao43, co43, eo43⟩ := Kd.R_slice HO720.out; subst eo43) | ((with_reducible refine gate_dst (N := 9) rfl ?_); refine box_event ?hg (N := 9) ?hd (cs := #[.slice none 0 0]) (t := 29) ?hr ?_; (case hd => rfl); (case hg => rfl); (case hr => first | (go_simp; done) | (go_simp; rfl)); intro gb721 hg w44 hbox hb; replace HO720 := Aside0.mk (Kd.R_below (re_ HO720.out) hb); have BK721 := Aside0.mk (hbox); have GW721 := Aside0.mk ((by rw [hg]; exact (below_size (by repeat (first | (with_reducible first | exact HB.out | apply below_alloc | apply pw_below_drewN | apply below_drew1 | refine below_set ?_ GE712.out) | exact HB.out))) : w.heap.size ≤ gb721)); have GE721 := Aside0.mk ((by rw [hg]; exact (below_size (by repeat (first | (with_reducible first | exact HB.out | apply below_alloc | apply pw_below_drewN | apply below_drew1 | refine below_set ?_ GE712.out) | exact HB.out))) : w.heap.size ≤ gb721)); replace HB := Aside0.mk (below_step (by repeat (first | (with_reducible first | exact HB.out | apply below_alloc | apply pw_below_drewN | apply below_drew1 | refine below_set ?_ GE712.out) | exact HB.out)) hb); have NB712_721 := Aside0.mk ((by rw [hg]; exact Nat.ne_of_lt (blk_lt (be_ BK712.out)) : gb712 ≠ gb721)); have NB721_712 := Aside0.mk ((by rw [hg]; exact Nat.ne_of_gt (blk_lt (be_ BK712.out)) : gb721 ≠ gb712)); replace BK712 := Aside0.mk (blk_below (be_ BK712.out) hb); clear hb hbox hg; have hnb45 := NB721_712.out; have hnc45 := NB712_721.out; have hcz46_0 : w44.cell? ⟨gb721, 0, none⟩ = some (.slice none 0 0) := (blk_cell BK721.out 0).trans rfl; have hfz46_0 := blk_frozen BK721.out 0; have hcz47_0 : w44.cell? ⟨gb712, 0, none⟩ = some (.slice none 0 0) := (blk_cell BK712.out 0).trans rfl; have hfz47_0 := blk_frozen BK712.out 0))
   refine bodyPost_ret (results_ct rfl _ _ gb712 29 #[.slice none 0 0] (0, 0) _ rfl (by (with_reducible repeat (first | refine blk_drewN ?_ _ | refine blk_drew ?_ | refine blk_alloc ?_ _)); refine blk_put (cs := #[.slice none 0 0]) ?_ 0 _ rfl; (with_reducible repeat (first | refine blk_drewN ?_ _ | refine blk_drew ?_ | refine blk_alloc ?_ _)); refine blk_far ?_ NB712_721.out _; (with_reducible repeat (first | refine blk_drewN ?_ _ | refine blk_drew ?_ | refine blk_alloc ?_ _)); exact BK712.out) Tryz.underlying29 rfl (by kernel_rfl)) rfl ?_
   exact ⟨_, by first | rfl | (simp [errW_none, errW_some] <;> rfl) | (simp [*, errW_none, errW_some] <;> rfl), by first | exact Kd.R_nil _ _ _ _ _ | exact Kd.N_nil _ _ _ _ _ | exact Kd.V_nil _ _ _ _ _ | exact Kd.Q_nil _ _ _ _ _ | exact Kd.S_nil _ _ _ _ _, by repeat (first | (with_reducible first | exact HB.out | apply below_alloc | apply pw_below_drewN | apply below_drew1 | refine below_set ?_ (Aside0.out (by assumption))) | exact HB.out)⟩
def impl_DescribeExample.f (k : Nat) (a0 : Int) : Option (ByteArray) := (impl_ExampleText.f a0).bind fun t723 => ((impl_ParseSemigroup.f k t723).bind fun bt724 => (if bt724.2 = true then ((impl_DescribeSemigroup.f k bt724.1).bind fun t729 => (some t729)) else (some (⟨#[]⟩ : ByteArray))))
set_option maxHeartbeats 8000000 in
set_option maxRecDepth 100000 in
theorem impl_DescribeExample.calls (k : Nat) (a0 : Int) (r : ByteArray) (w : World) (hT : Tab_ w) (h : impl_DescribeExample.f k a0 = some r) :
 Calls Tryz.prog 6 #[.int .i64 a0] w fun e w' => e = .returned (.string r) ∧ Below w.heap.size w w' := by
 have hTab := Aside0.mk hT
 clear hT
 have hu29 := Tryz.underlying29
 have HB := Aside0.mk (Below.refl w.heap.size w)
 have H : ((impl_ExampleText.f a0).bind fun t723 => ((impl_ParseSemigroup.f k t723).bind fun bt724 => (if bt724.2 = true then ((impl_DescribeSemigroup.f k bt724.1).bind fun t729 => (some t729)) else (some (⟨#[]⟩ : ByteArray))))) = some r := h
 clear h
 replace H := Option.bind_eq_some_iff.mp H
 obtain ⟨t723, A20, H⟩ := H
 replace H : ((impl_ParseSemigroup.f k t723).bind fun bt724 => (if bt724.2 = true then ((impl_DescribeSemigroup.f k bt724.1).bind fun t729 => (some t729)) else (some (⟨#[]⟩ : ByteArray)))) = some r := H
 have A2 := Aside0.mk A20
 clear A20
 replace H := Option.bind_eq_some_iff.mp H
 obtain ⟨⟨t724, t727⟩, A30, H⟩ := H
 replace H : (if t727 = true then ((impl_DescribeSemigroup.f k t724).bind fun t729 => (some t729)) else (some (⟨#[]⟩ : ByteArray))) = some r := H
 have A3 := Aside0.mk A30
 clear A30
 by_cases c4 : t727 = true
 · subst c4
   have H1 : ((impl_DescribeSemigroup.f k t724).bind fun t729 => (some t729)) = some r := by rw [if_pos rfl] at H; exact H
   clear H
   have H := H1
   clear H1
   replace H := Option.bind_eq_some_iff.mp H
   obtain ⟨t729, A50, H⟩ := H
   replace H : (some t729) = some r := H
   have A5 := Aside0.mk A50
   clear A50
   obtain rfl := Option.some.inj H
   go_enter Tryz.func6, Tryz.ntmps6
   go_wp2_with (first | ((with_reducible refine gate_callee (f := 11) rfl ?_); refine gL_ (some 7) Tryz.func11 #[.int .i64 a0] ?_; (with_reducible refine (impl_ExampleText.calls a0 t723 _ A2.out).mono ?_); rintro e w6 ⟨rfl, hb⟩; refine ⟨_, rfl, ?_⟩; replace HB := Aside0.mk (below_step (bl_ HB.out) hb); (try clear hb); (try clear hb2); (try clear hk); (try clear hi)) | ((with_reducible refine gate_callee (f := 15) rfl ?_); refine gL_ (some 8) Tryz.func15 #[.string t723] ?_; (with_reducible refine (impl_ParseSemigroup.calls k t723 t724 true _ A3.out).mono ?_); rintro e w7 ⟨v725, rfl, ho0, hb⟩; refine ⟨_, rfl, ?_⟩; have HO726 := Aside0.mk (Kd.R_lower ho0 (below_size (bl_ HB.out))); replace HB := Aside0.mk (below_step (bl_ HB.out) hb); (try clear hb); (try clear hb2); (try clear hk); (try clear hi); (try clear ho0)) | ((with_reducible refine gate_dst (N := 3) rfl ?_); refine box_event ?hg (N := 3) ?hd (cs := #[.slice none 0 0]) (t := 29) ?hr ?_; (case hd => rfl); (case hg => rfl); (case hr => first | (go_simp; done) | (go_simp; rfl)); intro gb728 hg w8 hbox hb; replace HO726 := Aside0.mk (Kd.R_below (re_ HO726.out) hb); have BK728 := Aside0.mk (hbox); have GW728 := Aside0.mk ((by rw [hg]; exact (below_size (bl_ HB.out)) : w.heap.size ≤ gb728)); have GE728 := Aside0.mk ((by rw [hg]; exact (below_size (bl_ HB.out)) : w.heap.size ≤ gb728)); replace HB := Aside0.mk (below_step (bl_ HB.out) hb); clear hb hbox hg; obtain ⟨Ao9, co9, eo9⟩ := Kd.R_slice HO726.out; subst eo9; have hcz10_0 : w8.cell? ⟨gb728, 0, none⟩ = some (.slice none 0 0) := (blk_cell BK728.out 0).trans rfl; have hfz10_0 := blk_frozen BK728.out 0) | ((with_reducible refine gate_callee (f := 13) rfl ?_); refine gL_ (some 14) Tryz.func13 #[.agg #[.slice Ao9 t724.length co9]] ?_; (with_reducible refine (impl_DescribeSemigroup.calls k _ _ t724 t729 _ ?side1 ?side2 ?sideT A5.out).mono ?_); (case sideT => exact hTab.out.below (by repeat (first | (with_reducible first | exact HB.out | apply below_alloc | apply pw_below_drewN | apply below_drew1 | refine below_set ?_ GE728.out) | exact HB.out))); (case side1 => refine (Kd.R_reads' (e := 3) (base := w.heap.size) (ok := fun k_ => True) (n := t724.length) (c := co9) ?_).2.2; exact (by (with_reducible repeat (first | apply Kd.R_alloc | apply Kd.R_drewN | apply Kd.R_drew)); exact (Kd.R_mono (Kd.R_far (p := ⟨gb728, 0, none⟩) (Kd.R_types HO726.out BK728.out (by decide)) (fun _ hk => hk.2) (.slice Ao9 t724.length co9)) (fun _ h_ => h_.1)))); (case side2 => exact (Kd.R_reads' HO726.out).2.1); rintro e w11 ⟨rfl, hb⟩; refine ⟨_, rfl, ?_⟩; replace HO726 := Aside0.mk (Kd.R_below (by (with_reducible repeat (first | apply Kd.R_alloc | apply Kd.R_drewN | apply Kd.R_drew)); exact (Kd.R_mono (Kd.R_far (p := ⟨gb728, 0, none⟩) (Kd.R_types HO726.out BK728.out (by decide)) (fun _ hk => hk.2) (.slice Ao9 t724.length co9)) (fun _ h_ => h_.1))) hb); replace BK728 := Aside0.mk (blk_below (g := gb728) (o := .cells #[.slice Ao9 t724.length co9] 29 (0, 0)) (by (with_reducible repeat (first | refine blk_drewN ?_ _ | refine blk_drew ?_ | refine blk_alloc ?_ _)); refine blk_put (cs := #[.slice none 0 0]) ?_ 0 _ rfl; (with_reducible repeat (first | refine blk_drewN ?_ _ | refine blk_drew ?_ | refine blk_alloc ?_ _)); exact BK728.out) hb); replace HB := Aside0.mk (below_step (by repeat (first | (with_reducible first | exact HB.out | apply below_alloc | apply pw_below_drewN | apply below_drew1 | refine below_set ?_ GE728.out) | exact HB.out)) hb); (try clear hb); (try clear hb2); (try clear hk); (try clear hi)))
   go_ret
   exact ⟨by first | rfl | (simp [errW_none, errW_some] <;> rfl) | (simp [*, errW_none, errW_some] <;> rfl), by repeat (first | (with_reducible first | exact HB.out | apply below_alloc | apply pw_below_drewN | apply below_drew1 | refine below_set ?_ GE728.out) | exact HB.out)⟩
 · replace c4 := Bool.eq_false_iff.mpr c4
   subst c4
   have H1 : (some (⟨#[]⟩ : ByteArray)) = some r := by rw [if_neg (show ¬ (false = true) by decide)] at H; exact H
   clear H
   have H := H1
   clear H1
   obtain rfl := Option.some.inj H
   go_enter Tryz.func6, Tryz.ntmps6
   go_wp2_with (first | ((with_reducible refine gate_callee (f := 11) rfl ?_); refine gL_ (some 7) Tryz.func11 #[.int .i64 a0] ?_; (with_reducible refine (impl_ExampleText.calls a0 t723 _ A2.out).mono ?_); rintro e w12 ⟨rfl, hb⟩; refine ⟨_, rfl, ?_⟩; replace HB := Aside0.mk (below_step (bl_ HB.out) hb); (try clear hb); (try clear hb2); (try clear hk); (try clear hi)) | ((with_reducible refine gate_callee (f := 15) rfl ?_); refine gL_ (some 8) Tryz.func15 #[.string t723] ?_; (with_reducible refine (impl_ParseSemigroup.calls k t723 t724 false _ A3.out).mono ?_); rintro e w13 ⟨v725, rfl, ho0, hb⟩; refine ⟨_, rfl, ?_⟩; have HO726 := Aside0.mk (Kd.R_lower ho0 (below_size (bl_ HB.out))); replace HB := Aside0.mk (below_step (bl_ HB.out) hb); (try clear hb); (try clear hb2); (try clear hk); (try clear hi); (try clear ho0)) | ((with_reducible refine gate_dst (N := 3) rfl ?_); refine box_event ?hg (N := 3) ?hd (cs := #[.slice none 0 0]) (t := 29) ?hr ?_; (case hd => rfl); (case hg => rfl); (case hr => first | (go_simp; done) | (go_simp; rfl)); intro gb728 hg w14 hbox hb; replace HO726 := Aside0.mk (Kd.R_below (re_ HO726.out) hb); have BK728 := Aside0.mk (hbox); have GW728 := Aside0.mk ((by rw [hg]; exact (below_size (bl_ HB.out)) : w.heap.size ≤ gb728)); have GE728 := Aside0.mk ((by rw [hg]; exact (below_size (bl_ HB.out)) : w.heap.size ≤ gb728)); replace HB := Aside0.mk (below_step (bl_ HB.out) hb); clear hb hbox hg; obtain ⟨Ao15, co15, eo15⟩ := Kd.R_slice HO726.out; subst eo15; have hcz16_0 : w14.cell? ⟨gb728, 0, none⟩ = some (.slice none 0 0) := (blk_cell BK728.out 0).trans rfl; have hfz16_0 := blk_frozen BK728.out 0))
   go_ret
   exact ⟨by first | rfl | (simp [errW_none, errW_some] <;> rfl) | (simp [*, errW_none, errW_some] <;> rfl), by repeat (first | (with_reducible first | exact HB.out | apply below_alloc | apply pw_below_drewN | apply below_drew1 | refine below_set ?_ GE728.out) | exact HB.out)⟩
def laws_FnExactDescribeExample.f (k : Nat) (a0 : Int) : Option (Bool) := (spec_DescribeExample.f k a0).bind fun t730 => ((impl_DescribeExample.f k a0).bind fun t731 => (if t731.toList = t730.toList then (some true) else (some false)))
set_option maxHeartbeats 8000000 in
set_option maxRecDepth 100000 in
theorem laws_FnExactDescribeExample.calls (k : Nat) (a0 : Int) (r : Bool) (w : World) (hT : Tab_ w) (h : laws_FnExactDescribeExample.f k a0 = some r) :
 Calls Tryz.prog 3 #[.int .i64 a0] w fun e w' => e = .returned (.bool r) ∧ Below w.heap.size w w' := by
 have hTab := Aside0.mk hT
 clear hT
 have HB := Aside0.mk (Below.refl w.heap.size w)
 have H : ((spec_DescribeExample.f k a0).bind fun t730 => ((impl_DescribeExample.f k a0).bind fun t731 => (if t731.toList = t730.toList then (some true) else (some false)))) = some r := h
 clear h
 replace H := Option.bind_eq_some_iff.mp H
 obtain ⟨t730, A20, H⟩ := H
 replace H : ((impl_DescribeExample.f k a0).bind fun t731 => (if t731.toList = t730.toList then (some true) else (some false))) = some r := H
 have A2 := Aside0.mk A20
 clear A20
 replace H := Option.bind_eq_some_iff.mp H
 obtain ⟨t731, A30, H⟩ := H
 replace H : (if t731.toList = t730.toList then (some true) else (some false)) = some r := H
 have A3 := Aside0.mk A30
 clear A30
 by_cases c4 : t731.toList = t730.toList
 · rw [if_pos c4] at H
   have c4b0 : (t731.toList == t730.toList) = true := beq_iff_eq.mpr c4
   have c4b1 : (t731.toList != t730.toList) = false := bne_eq_false_iff_eq.mpr c4
   clear c4
   obtain rfl := Option.some.inj H
   go_enter Tryz.func3, Tryz.ntmps3
   go_wp2_with (first | ((with_reducible refine gate_callee (f := 5) rfl ?_); refine gL_ (some 6) Tryz.func5 #[.int .i64 a0] ?_; (with_reducible refine (spec_DescribeExample.calls k a0 t730 _ A2.out).mono ?_); rintro e w5 ⟨rfl, hb⟩; refine ⟨_, rfl, ?_⟩; replace HB := Aside0.mk (below_step (bl_ HB.out) hb); (try clear hb); (try clear hb2); (try clear hk); (try clear hi)) | ((with_reducible refine gate_callee (f := 6) rfl ?_); refine gL_ (some 8) Tryz.func6 #[.int .i64 a0] ?_; (with_reducible refine (impl_DescribeExample.calls k a0 t731 _ ?sideT A3.out).mono ?_); (case sideT => exact hTab.out.below (bl_ HB.out)); rintro e w6 ⟨rfl, hb⟩; refine ⟨_, rfl, ?_⟩; replace HB := Aside0.mk (below_step (bl_ HB.out) hb); (try clear hb); (try clear hb2); (try clear hk); (try clear hi)))
   go_ret
   exact ⟨by first | rfl | (simp [errW_none, errW_some] <;> rfl) | (simp [*, errW_none, errW_some] <;> rfl), bl_ HB.out⟩
 · rw [if_neg c4] at H
   have c4b0 : (t731.toList == t730.toList) = false := beq_eq_false_iff_ne.mpr c4
   have c4b1 : (t731.toList != t730.toList) = true := bne_iff_ne.mpr c4
   obtain rfl := Option.some.inj H
   go_enter Tryz.func3, Tryz.ntmps3
   go_wp2_with (first | ((with_reducible refine gate_callee (f := 5) rfl ?_); refine gL_ (some 6) Tryz.func5 #[.int .i64 a0] ?_; (with_reducible refine (spec_DescribeExample.calls k a0 t730 _ A2.out).mono ?_); rintro e w7 ⟨rfl, hb⟩; refine ⟨_, rfl, ?_⟩; replace HB := Aside0.mk (below_step (bl_ HB.out) hb); (try clear hb); (try clear hb2); (try clear hk); (try clear hi)) | ((with_reducible refine gate_callee (f := 6) rfl ?_); refine gL_ (some 8) Tryz.func6 #[.int .i64 a0] ?_; (with_reducible refine (impl_DescribeExample.calls k a0 t731 _ ?sideT A3.out).mono ?_); (case sideT => exact hTab.out.below (bl_ HB.out)); rintro e w8 ⟨rfl, hb⟩; refine ⟨_, rfl, ?_⟩; replace HB := Aside0.mk (below_step (bl_ HB.out) hb); (try clear hb); (try clear hb2); (try clear hk); (try clear hi)))
   go_ret
   exact ⟨by first | rfl | (simp [errW_none, errW_some] <;> rfl) | (simp [*, errW_none, errW_some] <;> rfl), bl_ HB.out⟩
def laws_FnExactDescribeExample.Pure : Prop := ∀ (a0 : Int), (Lit.int .i64 a0).wf = true → ∃ k, laws_FnExactDescribeExample.f k a0 = some true
theorem laws_FnExactDescribeExample.walk (P : laws_FnExactDescribeExample.Pure) (a0 : Int) (w : World) (hT : Tab_ w) (w0 : (Lit.int .i64 a0).wf = true) :
 Calls Tryz.prog 3 #[.int .i64 a0] w fun e w' => e = .returned (.bool true) ∧ Below w.heap.size w w' := by
 obtain ⟨k, h⟩ := P a0 w0
 refine (laws_FnExactDescribeExample.calls k a0 true w hT h).mono ?_
 rintro e w' ⟨rfl, hd⟩
 exact ⟨rfl, hd⟩
end Go.Proofs.YteaiehpgigaoaaaGreatDoor.PA
end
section
namespace Go.Proofs.YteaiehpgigaoaaaGreatDoor.E
open Go.RowKit Go.Proofs.YteaiehpgigaoaaaGreatDoorW.PrintWords Go.Proofs.YteaiehpgigaoaaaGreatDoorW.PrintLast Go.Proofs.YteaiehpgigaoaaaGreatDoorW.PrintMore
set_option linter.unusedVariables false
set_option linter.unusedSimpArgs false
theorem wf64 {x : Int} (h : (Lit.int .i64 x).wf = true) : -9223372036854775808 ≤ x ∧ x ≤ 9223372036854775807 := by
 simp [Lit.wf, IntKind.min, IntKind.max, IntKind.signed, IntKind.bits] at h
 omega
end Go.Proofs.YteaiehpgigaoaaaGreatDoor.E
end
section
namespace Go.Proofs.YteaiehpgigaoaaaGreatDoor.E
open Go.RowKit Go.Proofs.YteaiehpgigaoaaaGreatDoor.PA Go.Proofs.YteaiehpgigaoaaaGreatDoorW.PrintWords Go.Proofs.YteaiehpgigaoaaaGreatDoorW.PrintLast Go.Proofs.YteaiehpgigaoaaaGreatDoorW.PrintMore
set_option linter.unusedVariables false
set_option linter.unusedSimpArgs false
set_option maxRecDepth 100000 in
theorem de1 : laws_FnExactDescribeExample.f 20000 1 = some true := by kernel_rfl
set_option maxRecDepth 100000 in
theorem de2 : laws_FnExactDescribeExample.f 20000 2 = some true := by kernel_rfl
set_option maxRecDepth 100000 in
theorem de3 : laws_FnExactDescribeExample.f 20000 3 = some true := by kernel_rfl
end Go.Proofs.YteaiehpgigaoaaaGreatDoor.E
end
section
namespace Go.Proofs.YteaiehpgigaoaaaGreatDoor.E
open Go.RowKit Go.Proofs.YteaiehpgigaoaaaGreatDoor.PA Go.Proofs.YteaiehpgigaoaaaGreatDoorW.PrintWords Go.Proofs.YteaiehpgigaoaaaGreatDoorW.PrintLast Go.Proofs.YteaiehpgigaoaaaGreatDoorW.PrintMore
set_option linter.unusedVariables false
set_option linter.unusedSimpArgs false
set_option maxRecDepth 100000 in
theorem de4 : laws_FnExactDescribeExample.f 20000 4 = some true := by kernel_rfl
set_option maxRecDepth 100000 in
theorem de5 : laws_FnExactDescribeExample.f 20000 5 = some true := by kernel_rfl
set_option maxRecDepth 100000 in
theorem de6 : laws_FnExactDescribeExample.f 20000 6 = some true := by kernel_rfl
end Go.Proofs.YteaiehpgigaoaaaGreatDoor.E
end
section
namespace Go.Proofs.YteaiehpgigaoaaaGreatDoor.Pure
open Go.RowKit Go.Proofs.YteaiehpgigaoaaaGreatDoor.PA Go.Proofs.YteaiehpgigaoaaaGreatDoor.E Go.Proofs.YteaiehpgigaoaaaGreatDoorW.PrintWords Go.Proofs.YteaiehpgigaoaaaGreatDoorW.PrintLast Go.Proofs.YteaiehpgigaoaaaGreatDoorW.PrintMore
set_option linter.unusedVariables false
set_option linter.unusedSimpArgs false
theorem dx_within (a b c : Int) : impl_within.f a b c = some (decide (b ≤ a ∧ a ≤ c)) := by
 unfold impl_within.f
 by_cases h : a ≥ b
 · rw [if_pos h]; simp; omega
 · rw [if_neg h]; simp; omega
set_option maxRecDepth 100000 in
theorem de00 : laws_FnExactDescribeExample.f 20000 0 = some true := by kernel_rfl
theorem de0 (a : Int) (h0 : -9223372036854775808 ≤ a) (h1 : a ≤ 9223372036854775807) (h : ¬ (1 ≤ a ∧ a ≤ 6)) : laws_FnExactDescribeExample.f 20000 a = some true := by
 have e1 : spec_ExampleText.f a = some ⟨#[]⟩ := by
  unfold spec_ExampleText.f
  rw [if_neg (by omega), if_neg (by omega), if_neg (by omega), if_neg (by omega), if_neg (by omega), if_neg (by omega)]
 have e2 : impl_ExampleText.f a = some ⟨#[]⟩ := by
  unfold impl_ExampleText.f
  simp only [dx_within, Option.bind_some]
  exact if_neg (by simp; omega)
 refine Eq.trans ?_ de00
 unfold laws_FnExactDescribeExample.f spec_DescribeExample.f impl_DescribeExample.f
 rw [e1, e2, show spec_ExampleText.f 0 = some ⟨#[]⟩ by decide +kernel, show impl_ExampleText.f 0 = some ⟨#[]⟩ by decide +kernel]
theorem FnExactDescribeExample : laws_FnExactDescribeExample.Pure := by
 intro a hw
 obtain ⟨h0, h1⟩ : -9223372036854775808 ≤ a ∧ a ≤ 9223372036854775807 := wf64 hw
 refine ⟨20000, ?_⟩
 by_cases h : 1 ≤ a ∧ a ≤ 6
 · rcases (by omega : a = 1 ∨ a = 2 ∨ a = 3 ∨ a = 4 ∨ a = 5 ∨ a = 6) with rfl | rfl | rfl | rfl | rfl | rfl
   · exact de1
   · exact de2
   · exact de3
   · exact de4
   · exact de5
   · exact de6
 · exact de0 a h0 h1 h
end Go.Proofs.YteaiehpgigaoaaaGreatDoor.Pure
end
