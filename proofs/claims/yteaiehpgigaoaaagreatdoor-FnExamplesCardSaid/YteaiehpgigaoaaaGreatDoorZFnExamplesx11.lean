-- Bundled by shake.py from this session's printed and written texts; Lean checks it.
import Derived.Test.YteaiehpgigaoaaaGreatDoorZFnExamplesx1
import Derived.Test.YteaiehpgigaoaaaGreatDoorZFnExamplesx10
import Derived.Test.YteaiehpgigaoaaaGreatDoorZFnExamplesx2
import Derived.Test.YteaiehpgigaoaaaGreatDoorZFnExamplesx3
import Derived.Test.YteaiehpgigaoaaaGreatDoorZFnExamplesx6
import Derived.Test.YteaiehpgigaoaaaGreatDoorZFnExamplesx7
import Derived.Test.YteaiehpgigaoaaaGreatDoorZFnExamplesx8
import Derived.Test.YteaiehpgigaoaaaGreatDoorZFnExamplesx9
section
namespace Go.Proofs.YteaiehpgigaoaaaGreatDoor.PB
open Go.RowKit Go.Proofs.YteaiehpgigaoaaaGreatDoorW.PrintWords Go.Proofs.YteaiehpgigaoaaaGreatDoorW.PrintLast Go.Proofs.YteaiehpgigaoaaaGreatDoorW.PrintMore
attribute [local go_sem] max2_int min2_int max_two min_two max_three min_three max_four min_four
set_option linter.unusedVariables false
set_option linter.unusedSimpArgs false
set_option maxHeartbeats 8000000
set_option maxRecDepth 100000
def impl_ParseSemigroup.f (k : Nat) (a0 : ByteArray) : Option (List Int × Bool) := (strings_CutPrefix.f a0 (⟨#[60]⟩ : ByteArray)).bind fun bt713 => ((strings_CutSuffix.f bt713.1 (⟨#[62]⟩ : ByteArray)).bind fun bt715 => ((impl_ParseList.f k bt715.1).bind fun bt717 => (if bt713.2 = true then (if bt715.2 = true then (if bt717.2 = true then ((impl_IsSemigroup.f k bt717.1).bind fun t722 => (if t722 = true then (some (bt717.1, true)) else (some (([] : List Int), false)))) else (some (([] : List Int), false))) else (some (([] : List Int), false))) else (some (([] : List Int), false)))))
theorem impl_ParseSemigroup.mono : ∀ a0 k, LeO (impl_ParseSemigroup.f k a0) (impl_ParseSemigroup.f (k + 1) a0) := by
 intro a0 k
 unfold impl_ParseSemigroup.f
 repeat' first
  | (with_reducible exact impl_IsSemigroup.mono _ _)
  | (with_reducible exact impl_ParseList.mono _ _)
  | (with_reducible exact LeO.refl _)
  | (with_reducible exact LeO.none _)
  | (with_reducible refine LeO.ite ?_ ?_)
  | (with_reducible refine LeO.bind ?_ (fun _ => ?_))
  | exact LeO.none _
  | refine LeO.ite ?_ ?_
  | refine LeO.bind ?_ (fun _ => ?_)
theorem impl_ParseSemigroup.calls (k : Nat) (a0 : ByteArray) (r1 : List Int) (r2 : Bool) (w : World) (h : impl_ParseSemigroup.f k a0 = some (r1, r2)) :
 Calls Tryz.prog 15 #[.string a0] w fun e w' => ∃ v0_ : Value, e = .returned (.tuple #[.agg #[v0_], .bool r2]) ∧ Kd.R (Kd.int .i64) 3 w' w.heap.size (fun _ => True) v0_ r1 ∧ Below w.heap.size w w' := by
 have hu29 := Tryz.underlying29
 have HB := Aside0.mk (Below.refl w.heap.size w)
 have H := h
 clear h
 unfold impl_ParseSemigroup.f at H
 obtain ⟨⟨t713, t714⟩, A2, H⟩ := ob_ H
 (try dsimp only at H)
 obtain ⟨⟨t715, t716⟩, A3, H⟩ := ob_ H
 (try dsimp only at H)
 obtain ⟨⟨t717, t718⟩, A4, H⟩ := ob_ H
 (try dsimp only at H)
 by_cases c5 : t714 = true
 · subst c5
   rw [if_pos rfl] at H
   by_cases c6 : t716 = true
   · subst c6
     rw [if_pos rfl] at H
     by_cases c7 : t718 = true
     · subst c7
       rw [if_pos rfl] at H
       obtain ⟨t722, A8, H⟩ := ob_ H
       by_cases c9 : t722 = true
       · subst c9
         rw [if_pos rfl] at H
         simp only [Option.some.injEq, Prod.mk.injEq] at H
         obtain ⟨rfl, rfl⟩ := H
         go_enter Tryz.func15, Tryz.ntmps15
         go_wp2_with (first | ((with_reducible refine gate_dst (N := 2) rfl ?_); refine bx_ 2 #[.slice none 0 0] 29 ?_; intro gb712 hg w10 hbox hb; have BK712 := Aside0.mk (hbox); have GW712 := gw_ hg HB; have GE712 := gw_ hg HB; replace HB := bo_ HB hb; clear hb hbox hg) | ((with_reducible refine gate_callee (f := 44) rfl ?_); refine gL_ (some 12) Tryz.func44 #[.string a0, .string (⟨#[60]⟩ : ByteArray)] ?_; (with_reducible refine (strings_CutPrefix.calls a0 (⟨#[60]⟩ : ByteArray) t713 true _ A2.out).mono ?_); rintro e w' ⟨rfl, ⟨nd, rfl⟩⟩; refine ⟨_, rfl, ?_⟩; (try (rw [drewN_self w10]; generalize hq_ : World.drewN w10 _ = w10; have n0_ : Aside0 (w10.heap[gb712]? = some (.cells #[.slice none 0 0] 29 (0, 0))) := ⟨by rw [← hq_]; exact (be_ BK712.out)⟩; have n1_ : Aside0 (Below w.heap.size w w10) := ⟨by rw [← hq_]; exact (bq_ HB)⟩; clear BK712 HB hq_; have BK712 := n0_; have HB := n1_; clear n0_ n1_))) | ((with_reducible refine gate_callee (f := 45) rfl ?_); refine gL_ (some 17) Tryz.func45 #[.string t713, .string (⟨#[62]⟩ : ByteArray)] ?_; (with_reducible refine (strings_CutSuffix.calls t713 (⟨#[62]⟩ : ByteArray) t715 true _ A3.out).mono ?_); rintro e w' ⟨rfl, ⟨nd, rfl⟩⟩; refine ⟨_, rfl, ?_⟩; (try (rw [drewN_self w10]; generalize hq_ : World.drewN w10 _ = w10; have n0_ : Aside0 (w10.heap[gb712]? = some (.cells #[.slice none 0 0] 29 (0, 0))) := ⟨by rw [← hq_]; exact (be_ BK712.out)⟩; have n1_ : Aside0 (Below w.heap.size w w10) := ⟨by rw [← hq_]; exact (bq_ HB)⟩; clear BK712 HB hq_; have BK712 := n0_; have HB := n1_; clear n0_ n1_))) | ((with_reducible refine gate_callee (f := 46) rfl ?_); refine gL_ (some 22) Tryz.func46 #[.string t715] ?_; (with_reducible refine (impl_ParseList.calls k t715 t717 true _ A4.out).mono ?_); rintro e w11 ⟨v719, rfl, ho0, hb⟩; refine ⟨_, rfl, ?_⟩; have HO720 := Aside0.mk (Kd.R_lower ho0 (below_size (bq_ HB))); replace BK712 := bk_ BK712 hb; replace HB := bp_ HB hb; (try clear hb); (try clear ho0); obtain ⟨Ao12, co12, eo12⟩ := Kd.R_slice HO720.out; subst eo12) | ((with_reducible refine gate_dst (N := 9) rfl ?_); refine bx_ 9 #[.slice none 0 0] 29 ?_; intro gb721 hg w13 hbox hb; replace HO720 := Aside0.mk (Kd.R_below (re_ HO720.out) hb); have BK721 := Aside0.mk (hbox); have GW721 := gq_ hg (bq_ HB); have GE721 := gq_ hg (bq_ HB); replace HB := bp_ HB hb; have NB712_721 := nl_ hg BK712; have NB721_712 := ng_ hg BK712; replace BK712 := bk_ BK712 hb; clear hb hbox hg; have hnb14 := NB721_712.out; have hnc14 := NB712_721.out; have hcz15_0 := cz_ BK721; have hfz15_0 := blk_frozen BK721.out 0) | (go_at_call 22; (with_reducible refine (impl_IsSemigroup.calls k _ _ t717 true _ ?side1 ?side2 A8.out).mono ?_); (case side1 => refine (Kd.R_reads' (e := 3) (base := w.heap.size) (ok := fun k_ => True) (n := t717.length) (c := co12) ?_).2.2; exact (by (with_reducible repeat (first | apply Kd.R_alloc | apply Kd.R_drewN | apply Kd.R_drew)); exact (Kd.R_mono (Kd.R_far (p := ⟨gb721, 0, none⟩) (Kd.R_types HO720.out BK721.out (by decide)) (fun _ hk => hk.2) (.slice Ao12 t717.length co12)) (fun _ h_ => h_.1)))); (case side2 => exact (Kd.R_reads' HO720.out).2.1); rintro e w16 ⟨rfl, hb⟩; replace HO720 := Aside0.mk (Kd.R_below (by (with_reducible repeat (first | apply Kd.R_alloc | apply Kd.R_drewN | apply Kd.R_drew)); exact (Kd.R_mono (Kd.R_far (p := ⟨gb721, 0, none⟩) (Kd.R_types HO720.out BK721.out (by decide)) (fun _ hk => hk.2) (.slice Ao12 t717.length co12)) (fun _ h_ => h_.1))) hb); replace BK712 := Aside0.mk (blk_below (g := gb712) (o := .cells #[.slice none 0 0] 29 (0, 0)) (by (with_reducible repeat (first | refine blk_drewN ?_ _ | refine blk_drew ?_ | refine blk_alloc ?_ _)); refine blk_far ?_ NB712_721.out _; (with_reducible repeat (first | refine blk_drewN ?_ _ | refine blk_drew ?_ | refine blk_alloc ?_ _)); exact BK712.out) hb); replace BK721 := Aside0.mk (blk_below (g := gb721) (o := .cells #[.slice Ao12 t717.length co12] 29 (0, 0)) (by (with_reducible repeat (first | refine blk_drewN ?_ _ | refine blk_drew ?_ | refine blk_alloc ?_ _)); refine blk_put (cs := #[.slice none 0 0]) ?_ 0 _ rfl; (with_reducible repeat (first | refine blk_drewN ?_ _ | refine blk_drew ?_ | refine blk_alloc ?_ _)); exact BK721.out) hb); replace HB := bp_ HB hb; (try clear hb); have hcz17_0 := cz_ BK721; have hfz17_0 := blk_frozen BK721.out 0; have hcz18_0 := cz_ BK712; have hfz18_0 := blk_frozen BK712.out 0))
         refine bodyPost_ret (results_ct rfl _ _ gb712 29 #[.slice Ao12 t717.length co12] (0, 0) _ rfl (by (with_reducible repeat (first | refine blk_drewN ?_ _ | refine blk_drew ?_ | refine blk_alloc ?_ _)); refine blk_put (cs := #[.slice none 0 0]) ?_ 0 _ rfl; (with_reducible repeat (first | refine blk_drewN ?_ _ | refine blk_drew ?_ | refine blk_alloc ?_ _)); exact BK712.out) Tryz.underlying29 rfl (by kernel_rfl)) rfl ?_
         exact ⟨_, rf_, by (with_reducible repeat (first | apply Kd.R_alloc | apply Kd.R_drewN | apply Kd.R_drew)); exact Kd.R_mono (Kd.R_far (p := ⟨gb712, 0, none⟩) (Kd.R_types HO720.out BK712.out (by decide)) (fun _ hk => hk.2) (.slice Ao12 t717.length co12)) (fun _ hk => trivial), bq_ HB⟩
       · replace c9 := Bool.eq_false_iff.mpr c9
         subst c9
         rw [if_neg (show ¬ (false = true) by decide)] at H
         simp only [Option.some.injEq, Prod.mk.injEq] at H
         obtain ⟨rfl, rfl⟩ := H
         go_enter Tryz.func15, Tryz.ntmps15
         go_wp2_with (first | ((with_reducible refine gate_dst (N := 2) rfl ?_); refine bx_ 2 #[.slice none 0 0] 29 ?_; intro gb712 hg w19 hbox hb; have BK712 := Aside0.mk (hbox); have GW712 := gw_ hg HB; have GE712 := gw_ hg HB; replace HB := bo_ HB hb; clear hb hbox hg) | ((with_reducible refine gate_callee (f := 44) rfl ?_); refine gL_ (some 12) Tryz.func44 #[.string a0, .string (⟨#[60]⟩ : ByteArray)] ?_; (with_reducible refine (strings_CutPrefix.calls a0 (⟨#[60]⟩ : ByteArray) t713 true _ A2.out).mono ?_); rintro e w' ⟨rfl, ⟨nd, rfl⟩⟩; refine ⟨_, rfl, ?_⟩; (try (rw [drewN_self w19]; generalize hq_ : World.drewN w19 _ = w19; have n0_ : Aside0 (w19.heap[gb712]? = some (.cells #[.slice none 0 0] 29 (0, 0))) := ⟨by rw [← hq_]; exact (be_ BK712.out)⟩; have n1_ : Aside0 (Below w.heap.size w w19) := ⟨by rw [← hq_]; exact (bq_ HB)⟩; clear BK712 HB hq_; have BK712 := n0_; have HB := n1_; clear n0_ n1_))) | ((with_reducible refine gate_callee (f := 45) rfl ?_); refine gL_ (some 17) Tryz.func45 #[.string t713, .string (⟨#[62]⟩ : ByteArray)] ?_; (with_reducible refine (strings_CutSuffix.calls t713 (⟨#[62]⟩ : ByteArray) t715 true _ A3.out).mono ?_); rintro e w' ⟨rfl, ⟨nd, rfl⟩⟩; refine ⟨_, rfl, ?_⟩; (try (rw [drewN_self w19]; generalize hq_ : World.drewN w19 _ = w19; have n0_ : Aside0 (w19.heap[gb712]? = some (.cells #[.slice none 0 0] 29 (0, 0))) := ⟨by rw [← hq_]; exact (be_ BK712.out)⟩; have n1_ : Aside0 (Below w.heap.size w w19) := ⟨by rw [← hq_]; exact (bq_ HB)⟩; clear BK712 HB hq_; have BK712 := n0_; have HB := n1_; clear n0_ n1_))) | ((with_reducible refine gate_callee (f := 46) rfl ?_); refine gL_ (some 22) Tryz.func46 #[.string t715] ?_; (with_reducible refine (impl_ParseList.calls k t715 t717 true _ A4.out).mono ?_); rintro e w20 ⟨v719, rfl, ho0, hb⟩; refine ⟨_, rfl, ?_⟩; have HO720 := Aside0.mk (Kd.R_lower ho0 (below_size (bq_ HB))); replace BK712 := bk_ BK712 hb; replace HB := bp_ HB hb; (try clear hb); (try clear ho0); obtain ⟨Ao21, co21, eo21⟩ := Kd.R_slice HO720.out; subst eo21) | ((with_reducible refine gate_dst (N := 9) rfl ?_); refine bx_ 9 #[.slice none 0 0] 29 ?_; intro gb721 hg w22 hbox hb; replace HO720 := Aside0.mk (Kd.R_below (re_ HO720.out) hb); have BK721 := Aside0.mk (hbox); have GW721 := gq_ hg (bq_ HB); have GE721 := gq_ hg (bq_ HB); replace HB := bp_ HB hb; have NB712_721 := nl_ hg BK712; have NB721_712 := ng_ hg BK712; replace BK712 := bk_ BK712 hb; clear hb hbox hg; have hnb23 := NB721_712.out; have hnc23 := NB712_721.out; have hcz24_0 := cz_ BK721; have hfz24_0 := blk_frozen BK721.out 0) | (go_at_call 22; (with_reducible refine (impl_IsSemigroup.calls k _ _ t717 false _ ?side1 ?side2 A8.out).mono ?_); (case side1 => refine (Kd.R_reads' (e := 3) (base := w.heap.size) (ok := fun k_ => True) (n := t717.length) (c := co21) ?_).2.2; exact (by (with_reducible repeat (first | apply Kd.R_alloc | apply Kd.R_drewN | apply Kd.R_drew)); exact (Kd.R_mono (Kd.R_far (p := ⟨gb721, 0, none⟩) (Kd.R_types HO720.out BK721.out (by decide)) (fun _ hk => hk.2) (.slice Ao21 t717.length co21)) (fun _ h_ => h_.1)))); (case side2 => exact (Kd.R_reads' HO720.out).2.1); rintro e w25 ⟨rfl, hb⟩; replace HO720 := Aside0.mk (Kd.R_below (by (with_reducible repeat (first | apply Kd.R_alloc | apply Kd.R_drewN | apply Kd.R_drew)); exact (Kd.R_mono (Kd.R_far (p := ⟨gb721, 0, none⟩) (Kd.R_types HO720.out BK721.out (by decide)) (fun _ hk => hk.2) (.slice Ao21 t717.length co21)) (fun _ h_ => h_.1))) hb); replace BK712 := Aside0.mk (blk_below (g := gb712) (o := .cells #[.slice none 0 0] 29 (0, 0)) (by (with_reducible repeat (first | refine blk_drewN ?_ _ | refine blk_drew ?_ | refine blk_alloc ?_ _)); refine blk_far ?_ NB712_721.out _; (with_reducible repeat (first | refine blk_drewN ?_ _ | refine blk_drew ?_ | refine blk_alloc ?_ _)); exact BK712.out) hb); replace BK721 := Aside0.mk (blk_below (g := gb721) (o := .cells #[.slice Ao21 t717.length co21] 29 (0, 0)) (by (with_reducible repeat (first | refine blk_drewN ?_ _ | refine blk_drew ?_ | refine blk_alloc ?_ _)); refine blk_put (cs := #[.slice none 0 0]) ?_ 0 _ rfl; (with_reducible repeat (first | refine blk_drewN ?_ _ | refine blk_drew ?_ | refine blk_alloc ?_ _)); exact BK721.out) hb); replace HB := bp_ HB hb; (try clear hb); have hcz26_0 := cz_ BK712; have hfz26_0 := blk_frozen BK712.out 0))
         refine bodyPost_ret (results_ct rfl _ _ gb712 29 #[.slice none 0 0] (0, 0) _ rfl (by (with_reducible repeat (first | refine blk_drewN ?_ _ | refine blk_drew ?_ | refine blk_alloc ?_ _)); refine blk_put (cs := #[.slice none 0 0]) ?_ 0 _ rfl; (with_reducible repeat (first | refine blk_drewN ?_ _ | refine blk_drew ?_ | refine blk_alloc ?_ _)); exact BK712.out) Tryz.underlying29 rfl (by kernel_rfl)) rfl ?_
         exact ⟨_, rf_, by first | exact Kd.R_nil _ _ _ _ _ | exact Kd.N_nil _ _ _ _ _ | exact Kd.V_nil _ _ _ _ _ | exact Kd.Q_nil _ _ _ _ _ | exact Kd.S_nil _ _ _ _ _, bq_ HB⟩
     · replace c7 := Bool.eq_false_iff.mpr c7
       subst c7
       rw [if_neg (show ¬ (false = true) by decide)] at H
       simp only [Option.some.injEq, Prod.mk.injEq] at H
       obtain ⟨rfl, rfl⟩ := H
       go_enter Tryz.func15, Tryz.ntmps15
       go_wp2_with (first | ((with_reducible refine gate_dst (N := 2) rfl ?_); refine bx_ 2 #[.slice none 0 0] 29 ?_; intro gb712 hg w27 hbox hb; have BK712 := Aside0.mk (hbox); have GW712 := gw_ hg HB; have GE712 := gw_ hg HB; replace HB := bo_ HB hb; clear hb hbox hg) | ((with_reducible refine gate_callee (f := 44) rfl ?_); refine gL_ (some 12) Tryz.func44 #[.string a0, .string (⟨#[60]⟩ : ByteArray)] ?_; (with_reducible refine (strings_CutPrefix.calls a0 (⟨#[60]⟩ : ByteArray) t713 true _ A2.out).mono ?_); rintro e w' ⟨rfl, ⟨nd, rfl⟩⟩; refine ⟨_, rfl, ?_⟩; (try (rw [drewN_self w27]; generalize hq_ : World.drewN w27 _ = w27; have n0_ : Aside0 (w27.heap[gb712]? = some (.cells #[.slice none 0 0] 29 (0, 0))) := ⟨by rw [← hq_]; exact (be_ BK712.out)⟩; have n1_ : Aside0 (Below w.heap.size w w27) := ⟨by rw [← hq_]; exact (bq_ HB)⟩; clear BK712 HB hq_; have BK712 := n0_; have HB := n1_; clear n0_ n1_))) | ((with_reducible refine gate_callee (f := 45) rfl ?_); refine gL_ (some 17) Tryz.func45 #[.string t713, .string (⟨#[62]⟩ : ByteArray)] ?_; (with_reducible refine (strings_CutSuffix.calls t713 (⟨#[62]⟩ : ByteArray) t715 true _ A3.out).mono ?_); rintro e w' ⟨rfl, ⟨nd, rfl⟩⟩; refine ⟨_, rfl, ?_⟩; (try (rw [drewN_self w27]; generalize hq_ : World.drewN w27 _ = w27; have n0_ : Aside0 (w27.heap[gb712]? = some (.cells #[.slice none 0 0] 29 (0, 0))) := ⟨by rw [← hq_]; exact (be_ BK712.out)⟩; have n1_ : Aside0 (Below w.heap.size w w27) := ⟨by rw [← hq_]; exact (bq_ HB)⟩; clear BK712 HB hq_; have BK712 := n0_; have HB := n1_; clear n0_ n1_))) | ((with_reducible refine gate_callee (f := 46) rfl ?_); refine gL_ (some 22) Tryz.func46 #[.string t715] ?_; (with_reducible refine (impl_ParseList.calls k t715 t717 false _ A4.out).mono ?_); rintro e w28 ⟨v719, rfl, ho0, hb⟩; refine ⟨_, rfl, ?_⟩; have HO720 := Aside0.mk (Kd.R_lower ho0 (below_size (bq_ HB))); replace BK712 := bk_ BK712 hb; replace HB := bp_ HB hb; (try clear hb); (try clear ho0); obtain ⟨Ao29, co29, eo29⟩ := Kd.R_slice HO720.out; subst eo29) | ((with_reducible refine gate_dst (N := 9) rfl ?_); refine bx_ 9 #[.slice none 0 0] 29 ?_; intro gb721 hg w30 hbox hb; replace HO720 := Aside0.mk (Kd.R_below (re_ HO720.out) hb); have BK721 := Aside0.mk (hbox); have GW721 := gq_ hg (bq_ HB); have GE721 := gq_ hg (bq_ HB); replace HB := bp_ HB hb; have NB712_721 := nl_ hg BK712; have NB721_712 := ng_ hg BK712; replace BK712 := bk_ BK712 hb; clear hb hbox hg; have hnb31 := NB721_712.out; have hnc31 := NB712_721.out; have hcz32_0 := cz_ BK721; have hfz32_0 := blk_frozen BK721.out 0; have hcz33_0 := cz_ BK712; have hfz33_0 := blk_frozen BK712.out 0))
       refine bodyPost_ret (results_ct rfl _ _ gb712 29 #[.slice none 0 0] (0, 0) _ rfl (by (with_reducible repeat (first | refine blk_drewN ?_ _ | refine blk_drew ?_ | refine blk_alloc ?_ _)); refine blk_put (cs := #[.slice none 0 0]) ?_ 0 _ rfl; (with_reducible repeat (first | refine blk_drewN ?_ _ | refine blk_drew ?_ | refine blk_alloc ?_ _)); refine blk_far ?_ NB712_721.out _; (with_reducible repeat (first | refine blk_drewN ?_ _ | refine blk_drew ?_ | refine blk_alloc ?_ _)); exact BK712.out) Tryz.underlying29 rfl (by kernel_rfl)) rfl ?_
       exact ⟨_, rf_, by first | exact Kd.R_nil _ _ _ _ _ | exact Kd.N_nil _ _ _ _ _ | exact Kd.V_nil _ _ _ _ _ | exact Kd.Q_nil _ _ _ _ _ | exact Kd.S_nil _ _ _ _ _, bq_ HB⟩
   · replace c6 := Bool.eq_false_iff.mpr c6
     subst c6
     rw [if_neg (show ¬ (false = true) by decide)] at H
     simp only [Option.some.injEq, Prod.mk.injEq] at H
     obtain ⟨rfl, rfl⟩ := H
     go_enter Tryz.func15, Tryz.ntmps15
     go_wp2_with (first | ((with_reducible refine gate_dst (N := 2) rfl ?_); refine bx_ 2 #[.slice none 0 0] 29 ?_; intro gb712 hg w34 hbox hb; have BK712 := Aside0.mk (hbox); have GW712 := gw_ hg HB; have GE712 := gw_ hg HB; replace HB := bo_ HB hb; clear hb hbox hg) | ((with_reducible refine gate_callee (f := 44) rfl ?_); refine gL_ (some 12) Tryz.func44 #[.string a0, .string (⟨#[60]⟩ : ByteArray)] ?_; (with_reducible refine (strings_CutPrefix.calls a0 (⟨#[60]⟩ : ByteArray) t713 true _ A2.out).mono ?_); rintro e w' ⟨rfl, ⟨nd, rfl⟩⟩; refine ⟨_, rfl, ?_⟩; (try (rw [drewN_self w34]; generalize hq_ : World.drewN w34 _ = w34; have n0_ : Aside0 (w34.heap[gb712]? = some (.cells #[.slice none 0 0] 29 (0, 0))) := ⟨by rw [← hq_]; exact (be_ BK712.out)⟩; have n1_ : Aside0 (Below w.heap.size w w34) := ⟨by rw [← hq_]; exact (bq_ HB)⟩; clear BK712 HB hq_; have BK712 := n0_; have HB := n1_; clear n0_ n1_))) | ((with_reducible refine gate_callee (f := 45) rfl ?_); refine gL_ (some 17) Tryz.func45 #[.string t713, .string (⟨#[62]⟩ : ByteArray)] ?_; (with_reducible refine (strings_CutSuffix.calls t713 (⟨#[62]⟩ : ByteArray) t715 false _ A3.out).mono ?_); rintro e w' ⟨rfl, ⟨nd, rfl⟩⟩; refine ⟨_, rfl, ?_⟩; (try (rw [drewN_self w34]; generalize hq_ : World.drewN w34 _ = w34; have n0_ : Aside0 (w34.heap[gb712]? = some (.cells #[.slice none 0 0] 29 (0, 0))) := ⟨by rw [← hq_]; exact (be_ BK712.out)⟩; have n1_ : Aside0 (Below w.heap.size w w34) := ⟨by rw [← hq_]; exact (bq_ HB)⟩; clear BK712 HB hq_; have BK712 := n0_; have HB := n1_; clear n0_ n1_))) | ((with_reducible refine gate_callee (f := 46) rfl ?_); refine gL_ (some 22) Tryz.func46 #[.string t715] ?_; (with_reducible refine (impl_ParseList.calls k t715 t717 t718 _ A4.out).mono ?_); rintro e w35 ⟨v719, rfl, ho0, hb⟩; refine ⟨_, rfl, ?_⟩; have HO720 := Aside0.mk (Kd.R_lower ho0 (below_size (bq_ HB))); replace BK712 := bk_ BK712 hb; replace HB := bp_ HB hb; (try clear hb); (try clear ho0); obtain ⟨Ao36, co36, eo36⟩ := Kd.R_slice HO720.out; subst eo36) | ((with_reducible refine gate_dst (N := 9) rfl ?_); refine bx_ 9 #[.slice none 0 0] 29 ?_; intro gb721 hg w37 hbox hb; replace HO720 := Aside0.mk (Kd.R_below (re_ HO720.out) hb); have BK721 := Aside0.mk (hbox); have GW721 := gq_ hg (bq_ HB); have GE721 := gq_ hg (bq_ HB); replace HB := bp_ HB hb; have NB712_721 := nl_ hg BK712; have NB721_712 := ng_ hg BK712; replace BK712 := bk_ BK712 hb; clear hb hbox hg; have hnb38 := NB721_712.out; have hnc38 := NB712_721.out; have hcz39_0 := cz_ BK721; have hfz39_0 := blk_frozen BK721.out 0; have hcz40_0 := cz_ BK712; have hfz40_0 := blk_frozen BK712.out 0))
     refine bodyPost_ret (results_ct rfl _ _ gb712 29 #[.slice none 0 0] (0, 0) _ rfl (by (with_reducible repeat (first | refine blk_drewN ?_ _ | refine blk_drew ?_ | refine blk_alloc ?_ _)); refine blk_put (cs := #[.slice none 0 0]) ?_ 0 _ rfl; (with_reducible repeat (first | refine blk_drewN ?_ _ | refine blk_drew ?_ | refine blk_alloc ?_ _)); refine blk_far ?_ NB712_721.out _; (with_reducible repeat (first | refine blk_drewN ?_ _ | refine blk_drew ?_ | refine blk_alloc ?_ _)); exact BK712.out) Tryz.underlying29 rfl (by kernel_rfl)) rfl ?_
     exact ⟨_, rf_, by first | exact Kd.R_nil _ _ _ _ _ | exact Kd.N_nil _ _ _ _ _ | exact Kd.V_nil _ _ _ _ _ | exact Kd.Q_nil _ _ _ _ _ | exact Kd.S_nil _ _ _ _ _, bq_ HB⟩
 · replace c5 := Bool.eq_false_iff.mpr c5
   subst c5
   rw [if_neg (show ¬ (false = true) by decide)] at H
   simp only [Option.some.injEq, Prod.mk.injEq] at H
   obtain ⟨rfl, rfl⟩ := H
   go_enter Tryz.func15, Tryz.ntmps15
   go_wp2_with (first | ((with_reducible refine gate_dst (N := 2) rfl ?_); refine bx_ 2 #[.slice none 0 0] 29 ?_; intro gb712 hg w41 hbox hb; have BK712 := Aside0.mk (hbox); have GW712 := gw_ hg HB; have GE712 := gw_ hg HB; replace HB := bo_ HB hb; clear hb hbox hg) | ((with_reducible refine gate_callee (f := 44) rfl ?_); refine gL_ (some 12) Tryz.func44 #[.string a0, .string (⟨#[60]⟩ : ByteArray)] ?_; (with_reducible refine (strings_CutPrefix.calls a0 (⟨#[60]⟩ : ByteArray) t713 false _ A2.out).mono ?_); rintro e w' ⟨rfl, ⟨nd, rfl⟩⟩; refine ⟨_, rfl, ?_⟩; (try (rw [drewN_self w41]; generalize hq_ : World.drewN w41 _ = w41; have n0_ : Aside0 (w41.heap[gb712]? = some (.cells #[.slice none 0 0] 29 (0, 0))) := ⟨by rw [← hq_]; exact (be_ BK712.out)⟩; have n1_ : Aside0 (Below w.heap.size w w41) := ⟨by rw [← hq_]; exact (bq_ HB)⟩; clear BK712 HB hq_; have BK712 := n0_; have HB := n1_; clear n0_ n1_))) | ((with_reducible refine gate_callee (f := 45) rfl ?_); refine gL_ (some 17) Tryz.func45 #[.string t713, .string (⟨#[62]⟩ : ByteArray)] ?_; (with_reducible refine (strings_CutSuffix.calls t713 (⟨#[62]⟩ : ByteArray) t715 t716 _ A3.out).mono ?_); rintro e w' ⟨rfl, ⟨nd, rfl⟩⟩; refine ⟨_, rfl, ?_⟩; (try (rw [drewN_self w41]; generalize hq_ : World.drewN w41 _ = w41; have n0_ : Aside0 (w41.heap[gb712]? = some (.cells #[.slice none 0 0] 29 (0, 0))) := ⟨by rw [← hq_]; exact (be_ BK712.out)⟩; have n1_ : Aside0 (Below w.heap.size w w41) := ⟨by rw [← hq_]; exact (bq_ HB)⟩; clear BK712 HB hq_; have BK712 := n0_; have HB := n1_; clear n0_ n1_))) | ((with_reducible refine gate_callee (f := 46) rfl ?_); refine gL_ (some 22) Tryz.func46 #[.string t715] ?_; (with_reducible refine (impl_ParseList.calls k t715 t717 t718 _ A4.out).mono ?_); rintro e w42 ⟨v719, rfl, ho0, hb⟩; refine ⟨_, rfl, ?_⟩; have HO720 := Aside0.mk (Kd.R_lower ho0 (below_size (bq_ HB))); replace BK712 := bk_ BK712 hb; replace HB := bp_ HB hb; (try clear hb); (try clear ho0); obtain ⟨Ao43, co43, eo43⟩ := Kd.R_slice HO720.out; subst eo43) | ((with_reducible refine gate_dst (N := 9) rfl ?_); refine bx_ 9 #[.slice none 0 0] 29 ?_; intro gb721 hg w44 hbox hb; replace HO720 := Aside0.mk (Kd.R_below (re_ HO720.out) hb); have BK721 := Aside0.mk (hbox); have GW721 := gq_ hg (bq_ HB); have GE721 := gq_ hg (bq_ HB); replace HB := bp_ HB hb; have NB712_721 := nl_ hg BK712; have NB721_712 := ng_ hg BK712; replace BK712 := bk_ BK712 hb; clear hb hbox hg; have hnb45 := NB721_712.out; have hnc45 := NB712_721.out; have hcz46_0 := cz_ BK721; have hfz46_0 := blk_frozen BK721.out 0; have hcz47_0 := cz_ BK712; have hfz47_0 := blk_frozen BK712.out 0))
   refine bodyPost_ret (results_ct rfl _ _ gb712 29 #[.slice none 0 0] (0, 0) _ rfl (by (with_reducible repeat (first | refine blk_drewN ?_ _ | refine blk_drew ?_ | refine blk_alloc ?_ _)); refine blk_put (cs := #[.slice none 0 0]) ?_ 0 _ rfl; (with_reducible repeat (first | refine blk_drewN ?_ _ | refine blk_drew ?_ | refine blk_alloc ?_ _)); refine blk_far ?_ NB712_721.out _; (with_reducible repeat (first | refine blk_drewN ?_ _ | refine blk_drew ?_ | refine blk_alloc ?_ _)); exact BK712.out) Tryz.underlying29 rfl (by kernel_rfl)) rfl ?_
   exact ⟨_, rf_, by first | exact Kd.R_nil _ _ _ _ _ | exact Kd.N_nil _ _ _ _ _ | exact Kd.V_nil _ _ _ _ _ | exact Kd.Q_nil _ _ _ _ _ | exact Kd.S_nil _ _ _ _ _, bq_ HB⟩
def impl_DescribeExample.f (k : Nat) (a0 : Int) : Option (ByteArray) := (impl_ExampleText.f a0).bind fun t723 => ((impl_ParseSemigroup.f k t723).bind fun bt724 => (if bt724.2 = true then ((impl_DescribeSemigroup.f k bt724.1).bind fun t729 => (some t729)) else (some (⟨#[]⟩ : ByteArray))))
theorem impl_DescribeExample.calls (k : Nat) (a0 : Int) (r : ByteArray) (w : World) (hT : Tab_ w) (h : impl_DescribeExample.f k a0 = some r) :
 Calls Tryz.prog 6 #[.int .i64 a0] w fun e w' => e = .returned (.string r) ∧ Below w.heap.size w w' := by
 have hTab := Aside0.mk hT
 clear hT
 have hu29 := Tryz.underlying29
 have HB := Aside0.mk (Below.refl w.heap.size w)
 have H := h
 clear h
 unfold impl_DescribeExample.f at H
 obtain ⟨t723, A2, H⟩ := ob_ H
 obtain ⟨⟨t724, t727⟩, A3, H⟩ := ob_ H
 (try dsimp only at H)
 by_cases c4 : t727 = true
 · subst c4
   rw [if_pos rfl] at H
   obtain ⟨t729, A5, H⟩ := ob_ H
   obtain rfl := Option.some.inj H
   go_enter Tryz.func6, Tryz.ntmps6
   go_wp2_with (first | ((with_reducible refine gate_callee (f := 11) rfl ?_); refine gL_ (some 7) Tryz.func11 #[.int .i64 a0] ?_; (with_reducible refine (impl_ExampleText.calls a0 t723 _ A2.out).mono ?_); rintro e w6 ⟨rfl, hb⟩; refine ⟨_, rfl, ?_⟩; replace HB := bo_ HB hb; (try clear hb)) | ((with_reducible refine gate_callee (f := 15) rfl ?_); refine gL_ (some 8) Tryz.func15 #[.string t723] ?_; (with_reducible refine (impl_ParseSemigroup.calls k t723 t724 true _ A3.out).mono ?_); rintro e w7 ⟨v725, rfl, ho0, hb⟩; refine ⟨_, rfl, ?_⟩; have HO726 := Aside0.mk (Kd.R_lower ho0 (below_size (bl_ HB.out))); replace HB := bo_ HB hb; (try clear hb); (try clear ho0)) | ((with_reducible refine gate_dst (N := 3) rfl ?_); refine bx_ 3 #[.slice none 0 0] 29 ?_; intro gb728 hg w8 hbox hb; replace HO726 := Aside0.mk (Kd.R_below (re_ HO726.out) hb); have BK728 := Aside0.mk (hbox); have GW728 := gw_ hg HB; have GE728 := gw_ hg HB; replace HB := bo_ HB hb; clear hb hbox hg; obtain ⟨Ao9, co9, eo9⟩ := Kd.R_slice HO726.out; subst eo9; have hcz10_0 := cz_ BK728; have hfz10_0 := blk_frozen BK728.out 0) | ((with_reducible refine gate_callee (f := 13) rfl ?_); refine gL_ (some 14) Tryz.func13 #[.agg #[.slice Ao9 t724.length co9]] ?_; (with_reducible refine (impl_DescribeSemigroup.calls k _ _ t724 t729 _ ?side1 ?side2 ?sideT A5.out).mono ?_); (case sideT => exact hTab.out.below (bq_ HB)); (case side1 => refine (Kd.R_reads' (e := 3) (base := w.heap.size) (ok := fun k_ => True) (n := t724.length) (c := co9) ?_).2.2; exact (by (with_reducible repeat (first | apply Kd.R_alloc | apply Kd.R_drewN | apply Kd.R_drew)); exact (Kd.R_mono (Kd.R_far (p := ⟨gb728, 0, none⟩) (Kd.R_types HO726.out BK728.out (by decide)) (fun _ hk => hk.2) (.slice Ao9 t724.length co9)) (fun _ h_ => h_.1)))); (case side2 => exact (Kd.R_reads' HO726.out).2.1); rintro e w11 ⟨rfl, hb⟩; refine ⟨_, rfl, ?_⟩; replace HO726 := Aside0.mk (Kd.R_below (by (with_reducible repeat (first | apply Kd.R_alloc | apply Kd.R_drewN | apply Kd.R_drew)); exact (Kd.R_mono (Kd.R_far (p := ⟨gb728, 0, none⟩) (Kd.R_types HO726.out BK728.out (by decide)) (fun _ hk => hk.2) (.slice Ao9 t724.length co9)) (fun _ h_ => h_.1))) hb); replace BK728 := Aside0.mk (blk_below (g := gb728) (o := .cells #[.slice Ao9 t724.length co9] 29 (0, 0)) (by (with_reducible repeat (first | refine blk_drewN ?_ _ | refine blk_drew ?_ | refine blk_alloc ?_ _)); refine blk_put (cs := #[.slice none 0 0]) ?_ 0 _ rfl; (with_reducible repeat (first | refine blk_drewN ?_ _ | refine blk_drew ?_ | refine blk_alloc ?_ _)); exact BK728.out) hb); replace HB := bp_ HB hb; (try clear hb)))
   go_ret
   exact ⟨rf_, bq_ HB⟩
 · replace c4 := Bool.eq_false_iff.mpr c4
   subst c4
   rw [if_neg (show ¬ (false = true) by decide)] at H
   obtain rfl := Option.some.inj H
   go_enter Tryz.func6, Tryz.ntmps6
   go_wp2_with (first | ((with_reducible refine gate_callee (f := 11) rfl ?_); refine gL_ (some 7) Tryz.func11 #[.int .i64 a0] ?_; (with_reducible refine (impl_ExampleText.calls a0 t723 _ A2.out).mono ?_); rintro e w12 ⟨rfl, hb⟩; refine ⟨_, rfl, ?_⟩; replace HB := bo_ HB hb; (try clear hb)) | ((with_reducible refine gate_callee (f := 15) rfl ?_); refine gL_ (some 8) Tryz.func15 #[.string t723] ?_; (with_reducible refine (impl_ParseSemigroup.calls k t723 t724 false _ A3.out).mono ?_); rintro e w13 ⟨v725, rfl, ho0, hb⟩; refine ⟨_, rfl, ?_⟩; have HO726 := Aside0.mk (Kd.R_lower ho0 (below_size (bl_ HB.out))); replace HB := bo_ HB hb; (try clear hb); (try clear ho0)) | ((with_reducible refine gate_dst (N := 3) rfl ?_); refine bx_ 3 #[.slice none 0 0] 29 ?_; intro gb728 hg w14 hbox hb; replace HO726 := Aside0.mk (Kd.R_below (re_ HO726.out) hb); have BK728 := Aside0.mk (hbox); have GW728 := gw_ hg HB; have GE728 := gw_ hg HB; replace HB := bo_ HB hb; clear hb hbox hg; obtain ⟨Ao15, co15, eo15⟩ := Kd.R_slice HO726.out; subst eo15; have hcz16_0 := cz_ BK728; have hfz16_0 := blk_frozen BK728.out 0))
   go_ret
   exact ⟨rf_, bq_ HB⟩
def laws_big.f (l0 : List Int) : Option (Bool) := some (decide ((l0.length : Int) > 1048576))
theorem laws_big.calls (A0 : Option Addr) (c0 : Nat) (l0 : List Int) (r : Bool) (w : World) (hr0 : Kd.C (Kd.int .u8) w A0 l0.length l0) (hc0 : l0.length ≤ c0) (h : laws_big.f l0 = some r) :
 Calls Tryz.prog 7 #[.slice A0 l0.length c0] w fun e w' => e = .returned (.bool r) ∧ Drawn0 w w' := by
 have HR0 := Aside0.mk hr0
 have HC0 := Aside0.mk hc0
 clear hr0 hc0
 have H := h
 clear h
 unfold laws_big.f at H
 obtain rfl := Option.some.inj H
 go_enter Tryz.func7, Tryz.ntmps7
 go_wp2
 go_ret
 exact ⟨by first | rfl | (simp; done) | (simp [*]; done), by repeat (first | exact Drawn0.refl _ | apply Drawn0.step)⟩
def IsS51 (w0 W : World) (g : Nat) (f0 : List Int) (f1 : Int) (f2 : Int) : Prop := ∃ A0 c0, W.heap[g]? = some (.cells #[.slice A0 f0.length c0, .int .i64 f1, .int .i64 f2] 51 (0, 0)) ∧ w0.heap.size ≤ g ∧ Kd.C (Kd.int .u8) w0 A0 f0.length f0
theorem IsS51.grown {w0 W : World} {g : Nat} {f0 : List Int} {f1 : Int} {f2 : Int} {W1 : World} {row : Option Nat} (h : IsS51 w0 W g f0 f1 f2) (hw : W.grownBy W1 row) (hne : some g ≠ row) : IsS51 w0 W1 g f0 f1 f2 := by
 obtain ⟨A0, c0, hb, hg, hr0⟩ := h
 exact ⟨A0, c0, blk_grown hb hw hne, hg, hr0⟩
theorem IsS51.kept {w0 W : World} {g : Nat} {f0 : List Int} {f1 : Int} {f2 : Int} {W1 : World} {S : Nat → Prop} (h : IsS51 w0 W g f0 f1 f2) (hk : Kept W W1 S) (hne : ¬ S g) : IsS51 w0 W1 g f0 f1 f2 := by
 obtain ⟨A0, c0, hb, hg, hr0⟩ := h
 exact ⟨A0, c0, blk_kept hb hk hne, hg, hr0⟩
theorem IsS51.below {w0 W : World} {g : Nat} {f0 : List Int} {f1 : Int} {f2 : Int} {W1 : World} (h : IsS51 w0 W g f0 f1 f2) (hw : Below W.heap.size W W1) : IsS51 w0 W1 g f0 f1 f2 := h.grown (grown_of_below hw none) (by simp)
theorem IsS51.alloc {w0 W : World} {g : Nat} {f0 : List Int} {f1 : Int} {f2 : Int} (h : IsS51 w0 W g f0 f1 f2) (o : Obj) : IsS51 w0 (W.alloc o) g f0 f1 f2 := h.below (below_alloc (Below.refl _ _) o)
theorem IsS51.drewN {w0 W : World} {g : Nat} {f0 : List Int} {f1 : Int} {f2 : Int} (h : IsS51 w0 W g f0 f1 f2) (m : Nat) : IsS51 w0 (W.drewN m) g f0 f1 f2 := h
theorem IsS51.drew {w0 W : World} {g : Nat} {f0 : List Int} {f1 : Int} {f2 : Int} (h : IsS51 w0 W g f0 f1 f2) : IsS51 w0 W.drew g f0 f1 f2 := h
theorem IsS51.at_ {w0 W : World} {g : Nat} {f0 : List Int} {f1 : Int} {f2 : Int} {w' : World} {m : Nat} (hq : W.drewN m = w') (h : IsS51 w0 W g f0 f1 f2) : IsS51 w0 w' g f0 f1 f2 := by subst hq; exact IsS51.drewN h m
theorem IsS51.apart {w0 W : World} {g : Nat} {f0 : List Int} {f1 : Int} {f2 : Int} {α : Type} {d : Kd α} {e : Nat} {base : Nat} {ok : Nat → Prop} {v : Value} {xs : List α} (h : IsS51 w0 W g f0 f1 f2) (ho : d.R e W base ok v xs) (ht : ∀ q, q ∈ e :: d.E → q ≠ 51) : d.R e W base (fun k => ok k ∧ k ≠ g) v xs := by
 obtain ⟨A0, c0, hb, hg, hr0⟩ := h
 exact Kd.R_types ho hb ht
theorem IsS51.own_ne {w0 W : World} {g : Nat} {f0 : List Int} {f1 : Int} {f2 : Int} {α : Type} {d : Kd α} {e : Nat} {base : Nat} {ok : Nat → Prop} {v : Value} {xs : List α} (h : IsS51 w0 W g f0 f1 f2) (ho : d.R e W base ok v xs) (ht : e ≠ 51) : some g ≠ v.ownBlock := by
 obtain ⟨A0, c0, hb, hg, hr0⟩ := h
 exact Kd.R_ne ho hb ht
theorem IsS51.lt {w0 W : World} {g : Nat} {f0 : List Int} {f1 : Int} {f2 : Int} (h : IsS51 w0 W g f0 f1 f2) : g < W.heap.size := by
 obtain ⟨A0, c0, hb, hg, hr0⟩ := h
 exact blk_lt hb
theorem IsS51.ge {w0 W : World} {g : Nat} {f0 : List Int} {f1 : Int} {f2 : Int} (h : IsS51 w0 W g f0 f1 f2) : w0.heap.size ≤ g := by
 obtain ⟨A0, c0, hb, hg, hr0⟩ := h
 exact hg
theorem IsS51.ne_blk {w0 W : World} {g : Nat} {f0 : List Int} {f1 : Int} {f2 : Int} {a : Nat} {cs : Array Value} {t : TypeId} {fr : Nat × Nat} (h : IsS51 w0 W g f0 f1 f2) (hb2 : W.heap[a]? = some (.cells cs t fr)) (ht : t ≠ 51) : g ≠ a := by
 obtain ⟨A0, c0, hb, hg, hr0⟩ := h
 rintro rfl
 rw [hb] at hb2
 injection hb2 with hb2
 injection hb2 with _ ht2
 exact ht ht2.symm
theorem IsS51.far {w0 W : World} {g : Nat} {f0 : List Int} {f1 : Int} {f2 : Int} {p : Addr} (h : IsS51 w0 W g f0 f1 f2) (hne : g ≠ p.block) (u : Value) : IsS51 w0 (W.setCell p u) g f0 f1 f2 := by
 obtain ⟨A0, c0, hb, hg, hr0⟩ := h
 exact ⟨A0, c0, blk_far hb hne u, hg, hr0⟩
theorem cellS51_0 {W : World} {g : Nat} {A0 : Option Addr} {c0 : Nat} {f0 : List Int} {f1 : Int} {f2 : Int} (h : W.heap[g]? = some (.cells #[.slice A0 f0.length c0, .int .i64 f1, .int .i64 f2] 51 (0, 0))) : W.cell? ⟨g, 0, none⟩ = some (.slice A0 f0.length c0) := (blk_cell h 0).trans rfl
theorem cellS51_1 {W : World} {g : Nat} {A0 : Option Addr} {c0 : Nat} {f0 : List Int} {f1 : Int} {f2 : Int} (h : W.heap[g]? = some (.cells #[.slice A0 f0.length c0, .int .i64 f1, .int .i64 f2] 51 (0, 0))) : W.cell? ⟨g, 1, none⟩ = some (.int .i64 f1) := (blk_cell h 1).trans rfl
theorem IsS51.set_1 {w0 W : World} {g : Nat} {f0 : List Int} {f1 : Int} {f2 : Int} (h : IsS51 w0 W g f0 f1 f2) (x : Int) : IsS51 w0 (W.setCell ⟨g, 1, none⟩ (.int .i64 x)) g f0 x f2 := by
 obtain ⟨A0, c0, hb, hg, hr0⟩ := h
 exact ⟨A0, c0, by simpa using blk_set hb 1 (.int .i64 x), hg, hr0⟩
theorem cellS51_2 {W : World} {g : Nat} {A0 : Option Addr} {c0 : Nat} {f0 : List Int} {f1 : Int} {f2 : Int} (h : W.heap[g]? = some (.cells #[.slice A0 f0.length c0, .int .i64 f1, .int .i64 f2] 51 (0, 0))) : W.cell? ⟨g, 2, none⟩ = some (.int .i64 f2) := (blk_cell h 2).trans rfl
theorem IsS51.set_2 {w0 W : World} {g : Nat} {f0 : List Int} {f1 : Int} {f2 : Int} (h : IsS51 w0 W g f0 f1 f2) (x : Int) : IsS51 w0 (W.setCell ⟨g, 2, none⟩ (.int .i64 x)) g f0 f1 x := by
 obtain ⟨A0, c0, hb, hg, hr0⟩ := h
 exact ⟨A0, c0, by simpa using blk_set hb 2 (.int .i64 x), hg, hr0⟩
theorem IsS51.q_ {w0 W W' : World} {g : Nat} {f0 : List Int} {f1 : Int} {f2 : Int} {f0' : List Int} {f1' : Int} {f2' : Int} (h : Aside0 (IsS51 w0 W g f0 f1 f2)) (k : IsS51 w0 W g f0 f1 f2 → IsS51 w0 W' g f0' f1' f2' := by intro h_; repeat (first | (with_reducible first | exact h_ | apply IsS51.alloc | apply IsS51.drew | apply IsS51.drewN | apply IsS51.set_1 | apply IsS51.set_2 | refine IsS51.far ?_ (Aside0.out (by assumption)) _) | exact h_)) : IsS51 w0 W' g f0' f1' f2' := k h.out
def spec_l1Byte.f (s0_0 : List Int) (s0_1 : Int) (s0_2 : Int) : Option (Int × Int × Int) := if s0_1 < (s0_0.length : Int) then (if 0 ≤ s0_1 then (some (Go.bits .and .i64 (wrap64 ((Go.bits .and .i64 (Go.bits .xor .i64 ((wrap64 ((wrap64 (s0_2 * 6364136223846793005)) + 1442695040888963407)) / 8589934592) ((wrap64 ((wrap64 (s0_2 * 6364136223846793005)) + 1442695040888963407)) / 35184372088832)) 255) + (wrap64 (rd s0_0 s0_1)))) 255, wrap64 (s0_1 + 1), wrap64 ((wrap64 (s0_2 * 6364136223846793005)) + 1442695040888963407))) else (none)) else (some (Go.bits .and .i64 (Go.bits .xor .i64 ((wrap64 ((wrap64 (s0_2 * 6364136223846793005)) + 1442695040888963407)) / 8589934592) ((wrap64 ((wrap64 (s0_2 * 6364136223846793005)) + 1442695040888963407)) / 35184372088832)) 255, s0_1, wrap64 ((wrap64 (s0_2 * 6364136223846793005)) + 1442695040888963407)))
theorem spec_l1Byte.calls (g : Nat) (s0_0 : List Int) (s0_1 : Int) (s0_2 : Int) (r1 : Int) (r2 : Int) (r3 : Int) (w0 w : World) (hI : IsS51 w0 w g s0_0 s0_1 s0_2) (hB : Below w0.heap.size w0 w) (h : spec_l1Byte.f s0_0 s0_1 s0_2 = some (r1, r2, r3)) :
 Calls Tryz.prog 47 #[.pointer (some ⟨g, 0, none⟩)] w fun e w' => e = .returned (.int .i64 r1) ∧ IsS51 w0 w' g s0_0 r2 r3 ∧ Below w0.heap.size w0 w' ∧ KeepBut w w' g none := by
 have HI0 := Aside0.mk hI
 have HK := Aside0.mk (KeepBut.refl w g none)
 have HL := Aside0.mk hB.size
 clear hI
 have HW0 := Aside0.mk hB.size
 have HB := Aside0.mk hB
 clear hB
 have H := h
 clear h
 unfold spec_l1Byte.f at H
 by_cases c2 : s0_1 < (s0_0.length : Int)
 · rw [if_pos c2] at H
   have c2b0 : decide (s0_1 < (s0_0.length : Int)) = true := decide_eq_true c2
   clear c2
   by_cases c3 : 0 ≤ s0_1
   · rw [if_pos c3] at H
     have c3b0 : decide (0 ≤ s0_1) = true := decide_eq_true c3
     clear c3
     simp only [Option.some.injEq, Prod.mk.injEq] at H
     obtain ⟨rfl, rfl, rfl⟩ := H
     obtain ⟨ASz4_0, cSz4_0, HGz4, hgz4, HSz4_0⟩ := HI0.out
     have hcz4_0 := cellS51_0 HGz4
     have hcz4_1 := cellS51_1 HGz4
     have hcz4_2 := cellS51_2 HGz4
     have hfz4_1 := blk_frozen HGz4 1
     have hfz4_2 := blk_frozen HGz4 2
     clear HGz4 hgz4
     have p730 : 0 ≤ (s0_1 : Int) := od_
     have q730 : s0_1 < (s0_0.length : Int) := od_
     obtain ⟨ad730, e730, hx730_0⟩ := Kd.at_int HSz4_0 s0_1 p730 q730
     cases e730
     have hn730_0 : ad730.block ≠ g := Nat.ne_of_lt (Nat.lt_of_lt_of_le (by have := World.block_lt_of_cell? _ _ hx730_0; first | rwa [add_block] at this | exact this) (IsS51.ge HI0.out))
     replace hx730_0 := pw_cell_below HB.out hx730_0
     replace hx730_0 := (cell_far (p := ⟨g, 2, none⟩) (by first | (rw [add_block]; exact hn730_0) | (show (Addr.add _ _).block ≠ _; rw [add_block]; exact hn730_0) | exact hn730_0) (.int .i64 (wrap64 ((wrap64 (s0_2 * 6364136223846793005)) + 1442695040888963407)))).trans hx730_0
     (try have hy730_0 := fun (n_ : Nat) => (show (((w.drewN n_).setCell ⟨g, 2, none⟩ (.int .i64 (wrap64 ((wrap64 (s0_2 * 6364136223846793005)) + 1442695040888963407))))).cell? _ = some _ from hx730_0))
     clear hn730_0
     replace p730 := eq_true p730
     replace q730 := eq_true q730
     go_enter Tryz.func47, Tryz.ntmps47
     go_wp2
     repeat (go_quiet (fail); try go_wp2)
     go_ret
     exact ⟨rf_, IsS51.q_ HI0, bi_ HB (IsS51.ge HI0.out), kq_ HK⟩
   · rw [if_neg c3] at H
     cases H
 · rw [if_neg c2] at H
   have c2b0 : decide (s0_1 < (s0_0.length : Int)) = false := decide_eq_false c2
   clear c2
   simp only [Option.some.injEq, Prod.mk.injEq] at H
   obtain ⟨rfl, rfl, rfl⟩ := H
   obtain ⟨ASz5_0, cSz5_0, HGz5, hgz5, HSz5_0⟩ := HI0.out
   have hcz5_0 := cellS51_0 HGz5
   have hcz5_1 := cellS51_1 HGz5
   have hcz5_2 := cellS51_2 HGz5
   have hfz5_1 := blk_frozen HGz5 1
   have hfz5_2 := blk_frozen HGz5 2
   clear HGz5 hgz5
   go_enter Tryz.func47, Tryz.ntmps47
   go_wp2
   repeat (go_quiet (fail); try go_wp2)
   go_ret
   exact ⟨rf_, IsS51.q_ HI0, bi_ HB (IsS51.ge HI0.out), kq_ HK⟩
def spec_l1Below.f (s0_0 : List Int) (s0_1 : Int) (s0_2 : Int) (a1 : Int) : Option (Int × Int × Int) := if a1 ≤ 0 then (some (0, s0_1, s0_2)) else (if a1 ≤ 256 then ((spec_l1Byte.f s0_0 s0_1 s0_2).bind fun bt731 => (if a1 = 0 then (none) else (some (Int.tmod bt731.1 a1, bt731.2.1, bt731.2.2)))) else ((spec_l1Byte.f s0_0 s0_1 s0_2).bind fun bt734 => ((spec_l1Byte.f s0_0 bt734.2.1 bt734.2.2).bind fun bt737 => ((spec_l1Byte.f s0_0 bt737.2.1 bt737.2.2).bind fun bt740 => ((spec_l1Byte.f s0_0 bt740.2.1 bt740.2.2).bind fun bt743 => (if a1 = 0 then (none) else (some (Int.tmod (wrap64 ((wrap64 ((wrap64 ((wrap64 (bt734.1 * 16777216)) + (wrap64 (bt737.1 * 65536)))) + (wrap64 (bt740.1 * 256)))) + bt743.1)) a1, bt743.2.1, bt743.2.2))))))))
theorem spec_l1Below.calls (g : Nat) (s0_0 : List Int) (s0_1 : Int) (s0_2 : Int) (a1 : Int) (r1 : Int) (r2 : Int) (r3 : Int) (w0 w : World) (hI : IsS51 w0 w g s0_0 s0_1 s0_2) (hB : Below w0.heap.size w0 w) (h : spec_l1Below.f s0_0 s0_1 s0_2 a1 = some (r1, r2, r3)) :
 Calls Tryz.prog 16 #[.pointer (some ⟨g, 0, none⟩), .int .i64 a1] w fun e w' => e = .returned (.int .i64 r1) ∧ IsS51 w0 w' g s0_0 r2 r3 ∧ Below w0.heap.size w0 w' ∧ KeepBut w w' g none := by
 have HI0 := Aside0.mk hI
 have HK := Aside0.mk (KeepBut.refl w g none)
 have HL := Aside0.mk hB.size
 clear hI
 have HW0 := Aside0.mk hB.size
 have HB := Aside0.mk hB
 clear hB
 have H := h
 clear h
 unfold spec_l1Below.f at H
 by_cases c3 : a1 ≤ 0
 · rw [if_pos c3] at H
   have c3b0 : decide (a1 ≤ 0) = true := decide_eq_true c3
   clear c3
   simp only [Option.some.injEq, Prod.mk.injEq] at H
   obtain ⟨rfl, rfl, rfl⟩ := H
   go_enter Tryz.func16, Tryz.ntmps16
   go_wp2
   go_ret
   exact ⟨rf_, IsS51.q_ HI0, bi_ HB (IsS51.ge HI0.out), kq_ HK⟩
 · rw [if_neg c3] at H
   have c3b0 : decide (a1 ≤ 0) = false := decide_eq_false c3
   clear c3
   by_cases c4 : a1 ≤ 256
   · rw [if_pos c4] at H
     have c4b0 : decide (a1 ≤ 256) = true := decide_eq_true c4
     clear c4
     obtain ⟨⟨t731, t732, t733⟩, A5, H⟩ := ob_ H
     (try dsimp only at H)
     by_cases c6 : a1 = 0
     · rw [if_pos c6] at H
       cases H
     · rw [if_neg c6] at H
       have c6b0 : (a1 == 0) = false := beq_eq_false_iff_ne.mpr c6
       have c6b1 : (a1 != 0) = true := bne_iff_ne.mpr c6
       simp only [Option.some.injEq, Prod.mk.injEq] at H
       obtain ⟨rfl, rfl, rfl⟩ := H
       go_enter Tryz.func16, Tryz.ntmps16
       go_wp2_with (first | ((with_reducible refine gate_callee (f := 47) rfl ?_); refine gL_ (some 14) Tryz.func47 #[.pointer (some ⟨g, 0, none⟩)] ?_; (with_reducible refine (spec_l1Byte.calls g s0_0 s0_1 s0_2 t731 t732 t733 w0 _ ?side1 ?side2 A5.out).mono ?_); (case side1 => exact IsS51.q_ HI0); (case side2 => exact bi_ HB (IsS51.ge HI0.out)); rintro e w7 ⟨rfl, hi, hb, hk⟩; refine ⟨_, rfl, ?_⟩; replace HK := Aside0.mk (KeepBut.trans (kq_ HK) hk (.inl rfl)); replace HB := Aside0.mk (hb); replace HI0 := Aside0.mk (hi); (try clear hb); (try clear hk); (try clear hi)))
       go_ret
       exact ⟨rf_, IsS51.q_ HI0, bi_ HB (IsS51.ge HI0.out), kq_ HK⟩
   · rw [if_neg c4] at H
     have c4b0 : decide (a1 ≤ 256) = false := decide_eq_false c4
     clear c4
     obtain ⟨⟨t734, t735, t736⟩, A8, H⟩ := ob_ H
     (try dsimp only at H)
     obtain ⟨⟨t737, t738, t739⟩, A9, H⟩ := ob_ H
     (try dsimp only at H)
     obtain ⟨⟨t740, t741, t742⟩, A10, H⟩ := ob_ H
     (try dsimp only at H)
     obtain ⟨⟨t743, t744, t745⟩, A11, H⟩ := ob_ H
     (try dsimp only at H)
     by_cases c12 : a1 = 0
     · rw [if_pos c12] at H
       cases H
     · rw [if_neg c12] at H
       have c12b0 : (a1 == 0) = false := beq_eq_false_iff_ne.mpr c12
       have c12b1 : (a1 != 0) = true := bne_iff_ne.mpr c12
       simp only [Option.some.injEq, Prod.mk.injEq] at H
       obtain ⟨rfl, rfl, rfl⟩ := H
       go_enter Tryz.func16, Tryz.ntmps16
       go_wp2_with (first | ((with_reducible refine gate_callee (f := 47) rfl ?_); refine gL_ (some 18) Tryz.func47 #[.pointer (some ⟨g, 0, none⟩)] ?_; (with_reducible refine (spec_l1Byte.calls g s0_0 s0_1 s0_2 t734 t735 t736 w0 _ ?side1 ?side2 A8.out).mono ?_); (case side1 => exact IsS51.q_ HI0); (case side2 => exact bi_ HB (IsS51.ge HI0.out)); rintro e w13 ⟨rfl, hi, hb, hk⟩; refine ⟨_, rfl, ?_⟩; replace HK := Aside0.mk (KeepBut.trans (kq_ HK) hk (.inl rfl)); replace HB := Aside0.mk (hb); replace HI0 := Aside0.mk (hi); (try clear hb); (try clear hk); (try clear hi)) | ((with_reducible refine gate_callee (f := 47) rfl ?_); refine gL_ (some 20) Tryz.func47 #[.pointer (some ⟨g, 0, none⟩)] ?_; (with_reducible refine (spec_l1Byte.calls g s0_0 t735 t736 t737 t738 t739 w0 _ ?side1 ?side2 A9.out).mono ?_); (case side1 => exact IsS51.q_ HI0); (case side2 => exact bi_ HB (IsS51.ge HI0.out)); rintro e w14 ⟨rfl, hi, hb, hk⟩; refine ⟨_, rfl, ?_⟩; replace HK := Aside0.mk (KeepBut.trans (kq_ HK) hk (.inl rfl)); replace HB := Aside0.mk (hb); replace HI0 := Aside0.mk (hi); (try clear hb); (try clear hk); (try clear hi)) | ((with_reducible refine gate_callee (f := 47) rfl ?_); refine gL_ (some 22) Tryz.func47 #[.pointer (some ⟨g, 0, none⟩)] ?_; (with_reducible refine (spec_l1Byte.calls g s0_0 t738 t739 t740 t741 t742 w0 _ ?side1 ?side2 A10.out).mono ?_); (case side1 => exact IsS51.q_ HI0); (case side2 => exact bi_ HB (IsS51.ge HI0.out)); rintro e w15 ⟨rfl, hi, hb, hk⟩; refine ⟨_, rfl, ?_⟩; replace HK := Aside0.mk (KeepBut.trans (kq_ HK) hk (.inl rfl)); replace HB := Aside0.mk (hb); replace HI0 := Aside0.mk (hi); (try clear hb); (try clear hk); (try clear hi)) | ((with_reducible refine gate_callee (f := 47) rfl ?_); refine gL_ (some 24) Tryz.func47 #[.pointer (some ⟨g, 0, none⟩)] ?_; (with_reducible refine (spec_l1Byte.calls g s0_0 t741 t742 t743 t744 t745 w0 _ ?side1 ?side2 A11.out).mono ?_); (case side1 => exact IsS51.q_ HI0); (case side2 => exact bi_ HB (IsS51.ge HI0.out)); rintro e w16 ⟨rfl, hi, hb, hk⟩; refine ⟨_, rfl, ?_⟩; replace HK := Aside0.mk (KeepBut.trans (kq_ HK) hk (.inl rfl)); replace HB := Aside0.mk (hb); replace HI0 := Aside0.mk (hi); (try clear hb); (try clear hk); (try clear hi)))
       go_ret
       exact ⟨rf_, IsS51.q_ HI0, bi_ HB (IsS51.ge HI0.out), kq_ HK⟩
def spec_l1New.l0 : Nat → List Int → Int → Int → Option (List Int × Int × Int)
 | 0, _, _, _ => none
 | k + 1, x0, x3, x4 => if x4 < (x0.length : Int) then (if x4 < 4000 then (if 0 ≤ x4 then (spec_l1New.l0 k x0 (Go.bits .and .i64 (wrap64 ((wrap64 ((wrap64 (x3 * 131)) + (wrap64 (rd x0 x4)))) + 7)) 1073741823) (wrap64 (x4 + 1))) else (none)) else (some (x0, 0, x3))) else (some (x0, 0, x3))
def spec_l1New.f (k : Nat) (l0 : List Int) : Option (List Int × Int × Int) := spec_l1New.l0 k l0 (wrap64 (26583 + (l0.length : Int))) 0
theorem spec_l1New.calls (k : Nat) (A0 : Option Addr) (c0 : Nat) (l0 : List Int) (r1 : List Int) (r2 : Int) (r3 : Int) (w0 w : World) (hB : Below w0.heap.size w0 w) (hr0 : Kd.C (Kd.int .u8) w0 A0 l0.length l0) (hc0 : l0.length ≤ c0) (h : spec_l1New.f k l0 = some (r1, r2, r3)) :
 Calls Tryz.prog 17 #[.slice A0 l0.length c0] w fun e w' => ∃ g_ : Nat, e = .returned (.pointer (some ⟨g_, 0, none⟩)) ∧ IsS51 w0 w' g_ r1 r2 r3 ∧ Below w0.heap.size w0 w' ∧ Below w.heap.size w w' := by
 have hu51 := Tryz.underlying51
 have HR0 := Aside0.mk hr0
 have HC0 := Aside0.mk hc0
 clear hr0 hc0
 have HBW := Aside0.mk (Below.refl w.heap.size w)
 have HW0 := Aside0.mk hB.size
 have HB := Aside0.mk hB
 clear hB
 have H := h
 clear h
 unfold spec_l1New.f at H
 have H' := Aside0.mk H
 clear H
 go_enter Tryz.func17, Tryz.ntmps17
 go_wp2
 go_loopg [3, 4] k (fun kq v3 v4 w' => ∃ (x3_1 : Int) (x4_1 : Int), v3 = .int .i64 x3_1 ∧ v4 = .int .i64 x4_1 ∧ Aside0 (spec_l1New.l0 kq l0 x3_1 x4_1 = some (r1, r2, r3)) ∧ Aside0 (kq ≤ k) ∧ Aside0 (Below w0.heap.size w0 w') ∧ Aside0 (Below w.heap.size w w'))
 case atStart => exact ⟨(wrap64 (26583 + (l0.length : Int))), (0), rs_, rs_, H', ⟨Nat.le_refl _⟩, ⟨bl_ HB.out⟩, HBW⟩
 case round =>
  clear H'
  clear HBW
  try clear c1
  obtain ⟨x3_1, x4_1, rfl, rfl, HA, HK1, HB, HBW⟩ := hrel
  cases gk with
  | zero => exact absurd HA.out (by simp [spec_l1New.l0])
  | succ k1 =>
   have H := HA.out
   clear HA
   simp only [spec_l1New.l0] at H
   by_cases c2 : x4_1 < (l0.length : Int)
   · rw [if_pos c2] at H
     have c2b0 : decide (x4_1 < (l0.length : Int)) = true := decide_eq_true c2
     clear c2
     by_cases c3 : x4_1 < 4000
     · rw [if_pos c3] at H
       have c3b0 : decide (x4_1 < 4000) = true := decide_eq_true c3
       clear c3
       by_cases c4 : 0 ≤ x4_1
       · rw [if_pos c4] at H
         have c4b0 : decide (0 ≤ x4_1) = true := decide_eq_true c4
         clear c4
         have H' := Aside0.mk H
         clear H
         have p746 : 0 ≤ (x4_1 : Int) := od_
         have q746 : x4_1 < (l0.length : Int) := od_
         obtain ⟨ad746, e746, hx746_0⟩ := Kd.at_int HR0.out x4_1 p746 q746
         cases e746
         replace hx746_0 := pw_cell_below HB.out hx746_0
         replace p746 := eq_true p746
         replace q746 := eq_true q746
         go_wp2
         go_roundg k1
         case measure => have := HK1.out; omega
         case rel => exact ⟨(Go.bits .and .i64 (wrap64 ((wrap64 ((wrap64 (x3_1 * 131)) + (wrap64 (rd l0 x4_1)))) + 7)) 1073741823), (wrap64 (x4_1 + 1)), rs_, rs_, H', ⟨by have := HK1.out; omega⟩, ⟨bl_ HB.out⟩, ⟨bl_ HBW.out⟩⟩
       · rw [if_neg c4] at H
         cases H
     · rw [if_neg c3] at H
       have c3b0 : decide (x4_1 < 4000) = false := decide_eq_false c3
       clear c3
       simp only [Option.some.injEq, Prod.mk.injEq] at H
       obtain ⟨rfl, rfl, rfl⟩ := H
       go_wp2_with (first | ((with_reducible refine gate_dst (N := 31) rfl ?_); refine bx_ 31 #[.slice A0 l0.length c0, .int .i64 0, .int .i64 x3_1] 51 ?_; intro gb747 hg w5 hbox hb; replace HB := bo_ HB hb; have BK747 := Aside0.mk (hbox); have GW747 := gw_ hg HBW; have GE747 := Aside0.mk ((Nat.le_trans HW0.out (by rw [hg]; exact (below_size (bl_ HBW.out)) : w.heap.size ≤ gb747) : w0.heap.size ≤ gb747)); replace HBW := Aside0.mk (below_step HBW.out hb); clear hb hbox hg))
       go_ret
       exact ⟨_, rfl, (show IsS51 w0 _ gb747 l0 0 x3_1 from ⟨_, _, be_ BK747.out, GE747.out, HR0.out⟩), bq_ HB, bq_ HBW⟩
   · rw [if_neg c2] at H
     have c2b0 : decide (x4_1 < (l0.length : Int)) = false := decide_eq_false c2
     clear c2
     simp only [Option.some.injEq, Prod.mk.injEq] at H
     obtain ⟨rfl, rfl, rfl⟩ := H
     go_wp2_with (first | ((with_reducible refine gate_dst (N := 31) rfl ?_); refine bx_ 31 #[.slice A0 l0.length c0, .int .i64 0, .int .i64 x3_1] 51 ?_; intro gb748 hg w6 hbox hb; replace HB := bo_ HB hb; have BK748 := Aside0.mk (hbox); have GW748 := gw_ hg HBW; have GE748 := Aside0.mk ((Nat.le_trans HW0.out (by rw [hg]; exact (below_size (bl_ HBW.out)) : w.heap.size ≤ gb748) : w0.heap.size ≤ gb748)); replace HBW := Aside0.mk (below_step HBW.out hb); clear hb hbox hg))
     go_ret
     exact ⟨_, rfl, (show IsS51 w0 _ gb748 l0 0 x3_1 from ⟨_, _, be_ BK748.out, GE748.out, HR0.out⟩), bq_ HB, bq_ HBW⟩
def spec_DrawDescribeExample.f (k : Nat) (l0 : List Int) : Option (Int) := (spec_l1New.f k l0).bind fun bt749 => ((spec_l1Below.f bt749.1 bt749.2.1 bt749.2.2 9).bind fun bt753 => (some (wrap64 (bt753.1 - 1))))
theorem spec_DrawDescribeExample.calls (k : Nat) (A0 : Option Addr) (c0 : Nat) (l0 : List Int) (r : Int) (w : World) (hr0 : Kd.C (Kd.int .u8) w A0 l0.length l0) (hc0 : l0.length ≤ c0) (h : spec_DrawDescribeExample.f k l0 = some r) :
 Calls Tryz.prog 8 #[.slice A0 l0.length c0] w fun e w' => e = .returned (.int .i64 r) ∧ Below w.heap.size w w' := by
 have HR0 := Aside0.mk hr0
 have HC0 := Aside0.mk hc0
 clear hr0 hc0
 have HB := Aside0.mk (Below.refl w.heap.size w)
 have H := h
 clear h
 unfold spec_DrawDescribeExample.f at H
 obtain ⟨⟨t749, t750, t751⟩, A2, H⟩ := ob_ H
 (try dsimp only at H)
 obtain ⟨⟨t753, t754, t755⟩, A3, H⟩ := ob_ H
 (try dsimp only at H)
 obtain rfl := Option.some.inj H
 go_enter Tryz.func8, Tryz.ntmps8
 go_wp2_with (first | ((with_reducible refine gate_callee (f := 17) rfl ?_); refine gL_ (some 4) Tryz.func17 #[.slice A0 l0.length c0] ?_; (with_reducible refine (spec_l1New.calls k _ _ l0 t749 t750 t751 w _ ?side1 ?side2 ?side3 A2.out).mono ?_); (case side1 => exact bq_ HB); (case side2 => exact HR0.out); (case side3 => exact HC0.out); rintro e w4 ⟨g752, rfl, hi, hb, hb2⟩; refine ⟨_, rfl, ?_⟩; replace HB := Aside0.mk (hb); have HI752 := Aside0.mk (hi); (try clear hb); (try clear hb2); (try clear hi)) | ((with_reducible refine gate_callee (f := 16) rfl ?_); refine gL_ (some 5) Tryz.func16 #[.pointer (some ⟨g752, 0, none⟩), .int .i64 9] ?_; (with_reducible refine (spec_l1Below.calls g752 t749 t750 t751 9 t753 t754 t755 w _ ?side1 ?side2 A3.out).mono ?_); (case side1 => exact IsS51.q_ HI752); (case side2 => exact bi_ HB (IsS51.ge HI752.out)); rintro e w5 ⟨rfl, hi, hb, hk⟩; refine ⟨_, rfl, ?_⟩; replace HB := Aside0.mk (hb); replace HI752 := Aside0.mk (hi); (try clear hb); (try clear hk); (try clear hi)))
 go_ret
 exact ⟨rf_, bi_ HB (IsS51.ge HI752.out)⟩
def spec_l1Once.f (s0_0 : List Int) (s0_1 : Int) (s0_2 : Int) (a1 : Int) : Option (Bool × Int × Int) := (spec_l1Below.f s0_0 s0_1 s0_2 a1).bind fun bt756 => (some ((bt756.1 == 0), bt756.2.1, bt756.2.2))
theorem spec_l1Once.calls (g : Nat) (s0_0 : List Int) (s0_1 : Int) (s0_2 : Int) (a1 : Int) (r1 : Bool) (r2 : Int) (r3 : Int) (w0 w : World) (hI : IsS51 w0 w g s0_0 s0_1 s0_2) (hB : Below w0.heap.size w0 w) (h : spec_l1Once.f s0_0 s0_1 s0_2 a1 = some (r1, r2, r3)) :
 Calls Tryz.prog 88 #[.pointer (some ⟨g, 0, none⟩), .int .i64 a1] w fun e w' => e = .returned (.bool r1) ∧ IsS51 w0 w' g s0_0 r2 r3 ∧ Below w0.heap.size w0 w' ∧ KeepBut w w' g none := by
 have HI0 := Aside0.mk hI
 have HK := Aside0.mk (KeepBut.refl w g none)
 have HL := Aside0.mk hB.size
 clear hI
 have HW0 := Aside0.mk hB.size
 have HB := Aside0.mk hB
 clear hB
 have H := h
 clear h
 unfold spec_l1Once.f at H
 obtain ⟨⟨t756, t757, t758⟩, A3, H⟩ := ob_ H
 (try dsimp only at H)
 simp only [Option.some.injEq, Prod.mk.injEq] at H
 obtain ⟨rfl, rfl, rfl⟩ := H
 go_enter Tryz.func88, Tryz.ntmps88
 go_wp2_with (first | ((with_reducible refine gate_callee (f := 16) rfl ?_); refine gL_ (some 7) Tryz.func16 #[.pointer (some ⟨g, 0, none⟩), .int .i64 a1] ?_; (with_reducible refine (spec_l1Below.calls g s0_0 s0_1 s0_2 a1 t756 t757 t758 w0 _ ?side1 ?side2 A3.out).mono ?_); (case side1 => exact IsS51.q_ HI0); (case side2 => exact bi_ HB (IsS51.ge HI0.out)); rintro e w4 ⟨rfl, hi, hb, hk⟩; refine ⟨_, rfl, ?_⟩; replace HK := Aside0.mk (KeepBut.trans (kq_ HK) hk (.inl rfl)); replace HB := Aside0.mk (hb); replace HI0 := Aside0.mk (hi); (try clear hb); (try clear hk); (try clear hi)))
 go_ret
 exact ⟨rf_, IsS51.q_ HI0, bi_ HB (IsS51.ge HI0.out), kq_ HK⟩
def spec_FromGens.f (k : Nat) (l0 : List Int) : Option (List Int × Bool) := (spec_l3Gens.f k l0).bind fun t760 => (if t760 = true then ((spec_l3Minimal.f k l0).bind fun t761 => ((spec_IsSemigroup.f k t761).bind fun t765 => (if t765 = true then (some (t761, true)) else (some (([] : List Int), false))))) else (some (([] : List Int), false)))
theorem spec_FromGens.mono : ∀ a0 k, LeO (spec_FromGens.f k a0) (spec_FromGens.f (k + 1) a0) := by
 intro a0 k
 unfold spec_FromGens.f
 repeat' first
  | (with_reducible exact spec_IsSemigroup.mono _ _)
  | (with_reducible exact spec_l3Gens.mono _ _)
  | (with_reducible exact spec_l3Minimal.mono _ _)
  | (with_reducible exact LeO.refl _)
  | (with_reducible exact LeO.none _)
  | (with_reducible refine LeO.ite ?_ ?_)
  | (with_reducible refine LeO.bind ?_ (fun _ => ?_))
  | exact LeO.none _
  | refine LeO.ite ?_ ?_
  | refine LeO.bind ?_ (fun _ => ?_)
theorem spec_FromGens.calls (k : Nat) (A0 : Option Addr) (c0 : Nat) (l0 : List Int) (r1 : List Int) (r2 : Bool) (w : World) (hr0 : Kd.C (Kd.int .i64) w A0 l0.length l0) (hc0 : l0.length ≤ c0) (h : spec_FromGens.f k l0 = some (r1, r2)) :
 Calls Tryz.prog 89 #[.slice A0 l0.length c0] w fun e w' => ∃ v0_ : Value, e = .returned (.tuple #[.agg #[v0_], .bool r2]) ∧ Kd.R (Kd.int .i64) 3 w' w.heap.size (fun _ => True) v0_ r1 ∧ Below w.heap.size w w' := by
 have hu29 := Tryz.underlying29
 have HR0 := Aside0.mk hr0
 have HC0 := Aside0.mk hc0
 clear hr0 hc0
 have HB := Aside0.mk (Below.refl w.heap.size w)
 have H := h
 clear h
 unfold spec_FromGens.f at H
 obtain ⟨t760, A2, H⟩ := ob_ H
 by_cases c3 : t760 = true
 · subst c3
   rw [if_pos rfl] at H
   obtain ⟨t761, A4, H⟩ := ob_ H
   obtain ⟨t765, A5, H⟩ := ob_ H
   by_cases c6 : t765 = true
   · subst c6
     rw [if_pos rfl] at H
     simp only [Option.some.injEq, Prod.mk.injEq] at H
     obtain ⟨rfl, rfl⟩ := H
     go_enter Tryz.func89, Tryz.ntmps89
     go_wp2_with (first | ((with_reducible refine gate_dst (N := 2) rfl ?_); refine bx_ 2 #[.slice none 0 0] 29 ?_; intro gb759 hg w7 hbox hb; have BK759 := Aside0.mk (hbox); have GW759 := gw_ hg HB; have GE759 := gw_ hg HB; replace HB := bo_ HB hb; clear hb hbox hg) | ((with_reducible refine gate_callee (f := 66) rfl ?_); refine gL_ (some 6) Tryz.func66 #[.slice A0 l0.length c0] ?_; (with_reducible refine (spec_l3Gens.calls k _ _ l0 true _ ?side1 ?side2 A2.out).mono ?_); (case side1 => exact ch_ HR0 HB); (case side2 => exact HC0.out); rintro e w' ⟨rfl, ⟨nd, rfl⟩⟩; refine ⟨_, rfl, ?_⟩; (try (rw [drewN_self w7]; generalize hq_ : World.drewN w7 _ = w7; have n0_ : Aside0 (w7.heap[gb759]? = some (.cells #[.slice none 0 0] 29 (0, 0))) := ⟨by rw [← hq_]; exact (be_ BK759.out)⟩; have n1_ : Aside0 (Below w.heap.size w w7) := ⟨by rw [← hq_]; exact (bq_ HB)⟩; clear BK759 HB hq_; have BK759 := n0_; have HB := n1_; clear n0_ n1_))) | ((with_reducible refine gate_callee (f := 70) rfl ?_); refine gL_ (some 10) Tryz.func70 #[.slice A0 l0.length c0] ?_; (with_reducible refine (spec_l3Minimal.calls k _ _ l0 t761 _ ?side1 ?side2 A4.out).mono ?_); (case side1 => exact ch_ HR0 HB); (case side2 => exact HC0.out); rintro e w8 ⟨v762, rfl, ho0, hb⟩; refine ⟨_, rfl, ?_⟩; have HO763 := Aside0.mk (Kd.R_lower ho0 (below_size (bq_ HB))); replace BK759 := bk_ BK759 hb; replace HB := bp_ HB hb; (try clear hb); (try clear ho0); obtain ⟨Ao9, co9, eo9⟩ := Kd.R_slice HO763.out; subst eo9) | ((with_reducible refine gate_dst (N := 4) rfl ?_); refine bx_ 4 #[.slice none 0 0] 29 ?_; intro gb764 hg w10 hbox hb; replace HO763 := Aside0.mk (Kd.R_below (re_ HO763.out) hb); have BK764 := Aside0.mk (hbox); have GW764 := gq_ hg (bq_ HB); have GE764 := gq_ hg (bq_ HB); replace HB := bp_ HB hb; have NB759_764 := nl_ hg BK759; have NB764_759 := ng_ hg BK759; replace BK759 := bk_ BK759 hb; clear hb hbox hg; have hnb11 := NB764_759.out; have hnc11 := NB759_764.out; have hcz12_0 := cz_ BK764; have hfz12_0 := blk_frozen BK764.out 0) | ((with_reducible refine gate_callee (f := 34) rfl ?_); refine gL_ (some 13) Tryz.func34 #[.agg #[.slice Ao9 t761.length co9]] ?_; (with_reducible refine (spec_IsSemigroup.calls k _ _ t761 true _ ?side1 ?side2 A5.out).mono ?_); (case side1 => refine (Kd.R_reads' (e := 3) (base := w.heap.size) (ok := fun k_ => True) (n := t761.length) (c := co9) ?_).2.2; exact (by (with_reducible repeat (first | apply Kd.R_alloc | apply Kd.R_drewN | apply Kd.R_drew)); exact (Kd.R_mono (Kd.R_far (p := ⟨gb764, 0, none⟩) (Kd.R_types HO763.out BK764.out (by decide)) (fun _ hk => hk.2) (.slice Ao9 t761.length co9)) (fun _ h_ => h_.1)))); (case side2 => exact (Kd.R_reads' HO763.out).2.1); rintro e w13 ⟨rfl, hb⟩; refine ⟨_, rfl, ?_⟩; replace HO763 := Aside0.mk (Kd.R_below (by (with_reducible repeat (first | apply Kd.R_alloc | apply Kd.R_drewN | apply Kd.R_drew)); exact (Kd.R_mono (Kd.R_far (p := ⟨gb764, 0, none⟩) (Kd.R_types HO763.out BK764.out (by decide)) (fun _ hk => hk.2) (.slice Ao9 t761.length co9)) (fun _ h_ => h_.1))) hb); replace BK759 := Aside0.mk (blk_below (g := gb759) (o := .cells #[.slice none 0 0] 29 (0, 0)) (by (with_reducible repeat (first | refine blk_drewN ?_ _ | refine blk_drew ?_ | refine blk_alloc ?_ _)); refine blk_far ?_ NB759_764.out _; (with_reducible repeat (first | refine blk_drewN ?_ _ | refine blk_drew ?_ | refine blk_alloc ?_ _)); exact BK759.out) hb); replace BK764 := Aside0.mk (blk_below (g := gb764) (o := .cells #[.slice Ao9 t761.length co9] 29 (0, 0)) (by (with_reducible repeat (first | refine blk_drewN ?_ _ | refine blk_drew ?_ | refine blk_alloc ?_ _)); refine blk_put (cs := #[.slice none 0 0]) ?_ 0 _ rfl; (with_reducible repeat (first | refine blk_drewN ?_ _ | refine blk_drew ?_ | refine blk_alloc ?_ _)); exact BK764.out) hb); replace HB := bp_ HB hb; (try clear hb); have hcz14_0 := cz_ BK764; have hfz14_0 := blk_frozen BK764.out 0; have hcz15_0 := cz_ BK759; have hfz15_0 := blk_frozen BK759.out 0))
     refine bodyPost_ret (results_ct rfl _ _ gb759 29 #[.slice Ao9 t761.length co9] (0, 0) _ rfl (by (with_reducible repeat (first | refine blk_drewN ?_ _ | refine blk_drew ?_ | refine blk_alloc ?_ _)); refine blk_put (cs := #[.slice none 0 0]) ?_ 0 _ rfl; (with_reducible repeat (first | refine blk_drewN ?_ _ | refine blk_drew ?_ | refine blk_alloc ?_ _)); exact BK759.out) Tryz.underlying29 rfl (by kernel_rfl)) rfl ?_
     exact ⟨_, rf_, by (with_reducible repeat (first | apply Kd.R_alloc | apply Kd.R_drewN | apply Kd.R_drew)); exact Kd.R_mono (Kd.R_far (p := ⟨gb759, 0, none⟩) (Kd.R_types HO763.out BK759.out (by decide)) (fun _ hk => hk.2) (.slice Ao9 t761.length co9)) (fun _ hk => trivial), bq_ HB⟩
   · replace c6 := Bool.eq_false_iff.mpr c6
     subst c6
     rw [if_neg (show ¬ (false = true) by decide)] at H
     simp only [Option.some.injEq, Prod.mk.injEq] at H
     obtain ⟨rfl, rfl⟩ := H
     go_enter Tryz.func89, Tryz.ntmps89
     go_wp2_with (first | ((with_reducible refine gate_dst (N := 2) rfl ?_); refine bx_ 2 #[.slice none 0 0] 29 ?_; intro gb759 hg w16 hbox hb; have BK759 := Aside0.mk (hbox); have GW759 := gw_ hg HB; have GE759 := gw_ hg HB; replace HB := bo_ HB hb; clear hb hbox hg) | ((with_reducible refine gate_callee (f := 66) rfl ?_); refine gL_ (some 6) Tryz.func66 #[.slice A0 l0.length c0] ?_; (with_reducible refine (spec_l3Gens.calls k _ _ l0 true _ ?side1 ?side2 A2.out).mono ?_); (case side1 => exact ch_ HR0 HB); (case side2 => exact HC0.out); rintro e w' ⟨rfl, ⟨nd, rfl⟩⟩; refine ⟨_, rfl, ?_⟩; (try (rw [drewN_self w16]; generalize hq_ : World.drewN w16 _ = w16; have n0_ : Aside0 (w16.heap[gb759]? = some (.cells #[.slice none 0 0] 29 (0, 0))) := ⟨by rw [← hq_]; exact (be_ BK759.out)⟩; have n1_ : Aside0 (Below w.heap.size w w16) := ⟨by rw [← hq_]; exact (bq_ HB)⟩; clear BK759 HB hq_; have BK759 := n0_; have HB := n1_; clear n0_ n1_))) | ((with_reducible refine gate_callee (f := 70) rfl ?_); refine gL_ (some 10) Tryz.func70 #[.slice A0 l0.length c0] ?_; (with_reducible refine (spec_l3Minimal.calls k _ _ l0 t761 _ ?side1 ?side2 A4.out).mono ?_); (case side1 => exact ch_ HR0 HB); (case side2 => exact HC0.out); rintro e w17 ⟨v762, rfl, ho0, hb⟩; refine ⟨_, rfl, ?_⟩; have HO763 := Aside0.mk (Kd.R_lower ho0 (below_size (bq_ HB))); replace BK759 := bk_ BK759 hb; replace HB := bp_ HB hb; (try clear hb); (try clear ho0); obtain ⟨Ao18, co18, eo18⟩ := Kd.R_slice HO763.out; subst eo18) | ((with_reducible refine gate_dst (N := 4) rfl ?_); refine bx_ 4 #[.slice none 0 0] 29 ?_; intro gb764 hg w19 hbox hb; replace HO763 := Aside0.mk (Kd.R_below (re_ HO763.out) hb); have BK764 := Aside0.mk (hbox); have GW764 := gq_ hg (bq_ HB); have GE764 := gq_ hg (bq_ HB); replace HB := bp_ HB hb; have NB759_764 := nl_ hg BK759; have NB764_759 := ng_ hg BK759; replace BK759 := bk_ BK759 hb; clear hb hbox hg; have hnb20 := NB764_759.out; have hnc20 := NB759_764.out; have hcz21_0 := cz_ BK764; have hfz21_0 := blk_frozen BK764.out 0) | ((with_reducible refine gate_callee (f := 34) rfl ?_); refine gL_ (some 13) Tryz.func34 #[.agg #[.slice Ao18 t761.length co18]] ?_; (with_reducible refine (spec_IsSemigroup.calls k _ _ t761 false _ ?side1 ?side2 A5.out).mono ?_); (case side1 => refine (Kd.R_reads' (e := 3) (base := w.heap.size) (ok := fun k_ => True) (n := t761.length) (c := co18) ?_).2.2; exact (by (with_reducible repeat (first | apply Kd.R_alloc | apply Kd.R_drewN | apply Kd.R_drew)); exact (Kd.R_mono (Kd.R_far (p := ⟨gb764, 0, none⟩) (Kd.R_types HO763.out BK764.out (by decide)) (fun _ hk => hk.2) (.slice Ao18 t761.length co18)) (fun _ h_ => h_.1)))); (case side2 => exact (Kd.R_reads' HO763.out).2.1); rintro e w22 ⟨rfl, hb⟩; refine ⟨_, rfl, ?_⟩; replace HO763 := Aside0.mk (Kd.R_below (by (with_reducible repeat (first | apply Kd.R_alloc | apply Kd.R_drewN | apply Kd.R_drew)); exact (Kd.R_mono (Kd.R_far (p := ⟨gb764, 0, none⟩) (Kd.R_types HO763.out BK764.out (by decide)) (fun _ hk => hk.2) (.slice Ao18 t761.length co18)) (fun _ h_ => h_.1))) hb); replace BK759 := Aside0.mk (blk_below (g := gb759) (o := .cells #[.slice none 0 0] 29 (0, 0)) (by (with_reducible repeat (first | refine blk_drewN ?_ _ | refine blk_drew ?_ | refine blk_alloc ?_ _)); refine blk_far ?_ NB759_764.out _; (with_reducible repeat (first | refine blk_drewN ?_ _ | refine blk_drew ?_ | refine blk_alloc ?_ _)); exact BK759.out) hb); replace BK764 := Aside0.mk (blk_below (g := gb764) (o := .cells #[.slice Ao18 t761.length co18] 29 (0, 0)) (by (with_reducible repeat (first | refine blk_drewN ?_ _ | refine blk_drew ?_ | refine blk_alloc ?_ _)); refine blk_put (cs := #[.slice none 0 0]) ?_ 0 _ rfl; (with_reducible repeat (first | refine blk_drewN ?_ _ | refine blk_drew ?_ | refine blk_alloc ?_ _)); exact BK764.out) hb); replace HB := bp_ HB hb; (try clear hb); have hcz23_0 := cz_ BK759; have hfz23_0 := blk_frozen BK759.out 0))
     refine bodyPost_ret (results_ct rfl _ _ gb759 29 #[.slice none 0 0] (0, 0) _ rfl (by (with_reducible repeat (first | refine blk_drewN ?_ _ | refine blk_drew ?_ | refine blk_alloc ?_ _)); refine blk_put (cs := #[.slice none 0 0]) ?_ 0 _ rfl; (with_reducible repeat (first | refine blk_drewN ?_ _ | refine blk_drew ?_ | refine blk_alloc ?_ _)); exact BK759.out) Tryz.underlying29 rfl (by kernel_rfl)) rfl ?_
     exact ⟨_, rf_, by first | exact Kd.R_nil _ _ _ _ _ | exact Kd.N_nil _ _ _ _ _ | exact Kd.V_nil _ _ _ _ _ | exact Kd.Q_nil _ _ _ _ _ | exact Kd.S_nil _ _ _ _ _, bq_ HB⟩
 · replace c3 := Bool.eq_false_iff.mpr c3
   subst c3
   rw [if_neg (show ¬ (false = true) by decide)] at H
   simp only [Option.some.injEq, Prod.mk.injEq] at H
   obtain ⟨rfl, rfl⟩ := H
   go_enter Tryz.func89, Tryz.ntmps89
   go_wp2_with (first | ((with_reducible refine gate_dst (N := 2) rfl ?_); refine bx_ 2 #[.slice none 0 0] 29 ?_; intro gb759 hg w24 hbox hb; have BK759 := Aside0.mk (hbox); have GW759 := gw_ hg HB; have GE759 := gw_ hg HB; replace HB := bo_ HB hb; clear hb hbox hg) | ((with_reducible refine gate_callee (f := 66) rfl ?_); refine gL_ (some 6) Tryz.func66 #[.slice A0 l0.length c0] ?_; (with_reducible refine (spec_l3Gens.calls k _ _ l0 false _ ?side1 ?side2 A2.out).mono ?_); (case side1 => exact ch_ HR0 HB); (case side2 => exact HC0.out); rintro e w' ⟨rfl, ⟨nd, rfl⟩⟩; refine ⟨_, rfl, ?_⟩; (try (rw [drewN_self w24]; generalize hq_ : World.drewN w24 _ = w24; have n0_ : Aside0 (w24.heap[gb759]? = some (.cells #[.slice none 0 0] 29 (0, 0))) := ⟨by rw [← hq_]; exact (be_ BK759.out)⟩; have n1_ : Aside0 (Below w.heap.size w w24) := ⟨by rw [← hq_]; exact (bq_ HB)⟩; clear BK759 HB hq_; have BK759 := n0_; have HB := n1_; clear n0_ n1_)); have hcz25_0 := cz_ BK759; have hfz25_0 := blk_frozen BK759.out 0))
   refine bodyPost_ret (results_ct rfl _ _ gb759 29 #[.slice none 0 0] (0, 0) _ rfl (by (with_reducible repeat (first | refine blk_drewN ?_ _ | refine blk_drew ?_ | refine blk_alloc ?_ _)); refine blk_put (cs := #[.slice none 0 0]) ?_ 0 _ rfl; (with_reducible repeat (first | refine blk_drewN ?_ _ | refine blk_drew ?_ | refine blk_alloc ?_ _)); exact BK759.out) Tryz.underlying29 rfl (by kernel_rfl)) rfl ?_
   exact ⟨_, rf_, by first | exact Kd.R_nil _ _ _ _ _ | exact Kd.N_nil _ _ _ _ _ | exact Kd.V_nil _ _ _ _ _ | exact Kd.Q_nil _ _ _ _ _ | exact Kd.S_nil _ _ _ _ _, bq_ HB⟩
def spec_l3List.f (s0_0 : List Int) (s0_1 : Int) (s0_2 : Int) : Option (List Int × Int × Int) := (spec_l1Below.f s0_0 s0_1 s0_2 8).bind fun bt766 => (if bt766.1 = 0 then (some ((([1] : List Int)), bt766.2.1, bt766.2.2)) else (if bt766.1 = 1 then (some ((([3, 5] : List Int)), bt766.2.1, bt766.2.2)) else (if bt766.1 = 2 then (some ((([4, 6, 9] : List Int)), bt766.2.1, bt766.2.2)) else (if bt766.1 = 3 then (some ((([3, 4, 5] : List Int)), bt766.2.1, bt766.2.2)) else (if bt766.1 = 4 then (some ((([6, 9, 20] : List Int)), bt766.2.1, bt766.2.2)) else (if bt766.1 = 5 then (some ((([5, 7, 9, 11] : List Int)), bt766.2.1, bt766.2.2)) else (if bt766.1 = 6 then (some ((([2, 3] : List Int)), bt766.2.1, bt766.2.2)) else (some ((([4, 5, 11] : List Int)), bt766.2.1, bt766.2.2)))))))))
theorem spec_l3List.calls (g : Nat) (s0_0 : List Int) (s0_1 : Int) (s0_2 : Int) (r1 : List Int) (r2 : Int) (r3 : Int) (w0 w : World) (hI : IsS51 w0 w g s0_0 s0_1 s0_2) (hB : Below w0.heap.size w0 w) (h : spec_l3List.f s0_0 s0_1 s0_2 = some (r1, r2, r3)) :
 Calls Tryz.prog 90 #[.pointer (some ⟨g, 0, none⟩)] w fun e w' => ∃ v0_ : Value, e = .returned (v0_) ∧ Kd.R (Kd.int .i64) 3 w' w.heap.size (fun _ => True) v0_ r1 ∧ IsS51 w0 w' g s0_0 r2 r3 ∧ Below w0.heap.size w0 w' ∧ KeepBut w w' g none := by
 have HI0 := Aside0.mk hI
 have HK := Aside0.mk (KeepBut.refl w g none)
 have HL := Aside0.mk hB.size
 clear hI
 have HW0 := Aside0.mk hB.size
 have HB := Aside0.mk hB
 clear hB
 have H := h
 clear h
 unfold spec_l3List.f at H
 obtain ⟨⟨t766, t767, t768⟩, A2, H⟩ := ob_ H
 (try dsimp only at H)
 by_cases c3 : t766 = 0
 · rw [if_pos c3] at H
   have c3b0 : (t766 == 0) = true := beq_iff_eq.mpr c3
   have c3b1 : (t766 != 0) = false := bne_eq_false_iff_eq.mpr c3
   clear c3
   obtain ⟨y769, hy769⟩ : ∃ y_ : List Int, y_ = (([1] : List Int)) := ⟨_, rfl⟩
   replace H : (some (y769, t767, t768)) = some (r1, r2, r3) := by subst hy769; exact H
   have Ny769 := Aside0.mk hy769
   clear hy769
   simp only [Option.some.injEq, Prod.mk.injEq] at H
   obtain ⟨rfl, rfl, rfl⟩ := H
   go_enter Tryz.func90, Tryz.ntmps90
   go_wp2_with (first | ((with_reducible refine gate_callee (f := 16) rfl ?_); refine gL_ (some 4) Tryz.func16 #[.pointer (some ⟨g, 0, none⟩), .int .i64 8] ?_; (with_reducible refine (spec_l1Below.calls g s0_0 s0_1 s0_2 8 t766 t767 t768 w0 _ ?side1 ?side2 A2.out).mono ?_); (case side1 => exact IsS51.q_ HI0); (case side2 => exact bi_ HB (IsS51.ge HI0.out)); rintro e w4 ⟨rfl, hi, hb, hk⟩; refine ⟨_, rfl, ?_⟩; replace HK := Aside0.mk (KeepBut.trans (kq_ HK) hk (.inl rfl)); replace HB := Aside0.mk (hb); replace HI0 := Aside0.mk (hi); (try clear hb); (try clear hk); (try clear hi)) | ((with_reducible refine gate_dst (N := 7) rfl ?_); refine Kd.R_lit (Kd.int .i64) _ 3 ?hg (N := 7) ?hd (xs := ([1] : List Int)) (inner := [.int .i64 1]) (ok := fun _ => True) (okp := fun _ => True) ?hr ?hp (fun _ hk => hk) trivial (Below.refl _ _) (Nat.le_refl _) (by simp) ?_; (case hd => rfl); (case hg => rfl); (case hr => first | (go_simp; done) | (go_simp; rfl)); (case hp => exact (Reps.one (show Kd.M (Kd.int .i64) _ _ _ 1 [.int .i64 1] from rfl) (Reps.none _ _))); intro v770 w5 ho6 hb hg_ hnew_; clear hg_ hnew_; (first | rw [← Ny769.out] at ho6 | (simp only [Int.reduceToNat] at ho6; rw [← Ny769.out] at ho6)); have HO771 := Aside0.mk (Kd.R_lower ho6 (keep_size (w := w) (g := g) (row := none) (kq_ HK))); replace HK := Aside0.mk (KeepBut.trans (kq_ HK) (KeepBut.of_below hb g none) (.inl rfl)); replace HB := Aside0.mk (below_step (bi_ HB (IsS51.ge HI0.out)) hb); replace HI0 := Aside0.mk (IsS51.below (IsS51.q_ HI0) hb); clear hb ho6))
   go_ret
   exact ⟨_, rf_, re_ HO771.out, IsS51.q_ HI0, bi_ HB (IsS51.ge HI0.out), kq_ HK⟩
 · rw [if_neg c3] at H
   have c3b0 : (t766 == 0) = false := beq_eq_false_iff_ne.mpr c3
   have c3b1 : (t766 != 0) = true := bne_iff_ne.mpr c3
   by_cases c7 : t766 = 1
   · rw [if_pos c7] at H
     have c7b0 : (t766 == 1) = true := beq_iff_eq.mpr c7
     have c7b1 : (t766 != 1) = false := bne_eq_false_iff_eq.mpr c7
     clear c7
     obtain ⟨y772, hy772⟩ : ∃ y_ : List Int, y_ = (([3, 5] : List Int)) := ⟨_, rfl⟩
     replace H : (some (y772, t767, t768)) = some (r1, r2, r3) := by subst hy772; exact H
     have Ny772 := Aside0.mk hy772
     clear hy772
     simp only [Option.some.injEq, Prod.mk.injEq] at H
     obtain ⟨rfl, rfl, rfl⟩ := H
     go_enter Tryz.func90, Tryz.ntmps90
     go_wp2_with (first | ((with_reducible refine gate_callee (f := 16) rfl ?_); refine gL_ (some 4) Tryz.func16 #[.pointer (some ⟨g, 0, none⟩), .int .i64 8] ?_; (with_reducible refine (spec_l1Below.calls g s0_0 s0_1 s0_2 8 t766 t767 t768 w0 _ ?side1 ?side2 A2.out).mono ?_); (case side1 => exact IsS51.q_ HI0); (case side2 => exact bi_ HB (IsS51.ge HI0.out)); rintro e w8 ⟨rfl, hi, hb, hk⟩; refine ⟨_, rfl, ?_⟩; replace HK := Aside0.mk (KeepBut.trans (kq_ HK) hk (.inl rfl)); replace HB := Aside0.mk (hb); replace HI0 := Aside0.mk (hi); (try clear hb); (try clear hk); (try clear hi)) | ((with_reducible refine gate_dst (N := 10) rfl ?_); refine Kd.R_lit (Kd.int .i64) _ 3 ?hg (N := 10) ?hd (xs := ([3, 5] : List Int)) (inner := [.int .i64 3, .int .i64 5]) (ok := fun _ => True) (okp := fun _ => True) ?hr ?hp (fun _ hk => hk) trivial (Below.refl _ _) (Nat.le_refl _) (by simp) ?_; (case hd => rfl); (case hg => rfl); (case hr => first | (go_simp; done) | (go_simp; rfl)); (case hp => exact (Reps.one (show Kd.M (Kd.int .i64) _ _ _ 3 [.int .i64 3] from rfl) (Reps.one (show Kd.M (Kd.int .i64) _ _ _ 5 [.int .i64 5] from rfl) (Reps.none _ _)))); intro v773 w9 ho10 hb hg_ hnew_; clear hg_ hnew_; (first | rw [← Ny772.out] at ho10 | (simp only [Int.reduceToNat] at ho10; rw [← Ny772.out] at ho10)); have HO774 := Aside0.mk (Kd.R_lower ho10 (keep_size (w := w) (g := g) (row := none) (kq_ HK))); replace HK := Aside0.mk (KeepBut.trans (kq_ HK) (KeepBut.of_below hb g none) (.inl rfl)); replace HB := Aside0.mk (below_step (bi_ HB (IsS51.ge HI0.out)) hb); replace HI0 := Aside0.mk (IsS51.below (IsS51.q_ HI0) hb); clear hb ho10))
     go_ret
     exact ⟨_, rf_, re_ HO774.out, IsS51.q_ HI0, bi_ HB (IsS51.ge HI0.out), kq_ HK⟩
   · rw [if_neg c7] at H
     have c7b0 : (t766 == 1) = false := beq_eq_false_iff_ne.mpr c7
     have c7b1 : (t766 != 1) = true := bne_iff_ne.mpr c7
     by_cases c11 : t766 = 2
     · rw [if_pos c11] at H
       have c11b0 : (t766 == 2) = true := beq_iff_eq.mpr c11
       have c11b1 : (t766 != 2) = false := bne_eq_false_iff_eq.mpr c11
       clear c11
       obtain ⟨y775, hy775⟩ : ∃ y_ : List Int, y_ = (([4, 6, 9] : List Int)) := ⟨_, rfl⟩
       replace H : (some (y775, t767, t768)) = some (r1, r2, r3) := by subst hy775; exact H
       have Ny775 := Aside0.mk hy775
       clear hy775
       simp only [Option.some.injEq, Prod.mk.injEq] at H
       obtain ⟨rfl, rfl, rfl⟩ := H
       go_enter Tryz.func90, Tryz.ntmps90
       go_wp2_with (first | ((with_reducible refine gate_callee (f := 16) rfl ?_); refine gL_ (some 4) Tryz.func16 #[.pointer (some ⟨g, 0, none⟩), .int .i64 8] ?_; (with_reducible refine (spec_l1Below.calls g s0_0 s0_1 s0_2 8 t766 t767 t768 w0 _ ?side1 ?side2 A2.out).mono ?_); (case side1 => exact IsS51.q_ HI0); (case side2 => exact bi_ HB (IsS51.ge HI0.out)); rintro e w12 ⟨rfl, hi, hb, hk⟩; refine ⟨_, rfl, ?_⟩; replace HK := Aside0.mk (KeepBut.trans (kq_ HK) hk (.inl rfl)); replace HB := Aside0.mk (hb); replace HI0 := Aside0.mk (hi); (try clear hb); (try clear hk); (try clear hi)) | ((with_reducible refine gate_dst (N := 13) rfl ?_); refine Kd.R_lit (Kd.int .i64) _ 3 ?hg (N := 13) ?hd (xs := ([4, 6, 9] : List Int)) (inner := [.int .i64 4, .int .i64 6, .int .i64 9]) (ok := fun _ => True) (okp := fun _ => True) ?hr ?hp (fun _ hk => hk) trivial (Below.refl _ _) (Nat.le_refl _) (by simp) ?_; (case hd => rfl); (case hg => rfl); (case hr => first | (go_simp; done) | (go_simp; rfl)); (case hp => exact (Reps.one (show Kd.M (Kd.int .i64) _ _ _ 4 [.int .i64 4] from rfl) (Reps.one (show Kd.M (Kd.int .i64) _ _ _ 6 [.int .i64 6] from rfl) (Reps.one (show Kd.M (Kd.int .i64) _ _ _ 9 [.int .i64 9] from rfl) (Reps.none _ _))))); intro v776 w13 ho14 hb hg_ hnew_; clear hg_ hnew_; (first | rw [← Ny775.out] at ho14 | (simp only [Int.reduceToNat] at ho14; rw [← Ny775.out] at ho14)); have HO777 := Aside0.mk (Kd.R_lower ho14 (keep_size (w := w) (g := g) (row := none) (kq_ HK))); replace HK := Aside0.mk (KeepBut.trans (kq_ HK) (KeepBut.of_below hb g none) (.inl rfl)); replace HB := Aside0.mk (below_step (bi_ HB (IsS51.ge HI0.out)) hb); replace HI0 := Aside0.mk (IsS51.below (IsS51.q_ HI0) hb); clear hb ho14))
       go_ret
       exact ⟨_, rf_, re_ HO777.out, IsS51.q_ HI0, bi_ HB (IsS51.ge HI0.out), kq_ HK⟩
     · rw [if_neg c11] at H
       have c11b0 : (t766 == 2) = false := beq_eq_false_iff_ne.mpr c11
       have c11b1 : (t766 != 2) = true := bne_iff_ne.mpr c11
       by_cases c15 : t766 = 3
       · rw [if_pos c15] at H
         have c15b0 : (t766 == 3) = true := beq_iff_eq.mpr c15
         have c15b1 : (t766 != 3) = false := bne_eq_false_iff_eq.mpr c15
         clear c15
         obtain ⟨y778, hy778⟩ : ∃ y_ : List Int, y_ = (([3, 4, 5] : List Int)) := ⟨_, rfl⟩
         replace H : (some (y778, t767, t768)) = some (r1, r2, r3) := by subst hy778; exact H
         have Ny778 := Aside0.mk hy778
         clear hy778
         simp only [Option.some.injEq, Prod.mk.injEq] at H
         obtain ⟨rfl, rfl, rfl⟩ := H
         go_enter Tryz.func90, Tryz.ntmps90
         go_wp2_with (first | ((with_reducible refine gate_callee (f := 16) rfl ?_); refine gL_ (some 4) Tryz.func16 #[.pointer (some ⟨g, 0, none⟩), .int .i64 8] ?_; (with_reducible refine (spec_l1Below.calls g s0_0 s0_1 s0_2 8 t766 t767 t768 w0 _ ?side1 ?side2 A2.out).mono ?_); (case side1 => exact IsS51.q_ HI0); (case side2 => exact bi_ HB (IsS51.ge HI0.out)); rintro e w16 ⟨rfl, hi, hb, hk⟩; refine ⟨_, rfl, ?_⟩; replace HK := Aside0.mk (KeepBut.trans (kq_ HK) hk (.inl rfl)); replace HB := Aside0.mk (hb); replace HI0 := Aside0.mk (hi); (try clear hb); (try clear hk); (try clear hi)) | ((with_reducible refine gate_dst (N := 16) rfl ?_); refine Kd.R_lit (Kd.int .i64) _ 3 ?hg (N := 16) ?hd (xs := ([3, 4, 5] : List Int)) (inner := [.int .i64 3, .int .i64 4, .int .i64 5]) (ok := fun _ => True) (okp := fun _ => True) ?hr ?hp (fun _ hk => hk) trivial (Below.refl _ _) (Nat.le_refl _) (by simp) ?_; (case hd => rfl); (case hg => rfl); (case hr => first | (go_simp; done) | (go_simp; rfl)); (case hp => exact (Reps.one (show Kd.M (Kd.int .i64) _ _ _ 3 [.int .i64 3] from rfl) (Reps.one (show Kd.M (Kd.int .i64) _ _ _ 4 [.int .i64 4] from rfl) (Reps.one (show Kd.M (Kd.int .i64) _ _ _ 5 [.int .i64 5] from rfl) (Reps.none _ _))))); intro v779 w17 ho18 hb hg_ hnew_; clear hg_ hnew_; (first | rw [← Ny778.out] at ho18 | (simp only [Int.reduceToNat] at ho18; rw [← Ny778.out] at ho18)); have HO780 := Aside0.mk (Kd.R_lower ho18 (keep_size (w := w) (g := g) (row := none) (kq_ HK))); replace HK := Aside0.mk (KeepBut.trans (kq_ HK) (KeepBut.of_below hb g none) (.inl rfl)); replace HB := Aside0.mk (below_step (bi_ HB (IsS51.ge HI0.out)) hb); replace HI0 := Aside0.mk (IsS51.below (IsS51.q_ HI0) hb); clear hb ho18))
         go_ret
         exact ⟨_, rf_, re_ HO780.out, IsS51.q_ HI0, bi_ HB (IsS51.ge HI0.out), kq_ HK⟩
       · rw [if_neg c15] at H
         have c15b0 : (t766 == 3) = false := beq_eq_false_iff_ne.mpr c15
         have c15b1 : (t766 != 3) = true := bne_iff_ne.mpr c15
         by_cases c19 : t766 = 4
         · rw [if_pos c19] at H
           have c19b0 : (t766 == 4) = true := beq_iff_eq.mpr c19
           have c19b1 : (t766 != 4) = false := bne_eq_false_iff_eq.mpr c19
           clear c19
           obtain ⟨y781, hy781⟩ : ∃ y_ : List Int, y_ = (([6, 9, 20] : List Int)) := ⟨_, rfl⟩
           replace H : (some (y781, t767, t768)) = some (r1, r2, r3) := by subst hy781; exact H
           have Ny781 := Aside0.mk hy781
           clear hy781
           simp only [Option.some.injEq, Prod.mk.injEq] at H
           obtain ⟨rfl, rfl, rfl⟩ := H
           go_enter Tryz.func90, Tryz.ntmps90
           go_wp2_with (first | ((with_reducible refine gate_callee (f := 16) rfl ?_); refine gL_ (some 4) Tryz.func16 #[.pointer (some ⟨g, 0, none⟩), .int .i64 8] ?_; (with_reducible refine (spec_l1Below.calls g s0_0 s0_1 s0_2 8 t766 t767 t768 w0 _ ?side1 ?side2 A2.out).mono ?_); (case side1 => exact IsS51.q_ HI0); (case side2 => exact bi_ HB (IsS51.ge HI0.out)); rintro e w20 ⟨rfl, hi, hb, hk⟩; refine ⟨_, rfl, ?_⟩; replace HK := Aside0.mk (KeepBut.trans (kq_ HK) hk (.inl rfl)); replace HB := Aside0.mk (hb); replace HI0 := Aside0.mk (hi); (try clear hb); (try clear hk); (try clear hi)) | ((with_reducible refine gate_dst (N := 19) rfl ?_); refine Kd.R_lit (Kd.int .i64) _ 3 ?hg (N := 19) ?hd (xs := ([6, 9, 20] : List Int)) (inner := [.int .i64 6, .int .i64 9, .int .i64 20]) (ok := fun _ => True) (okp := fun _ => True) ?hr ?hp (fun _ hk => hk) trivial (Below.refl _ _) (Nat.le_refl _) (by simp) ?_; (case hd => rfl); (case hg => rfl); (case hr => first | (go_simp; done) | (go_simp; rfl)); (case hp => exact (Reps.one (show Kd.M (Kd.int .i64) _ _ _ 6 [.int .i64 6] from rfl) (Reps.one (show Kd.M (Kd.int .i64) _ _ _ 9 [.int .i64 9] from rfl) (Reps.one (show Kd.M (Kd.int .i64) _ _ _ 20 [.int .i64 20] from rfl) (Reps.none _ _))))); intro v782 w21 ho22 hb hg_ hnew_; clear hg_ hnew_; (first | rw [← Ny781.out] at ho22 | (simp only [Int.reduceToNat] at ho22; rw [← Ny781.out] at ho22)); have HO783 := Aside0.mk (Kd.R_lower ho22 (keep_size (w := w) (g := g) (row := none) (kq_ HK))); replace HK := Aside0.mk (KeepBut.trans (kq_ HK) (KeepBut.of_below hb g none) (.inl rfl)); replace HB := Aside0.mk (below_step (bi_ HB (IsS51.ge HI0.out)) hb); replace HI0 := Aside0.mk (IsS51.below (IsS51.q_ HI0) hb); clear hb ho22))
           go_ret
           exact ⟨_, rf_, re_ HO783.out, IsS51.q_ HI0, bi_ HB (IsS51.ge HI0.out), kq_ HK⟩
         · rw [if_neg c19] at H
           have c19b0 : (t766 == 4) = false := beq_eq_false_iff_ne.mpr c19
           have c19b1 : (t766 != 4) = true := bne_iff_ne.mpr c19
           by_cases c23 : t766 = 5
           · rw [if_pos c23] at H
             have c23b0 : (t766 == 5) = true := beq_iff_eq.mpr c23
             have c23b1 : (t766 != 5) = false := bne_eq_false_iff_eq.mpr c23
             clear c23
             obtain ⟨y784, hy784⟩ : ∃ y_ : List Int, y_ = (([5, 7, 9, 11] : List Int)) := ⟨_, rfl⟩
             replace H : (some (y784, t767, t768)) = some (r1, r2, r3) := by subst hy784; exact H
             have Ny784 := Aside0.mk hy784
             clear hy784
             simp only [Option.some.injEq, Prod.mk.injEq] at H
             obtain ⟨rfl, rfl, rfl⟩ := H
             go_enter Tryz.func90, Tryz.ntmps90
             go_wp2_with (first | ((with_reducible refine gate_callee (f := 16) rfl ?_); refine gL_ (some 4) Tryz.func16 #[.pointer (some ⟨g, 0, none⟩), .int .i64 8] ?_; (with_reducible refine (spec_l1Below.calls g s0_0 s0_1 s0_2 8 t766 t767 t768 w0 _ ?side1 ?side2 A2.out).mono ?_); (case side1 => exact IsS51.q_ HI0); (case side2 => exact bi_ HB (IsS51.ge HI0.out)); rintro e w24 ⟨rfl, hi, hb, hk⟩; refine ⟨_, rfl, ?_⟩; replace HK := Aside0.mk (KeepBut.trans (kq_ HK) hk (.inl rfl)); replace HB := Aside0.mk (hb); replace HI0 := Aside0.mk (hi); (try clear hb); (try clear hk); (try clear hi)) | ((with_reducible refine gate_dst (N := 22) rfl ?_); refine Kd.R_lit (Kd.int .i64) _ 3 ?hg (N := 22) ?hd (xs := ([5, 7, 9, 11] : List Int)) (inner := [.int .i64 5, .int .i64 7, .int .i64 9, .int .i64 11]) (ok := fun _ => True) (okp := fun _ => True) ?hr ?hp (fun _ hk => hk) trivial (Below.refl _ _) (Nat.le_refl _) (by simp) ?_; (case hd => rfl); (case hg => rfl); (case hr => first | (go_simp; done) | (go_simp; rfl)); (case hp => exact (Reps.one (show Kd.M (Kd.int .i64) _ _ _ 5 [.int .i64 5] from rfl) (Reps.one (show Kd.M (Kd.int .i64) _ _ _ 7 [.int .i64 7] from rfl) (Reps.one (show Kd.M (Kd.int .i64) _ _ _ 9 [.int .i64 9] from rfl) (Reps.one (show Kd.M (Kd.int .i64) _ _ _ 11 [.int .i64 11] from rfl) (Reps.none _ _)))))); intro v785 w25 ho26 hb hg_ hnew_; clear hg_ hnew_; (first | rw [← Ny784.out] at ho26 | (simp only [Int.reduceToNat] at ho26; rw [← Ny784.out] at ho26)); have HO786 := Aside0.mk (Kd.R_lower ho26 (keep_size (w := w) (g := g) (row := none) (kq_ HK))); replace HK := Aside0.mk (KeepBut.trans (kq_ HK) (KeepBut.of_below hb g none) (.inl rfl)); replace HB := Aside0.mk (below_step (bi_ HB (IsS51.ge HI0.out)) hb); replace HI0 := Aside0.mk (IsS51.below (IsS51.q_ HI0) hb); clear hb ho26))
             go_ret
             exact ⟨_, rf_, re_ HO786.out, IsS51.q_ HI0, bi_ HB (IsS51.ge HI0.out), kq_ HK⟩
           · rw [if_neg c23] at H
             have c23b0 : (t766 == 5) = false := beq_eq_false_iff_ne.mpr c23
             have c23b1 : (t766 != 5) = true := bne_iff_ne.mpr c23
             by_cases c27 : t766 = 6
             · rw [if_pos c27] at H
               have c27b0 : (t766 == 6) = true := beq_iff_eq.mpr c27
               have c27b1 : (t766 != 6) = false := bne_eq_false_iff_eq.mpr c27
               clear c27
               obtain ⟨y787, hy787⟩ : ∃ y_ : List Int, y_ = (([2, 3] : List Int)) := ⟨_, rfl⟩
               replace H : (some (y787, t767, t768)) = some (r1, r2, r3) := by subst hy787; exact H
               have Ny787 := Aside0.mk hy787
               clear hy787
               simp only [Option.some.injEq, Prod.mk.injEq] at H
               obtain ⟨rfl, rfl, rfl⟩ := H
               go_enter Tryz.func90, Tryz.ntmps90
               go_wp2_with (first | ((with_reducible refine gate_callee (f := 16) rfl ?_); refine gL_ (some 4) Tryz.func16 #[.pointer (some ⟨g, 0, none⟩), .int .i64 8] ?_; (with_reducible refine (spec_l1Below.calls g s0_0 s0_1 s0_2 8 t766 t767 t768 w0 _ ?side1 ?side2 A2.out).mono ?_); (case side1 => exact IsS51.q_ HI0); (case side2 => exact bi_ HB (IsS51.ge HI0.out)); rintro e w28 ⟨rfl, hi, hb, hk⟩; refine ⟨_, rfl, ?_⟩; replace HK := Aside0.mk (KeepBut.trans (kq_ HK) hk (.inl rfl)); replace HB := Aside0.mk (hb); replace HI0 := Aside0.mk (hi); (try clear hb); (try clear hk); (try clear hi)) | ((with_reducible refine gate_dst (N := 25) rfl ?_); refine Kd.R_lit (Kd.int .i64) _ 3 ?hg (N := 25) ?hd (xs := ([2, 3] : List Int)) (inner := [.int .i64 2, .int .i64 3]) (ok := fun _ => True) (okp := fun _ => True) ?hr ?hp (fun _ hk => hk) trivial (Below.refl _ _) (Nat.le_refl _) (by simp) ?_; (case hd => rfl); (case hg => rfl); (case hr => first | (go_simp; done) | (go_simp; rfl)); (case hp => exact (Reps.one (show Kd.M (Kd.int .i64) _ _ _ 2 [.int .i64 2] from rfl) (Reps.one (show Kd.M (Kd.int .i64) _ _ _ 3 [.int .i64 3] from rfl) (Reps.none _ _)))); intro v788 w29 ho30 hb hg_ hnew_; clear hg_ hnew_; (first | rw [← Ny787.out] at ho30 | (simp only [Int.reduceToNat] at ho30; rw [← Ny787.out] at ho30)); have HO789 := Aside0.mk (Kd.R_lower ho30 (keep_size (w := w) (g := g) (row := none) (kq_ HK))); replace HK := Aside0.mk (KeepBut.trans (kq_ HK) (KeepBut.of_below hb g none) (.inl rfl)); replace HB := Aside0.mk (below_step (bi_ HB (IsS51.ge HI0.out)) hb); replace HI0 := Aside0.mk (IsS51.below (IsS51.q_ HI0) hb); clear hb ho30))
               go_ret
               exact ⟨_, rf_, re_ HO789.out, IsS51.q_ HI0, bi_ HB (IsS51.ge HI0.out), kq_ HK⟩
             · rw [if_neg c27] at H
               have c27b0 : (t766 == 6) = false := beq_eq_false_iff_ne.mpr c27
               have c27b1 : (t766 != 6) = true := bne_iff_ne.mpr c27
               obtain ⟨y790, hy790⟩ : ∃ y_ : List Int, y_ = (([4, 5, 11] : List Int)) := ⟨_, rfl⟩
               replace H : (some (y790, t767, t768)) = some (r1, r2, r3) := by subst hy790; exact H
               have Ny790 := Aside0.mk hy790
               clear hy790
               simp only [Option.some.injEq, Prod.mk.injEq] at H
               obtain ⟨rfl, rfl, rfl⟩ := H
               go_enter Tryz.func90, Tryz.ntmps90
               go_wp2_with (first | ((with_reducible refine gate_callee (f := 16) rfl ?_); refine gL_ (some 4) Tryz.func16 #[.pointer (some ⟨g, 0, none⟩), .int .i64 8] ?_; (with_reducible refine (spec_l1Below.calls g s0_0 s0_1 s0_2 8 t766 t767 t768 w0 _ ?side1 ?side2 A2.out).mono ?_); (case side1 => exact IsS51.q_ HI0); (case side2 => exact bi_ HB (IsS51.ge HI0.out)); rintro e w31 ⟨rfl, hi, hb, hk⟩; refine ⟨_, rfl, ?_⟩; replace HK := Aside0.mk (KeepBut.trans (kq_ HK) hk (.inl rfl)); replace HB := Aside0.mk (hb); replace HI0 := Aside0.mk (hi); (try clear hb); (try clear hk); (try clear hi)) | ((with_reducible refine gate_dst (N := 26) rfl ?_); refine Kd.R_lit (Kd.int .i64) _ 3 ?hg (N := 26) ?hd (xs := ([4, 5, 11] : List Int)) (inner := [.int .i64 4, .int .i64 5, .int .i64 11]) (ok := fun _ => True) (okp := fun _ => True) ?hr ?hp (fun _ hk => hk) trivial (Below.refl _ _) (Nat.le_refl _) (by simp) ?_; (case hd => rfl); (case hg => rfl); (case hr => first | (go_simp; done) | (go_simp; rfl)); (case hp => exact (Reps.one (show Kd.M (Kd.int .i64) _ _ _ 4 [.int .i64 4] from rfl) (Reps.one (show Kd.M (Kd.int .i64) _ _ _ 5 [.int .i64 5] from rfl) (Reps.one (show Kd.M (Kd.int .i64) _ _ _ 11 [.int .i64 11] from rfl) (Reps.none _ _))))); intro v791 w32 ho33 hb hg_ hnew_; clear hg_ hnew_; (first | rw [← Ny790.out] at ho33 | (simp only [Int.reduceToNat] at ho33; rw [← Ny790.out] at ho33)); have HO792 := Aside0.mk (Kd.R_lower ho33 (keep_size (w := w) (g := g) (row := none) (kq_ HK))); replace HK := Aside0.mk (KeepBut.trans (kq_ HK) (KeepBut.of_below hb g none) (.inl rfl)); replace HB := Aside0.mk (below_step (bi_ HB (IsS51.ge HI0.out)) hb); replace HI0 := Aside0.mk (IsS51.below (IsS51.q_ HI0) hb); clear hb ho33))
               go_ret
               exact ⟨_, rf_, re_ HO792.out, IsS51.q_ HI0, bi_ HB (IsS51.ge HI0.out), kq_ HK⟩
end Go.Proofs.YteaiehpgigaoaaaGreatDoor.PB
end
