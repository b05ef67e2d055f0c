-- Bundled by shake.py from this session's printed and written texts; Lean checks it.
import Derived.Test.YtppkokbhgkeknaaZFnArfx1
import Derived.Test.YtppkokbhgkeknaaZFnArfx2
import Derived.Test.YtppkokbhgkeknaaZFnArfx3
import Derived.Test.YtppkokbhgkeknaaZFnArfx4
import Derived.Test.YtppkokbhgkeknaaZFnArfx5
section
namespace Go.Proofs.Ytppkokbhgkeknaa.PA
open Go.RowKit Go.Proofs.YtppkokbhgkeknaaW.PrintWords Go.Proofs.YtppkokbhgkeknaaW.PrintLast Go.Proofs.YtppkokbhgkeknaaW.PrintMore
attribute [local go_sem] max2_int min2_int max_two min_two max_three min_three max_four min_four
set_option linter.unusedVariables false
set_option linter.unusedSimpArgs false
set_option maxHeartbeats 8000000
set_option maxRecDepth 100000
def spec_DrawIsArf.f (k : Nat) (l0 : List Int) : Option (List Int) := (spec_l1New.f k l0).bind fun bt448 => ((spec_l3Bent.f k bt448.1 bt448.2.1 bt448.2.2).bind fun bt452 => ((spec_l1Once.f bt448.1 bt452.2.1 bt452.2.2 2).bind fun bt458 => (if bt458.1 = true then ((spec_ArfClosure.f k bt452.1).bind fun bt461 => (if bt461.2 = true then (some bt461.1) else (some bt452.1))) else (some bt452.1))))
theorem spec_DrawIsArf.calls (k : Nat) (A0 : Option Addr) (c0 : Nat) (l0 : List Int) (r : List Int) (w : World) (hr0 : Kd.C (Kd.int .u8) w A0 l0.length l0) (hc0 : l0.length ≤ c0) (h : spec_DrawIsArf.f k l0 = some r) :
 Calls Try.prog 8 #[.slice A0 l0.length c0] w fun e w' => ∃ v0_ : Value, e = .returned (.agg #[v0_]) ∧ Kd.Q (Kd.int .i64) 3 w' w.heap.size (fun _ => True) v0_ r ∧ Below w.heap.size w w' := by
 have hu26 := Try.underlying26
 have HR0 := Aside0.mk hr0
 have HC0 := Aside0.mk hc0
 clear hr0 hc0
 have HB := Aside0.mk (Below.refl w.heap.size w)
 have H := h
 clear h
 unfold spec_DrawIsArf.f at H
 obtain ⟨⟨t448, t449, t450⟩, A2, H⟩ := ob_ H
 (try dsimp only at H)
 obtain ⟨⟨t452, t455, t456⟩, A3, H⟩ := ob_ H
 (try dsimp only at H)
 obtain ⟨⟨t458, t459, t460⟩, A4, H⟩ := ob_ H
 (try dsimp only at H)
 by_cases c5 : t458 = true
 rotate_left
 · replace c5 := Bool.eq_false_iff.mpr c5
   subst c5
   rw [if_neg (show ¬ (false = true) by decide)] at H
   obtain rfl := Option.some.inj H
   go_enter Try.func8, Try.ntmps8
   go_wp2_with (first | ((with_reducible refine gate_dst (N := 2) rfl ?_); refine bx_ 2 #[.slice none 0 0] 26 ?_; intro gb447 hg w47 hbox hb; have BK447 := Aside0.mk (hbox); have GW447 := gw_ hg HB; have GE447 := gw_ hg HB; replace HB := bo_ HB hb; clear hb hbox hg) | ((with_reducible refine gate_callee (f := 23) rfl ?_); refine gL_ (some 8) Try.func23 #[.slice A0 l0.length c0] ?_; (with_reducible refine (spec_l1New.calls k _ _ l0 t448 t449 t450 w _ ?side1 ?side2 ?side3 A2.out).mono ?_); (case side1 => exact bq_ HB); (case side2 => exact HR0.out); (case side3 => exact HC0.out); rintro e w48 ⟨g451, rfl, hi, hb, hb2⟩; refine ⟨_, rfl, ?_⟩; replace HB := Aside0.mk (hb); have HI451 := Aside0.mk (hi); have NB451_447 := Aside0.mk (IsS55.ne_blk hi (blk_below (be_ BK447.out) hb2) (by decide)); have NB447_451 := Aside0.mk (Ne.symm (IsS55.ne_blk hi (blk_below (be_ BK447.out) hb2) (by decide))); replace BK447 := Aside0.mk (blk_below (be_ BK447.out) hb2); (try clear hb); (try clear hb2); (try clear hi)) | ((with_reducible refine gate_callee (f := 22) rfl ?_); refine gL_ (some 10) Try.func22 #[.pointer (some ⟨g451, 0, none⟩)] ?_; (with_reducible refine (spec_l3Bent.calls k g451 t448 t449 t450 t452 t455 t456 w _ ?side1 ?side2 A3.out).mono ?_); (case side1 => exact IsS55.q_ HI451); (case side2 => exact bi_ HB (IsS55.ge HI451.out)); rintro e w49 ⟨v453, rfl, ho0, hi, hb, hk⟩; refine ⟨_, rfl, ?_⟩; replace BK447 := Aside0.mk (KeepBut.blk hk (g' := gb447) (o := .cells #[.slice none 0 0] 26 (0, 0)) (be_ BK447.out) NB447_451.out (by simp)); have HO454 := Aside0.mk (Kd.Q_lower ho0 (below_size (bi_ HB (IsS55.ge HI451.out)))); replace HB := Aside0.mk (hb); replace HI451 := Aside0.mk (hi); (try clear hb); (try clear hk); (try clear hi); (try clear ho0)) | ((with_reducible refine gate_dst (N := 4) rfl ?_); refine bx_ 4 #[.slice none 0 0] 26 ?_; intro gb457 hg w50 hbox hb; replace HO454 := Aside0.mk (Kd.Q_below (qe_ HO454.out) hb); have BK457 := Aside0.mk (hbox); have GW457 := gq_ hg (bi_ HB (IsS55.ge HI451.out)); have GE457 := gq_ hg (bi_ HB (IsS55.ge HI451.out)); replace HB := Aside0.mk (below_step (bi_ HB (IsS55.ge HI451.out)) hb); have NB447_457 := nl_ hg BK447; have NB457_447 := ng_ hg BK447; replace BK447 := bk_ BK447 hb; have NB451_457 := Aside0.mk ((by rw [hg]; exact Nat.ne_of_lt (IsS55.lt (show IsS55 w _ g451 t448 t455 t456 from IsS55.q_ HI451)) : g451 ≠ gb457)); have NB457_451 := Aside0.mk ((by rw [hg]; exact Nat.ne_of_gt (IsS55.lt (show IsS55 w _ g451 t448 t455 t456 from IsS55.q_ HI451)) : gb457 ≠ g451)); replace HI451 := Aside0.mk (IsS55.below (IsS55.q_ HI451) hb); clear hb hbox hg; obtain ⟨Ao51, co51, eo51, _⟩ := Kd.Q_slice HO454.out; subst eo51; have hnb52 := NB457_447.out; have hnc52 := NB447_457.out; have hnb53 := NB457_451.out; have hnc53 := NB451_457.out; have hcz54_0 := cz_ BK457; have hfz54_0 := blk_frozen BK457.out 0) | ((with_reducible refine gate_callee (f := 32) rfl ?_); refine gL_ (some 12) Try.func32 #[.pointer (some ⟨g451, 0, none⟩), .int .i64 2] ?_; (with_reducible refine (spec_l1Once.calls g451 t448 t455 t456 2 false t459 t460 w _ ?side1 ?side2 A4.out).mono ?_); (case side1 => exact IsS55.q_ HI451); (case side2 => exact bi_ HB (IsS55.ge HI451.out)); rintro e w55 ⟨rfl, hi, hb, hk⟩; refine ⟨_, rfl, ?_⟩; replace BK447 := Aside0.mk (KeepBut.blk hk (g' := gb447) (o := .cells #[.slice none 0 0] 26 (0, 0)) (ba_ BK447) NB447_451.out (by simp)); replace HO454 := Aside0.mk (Kd.Q_mono (Kd.Q_keep (IsS55.apartQ (show IsS55 w _ g451 t448 t455 t456 from IsS55.q_ HI451) (qf1_ HO454 BK457) (by decide)) hk (fun _ h => h.2)) (fun _ h => h.1)); replace BK457 := Aside0.mk (KeepBut.blk hk (g' := gb457) (o := .cells #[.slice Ao51 t452.length co51] 26 (0, 0)) (bz_ BK457) NB457_451.out (by simp)); replace HB := Aside0.mk (hb); replace HI451 := Aside0.mk (hi); (try clear hb); (try clear hk); (try clear hi); have hcz56_0 := cz_ BK457; have hfz56_0 := blk_frozen BK457.out 0; have hnb57 := NB447_451.out; have hnc57 := NB451_447.out; have hcz58_0 := cz_ BK447; have hfz58_0 := blk_frozen BK447.out 0))
   refine bodyPost_ret (results_cell_row rfl _ _ gb447 26 #[.slice Ao51 t452.length co51] (0, 0) _ rfl (bz_ BK447) Try.underlying26 rfl (by kernel_rfl)) rfl ?_
   exact ⟨_, rf_, by (with_reducible repeat (first | apply Kd.Q_alloc | apply Kd.Q_drewN | apply Kd.Q_drew)); exact Kd.Q_mono (Kd.Q_far (p := ⟨gb447, 0, none⟩) (Kd.Q_types HO454.out BK447.out (by decide)) (fun _ hk => hk.2) (.slice Ao51 t452.length co51)) (fun _ hk => trivial), bi_ HB (IsS55.ge HI451.out)⟩
 subst c5
 rw [if_pos rfl] at H
 obtain ⟨⟨t461, t464⟩, A6, H⟩ := ob_ H
 (try dsimp only at H)
 by_cases c7 : t464 = true
 · subst c7
   rw [if_pos rfl] at H
   obtain rfl := Option.some.inj H
   go_enter Try.func8, Try.ntmps8
   go_wp2_with (first | ((with_reducible refine gate_dst (N := 2) rfl ?_); refine bx_ 2 #[.slice none 0 0] 26 ?_; intro gb447 hg w8 hbox hb; have BK447 := Aside0.mk (hbox); have GW447 := gw_ hg HB; have GE447 := gw_ hg HB; replace HB := bo_ HB hb; clear hb hbox hg) | ((with_reducible refine gate_callee (f := 23) rfl ?_); refine gL_ (some 8) Try.func23 #[.slice A0 l0.length c0] ?_; (with_reducible refine (spec_l1New.calls k _ _ l0 t448 t449 t450 w _ ?side1 ?side2 ?side3 A2.out).mono ?_); (case side1 => exact bq_ HB); (case side2 => exact HR0.out); (case side3 => exact HC0.out); rintro e w9 ⟨g451, rfl, hi, hb, hb2⟩; refine ⟨_, rfl, ?_⟩; replace HB := Aside0.mk (hb); have HI451 := Aside0.mk (hi); have NB451_447 := Aside0.mk (IsS55.ne_blk hi (blk_below (be_ BK447.out) hb2) (by decide)); have NB447_451 := Aside0.mk (Ne.symm (IsS55.ne_blk hi (blk_below (be_ BK447.out) hb2) (by decide))); replace BK447 := Aside0.mk (blk_below (be_ BK447.out) hb2); (try clear hb); (try clear hb2); (try clear hi)) | ((with_reducible refine gate_callee (f := 22) rfl ?_); refine gL_ (some 10) Try.func22 #[.pointer (some ⟨g451, 0, none⟩)] ?_; (with_reducible refine (spec_l3Bent.calls k g451 t448 t449 t450 t452 t455 t456 w _ ?side1 ?side2 A3.out).mono ?_); (case side1 => exact IsS55.q_ HI451); (case side2 => exact bi_ HB (IsS55.ge HI451.out)); rintro e w10 ⟨v453, rfl, ho0, hi, hb, hk⟩; refine ⟨_, rfl, ?_⟩; replace BK447 := Aside0.mk (KeepBut.blk hk (g' := gb447) (o := .cells #[.slice none 0 0] 26 (0, 0)) (be_ BK447.out) NB447_451.out (by simp)); have HO454 := Aside0.mk (Kd.Q_lower ho0 (below_size (bi_ HB (IsS55.ge HI451.out)))); replace HB := Aside0.mk (hb); replace HI451 := Aside0.mk (hi); (try clear hb); (try clear hk); (try clear hi); (try clear ho0)) | ((with_reducible refine gate_dst (N := 4) rfl ?_); refine bx_ 4 #[.slice none 0 0] 26 ?_; intro gb457 hg w11 hbox hb; replace HO454 := Aside0.mk (Kd.Q_below (qe_ HO454.out) hb); have BK457 := Aside0.mk (hbox); have GW457 := gq_ hg (bi_ HB (IsS55.ge HI451.out)); have GE457 := gq_ hg (bi_ HB (IsS55.ge HI451.out)); replace HB := Aside0.mk (below_step (bi_ HB (IsS55.ge HI451.out)) hb); have NB447_457 := nl_ hg BK447; have NB457_447 := ng_ hg BK447; replace BK447 := bk_ BK447 hb; have NB451_457 := Aside0.mk ((by rw [hg]; exact Nat.ne_of_lt (IsS55.lt (show IsS55 w _ g451 t448 t455 t456 from IsS55.q_ HI451)) : g451 ≠ gb457)); have NB457_451 := Aside0.mk ((by rw [hg]; exact Nat.ne_of_gt (IsS55.lt (show IsS55 w _ g451 t448 t455 t456 from IsS55.q_ HI451)) : gb457 ≠ g451)); replace HI451 := Aside0.mk (IsS55.below (IsS55.q_ HI451) hb); clear hb hbox hg; obtain ⟨Ao12, co12, eo12, _⟩ := Kd.Q_slice HO454.out; subst eo12; have hnb13 := NB457_447.out; have hnc13 := NB447_457.out; have hnb14 := NB457_451.out; have hnc14 := NB451_457.out; have hcz15_0 := cz_ BK457; have hfz15_0 := blk_frozen BK457.out 0) | ((with_reducible refine gate_callee (f := 32) rfl ?_); refine gL_ (some 12) Try.func32 #[.pointer (some ⟨g451, 0, none⟩), .int .i64 2] ?_; (with_reducible refine (spec_l1Once.calls g451 t448 t455 t456 2 true t459 t460 w _ ?side1 ?side2 A4.out).mono ?_); (case side1 => exact IsS55.q_ HI451); (case side2 => exact bi_ HB (IsS55.ge HI451.out)); rintro e w16 ⟨rfl, hi, hb, hk⟩; refine ⟨_, rfl, ?_⟩; replace BK447 := Aside0.mk (KeepBut.blk hk (g' := gb447) (o := .cells #[.slice none 0 0] 26 (0, 0)) (ba_ BK447) NB447_451.out (by simp)); replace HO454 := Aside0.mk (Kd.Q_mono (Kd.Q_keep (IsS55.apartQ (show IsS55 w _ g451 t448 t455 t456 from IsS55.q_ HI451) (qf1_ HO454 BK457) (by decide)) hk (fun _ h => h.2)) (fun _ h => h.1)); replace BK457 := Aside0.mk (KeepBut.blk hk (g' := gb457) (o := .cells #[.slice Ao12 t452.length co12] 26 (0, 0)) (bz_ BK457) NB457_451.out (by simp)); replace HB := Aside0.mk (hb); replace HI451 := Aside0.mk (hi); (try clear hb); (try clear hk); (try clear hi); have hcz17_0 := cz_ BK457; have hfz17_0 := blk_frozen BK457.out 0) | ((with_reducible refine gate_callee (f := 7) rfl ?_); refine gL_ (some 15) Try.func7 #[.agg #[.slice Ao12 t452.length co12]] ?_; (with_reducible refine (spec_ArfClosure.calls k _ _ t452 t461 true _ ?side1 ?side2 A6.out).mono ?_); (case side1 => exact ce_ ((Kd.Q_reads' HO454.out).2.2)); (case side2 => exact (Kd.Q_reads' HO454.out).2.1); rintro e w18 ⟨v462, rfl, ho0, hb⟩; refine ⟨_, rfl, ?_⟩; have HO463 := Aside0.mk (Kd.R_lower (Kd.R_new' ho0 (Kd.Q_lt (qe_ HO454.out))) (below_size (bi_ HB (IsS55.ge HI451.out)))); replace HO454 := Aside0.mk (Kd.Q_elder' (qe_ HO454.out) (Kd.R_base ho0) hb); replace BK447 := bk_ BK447 hb; replace BK457 := bk_ BK457 hb; replace HB := Aside0.mk (below_step (bi_ HB (IsS55.ge HI451.out)) hb); replace HI451 := Aside0.mk (IsS55.below (IsS55.q_ HI451) hb); (try clear hb); (try clear ho0)) | ((with_reducible refine gate_dst (N := 5) rfl ?_); refine bx_ 5 #[.slice none 0 0] 26 ?_; intro gb465 hg w19 hbox hb; replace HO454 := Aside0.mk (Kd.Q_below (qe_ HO454.out) hb); replace HO463 := Aside0.mk (Kd.R_below (re_ HO463.out) hb); have BK465 := Aside0.mk (hbox); have GW465 := gq_ hg (bi_ HB (IsS55.ge HI451.out)); have GE465 := gq_ hg (bi_ HB (IsS55.ge HI451.out)); replace HB := Aside0.mk (below_step (bi_ HB (IsS55.ge HI451.out)) hb); have NB447_465 := nl_ hg BK447; have NB465_447 := ng_ hg BK447; replace BK447 := bk_ BK447 hb; have NB457_465 := nl_ hg BK457; have NB465_457 := ng_ hg BK457; replace BK457 := bk_ BK457 hb; have NB451_465 := Aside0.mk ((by rw [hg]; exact Nat.ne_of_lt (IsS55.lt (show IsS55 w _ g451 t448 t459 t460 from IsS55.q_ HI451)) : g451 ≠ gb465)); have NB465_451 := Aside0.mk ((by rw [hg]; exact Nat.ne_of_gt (IsS55.lt (show IsS55 w _ g451 t448 t459 t460 from IsS55.q_ HI451)) : gb465 ≠ g451)); replace HI451 := Aside0.mk (IsS55.below (IsS55.q_ HI451) hb); clear hb hbox hg; obtain ⟨Ao20, co20, eo20⟩ := Kd.R_slice HO463.out; subst eo20; have hnb21 := NB465_447.out; have hnc21 := NB447_465.out; have hnb22 := NB465_457.out; have hnc22 := NB457_465.out; have hnb23 := NB465_451.out; have hnc23 := NB451_465.out; have hcz24_0 := cz_ BK465; have hfz24_0 := blk_frozen BK465.out 0; have hnb25 := NB447_451.out; have hnc25 := NB451_447.out; have hcz26_0 := cz_ BK447; have hfz26_0 := blk_frozen BK447.out 0))
   refine bodyPost_ret (results_cell_row rfl _ _ gb447 26 #[.slice Ao20 t461.length co20] (0, 0) _ rfl (bz_ BK447) Try.underlying26 rfl (by kernel_rfl)) rfl ?_
   exact ⟨_, rf_, Kd.Q_of_R (by (with_reducible repeat (first | apply Kd.R_alloc | apply Kd.R_drewN | apply Kd.R_drew)); exact Kd.R_mono (Kd.R_far (p := ⟨gb447, 0, none⟩) (Kd.R_far (p := ⟨gb465, 0, none⟩) (Kd.R_types (Kd.R_types HO463.out BK465.out (by decide)) BK447.out (by decide)) (fun _ hk => hk.1.2) (.slice Ao20 t461.length co20)) (fun _ hk => hk.2) (.slice Ao20 t461.length co20)) (fun _ hk => trivial)), bi_ HB (IsS55.ge HI451.out)⟩
 replace c7 := Bool.eq_false_iff.mpr c7
 subst c7
 rw [if_neg (show ¬ (false = true) by decide)] at H
 obtain rfl := Option.some.inj H
 go_enter Try.func8, Try.ntmps8
 go_wp2_with (first | ((with_reducible refine gate_dst (N := 2) rfl ?_); refine bx_ 2 #[.slice none 0 0] 26 ?_; intro gb447 hg w27 hbox hb; have BK447 := Aside0.mk (hbox); have GW447 := gw_ hg HB; have GE447 := gw_ hg HB; replace HB := bo_ HB hb; clear hb hbox hg) | ((with_reducible refine gate_callee (f := 23) rfl ?_); refine gL_ (some 8) Try.func23 #[.slice A0 l0.length c0] ?_; (with_reducible refine (spec_l1New.calls k _ _ l0 t448 t449 t450 w _ ?side1 ?side2 ?side3 A2.out).mono ?_); (case side1 => exact bq_ HB); (case side2 => exact HR0.out); (case side3 => exact HC0.out); rintro e w28 ⟨g451, rfl, hi, hb, hb2⟩; refine ⟨_, rfl, ?_⟩; replace HB := Aside0.mk (hb); have HI451 := Aside0.mk (hi); have NB451_447 := Aside0.mk (IsS55.ne_blk hi (blk_below (be_ BK447.out) hb2) (by decide)); have NB447_451 := Aside0.mk (Ne.symm (IsS55.ne_blk hi (blk_below (be_ BK447.out) hb2) (by decide))); replace BK447 := Aside0.mk (blk_below (be_ BK447.out) hb2); (try clear hb); (try clear hb2); (try clear hi)) | ((with_reducible refine gate_callee (f := 22) rfl ?_); refine gL_ (some 10) Try.func22 #[.pointer (some ⟨g451, 0, none⟩)] ?_; (with_reducible refine (spec_l3Bent.calls k g451 t448 t449 t450 t452 t455 t456 w _ ?side1 ?side2 A3.out).mono ?_); (case side1 => exact IsS55.q_ HI451); (case side2 => exact bi_ HB (IsS55.ge HI451.out)); rintro e w29 ⟨v453, rfl, ho0, hi, hb, hk⟩; refine ⟨_, rfl, ?_⟩; replace BK447 := Aside0.mk (KeepBut.blk hk (g' := gb447) (o := .cells #[.slice none 0 0] 26 (0, 0)) (be_ BK447.out) NB447_451.out (by simp)); have HO454 := Aside0.mk (Kd.Q_lower ho0 (below_size (bi_ HB (IsS55.ge HI451.out)))); replace HB := Aside0.mk (hb); replace HI451 := Aside0.mk (hi); (try clear hb); (try clear hk); (try clear hi); (try clear ho0)) | ((with_reducible refine gate_dst (N := 4) rfl ?_); refine bx_ 4 #[.slice none 0 0] 26 ?_; intro gb457 hg w30 hbox hb; replace HO454 := Aside0.mk (Kd.Q_below (qe_ HO454.out) hb); have BK457 := Aside0.mk (hbox); have GW457 := gq_ hg (bi_ HB (IsS55.ge HI451.out)); have GE457 := gq_ hg (bi_ HB (IsS55.ge HI451.out)); replace HB := Aside0.mk (below_step (bi_ HB (IsS55.ge HI451.out)) hb); have NB447_457 := nl_ hg BK447; have NB457_447 := ng_ hg BK447; replace BK447 := bk_ BK447 hb; have NB451_457 := Aside0.mk ((by rw [hg]; exact Nat.ne_of_lt (IsS55.lt (show IsS55 w _ g451 t448 t455 t456 from IsS55.q_ HI451)) : g451 ≠ gb457)); have NB457_451 := Aside0.mk ((by rw [hg]; exact Nat.ne_of_gt (IsS55.lt (show IsS55 w _ g451 t448 t455 t456 from IsS55.q_ HI451)) : gb457 ≠ g451)); replace HI451 := Aside0.mk (IsS55.below (IsS55.q_ HI451) hb); clear hb hbox hg; obtain ⟨Ao31, co31, eo31, _⟩ := Kd.Q_slice HO454.out; subst eo31; have hnb32 := NB457_447.out; have hnc32 := NB447_457.out; have hnb33 := NB457_451.out; have hnc33 := NB451_457.out; have hcz34_0 := cz_ BK457; have hfz34_0 := blk_frozen BK457.out 0) | ((with_reducible refine gate_callee (f := 32) rfl ?_); refine gL_ (some 12) Try.func32 #[.pointer (some ⟨g451, 0, none⟩), .int .i64 2] ?_; (with_reducible refine (spec_l1Once.calls g451 t448 t455 t456 2 true t459 t460 w _ ?side1 ?side2 A4.out).mono ?_); (case side1 => exact IsS55.q_ HI451); (case side2 => exact bi_ HB (IsS55.ge HI451.out)); rintro e w35 ⟨rfl, hi, hb, hk⟩; refine ⟨_, rfl, ?_⟩; replace BK447 := Aside0.mk (KeepBut.blk hk (g' := gb447) (o := .cells #[.slice none 0 0] 26 (0, 0)) (ba_ BK447) NB447_451.out (by simp)); replace HO454 := Aside0.mk (Kd.Q_mono (Kd.Q_keep (IsS55.apartQ (show IsS55 w _ g451 t448 t455 t456 from IsS55.q_ HI451) (qf1_ HO454 BK457) (by decide)) hk (fun _ h => h.2)) (fun _ h => h.1)); replace BK457 := Aside0.mk (KeepBut.blk hk (g' := gb457) (o := .cells #[.slice Ao31 t452.length co31] 26 (0, 0)) (bz_ BK457) NB457_451.out (by simp)); replace HB := Aside0.mk (hb); replace HI451 := Aside0.mk (hi); (try clear hb); (try clear hk); (try clear hi); have hcz36_0 := cz_ BK457; have hfz36_0 := blk_frozen BK457.out 0) | ((with_reducible refine gate_callee (f := 7) rfl ?_); refine gL_ (some 15) Try.func7 #[.agg #[.slice Ao31 t452.length co31]] ?_; (with_reducible refine (spec_ArfClosure.calls k _ _ t452 t461 false _ ?side1 ?side2 A6.out).mono ?_); (case side1 => exact ce_ ((Kd.Q_reads' HO454.out).2.2)); (case side2 => exact (Kd.Q_reads' HO454.out).2.1); rintro e w37 ⟨v462, rfl, ho0, hb⟩; refine ⟨_, rfl, ?_⟩; have HO463 := Aside0.mk (Kd.R_lower (Kd.R_new' ho0 (Kd.Q_lt (qe_ HO454.out))) (below_size (bi_ HB (IsS55.ge HI451.out)))); replace HO454 := Aside0.mk (Kd.Q_elder' (qe_ HO454.out) (Kd.R_base ho0) hb); replace BK447 := bk_ BK447 hb; replace BK457 := bk_ BK457 hb; replace HB := Aside0.mk (below_step (bi_ HB (IsS55.ge HI451.out)) hb); replace HI451 := Aside0.mk (IsS55.below (IsS55.q_ HI451) hb); (try clear hb); (try clear ho0)) | ((with_reducible refine gate_dst (N := 5) rfl ?_); refine bx_ 5 #[.slice none 0 0] 26 ?_; intro gb465 hg w38 hbox hb; replace HO454 := Aside0.mk (Kd.Q_below (qe_ HO454.out) hb); replace HO463 := Aside0.mk (Kd.R_below (re_ HO463.out) hb); have BK465 := Aside0.mk (hbox); have GW465 := gq_ hg (bi_ HB (IsS55.ge HI451.out)); have GE465 := gq_ hg (bi_ HB (IsS55.ge HI451.out)); replace HB := Aside0.mk (below_step (bi_ HB (IsS55.ge HI451.out)) hb); have NB447_465 := nl_ hg BK447; have NB465_447 := ng_ hg BK447; replace BK447 := bk_ BK447 hb; have NB457_465 := nl_ hg BK457; have NB465_457 := ng_ hg BK457; replace BK457 := bk_ BK457 hb; have NB451_465 := Aside0.mk ((by rw [hg]; exact Nat.ne_of_lt (IsS55.lt (show IsS55 w _ g451 t448 t459 t460 from IsS55.q_ HI451)) : g451 ≠ gb465)); have NB465_451 := Aside0.mk ((by rw [hg]; exact Nat.ne_of_gt (IsS55.lt (show IsS55 w _ g451 t448 t459 t460 from IsS55.q_ HI451)) : gb465 ≠ g451)); replace HI451 := Aside0.mk (IsS55.below (IsS55.q_ HI451) hb); clear hb hbox hg; obtain ⟨Ao39, co39, eo39⟩ := Kd.R_slice HO463.out; subst eo39; have hnb40 := NB465_447.out; have hnc40 := NB447_465.out; have hnb41 := NB465_457.out; have hnc41 := NB457_465.out; have hnb42 := NB465_451.out; have hnc42 := NB451_465.out; have hcz43_0 := cz_ BK465; have hfz43_0 := blk_frozen BK465.out 0; have hcz44_0 := cz_ BK457; have hfz44_0 := blk_frozen BK457.out 0; have hnb45 := NB447_451.out; have hnc45 := NB451_447.out; have hcz46_0 := cz_ BK447; have hfz46_0 := blk_frozen BK447.out 0))
 refine bodyPost_ret (results_cell_row rfl _ _ gb447 26 #[.slice Ao31 t452.length co31] (0, 0) _ rfl (bz_ BK447) Try.underlying26 rfl (by kernel_rfl)) rfl ?_
 exact ⟨_, rf_, by (with_reducible repeat (first | apply Kd.Q_alloc | apply Kd.Q_drewN | apply Kd.Q_drew)); exact Kd.Q_mono (Kd.Q_far (p := ⟨gb447, 0, none⟩) (Kd.Q_far (p := ⟨gb465, 0, none⟩) (Kd.Q_types (Kd.Q_types HO454.out BK465.out (by decide)) BK447.out (by decide)) (fun _ hk => hk.1.2) (.slice Ao39 t461.length co39)) (fun _ hk => hk.2) (.slice Ao31 t452.length co31)) (fun _ hk => trivial), bi_ HB (IsS55.ge HI451.out)⟩
def spec_l4Small.l0 : Nat → Int → List Int → List Bool → Int → Option (List Int)
 | 0, _, _, _, _ => none
 | k + 1, x1, x5, x6, x7 => if x7 < x1 then (if 0 ≤ x7 then (if x7 < (x6.length : Int) then (if rdOf false x6 x7 = true then (if x5.length < 17592186044416 then (spec_l4Small.l0 k x1 (x5 ++ [x7]) x6 (wrap64 (x7 + 1))) else (none)) else (spec_l4Small.l0 k x1 x5 x6 (wrap64 (x7 + 1)))) else (none)) else (none)) else (some x5)
def spec_l4Small.f (k : Nat) (l0_0 : List Int) (a1 : Int) : Option (List Int) := (some (([] : List Int) : List Int)).bind fun y467 => (if a1 < 1 then (some y467) else ((spec_l3Table.f k l0_0 a1).bind fun t470 => (spec_l4Small.l0 k a1 y467 t470 0)))
theorem spec_l4Small.calls (k : Nat) (A0_0 : Option Addr) (c0_0 : Nat) (l0_0 : List Int) (a1 : Int) (r : List Int) (w : World) (hr0_0 : Kd.C (Kd.int .i64) w A0_0 l0_0.length l0_0) (hc0_0 : l0_0.length ≤ c0_0) (h : spec_l4Small.f k l0_0 a1 = some r) :
 Calls Try.prog 67 #[.agg #[.slice A0_0 l0_0.length c0_0], .int .i64 a1] w fun e w' => ∃ v0_ : Value, e = .returned (v0_) ∧ Kd.R (Kd.int .i64) 3 w' w.heap.size (fun _ => True) v0_ r ∧ Below w.heap.size w w' := by
 have hu26 := Try.underlying26
 have HR0_0 := Aside0.mk hr0_0
 have HC0_0 := Aside0.mk hc0_0
 clear hr0_0 hc0_0
 have HB := Aside0.mk (Below.refl w.heap.size w)
 have H := h
 clear h
 unfold spec_l4Small.f at H
 obtain ⟨y467, hy467⟩ : ∃ y_ : List Int, y_ = (([] : List Int)) := ⟨_, rfl⟩
 replace H : (if a1 < 1 then (some y467) else ((spec_l3Table.f k l0_0 a1).bind fun t470 => (spec_l4Small.l0 k a1 y467 t470 0))) = some r := by subst hy467; exact H
 have Ny467 := Aside0.mk hy467
 clear hy467
 by_cases c3 : a1 < 1
 · rw [if_pos c3] at H
   have c3b0 : decide (a1 < 1) = true := decide_eq_true c3
   clear c3
   obtain rfl := Option.some.inj H
   go_enter Try.func67, Try.ntmps67
   go_wp2_with (first | ((with_reducible refine gate_dst (N := 2) rfl ?_); refine bx_ 2 #[.slice A0_0 l0_0.length c0_0] 26 ?_; intro gb466 hg w4 hbox hb; have BK466 := Aside0.mk (hbox); have GW466 := gw_ hg HB; have GE466 := gw_ hg HB; replace HB := bo_ HB hb; clear hb hbox hg) | ((with_reducible refine gate_dst (N := 8) rfl ?_); refine Kd.R_lit (Kd.int .i64) _ 3 ?hg (N := 8) ?hd (xs := ([] : List Int)) (inner := []) (ok := fun _ => True) (okp := fun _ => True) ?hr ?hp (fun _ hk => hk) trivial (Below.refl _ _) (Nat.le_refl _) (by simp) ?_; (case hd => rfl); (case hg => rfl); (case hr => first | (go_simp; done) | (go_simp; rfl)); (case hp => exact (Reps.none _ _)); intro v468 w5 ho6 hb hg_ hnew_; clear hg_ hnew_; (first | rw [← Ny467.out] at ho6 | (simp only [Int.reduceToNat] at ho6; rw [← Ny467.out] at ho6)); have HO469 := Aside0.mk (Kd.R_lower ho6 (below_size (bq_ HB))); replace BK466 := bk_ BK466 hb; replace HB := bp_ HB hb; clear hb ho6))
   go_ret
   exact ⟨_, rf_, re_ HO469.out, bq_ HB⟩
 rw [if_neg c3] at H
 have c3b0 : decide (a1 < 1) = false := decide_eq_false c3
 clear c3
 obtain ⟨t470, A7, H⟩ := ob_ H
 have H' := Aside0.mk H
 clear H
 go_enter Try.func67, Try.ntmps67
 go_wp2_with (first | ((with_reducible refine gate_dst (N := 2) rfl ?_); refine bx_ 2 #[.slice A0_0 l0_0.length c0_0] 26 ?_; intro gb466 hg w8 hbox hb; have BK466 := Aside0.mk (hbox); have GW466 := gw_ hg HB; have GE466 := gw_ hg HB; replace HB := bo_ HB hb; clear hb hbox hg) | ((with_reducible refine gate_dst (N := 8) rfl ?_); refine Kd.R_lit (Kd.int .i64) _ 3 ?hg (N := 8) ?hd (xs := ([] : List Int)) (inner := []) (ok := fun _ => True) (okp := fun _ => True) ?hr ?hp (fun _ hk => hk) trivial (Below.refl _ _) (Nat.le_refl _) (by simp) ?_; (case hd => rfl); (case hg => rfl); (case hr => first | (go_simp; done) | (go_simp; rfl)); (case hp => exact (Reps.none _ _)); intro v468 w9 ho10 hb hg_ hnew_; clear hg_ hnew_; (first | rw [← Ny467.out] at ho10 | (simp only [Int.reduceToNat] at ho10; rw [← Ny467.out] at ho10)); have HO469 := Aside0.mk (Kd.R_lower ho10 (below_size (bq_ HB))); replace BK466 := bk_ BK466 hb; replace HB := bp_ HB hb; clear hb ho10; have hcz11_0 := cz_ BK466; have hfz11_0 := blk_frozen BK466.out 0) | ((with_reducible refine gate_callee (f := 60) rfl ?_); refine gL_ (some 15) Try.func60 #[.slice A0_0 l0_0.length c0_0, .int .i64 a1] ?_; (with_reducible refine (spec_l3Table.calls k _ _ l0_0 a1 t470 _ ?side1 ?side2 A7.out).mono ?_); (case side1 => exact ch_ HR0_0 HB); (case side2 => exact HC0_0.out); rintro e w12 ⟨v471, rfl, ho0, hb⟩; refine ⟨_, rfl, ?_⟩; replace HO469 := Aside0.mk (Kd.R_below (re_ HO469.out) hb); have HO472 := Aside0.mk (Kd.R_lower ho0 (below_size (bq_ HB))); replace BK466 := bk_ BK466 hb; replace HB := bp_ HB hb; (try clear hb); (try clear ho0)))
 go_loopg [5, 7] k (fun kq v5 v7 w' => ∃ (x5_1 : List Int) (x7_1 : Int), v7 = .int .i64 x7_1 ∧ Aside0 (spec_l4Small.l0 kq a1 x5_1 t470 x7_1 = some r) ∧ Aside0 (kq ≤ k) ∧ Aside0 (Kd.R (Kd.int .i64) 3 w' w.heap.size (fun _ => True) v5 x5_1) ∧ Aside0 (Kd.R Kd.bool 4 w' w.heap.size (fun _ => True) v471 t470) ∧ Aside0 (w'.heap[gb466]? = some (.cells #[(.slice A0_0 l0_0.length c0_0)] 26 (0, 0))) ∧ Aside0 (Below w.heap.size w w'))
 case atStart => exact ⟨(y467), (0), rs_, H', ⟨Nat.le_refl _⟩, ⟨re_ HO469.out⟩, ⟨re_ HO472.out⟩, ⟨be_ BK466.out⟩, ⟨bq_ HB⟩⟩
 case round =>
  clear H'
  try clear c3b0
  try clear hcz11_0
  try clear hfz11_0
  obtain ⟨x5_1, x7_1, rfl, HA, HK1, HO_5, HO_6, BK466, HB⟩ := hrel
  cases gk with
  | zero => exact absurd HA.out (by simp [spec_l4Small.l0])
  | succ k1 =>
   have H := HA.out
   clear HA
   simp only [spec_l4Small.l0] at H
   by_cases c13 : x7_1 < a1
   rotate_left
   · rw [if_neg c13] at H
     have c13b0 : decide (x7_1 < a1) = false := decide_eq_false c13
     clear c13
     obtain rfl := Option.some.inj H
     go_wp2
     go_ret
     exact ⟨_, rf_, re_ HO_5.out, bq_ HB⟩
   rw [if_pos c13] at H
   have c13b0 : decide (x7_1 < a1) = true := decide_eq_true c13
   clear c13
   obtain ⟨c14b0, H⟩ := ipd_ H
   obtain ⟨c15b0, H⟩ := ipd_ H
   obtain ⟨bq16, hbq16⟩ : ∃ b_ : Bool, b_ = (rdOf false t470 x7_1) := ⟨_, rfl⟩
   replace H : (if bq16 = true then (if x5_1.length < 17592186044416 then (spec_l4Small.l0 k1 a1 (x5_1 ++ [x7_1]) t470 (wrap64 (x7_1 + 1))) else (none)) else (spec_l4Small.l0 k1 a1 x5_1 t470 (wrap64 (x7_1 + 1)))) = some r := by rw [← hbq16] at H; exact H
   have Nbq16 := Aside0.mk hbq16
   clear hbq16
   by_cases c17 : bq16 = true
   rotate_left
   · replace c17 := Bool.eq_false_iff.mpr c17
     subst c17
     rw [if_neg (show ¬ (false = true) by decide)] at H
     have H' := Aside0.mk H
     clear H
     obtain ⟨Ao21, co21, eo21⟩ := Kd.R_slice HO_6.out
     subst eo21
     have p473 : 0 ≤ (x7_1 : Int) := od_
     have q473 : x7_1 < (t470.length : Int) := od_
     obtain ⟨ad473, e473, hx473_0⟩ := Kd.at_bool (Kd.R_reads' HO_6.out).2.2 x7_1 p473 q473
     (try rw [← Nbq16.out] at hx473_0)
     cases e473
     replace p473 := eq_true p473
     replace q473 := eq_true q473
     go_wp2
     go_roundg k1
     case measure => have := HK1.out; omega
     case rel => exact ⟨(x5_1), (wrap64 (x7_1 + 1)), rs_, H', ⟨by have := HK1.out; omega⟩, ⟨re_ HO_5.out⟩, ⟨re_ HO_6.out⟩, ⟨be_ BK466.out⟩, ⟨bq_ HB⟩⟩
   subst c17
   rw [if_pos rfl] at H
   obtain ⟨c18, H⟩ := ip_ H
   have LMc18 := Aside0.mk c18
   clear c18
   obtain ⟨y474, hy474⟩ : ∃ y_ : List Int, y_ = (x5_1 ++ [x7_1]) := ⟨_, rfl⟩
   replace H : (spec_l4Small.l0 k1 a1 y474 t470 (wrap64 (x7_1 + 1))) = some r := by subst hy474; exact H
   have Ny474 := Aside0.mk hy474
   clear hy474
   have H' := Aside0.mk H
   clear H
   obtain ⟨Ao19, co19, eo19⟩ := Kd.R_slice HO_6.out
   subst eo19
   have p473 : 0 ≤ (x7_1 : Int) := od_
   have q473 : x7_1 < (t470.length : Int) := od_
   obtain ⟨ad473, e473, hx473_0⟩ := Kd.at_bool (Kd.R_reads' HO_6.out).2.2 x7_1 p473 q473
   (try rw [← Nbq16.out] at hx473_0)
   cases e473
   replace p473 := eq_true p473
   replace q473 := eq_true q473
   go_wp2_with (first | ((with_reducible refine gate_builtin (b := .append) (xs := #[.tmp 25, .tmp 27]) rfl ?_); at_builtin; refine Kd.R_append (Kd.int .i64) (w0 := w) w.heap.size rfl (.tmp 25) (.tmp 27) 24 3 (.int .i64 0) 8 rfl Try.underlying24 info3 rfl (by decide) (by omega) u5 x5_1 x7_1 [.int .i64 x7_1] (fun _ => True) (fun _ => False) rfl rfl ?aP (fun _ hk => hk.elim) ?aF ?aO ?aB ?aS ?aL ?_; (case aP => exact rfl); (case aB => exact (bq_ HB)); (case aF => exact (fun _ _ => trivial)); (case aO => exact (re_ HO_5.out)); (case aS => exact (below_size (bq_ HB))); (case aL => have := LMc18.out; omega); intro v475 w20 ho hb hg hat; rw [← Ny474.out] at ho; replace HO_6 := Aside0.mk (Kd.R_over' (re_ HO_6.out) (Kd.R_typed (re_ HO_5.out)) (by decide) hg); replace BK466 := Aside0.mk (blk_grown (be_ BK466.out) hg (Kd.R_ne HO_5.out BK466.out (by decide))); replace HB := Aside0.mk (hb); have HO476 := Aside0.mk (ho); clear HO_5; clear ho hb hg hat))
   go_roundg k1
   case measure => have := HK1.out; omega
   case rel => exact ⟨(y474), (wrap64 (x7_1 + 1)), rs_, H', ⟨by have := HK1.out; omega⟩, ⟨re_ HO476.out⟩, ⟨re_ HO_6.out⟩, ⟨be_ BK466.out⟩, ⟨bq_ HB⟩⟩
def spec_SmallElements.f (k : Nat) (l0_0 : List Int) : Option (List Int) := (spec_IsSemigroup.f k l0_0).bind fun t478 => (if t478 = true then ((spec_ConductorOf.f k l0_0).bind fun t479 => ((spec_l4Small.f k l0_0 t479).bind fun t480 => (some t480))) else (some (([] : List Int))))
theorem spec_SmallElements.calls (k : Nat) (A0_0 : Option Addr) (c0_0 : Nat) (l0_0 : List Int) (r : List Int) (w : World) (hr0_0 : Kd.C (Kd.int .i64) w A0_0 l0_0.length l0_0) (hc0_0 : l0_0.length ≤ c0_0) (h : spec_SmallElements.f k l0_0 = some r) :
 Calls Try.prog 35 #[.agg #[.slice A0_0 l0_0.length c0_0]] w fun e w' => ∃ v0_ : Value, e = .returned (v0_) ∧ Kd.R (Kd.int .i64) 3 w' w.heap.size (fun _ => True) v0_ r ∧ Below w.heap.size w w' := by
 have hu26 := Try.underlying26
 have HR0_0 := Aside0.mk hr0_0
 have HC0_0 := Aside0.mk hc0_0
 clear hr0_0 hc0_0
 have HB := Aside0.mk (Below.refl w.heap.size w)
 have H := h
 clear h
 unfold spec_SmallElements.f at H
 obtain ⟨t478, A2, H⟩ := ob_ H
 by_cases c3 : t478 = true
 rotate_left
 · replace c3 := Bool.eq_false_iff.mpr c3
   subst c3
   rw [if_neg (show ¬ (false = true) by decide)] at H
   obtain ⟨y483, hy483⟩ : ∃ y_ : List Int, y_ = (([] : List Int)) := ⟨_, rfl⟩
   replace H : (some y483) = some r := by subst hy483; exact H
   have Ny483 := Aside0.mk hy483
   clear hy483
   obtain rfl := Option.some.inj H
   go_enter Try.func35, Try.ntmps35
   go_wp2_with (first | ((with_reducible refine gate_dst (N := 1) rfl ?_); refine bx_ 1 #[.slice A0_0 l0_0.length c0_0] 26 ?_; intro gb477 hg w12 hbox hb; have BK477 := Aside0.mk (hbox); have GW477 := gw_ hg HB; have GE477 := gw_ hg HB; replace HB := bo_ HB hb; clear hb hbox hg; have hcz13_0 := cz_ BK477; have hfz13_0 := blk_frozen BK477.out 0) | ((with_reducible refine gate_callee (f := 27) rfl ?_); refine gL_ (some 4) Try.func27 #[.agg #[.slice A0_0 l0_0.length c0_0]] ?_; (with_reducible refine (spec_IsSemigroup.calls k _ _ l0_0 false _ ?side1 ?side2 A2.out).mono ?_); (case side1 => exact ch_ HR0_0 HB); (case side2 => exact HC0_0.out); rintro e w14 ⟨rfl, hb⟩; refine ⟨_, rfl, ?_⟩; replace BK477 := bk_ BK477 hb; replace HB := bp_ HB hb; (try clear hb)) | ((with_reducible refine gate_dst (N := 6) rfl ?_); refine Kd.R_lit (Kd.int .i64) _ 3 ?hg (N := 6) ?hd (xs := ([] : List Int)) (inner := []) (ok := fun _ => True) (okp := fun _ => True) ?hr ?hp (fun _ hk => hk) trivial (Below.refl _ _) (Nat.le_refl _) (by simp) ?_; (case hd => rfl); (case hg => rfl); (case hr => first | (go_simp; done) | (go_simp; rfl)); (case hp => exact (Reps.none _ _)); intro v484 w15 ho16 hb hg_ hnew_; clear hg_ hnew_; (first | rw [← Ny483.out] at ho16 | (simp only [Int.reduceToNat] at ho16; rw [← Ny483.out] at ho16)); have HO485 := Aside0.mk (Kd.R_lower ho16 (below_size (bq_ HB))); replace BK477 := bk_ BK477 hb; replace HB := bp_ HB hb; clear hb ho16))
   go_ret
   exact ⟨_, rf_, re_ HO485.out, bq_ HB⟩
 subst c3
 rw [if_pos rfl] at H
 obtain ⟨t479, A4, H⟩ := ob_ H
 obtain ⟨t480, A5, H⟩ := ob_ H
 obtain rfl := Option.some.inj H
 go_enter Try.func35, Try.ntmps35
 try go_wp2_with (first | ((with_reducible refine gate_dst (N := 1) rfl ?_); refine bx_ 1 #[.slice A0_0 l0_0.length c0_0] 26 ?_; intro gb477 hg w6 hbox hb; have BK477 := Aside0.mk (hbox); have GW477 := gw_ hg HB; have GE477 := gw_ hg HB; replace HB := bo_ HB hb; clear hb hbox hg; have hcz7_0 := cz_ BK477; have hfz7_0 := blk_frozen BK477.out 0) | ((with_reducible refine gate_callee (f := 27) rfl ?_); refine gL_ (some 4) Try.func27 #[.agg #[.slice A0_0 l0_0.length c0_0]] ?_; (with_reducible refine (spec_IsSemigroup.calls k _ _ l0_0 true _ ?side1 ?side2 A2.out).mono ?_); (case side1 => exact ch_ HR0_0 HB); (case side2 => exact HC0_0.out); rintro e w8 ⟨rfl, hb⟩; refine ⟨_, rfl, ?_⟩; replace BK477 := bk_ BK477 hb; replace HB := bp_ HB hb; (try clear hb)))
 replace BK477 := Aside0.mk (blk_drew BK477.out)
 replace HB := Aside0.mk (below_drew1 HB.out)
 refine start_ (n := 5) (S := fun w' => w'.cell? ⟨gb477, 0, none⟩ = some (.slice A0_0 l0_0.length c0_0)) (ds := []) (B_ 0 5) (by kernel_rfl) rfl rfl ((blk_cell BK477.out 0).trans rfl) (fun hHeld => ?_)
 generalize w8.drew = w9 at BK477 HB hHeld ⊢
 refine take_ (i := 0) (N := some 7) (v := ?_) (a' := ?_) (B_ 1 5) rfl rfl (by kernel_rfl) (fun _ _ _ h => h) (Or.inl ⟨by rfl, ?_⟩) hHeld ?_ ?_
 rotate_left
 · intro w' s0
   go_simp
   with_reducible rfl
 rotate_left
 · simp only [Act.put, z1_, z2_, z3_, i64_w, i32_w]
   rfl
 refine take_ (i := 1) (N := some 8) (v := ?_) (a' := ?_) (B_ 3 5) rfl rfl (by kernel_rfl) (fun _ _ _ h => h) (Or.inl ⟨by rfl, ?_⟩) hHeld ?_ ?_
 rotate_left
 · intro w' s0
   go_simp
   with_reducible rfl
 rotate_left
 · simp only [Act.put, z1_, z2_, z3_, i64_w, i32_w]
   rfl
 refine one_ (i := 2) (N := some 9) (B_ 7 5) rfl rfl (by kernel_rfl) (by decide) (fun K hK => ?_)
 refine goes_ Try.func29 (by kernel_rfl) rfl #[.agg #[.slice A0_0 l0_0.length c0_0]] (by rfl) rfl rfl (by (try simp only [List.map_toArray, List.map_cons, List.map_nil]); first | done | rfl | (simp only [List.length_drop, List.length_take]; rfl)) ?_
 with_reducible refine (spec_ConductorOf.calls k _ _ l0_0 t479 _ ?side1 ?side2 A4.out).mono ?_
 (case side1 => exact ch_ HR0_0 HB)
 (case side2 => exact HC0_0.out)
 rintro e w10 ⟨rfl, hb⟩
 refine ⟨_, rfl, ?_⟩
 replace BK477 := bk_ BK477 hb
 replace HB := bp_ HB hb
 (try clear hb)
 refine hK.out _ _ ((blk_cell BK477.out 0).trans rfl) (fun hHeld => ?_)
 clear hK K
 refine norm_ (a' := ?_) ?_ ?_
 rotate_left
 · show Act.put _ (some 9) _ = _
   simp only [Act.put, z1_, z2_, z3_, i64_w, i32_w]
   rfl
 refine one_ (i := 3) (N := some 10) (B_ 15 5) rfl rfl (by kernel_rfl) (by decide) (fun K hK => ?_)
 refine goes_ Try.func67 (by kernel_rfl) rfl #[.agg #[.slice A0_0 l0_0.length c0_0], .int .i64 t479] (by rfl) rfl rfl (by (try simp only [List.map_toArray, List.map_cons, List.map_nil]); first | done | rfl | (simp only [List.length_drop, List.length_take]; rfl)) ?_
 with_reducible refine (spec_l4Small.calls k _ _ l0_0 t479 t480 _ ?side1 ?side2 A5.out).mono ?_
 (case side1 => exact ch_ HR0_0 HB)
 (case side2 => exact HC0_0.out)
 rintro e w11 ⟨v481, rfl, ho0, hb⟩
 refine ⟨_, rfl, ?_⟩
 have HO482 := Aside0.mk (Kd.R_lower ho0 (below_size (bq_ HB)))
 replace BK477 := bk_ BK477 hb
 replace HB := bp_ HB hb
 (try clear hb)
 (try clear ho0)
 refine hK.out _ _ ((blk_cell BK477.out 0).trans rfl) (fun hHeld => ?_)
 clear hK K
 refine norm_ (a' := ?_) ?_ ?_
 rotate_left
 · show Act.put _ (some 10) _ = _
   simp only [Act.put, z1_, z2_, z3_, i64_w, i32_w]
   rfl
 refine pure_ (i := 4) (N := some 2) (v := ?_) (a' := ?_) (B_ 31 5) rfl rfl (by kernel_rfl) (fun _ _ _ h => h) (Or.inl ⟨by rfl, ?_⟩) ?_ ?_
 rotate_left
 · intro w'
   go_simp
   with_reducible rfl
 rotate_left
 · simp only [Act.put, z1_, z2_, z3_, i64_w, i32_w]
   rfl
 refine done_ (by kernel_rfl) ?_
 try go_wp2
 go_ret
 exact ⟨_, rf_, re_ HO482.out, bq_ HB⟩
def spec_l3Has.f (k : Nat) (l0_0 : List Int) (a1 : Int) : Option (Bool) := if a1 < 0 then (some (decide (a1 > 0))) else (if a1 ≥ 200 then (some (decide (a1 > 0))) else ((spec_l3Table.f k l0_0 a1).bind fun t487 => (if 0 ≤ a1 then (if a1 < (t487.length : Int) then (some (rdOf false t487 a1)) else (none)) else (none))))
theorem spec_l3Has.calls (k : Nat) (A0_0 : Option Addr) (c0_0 : Nat) (l0_0 : List Int) (a1 : Int) (r : Bool) (w : World) (hr0_0 : Kd.C (Kd.int .i64) w A0_0 l0_0.length l0_0) (hc0_0 : l0_0.length ≤ c0_0) (h : spec_l3Has.f k l0_0 a1 = some r) :
 Calls Try.prog 40 #[.agg #[.slice A0_0 l0_0.length c0_0], .int .i64 a1] w fun e w' => e = .returned (.bool r) ∧ Below w.heap.size w w' := by
 have hu26 := Try.underlying26
 have HR0_0 := Aside0.mk hr0_0
 have HC0_0 := Aside0.mk hc0_0
 clear hr0_0 hc0_0
 have HB := Aside0.mk (Below.refl w.heap.size w)
 have H := h
 clear h
 unfold spec_l3Has.f at H
 by_cases c3 : a1 < 0
 · rw [if_pos c3] at H
   have c3b0 : decide (a1 < 0) = true := decide_eq_true c3
   clear c3
   obtain rfl := Option.some.inj H
   go_enter Try.func40, Try.ntmps40
   go_wp2_with (first | ((with_reducible refine gate_dst (N := 2) rfl ?_); refine bx_ 2 #[.slice A0_0 l0_0.length c0_0] 26 ?_; intro gb486 hg w4 hbox hb; have BK486 := Aside0.mk (hbox); have GW486 := gw_ hg HB; have GE486 := gw_ hg HB; replace HB := bo_ HB hb; clear hb hbox hg))
   go_ret
   exact ⟨rf_, bq_ HB⟩
 rw [if_neg c3] at H
 have c3b0 : decide (a1 < 0) = false := decide_eq_false c3
 clear c3
 by_cases c5 : a1 ≥ 200
 · rw [if_pos c5] at H
   have c5b0 : decide (200 ≤ a1) = true := decide_eq_true c5
   clear c5
   obtain rfl := Option.some.inj H
   go_enter Try.func40, Try.ntmps40
   go_wp2_with (first | ((with_reducible refine gate_dst (N := 2) rfl ?_); refine bx_ 2 #[.slice A0_0 l0_0.length c0_0] 26 ?_; intro gb486 hg w6 hbox hb; have BK486 := Aside0.mk (hbox); have GW486 := gw_ hg HB; have GE486 := gw_ hg HB; replace HB := bo_ HB hb; clear hb hbox hg))
   go_ret
   exact ⟨rf_, bq_ HB⟩
 rw [if_neg c5] at H
 have c5b0 : decide (200 ≤ a1) = false := decide_eq_false c5
 clear c5
 obtain ⟨t487, A7, H⟩ := ob_ H
 obtain ⟨c8b0, H⟩ := ipd_ H
 obtain ⟨c9b0, H⟩ := ipd_ H
 obtain rfl := Option.some.inj H
 go_enter Try.func40, Try.ntmps40
 go_wp2_with (first | ((with_reducible refine gate_dst (N := 2) rfl ?_); refine bx_ 2 #[.slice A0_0 l0_0.length c0_0] 26 ?_; intro gb486 hg w10 hbox hb; have BK486 := Aside0.mk (hbox); have GW486 := gw_ hg HB; have GE486 := gw_ hg HB; replace HB := bo_ HB hb; clear hb hbox hg; have hcz11_0 := cz_ BK486; have hfz11_0 := blk_frozen BK486.out 0) | ((with_reducible refine gate_callee (f := 60) rfl ?_); refine gL_ (some 16) Try.func60 #[.slice A0_0 l0_0.length c0_0, .int .i64 a1] ?_; (with_reducible refine (spec_l3Table.calls k _ _ l0_0 a1 t487 _ ?side1 ?side2 A7.out).mono ?_); (case side1 => exact ch_ HR0_0 HB); (case side2 => exact HC0_0.out); rintro e w12 ⟨v488, rfl, ho0, hb⟩; refine ⟨_, rfl, ?_⟩; have HO489 := Aside0.mk (Kd.R_lower ho0 (below_size (bq_ HB))); replace BK486 := bk_ BK486 hb; replace HB := bp_ HB hb; (try clear hb); (try clear ho0); obtain ⟨Ao13, co13, eo13⟩ := Kd.R_slice HO489.out; subst eo13; have p490 : 0 ≤ (a1 : Int) := od_; have q490 : a1 < (t487.length : Int) := od_; obtain ⟨ad490, e490, hx490_0⟩ := Kd.at_bool (Kd.R_reads' HO489.out).2.2 a1 p490 q490; cases e490; replace p490 := eq_true p490; replace q490 := eq_true q490))
 go_ret
 exact ⟨rf_, bq_ HB⟩
def spec_l15Has.f (k : Nat) (l0_0 : List Int) (a1 : Int) : Option (Bool) := if a1 = 0 then (some true) else ((spec_l3Has.f k l0_0 a1).bind fun t492 => (some t492))
theorem spec_l15Has.calls (k : Nat) (A0_0 : Option Addr) (c0_0 : Nat) (l0_0 : List Int) (a1 : Int) (r : Bool) (w : World) (hr0_0 : Kd.C (Kd.int .i64) w A0_0 l0_0.length l0_0) (hc0_0 : l0_0.length ≤ c0_0) (h : spec_l15Has.f k l0_0 a1 = some r) :
 Calls Try.prog 36 #[.agg #[.slice A0_0 l0_0.length c0_0], .int .i64 a1] w fun e w' => e = .returned (.bool r) ∧ Below w.heap.size w w' := by
 have hu26 := Try.underlying26
 have HR0_0 := Aside0.mk hr0_0
 have HC0_0 := Aside0.mk hc0_0
 clear hr0_0 hc0_0
 have HB := Aside0.mk (Below.refl w.heap.size w)
 have H := h
 clear h
 unfold spec_l15Has.f at H
 by_cases c3 : a1 = 0
 rotate_left
 · rw [if_neg c3] at H
   have c3b0 : (a1 == 0) = false := beq_eq_false_iff_ne.mpr c3
   have c3b1 : (a1 != 0) = true := bne_iff_ne.mpr c3
   obtain ⟨t492, A5, H⟩ := ob_ H
   obtain rfl := Option.some.inj H
   go_enter Try.func36, Try.ntmps36
   go_wp2_with (first | ((with_reducible refine gate_dst (N := 2) rfl ?_); refine bx_ 2 #[.slice A0_0 l0_0.length c0_0] 26 ?_; intro gb491 hg w6 hbox hb; have BK491 := Aside0.mk (hbox); have GW491 := gw_ hg HB; have GE491 := gw_ hg HB; replace HB := bo_ HB hb; clear hb hbox hg; have hcz7_0 := cz_ BK491; have hfz7_0 := blk_frozen BK491.out 0) | (go_at_call 40; (with_reducible refine (spec_l3Has.calls k _ _ l0_0 a1 t492 _ ?side1 ?side2 A5.out).mono ?_); (case side1 => exact ch_ HR0_0 HB); (case side2 => exact HC0_0.out); rintro e w8 ⟨rfl, hb⟩; replace BK491 := bk_ BK491 hb; replace HB := bp_ HB hb; (try clear hb)))
   go_ret
   exact ⟨rf_, bq_ HB⟩
 rw [if_pos c3] at H
 have c3b0 : (a1 == 0) = true := beq_iff_eq.mpr c3
 have c3b1 : (a1 != 0) = false := bne_eq_false_iff_eq.mpr c3
 clear c3
 obtain rfl := Option.some.inj H
 go_enter Try.func36, Try.ntmps36
 go_wp2_with (first | ((with_reducible refine gate_dst (N := 2) rfl ?_); refine bx_ 2 #[.slice A0_0 l0_0.length c0_0] 26 ?_; intro gb491 hg w4 hbox hb; have BK491 := Aside0.mk (hbox); have GW491 := gw_ hg HB; have GE491 := gw_ hg HB; replace HB := bo_ HB hb; clear hb hbox hg))
 go_ret
 exact ⟨rf_, bq_ HB⟩
mutual
def spec_ArfFailure.l0 : Nat → List Int → Int → List Int → Option (Int × Int × Int × Bool)
 | 0, _, _, _ => none
 | k + 1, x6, x7, x494000 => if x7 < (x6.length : Int) then (spec_ArfFailure.l1 k x6 x7 0 x494000) else (some (0, 0, 0, false))
def spec_ArfFailure.l1 : Nat → List Int → Int → Int → List Int → Option (Int × Int × Int × Bool)
 | 0, _, _, _, _ => none
 | k + 1, x6, x7, x8, x494000 => if x8 ≤ x7 then (spec_ArfFailure.l2 k x6 x7 x8 0 x494000) else (spec_ArfFailure.l0 k x6 (wrap64 (x7 + 1)) x494000)
def spec_ArfFailure.l2 : Nat → List Int → Int → Int → Int → List Int → Option (Int × Int × Int × Bool)
 | 0, _, _, _, _, _ => none
 | k + 1, x6, x7, x8, x9, x494000 => if x9 ≤ x8 then (if 0 ≤ x7 then (if x7 < (x6.length : Int) then (if 0 ≤ x8 then (if x8 < (x6.length : Int) then (if 0 ≤ x9 then (if x9 < (x6.length : Int) then ((spec_l15Has.f k x494000 (wrap64 ((wrap64 ((rd x6 x7) + (rd x6 x8))) - (rd x6 x9)))).bind fun t500 => (if t500 = true then (spec_ArfFailure.l2 k x6 x7 x8 (wrap64 (x9 + 1)) x494000) else (some (rd x6 x7, rd x6 x8, rd x6 x9, true)))) else (none)) else (none)) else (none)) else (none)) else (none)) else (none)) else (spec_ArfFailure.l1 k x6 x7 (wrap64 (x8 + 1)) x494000)
end
def spec_ArfFailure.f (k : Nat) (l0_0 : List Int) : Option (Int × Int × Int × Bool) := (spec_SmallElements.f k l0_0).bind fun t494 => (spec_ArfFailure.l0 k t494 0 l0_0)
def spec_ArfFailure.T11 : Bool × List (List Nat × List Nat) := (true, [([], []), ([], []), ([], []), ([1, 2], [1, 2]), ([3], [3]), ([], []), ([], []), ([5, 6], [5, 6]), ([7], [7]), ([4, 8], [4, 8]), ([], []), ([], []), ([10, 11], [10, 11]), ([12], [12]), ([9, 13], [9, 13]), ([0, 14], [0, 14]), ([15], [15])])
def spec_ArfFailure.B11 : List Nat := [0, 0, 0, 6, 14, 0, 0, 96, 224, 510, 0, 0, 3072, 7168, 16382, 32767, 65535]
theorem spec_ArfFailure.tab11 : rtab .any (opsOf Try.f11 11) = spec_ArfFailure.T11 := by kernel_rfl
theorem spec_ArfFailure.bits11 : waitsOk spec_ArfFailure.T11.2 spec_ArfFailure.B11 = true := by kernel_rfl
def spec_ArfFailure.T12 : Bool × List (List Nat × List Nat) := (true, [([], []), ([], []), ([0, 1], [0, 1]), ([2], [2]), ([], []), ([], []), ([4, 5], [4, 5]), ([6], [6]), ([], []), ([], []), ([8, 9], [8, 9]), ([10], [10]), ([3, 0, 1, 2, 3], [3]), ([7, 12, 0, 1, 2, 3, 4, 5, 6, 7, 12], [7]), ([11, 13, 0, 1, 2, 3, 4, 5, 6, 7, 8, 9, 10, 11, 12, 13], [11]), ([14, 0, 1, 2, 3, 4, 5, 6, 7, 8, 9, 10, 11, 12, 13, 14], [])])
def spec_ArfFailure.B12 : List Nat := [0, 0, 3, 7, 0, 0, 48, 112, 0, 0, 768, 1792, 15, 4351, 16383, 32767]
theorem spec_ArfFailure.tab12 : rtab .any (opsOf Try.f11 12) = spec_ArfFailure.T12 := by kernel_rfl
theorem spec_ArfFailure.bits12 : waitsOk spec_ArfFailure.T12.2 spec_ArfFailure.B12 = true := by kernel_rfl
theorem spec_ArfFailure.calls (k : Nat) (A0_0 : Option Addr) (c0_0 : Nat) (l0_0 : List Int) (r1 : Int) (r2 : Int) (r3 : Int) (r4 : Bool) (w : World) (hr0_0 : Kd.C (Kd.int .i64) w A0_0 l0_0.length l0_0) (hc0_0 : l0_0.length ≤ c0_0) (h : spec_ArfFailure.f k l0_0 = some (r1, r2, r3, r4)) :
 Calls Try.prog 11 #[.agg #[.slice A0_0 l0_0.length c0_0]] w fun e w' => e = .returned (.tuple #[.int .i64 r1, .int .i64 r2, .int .i64 r3, .bool r4]) ∧ Below w.heap.size w w' := by
 have hu26 := Try.underlying26
 have HR0_0 := Aside0.mk hr0_0
 have HC0_0 := Aside0.mk hc0_0
 clear hr0_0 hc0_0
 have HB := Aside0.mk (Below.refl w.heap.size w)
 have H := h
 clear h
 unfold spec_ArfFailure.f at H
 obtain ⟨t494, A2, H⟩ := ob_ H
 have H' := Aside0.mk H
 clear H
 go_enter Try.func11, Try.ntmps11
 go_wp2_with (first | ((with_reducible refine gate_dst (N := 1) rfl ?_); refine bx_ 1 #[.slice A0_0 l0_0.length c0_0] 26 ?_; intro gb493 hg w3 hbox hb; have BK493 := Aside0.mk (hbox); have GW493 := gw_ hg HB; have GE493 := gw_ hg HB; replace HB := bo_ HB hb; clear hb hbox hg; have hcz4_0 := cz_ BK493; have hfz4_0 := blk_frozen BK493.out 0) | ((with_reducible refine gate_callee (f := 35) rfl ?_); refine gL_ (some 11) Try.func35 #[.agg #[.slice A0_0 l0_0.length c0_0]] ?_; (with_reducible refine (spec_SmallElements.calls k _ _ l0_0 t494 _ ?side1 ?side2 A2.out).mono ?_); (case side1 => exact ch_ HR0_0 HB); (case side2 => exact HC0_0.out); rintro e w5 ⟨v495, rfl, ho0, hb⟩; refine ⟨_, rfl, ?_⟩; have HO496 := Aside0.mk (Kd.R_lower ho0 (below_size (bq_ HB))); replace BK493 := bk_ BK493 hb; replace HB := bp_ HB hb; (try clear hb); (try clear ho0)))
 go_loopg [7] k (fun kq v7 w' => ∃ (x7_1 : Int), v7 = .int .i64 x7_1 ∧ Aside0 (spec_ArfFailure.l0 kq t494 x7_1 l0_0 = some (r1, r2, r3, r4)) ∧ Aside0 (kq ≤ k) ∧ Aside0 (Kd.R (Kd.int .i64) 3 w' w.heap.size (fun _ => True) v495 t494) ∧ Aside0 (w'.heap[gb493]? = some (.cells #[(.slice A0_0 l0_0.length c0_0)] 26 (0, 0))) ∧ Aside0 (Below w.heap.size w w'))
 case atStart => exact ⟨(0), rs_, H', ⟨Nat.le_refl _⟩, ⟨re_ HO496.out⟩, ⟨be_ BK493.out⟩, ⟨bq_ HB⟩⟩
 case round =>
  clear H'
  try clear hcz4_0
  try clear hfz4_0
  obtain ⟨x7_1, rfl, HA, HK1, HO_6, BK493, HB⟩ := hrel
  cases gk with
  | zero => exact absurd HA.out (by simp [spec_ArfFailure.l0])
  | succ k1 =>
   have H := HA.out
   clear HA
   simp only [spec_ArfFailure.l0] at H
   by_cases c6 : x7_1 < (t494.length : Int)
   rotate_left
   · rw [if_neg c6] at H
     have c6b0 : decide (x7_1 < (t494.length : Int)) = false := decide_eq_false c6
     clear c6
     simp only [Option.some.injEq, Prod.mk.injEq] at H
     obtain ⟨rfl, rfl, rfl, rfl⟩ := H
     obtain ⟨Ao23, co23, eo23⟩ := Kd.R_slice HO_6.out
     subst eo23
     go_wp2
     refine bodyPost_ret (results_list (rs := [.tmp 2, .tmp 3, .tmp 4, .tmp 5]) rfl (by simp) (.tmp (.tmp (.tmp (.tmp .nil))))) rfl ?_
     exact ⟨rf_, bq_ HB⟩
   rw [if_pos c6] at H
   have c6b0 : decide (x7_1 < (t494.length : Int)) = true := decide_eq_true c6
   clear c6
   have H' := Aside0.mk H
   clear H
   obtain ⟨Ao7, co7, eo7⟩ := Kd.R_slice HO_6.out
   subst eo7
   go_wp2
   go_loopg [8] k1 (fun kq v8 w' => ∃ (x8_2 : Int), v8 = .int .i64 x8_2 ∧ Aside0 (spec_ArfFailure.l1 kq t494 x7_1 x8_2 l0_0 = some (r1, r2, r3, r4)) ∧ Aside0 (kq ≤ k1) ∧ Aside0 (Kd.R (Kd.int .i64) 3 w' w.heap.size (fun _ => True) (.slice Ao7 t494.length co7) t494) ∧ Aside0 (w'.heap[gb493]? = some (.cells #[(.slice A0_0 l0_0.length c0_0)] 26 (0, 0))) ∧ Aside0 (Below w.heap.size w w'))
   case atStart => exact ⟨(0), rs_, H', ⟨Nat.le_refl _⟩, ⟨re_ HO_6.out⟩, ⟨be_ BK493.out⟩, ⟨bq_ HB⟩⟩
   case round =>
    clear H'
    try clear c6b0
    obtain ⟨x8_2, rfl, HA, HK2, HO_6, BK493, HB⟩ := hrel
    cases gk with
    | zero => exact absurd HA.out (by simp [spec_ArfFailure.l1])
    | succ k2 =>
     have H := HA.out
     clear HA
     simp only [spec_ArfFailure.l1] at H
     by_cases c8 : x8_2 ≤ x7_1
     rotate_left
     · rw [if_neg c8] at H
       have c8b0 : decide (x8_2 ≤ x7_1) = false := decide_eq_false c8
       clear c8
       have H' := Aside0.mk H
       clear H
       go_wp2
       go_roundg k2
       case measure => have := HK1.out; have := HK2.out; omega
       case rel => exact ⟨(wrap64 (x7_1 + 1)), rs_, H', ⟨by have := HK1.out; have := HK2.out; omega⟩, ⟨re_ HO_6.out⟩, ⟨be_ BK493.out⟩, ⟨bq_ HB⟩⟩
     rw [if_pos c8] at H
     have c8b0 : decide (x8_2 ≤ x7_1) = true := decide_eq_true c8
     clear c8
     have H' := Aside0.mk H
     clear H
     go_wp2
     go_loopg [9] k2 (fun kq v9 w' => ∃ (x9_3 : Int), v9 = .int .i64 x9_3 ∧ Aside0 (spec_ArfFailure.l2 kq t494 x7_1 x8_2 x9_3 l0_0 = some (r1, r2, r3, r4)) ∧ Aside0 (kq ≤ k2) ∧ Aside0 (Kd.R (Kd.int .i64) 3 w' w.heap.size (fun _ => True) (.slice Ao7 t494.length co7) t494) ∧ Aside0 (w'.heap[gb493]? = some (.cells #[(.slice A0_0 l0_0.length c0_0)] 26 (0, 0))) ∧ Aside0 (Below w.heap.size w w'))
     case atStart => exact ⟨(0), rs_, H', ⟨Nat.le_refl _⟩, ⟨re_ HO_6.out⟩, ⟨be_ BK493.out⟩, ⟨bq_ HB⟩⟩
     case round =>
      clear H'
      try clear c8b0
      obtain ⟨x9_3, rfl, HA, HK3, HO_6, BK493, HB⟩ := hrel
      cases gk with
      | zero => exact absurd HA.out (by simp [spec_ArfFailure.l2])
      | succ k3 =>
       have H := HA.out
       clear HA
       simp only [spec_ArfFailure.l2] at H
       by_cases c9 : x9_3 ≤ x8_2
       rotate_left
       · rw [if_neg c9] at H
         have c9b0 : decide (x9_3 ≤ x8_2) = false := decide_eq_false c9
         clear c9
         have H' := Aside0.mk H
         clear H
         go_wp2
         go_roundg k3
         case measure => have := HK1.out; have := HK2.out; have := HK3.out; omega
         case rel => exact ⟨(wrap64 (x8_2 + 1)), rs_, H', ⟨by have := HK1.out; have := HK2.out; have := HK3.out; omega⟩, ⟨re_ HO_6.out⟩, ⟨be_ BK493.out⟩, ⟨bq_ HB⟩⟩
       rw [if_pos c9] at H
       have c9b0 : decide (x9_3 ≤ x8_2) = true := decide_eq_true c9
       clear c9
       obtain ⟨c10b0, H⟩ := ipd_ H
       obtain ⟨c11b0, H⟩ := ipd_ H
       obtain ⟨c12b0, H⟩ := ipd_ H
       obtain ⟨c13b0, H⟩ := ipd_ H
       obtain ⟨c14b0, H⟩ := ipd_ H
       obtain ⟨c15b0, H⟩ := ipd_ H
       obtain ⟨t500, A16, H⟩ := ob_ H
       by_cases c17 : t500 = true
       · subst c17
         rw [if_pos rfl] at H
         have H' := Aside0.mk H
         clear H
         try go_wp2
         replace HO_6 := Aside0.mk (Kd.R_drew HO_6.out)
         replace BK493 := Aside0.mk (blk_drew BK493.out)
         replace HB := Aside0.mk (below_drew1 HB.out)
         have p497 : 0 ≤ (x7_1 : Int) := od_
         have q497 : x7_1 < (t494.length : Int) := od_
         obtain ⟨ad497, e497, hx497_0⟩ := Kd.at_int (Kd.R_reads' HO_6.out).2.2 x7_1 p497 q497
         cases e497
         replace p497 := eq_true p497
         replace q497 := eq_true q497
         have p498 : 0 ≤ (x8_2 : Int) := od_
         have q498 : x8_2 < (t494.length : Int) := od_
         obtain ⟨ad498, e498, hx498_0⟩ := Kd.at_int (Kd.R_reads' HO_6.out).2.2 x8_2 p498 q498
         obtain rfl : ad497 = ad498 := (by injection e498)
         replace p498 := eq_true p498
         replace q498 := eq_true q498
         have p499 : 0 ≤ (x9_3 : Int) := od_
         have q499 : x9_3 < (t494.length : Int) := od_
         obtain ⟨ad499, e499, hx499_0⟩ := Kd.at_int (Kd.R_reads' HO_6.out).2.2 x9_3 p499 q499
         obtain rfl : ad497 = ad499 := (by injection e499)
         replace p499 := eq_true p499
         replace q499 := eq_true q499
         refine start_ (n := 17) (S := fun w' => w'.cell? ⟨gb493, 0, none⟩ = some (.slice A0_0 l0_0.length c0_0) ∧ w'.cell? (ad497.add (x7_1).toNat) = some (.int .i64 (rd t494 x7_1)) ∧ w'.cell? (ad497.add (x8_2).toNat) = some (.int .i64 (rd t494 x8_2)) ∧ w'.cell? (ad497.add (x9_3).toNat) = some (.int .i64 (rd t494 x9_3))) (ds := []) (B_ 0 17) (by kernel_rfl) rfl rfl ⟨(blk_cell BK493.out 0).trans rfl, hx497_0, hx498_0, hx499_0⟩ (fun hHeld => ?_); refine with_tabW spec_ArfFailure.tab11 spec_ArfFailure.bits11 (fun HT_ HW_ => ?_)
         generalize wr.drew = w18 at HO_6 BK493 HB hx497_0 hx498_0 hx499_0 hHeld ⊢
         refine pu_ HT_ 1 29 (B_ 2 17) ?_
         refine pu_ HT_ 2 30 (B_ 6 17) ?_
         refine pu_ HT_ 3 31 (B_ 14 17) ?_
         refine pu_ HT_ 5 33 (B_ 46 17) ?_
         refine pu_ HT_ 6 34 (B_ 110 17) ?_
         refine pu_ HT_ 7 35 (B_ 238 17) ?_
         refine pu_ HT_ 10 38 (B_ 1262 17) ?_
         refine pu_ HT_ 11 39 (B_ 3310 17) ?_
         refine pu_ HT_ 12 40 (B_ 7406 17) ?_
         refine take_ (i := 0) (N := some 28) (v := ?_) (a' := ?_) (B_ 7407 17) rfl rfl (take_ofW HT_.out HW_.out (by kernel_rfl)) (fun _ _ _ h => h) (Or.inl ⟨by rfl, ?_⟩) hHeld ?_ ?_
         rotate_left
         · rintro w' ⟨s0, s1, s2, s3⟩
           go_simp
           with_reducible rfl
         rotate_left
         · simp only [Act.put, z1_, z2_, z3_, i64_w, i32_w]
           rfl
         refine take_ (i := 4) (N := some 32) (v := ?_) (a' := ?_) (B_ 7423 17) rfl rfl (take_ofW HT_.out HW_.out (by kernel_rfl)) (fun _ _ _ h => h) (Or.inl ⟨by rfl, ?_⟩) hHeld ?_ ?_
         rotate_left
         · rintro w' ⟨s0, s1, s2, s3⟩
           go_simp
           with_reducible rfl
         rotate_left
         · simp only [Act.put, z1_, z2_, z3_, i64_w, i32_w]
           rfl
         refine take_ (i := 8) (N := some 36) (v := ?_) (a' := ?_) (B_ 7679 17) rfl rfl (take_ofW HT_.out HW_.out (by kernel_rfl)) (fun _ _ _ h => h) (Or.inl ⟨by rfl, ?_⟩) hHeld ?_ ?_
         rotate_left
         · rintro w' ⟨s0, s1, s2, s3⟩
           go_simp
           with_reducible rfl
         rotate_left
         · simp only [Act.put, z1_, z2_, z3_, i64_w, i32_w]
           rfl
         refine pu_ HT_ 9 37 (B_ 8191 17) ?_
         refine take_ (i := 13) (N := some 41) (v := ?_) (a' := ?_) (B_ 16383 17) rfl rfl (take_ofW HT_.out HW_.out (by kernel_rfl)) (fun _ _ _ h => h) (Or.inl ⟨by rfl, ?_⟩) hHeld ?_ ?_
         rotate_left
         · rintro w' ⟨s0, s1, s2, s3⟩
           go_simp
           with_reducible rfl
         rotate_left
         · simp only [Act.put, z1_, z2_, z3_, i64_w, i32_w]
           rfl
         refine pu_ HT_ 14 42 (B_ 32767 17) ?_
         refine on_ HT_ 15 43 (B_ 65535 17) (fun K hK => ?_)
         refine goes_ Try.func36 (by kernel_rfl) rfl #[.agg #[.slice A0_0 l0_0.length c0_0], .int .i64 (wrap64 ((wrap64 ((rd t494 x7_1) + (rd t494 x8_2))) - (rd t494 x9_3)))] (by rfl) rfl rfl (by (try simp only [List.map_toArray, List.map_cons, List.map_nil]); first | done | rfl | (simp only [List.length_drop, List.length_take]; rfl)) ?_
         with_reducible refine (spec_l15Has.calls k3 _ _ l0_0 (wrap64 ((wrap64 ((rd t494 x7_1) + (rd t494 x8_2))) - (rd t494 x9_3))) true _ ?side1 ?side2 A16.out).mono ?_
         (case side1 => exact ch_ HR0_0 HB)
         (case side2 => exact HC0_0.out)
         rintro e w19 ⟨rfl, hb⟩
         have HS1_ := (hb.cell (World.block_lt_of_cell? _ _ (hHeld.2.1))).trans (hHeld.2.1)
         have HS2_ := (hb.cell (World.block_lt_of_cell? _ _ (hHeld.2.2.1))).trans (hHeld.2.2.1)
         have HS3_ := (hb.cell (World.block_lt_of_cell? _ _ (hHeld.2.2.2))).trans (hHeld.2.2.2)
         refine ⟨_, rfl, ?_⟩
         replace HO_6 := Aside0.mk (Kd.R_below (re_ HO_6.out) hb)
         replace BK493 := bk_ BK493 hb
         replace HB := bp_ HB hb
         (try clear hb)
         refine hK.out _ _ ⟨(blk_cell BK493.out 0).trans rfl, HS1_, HS2_, HS3_⟩ (fun hHeld => ?_)
         clear hK K
         refine norm_ (a' := ?_) ?_ ?_
         rotate_left
         · show Act.put _ (some 43) _ = _
           simp only [Act.put, z1_, z2_, z3_, i64_w, i32_w]
           rfl
         refine pu_ HT_ 16 44 (B_ 131071 17) ?_
         refine done_ (done_of HT_.out (by kernel_rfl)) ?_
         try go_wp2
         go_roundg k3
         case measure => have := HK1.out; have := HK2.out; have := HK3.out; omega
         case rel => exact ⟨(wrap64 (x9_3 + 1)), rs_, H', ⟨by have := HK1.out; have := HK2.out; have := HK3.out; omega⟩, ⟨re_ HO_6.out⟩, ⟨be_ BK493.out⟩, ⟨bq_ HB⟩⟩
       replace c17 := Bool.eq_false_iff.mpr c17
       subst c17
       rw [if_neg (show ¬ (false = true) by decide)] at H
       simp only [Option.some.injEq, Prod.mk.injEq] at H
       obtain ⟨rfl, rfl, rfl, rfl⟩ := H
       try go_wp2
       replace HO_6 := Aside0.mk (Kd.R_drew HO_6.out)
       replace BK493 := Aside0.mk (blk_drew BK493.out)
       replace HB := Aside0.mk (below_drew1 HB.out)
       have p497 : 0 ≤ (x7_1 : Int) := od_
       have q497 : x7_1 < (t494.length : Int) := od_
       obtain ⟨ad497, e497, hx497_0⟩ := Kd.at_int (Kd.R_reads' HO_6.out).2.2 x7_1 p497 q497
       cases e497
       replace p497 := eq_true p497
       replace q497 := eq_true q497
       have p498 : 0 ≤ (x8_2 : Int) := od_
       have q498 : x8_2 < (t494.length : Int) := od_
       obtain ⟨ad498, e498, hx498_0⟩ := Kd.at_int (Kd.R_reads' HO_6.out).2.2 x8_2 p498 q498
       obtain rfl : ad497 = ad498 := (by injection e498)
       replace p498 := eq_true p498
       replace q498 := eq_true q498
       have p499 : 0 ≤ (x9_3 : Int) := od_
       have q499 : x9_3 < (t494.length : Int) := od_
       obtain ⟨ad499, e499, hx499_0⟩ := Kd.at_int (Kd.R_reads' HO_6.out).2.2 x9_3 p499 q499
       obtain rfl : ad497 = ad499 := (by injection e499)
       replace p499 := eq_true p499
       replace q499 := eq_true q499
       refine start_ (n := 17) (S := fun w' => w'.cell? ⟨gb493, 0, none⟩ = some (.slice A0_0 l0_0.length c0_0) ∧ w'.cell? (ad497.add (x7_1).toNat) = some (.int .i64 (rd t494 x7_1)) ∧ w'.cell? (ad497.add (x8_2).toNat) = some (.int .i64 (rd t494 x8_2)) ∧ w'.cell? (ad497.add (x9_3).toNat) = some (.int .i64 (rd t494 x9_3))) (ds := []) (B_ 0 17) (by kernel_rfl) rfl rfl ⟨(blk_cell BK493.out 0).trans rfl, hx497_0, hx498_0, hx499_0⟩ (fun hHeld => ?_); refine with_tabW spec_ArfFailure.tab11 spec_ArfFailure.bits11 (fun HT_ HW_ => ?_)
       generalize wr.drew = w20 at HO_6 BK493 HB hx497_0 hx498_0 hx499_0 hHeld ⊢
       refine pu_ HT_ 1 29 (B_ 2 17) ?_
       refine pu_ HT_ 2 30 (B_ 6 17) ?_
       refine pu_ HT_ 3 31 (B_ 14 17) ?_
       refine pu_ HT_ 5 33 (B_ 46 17) ?_
       refine pu_ HT_ 6 34 (B_ 110 17) ?_
       refine pu_ HT_ 7 35 (B_ 238 17) ?_
       refine pu_ HT_ 10 38 (B_ 1262 17) ?_
       refine pu_ HT_ 11 39 (B_ 3310 17) ?_
       refine pu_ HT_ 12 40 (B_ 7406 17) ?_
       refine take_ (i := 0) (N := some 28) (v := ?_) (a' := ?_) (B_ 7407 17) rfl rfl (take_ofW HT_.out HW_.out (by kernel_rfl)) (fun _ _ _ h => h) (Or.inl ⟨by rfl, ?_⟩) hHeld ?_ ?_
       rotate_left
       · rintro w' ⟨s0, s1, s2, s3⟩
         go_simp
         with_reducible rfl
       rotate_left
       · simp only [Act.put, z1_, z2_, z3_, i64_w, i32_w]
         rfl
       refine take_ (i := 4) (N := some 32) (v := ?_) (a' := ?_) (B_ 7423 17) rfl rfl (take_ofW HT_.out HW_.out (by kernel_rfl)) (fun _ _ _ h => h) (Or.inl ⟨by rfl, ?_⟩) hHeld ?_ ?_
       rotate_left
       · rintro w' ⟨s0, s1, s2, s3⟩
         go_simp
         with_reducible rfl
       rotate_left
       · simp only [Act.put, z1_, z2_, z3_, i64_w, i32_w]
         rfl
       refine take_ (i := 8) (N := some 36) (v := ?_) (a' := ?_) (B_ 7679 17) rfl rfl (take_ofW HT_.out HW_.out (by kernel_rfl)) (fun _ _ _ h => h) (Or.inl ⟨by rfl, ?_⟩) hHeld ?_ ?_
       rotate_left
       · rintro w' ⟨s0, s1, s2, s3⟩
         go_simp
         with_reducible rfl
       rotate_left
       · simp only [Act.put, z1_, z2_, z3_, i64_w, i32_w]
         rfl
       refine pu_ HT_ 9 37 (B_ 8191 17) ?_
       refine take_ (i := 13) (N := some 41) (v := ?_) (a' := ?_) (B_ 16383 17) rfl rfl (take_ofW HT_.out HW_.out (by kernel_rfl)) (fun _ _ _ h => h) (Or.inl ⟨by rfl, ?_⟩) hHeld ?_ ?_
       rotate_left
       · rintro w' ⟨s0, s1, s2, s3⟩
         go_simp
         with_reducible rfl
       rotate_left
       · simp only [Act.put, z1_, z2_, z3_, i64_w, i32_w]
         rfl
       refine pu_ HT_ 14 42 (B_ 32767 17) ?_
       refine on_ HT_ 15 43 (B_ 65535 17) (fun K hK => ?_)
       refine goes_ Try.func36 (by kernel_rfl) rfl #[.agg #[.slice A0_0 l0_0.length c0_0], .int .i64 (wrap64 ((wrap64 ((rd t494 x7_1) + (rd t494 x8_2))) - (rd t494 x9_3)))] (by rfl) rfl rfl (by (try simp only [List.map_toArray, List.map_cons, List.map_nil]); first | done | rfl | (simp only [List.length_drop, List.length_take]; rfl)) ?_
       with_reducible refine (spec_l15Has.calls k3 _ _ l0_0 (wrap64 ((wrap64 ((rd t494 x7_1) + (rd t494 x8_2))) - (rd t494 x9_3))) false _ ?side1 ?side2 A16.out).mono ?_
       (case side1 => exact ch_ HR0_0 HB)
       (case side2 => exact HC0_0.out)
       rintro e w21 ⟨rfl, hb⟩
       have HS1_ := (hb.cell (World.block_lt_of_cell? _ _ (hHeld.2.1))).trans (hHeld.2.1)
       have HS2_ := (hb.cell (World.block_lt_of_cell? _ _ (hHeld.2.2.1))).trans (hHeld.2.2.1)
       have HS3_ := (hb.cell (World.block_lt_of_cell? _ _ (hHeld.2.2.2))).trans (hHeld.2.2.2)
       refine ⟨_, rfl, ?_⟩
       replace HO_6 := Aside0.mk (Kd.R_below (re_ HO_6.out) hb)
       replace BK493 := bk_ BK493 hb
       replace HB := bp_ HB hb
       (try clear hb)
       refine hK.out _ _ ⟨(blk_cell BK493.out 0).trans rfl, HS1_, HS2_, HS3_⟩ (fun hHeld => ?_)
       clear hK K
       refine norm_ (a' := ?_) ?_ ?_
       rotate_left
       · show Act.put _ (some 43) _ = _
         simp only [Act.put, z1_, z2_, z3_, i64_w, i32_w]
         rfl
       refine pu_ HT_ 16 44 (B_ 131071 17) ?_
       refine done_ (done_of HT_.out (by kernel_rfl)) ?_
       try go_wp2
       replace HO_6 := Aside0.mk (Kd.R_drew HO_6.out)
       replace BK493 := Aside0.mk (blk_drew BK493.out)
       replace HB := Aside0.mk (below_drew1 HB.out)
       have p501 : 0 ≤ (x7_1 : Int) := od_
       have q501 : x7_1 < (t494.length : Int) := od_
       obtain ⟨ad501, e501, hx501_0⟩ := Kd.at_int (Kd.R_reads' HO_6.out).2.2 x7_1 p501 q501
       obtain rfl : ad497 = ad501 := (by injection e501)
       replace p501 := eq_true p501
       replace q501 := eq_true q501
       have p502 : 0 ≤ (x8_2 : Int) := od_
       have q502 : x8_2 < (t494.length : Int) := od_
       obtain ⟨ad502, e502, hx502_0⟩ := Kd.at_int (Kd.R_reads' HO_6.out).2.2 x8_2 p502 q502
       obtain rfl : ad497 = ad502 := (by injection e502)
       replace p502 := eq_true p502
       replace q502 := eq_true q502
       have p503 : 0 ≤ (x9_3 : Int) := od_
       have q503 : x9_3 < (t494.length : Int) := od_
       obtain ⟨ad503, e503, hx503_0⟩ := Kd.at_int (Kd.R_reads' HO_6.out).2.2 x9_3 p503 q503
       obtain rfl : ad497 = ad503 := (by injection e503)
       replace p503 := eq_true p503
       replace q503 := eq_true q503
       refine start_ (n := 16) (S := fun w' => w'.cell? (ad497.add (x7_1).toNat) = some (.int .i64 (rd t494 x7_1)) ∧ w'.cell? (ad497.add (x8_2).toNat) = some (.int .i64 (rd t494 x8_2)) ∧ w'.cell? (ad497.add (x9_3).toNat) = some (.int .i64 (rd t494 x9_3))) (ds := []) (B_ 0 16) (by kernel_rfl) rfl rfl ⟨hx501_0, hx502_0, hx503_0⟩ (fun hHeld => ?_); refine with_tabW spec_ArfFailure.tab12 spec_ArfFailure.bits12 (fun HT_ HW_ => ?_)
       generalize w21.drew = w22 at HO_6 BK493 HB hx501_0 hx502_0 hx503_0 hHeld ⊢
       refine pu_ HT_ 0 45 (B_ 1 16) ?_
       refine pu_ HT_ 1 46 (B_ 3 16) ?_
       refine pu_ HT_ 2 47 (B_ 7 16) ?_
       refine pu_ HT_ 4 49 (B_ 23 16) ?_
       refine pu_ HT_ 5 50 (B_ 55 16) ?_
       refine pu_ HT_ 6 51 (B_ 119 16) ?_
       refine pu_ HT_ 8 53 (B_ 375 16) ?_
       refine pu_ HT_ 9 54 (B_ 887 16) ?_
       refine pu_ HT_ 10 55 (B_ 1911 16) ?_
       refine tk3_ HT_ HW_ hHeld 3 48 (B_ 1919 16) ?_
       refine pu_ HT_ 12 2 (B_ 6015 16) ?_
       refine tk3_ HT_ HW_ hHeld 7 52 (B_ 6143 16) ?_
       refine pu_ HT_ 13 3 (B_ 14335 16) ?_
       refine tk3_ HT_ HW_ hHeld 11 56 (B_ 16383 16) ?_
       refine pu_ HT_ 14 4 (B_ 32767 16) ?_
       refine pu_ HT_ 15 5 (B_ 65535 16) ?_
       refine done_ (done_of HT_.out (by kernel_rfl)) ?_
       try go_wp2
       refine bodyPost_ret (results_list (rs := [.tmp 2, .tmp 3, .tmp 4, .tmp 5]) rfl (by simp) (.tmp (.tmp (.tmp (.tmp .nil))))) rfl ?_
       exact ⟨rf_, bq_ HB⟩
def spec_BlowUp.l0 : Nat → List Int → Int → List Int → Option (List Int × Bool)
 | 0, _, _, _ => none
 | k + 1, x4, x5, x505000 => if x5 < (x505000.length : Int) then (if 0 ≤ x5 then (if 0 < (x505000.length : Int) then (if x4.length < 17592186044416 then (spec_BlowUp.l0 k (x4 ++ [wrap64 ((rd x505000 x5) - (rd x505000 0))]) (wrap64 (x5 + 1)) x505000) else (none)) else (none)) else (none)) else ((spec_FromGens.f k x4).bind fun bt516 => (some (bt516.1, bt516.2)))
def spec_BlowUp.f (k : Nat) (l0_0 : List Int) : Option (List Int × Bool) := (spec_IsSemigroup.f k l0_0).bind fun t506 => (if t506 = true then (if 0 < (l0_0.length : Int) then (spec_BlowUp.l0 k (([rd l0_0 0] : List Int)) 1 l0_0) else (none)) else (some (([] : List Int), false)))
def spec_BlowUp.T7 : Bool × List (List Nat × List Nat) := (true, [([], []), ([], []), ([1], [1]), ([], []), ([2, 3], [2, 3]), ([4], [4]), ([], []), ([6], [6]), ([7], [7]), ([8], [8]), ([5, 9], [5, 9]), ([10], [10]), ([0, 11], [0, 11]), ([12, 12, 0, 1, 2, 3, 4, 5, 6, 7, 8, 9, 10, 11, 12], [0, 12])])
def spec_BlowUp.B7 : List Nat := [0, 0, 2, 0, 14, 30, 0, 64, 192, 448, 1022, 2046, 4095, 8191]
theorem spec_BlowUp.tab7 : rtab .any (opsOf Try.f13 7) = spec_BlowUp.T7 := by kernel_rfl
theorem spec_BlowUp.bits7 : waitsOk spec_BlowUp.T7.2 spec_BlowUp.B7 = true := by kernel_rfl
theorem spec_BlowUp.calls (k : Nat) (A0_0 : Option Addr) (c0_0 : Nat) (l0_0 : List Int) (r1 : List Int) (r2 : Bool) (w : World) (hr0_0 : Kd.C (Kd.int .i64) w A0_0 l0_0.length l0_0) (hc0_0 : l0_0.length ≤ c0_0) (h : spec_BlowUp.f k l0_0 = some (r1, r2)) :
 Calls Try.prog 13 #[.agg #[.slice A0_0 l0_0.length c0_0]] w fun e w' => ∃ v0_ : Value, e = .returned (.tuple #[.agg #[v0_], .bool r2]) ∧ Kd.R (Kd.int .i64) 3 w' w.heap.size (fun _ => True) v0_ r1 ∧ Below w.heap.size w w' := by
 have hu26 := Try.underlying26
 have HR0_0 := Aside0.mk hr0_0
 have HC0_0 := Aside0.mk hc0_0
 clear hr0_0 hc0_0
 have HB := Aside0.mk (Below.refl w.heap.size w)
 have H := h
 clear h
 unfold spec_BlowUp.f at H
 obtain ⟨t506, A2, H⟩ := ob_ H
 by_cases c3 : t506 = true
 rotate_left
 · replace c3 := Bool.eq_false_iff.mpr c3
   subst c3
   rw [if_neg (show ¬ (false = true) by decide)] at H
   simp only [Option.some.injEq, Prod.mk.injEq] at H
   obtain ⟨rfl, rfl⟩ := H
   go_enter Try.func13, Try.ntmps13
   go_wp2_with (first | ((with_reducible refine gate_dst (N := 1) rfl ?_); refine bx_ 1 #[.slice A0_0 l0_0.length c0_0] 26 ?_; intro gb504 hg w32 hbox hb; have BK504 := Aside0.mk (hbox); have GW504 := gw_ hg HB; have GE504 := gw_ hg HB; replace HB := bo_ HB hb; clear hb hbox hg) | ((with_reducible refine gate_dst (N := 2) rfl ?_); refine bx_ 2 #[.slice none 0 0] 26 ?_; intro gb505 hg w33 hbox hb; have BK505 := Aside0.mk (hbox); have GW505 := gq_ hg (bq_ HB); have GE505 := gq_ hg (bq_ HB); replace HB := bp_ HB hb; have NB504_505 := nl_ hg BK504; have NB505_504 := ng_ hg BK504; replace BK504 := bk_ BK504 hb; clear hb hbox hg; have hnb34 := NB504_505.out; have hnc34 := NB505_504.out; have hcz35_0 := cz_ BK504; have hfz35_0 := blk_frozen BK504.out 0) | ((with_reducible refine gate_callee (f := 27) rfl ?_); refine gL_ (some 9) Try.func27 #[.agg #[.slice A0_0 l0_0.length c0_0]] ?_; (with_reducible refine (spec_IsSemigroup.calls k _ _ l0_0 false _ ?side1 ?side2 A2.out).mono ?_); (case side1 => exact ch_ HR0_0 HB); (case side2 => exact HC0_0.out); rintro e w36 ⟨rfl, hb⟩; refine ⟨_, rfl, ?_⟩; replace BK504 := bk_ BK504 hb; replace BK505 := bk_ BK505 hb; replace HB := bp_ HB hb; (try clear hb); have hcz37_0 := cz_ BK505; have hfz37_0 := blk_frozen BK505.out 0))
   refine bodyPost_ret (results_ct rfl _ _ gb505 26 #[.slice none 0 0] (0, 0) _ rfl (bz_ BK505) Try.underlying26 rfl (by kernel_rfl)) rfl ?_
   exact ⟨_, rf_, by first | exact Kd.R_nil _ _ _ _ _ | exact Kd.N_nil _ _ _ _ _ | exact Kd.V_nil _ _ _ _ _ | exact Kd.Q_nil _ _ _ _ _ | exact Kd.S_nil _ _ _ _ _, bq_ HB⟩
 subst c3
 rw [if_pos rfl] at H
 obtain ⟨c4, H⟩ := ip_ H
 have c4b0 : decide (0 < (l0_0.length : Int)) = true := decide_eq_true c4
 have c4b1 : decide (0 < l0_0.length) = true := decide_eq_true (by omega)
 clear c4
 obtain ⟨y508, hy508⟩ : ∃ y_ : List Int, y_ = (([rd l0_0 0] : List Int)) := ⟨_, rfl⟩
 replace H : (spec_BlowUp.l0 k y508 1 l0_0) = some (r1, r2) := by subst hy508; exact H
 have Ny508 := Aside0.mk hy508
 clear hy508
 have H' := Aside0.mk H
 clear H
 go_enter Try.func13, Try.ntmps13
 go_wp2_with (first | ((with_reducible refine gate_dst (N := 1) rfl ?_); refine bx_ 1 #[.slice A0_0 l0_0.length c0_0] 26 ?_; intro gb504 hg w5 hbox hb; have BK504 := Aside0.mk (hbox); have GW504 := gw_ hg HB; have GE504 := gw_ hg HB; replace HB := bo_ HB hb; clear hb hbox hg) | ((with_reducible refine gate_dst (N := 2) rfl ?_); refine bx_ 2 #[.slice none 0 0] 26 ?_; intro gb505 hg w6 hbox hb; have BK505 := Aside0.mk (hbox); have GW505 := gq_ hg (bq_ HB); have GE505 := gq_ hg (bq_ HB); replace HB := bp_ HB hb; have NB504_505 := nl_ hg BK504; have NB505_504 := ng_ hg BK504; replace BK504 := bk_ BK504 hb; clear hb hbox hg; have hnb7 := NB504_505.out; have hnc7 := NB505_504.out; have hcz8_0 := cz_ BK504; have hfz8_0 := blk_frozen BK504.out 0) | ((with_reducible refine gate_callee (f := 27) rfl ?_); refine gL_ (some 9) Try.func27 #[.agg #[.slice A0_0 l0_0.length c0_0]] ?_; (with_reducible refine (spec_IsSemigroup.calls k _ _ l0_0 true _ ?side1 ?side2 A2.out).mono ?_); (case side1 => exact ch_ HR0_0 HB); (case side2 => exact HC0_0.out); rintro e w9 ⟨rfl, hb⟩; refine ⟨_, rfl, ?_⟩; replace BK504 := bk_ BK504 hb; replace BK505 := bk_ BK505 hb; replace HB := bp_ HB hb; (try clear hb); have hcz10_0 := cz_ BK504; have hfz10_0 := blk_frozen BK504.out 0; have p507 : 0 ≤ (0 : Int) := (by omega); have q507 : 0 < (l0_0.length : Int) := od_; obtain ⟨ad507, e507, hx507_0⟩ := Kd.at_int HR0_0.out 0 p507 q507; cases e507; have qi507 : (0 < l0_0.length) = True := eq_true (by omega); (try rw [show ((0 : Int)).toNat = 0 from rfl] at hx507_0); (try rw [Addr.add_zero'] at hx507_0); (try replace hx507_0 := (HB.out.cell (World.block_lt_of_cell? w _ hx507_0)).trans hx507_0); replace p507 := eq_true p507; replace q507 := eq_true q507) | ((with_reducible refine gate_dst (N := 16) rfl ?_); refine Kd.R_lit (Kd.int .i64) _ 3 ?hg (N := 16) ?hd (xs := ([rd l0_0 0] : List Int)) (inner := [.int .i64 (rd l0_0 0)]) (ok := fun _ => True) (okp := fun _ => True) ?hr ?hp (fun _ hk => hk) trivial (Below.refl _ _) (Nat.le_refl _) (by simp) ?_; (case hd => rfl); (case hg => rfl); (case hr => first | (go_simp; done) | (go_simp; rfl)); (case hp => exact (Reps.one (show Kd.M (Kd.int .i64) _ _ _ (rd l0_0 0) [.int .i64 (rd l0_0 0)] from rfl) (Reps.none _ _))); intro v509 w11 ho12 hb hg_ hnew_; clear hg_ hnew_; (first | rw [← Ny508.out] at ho12 | (simp only [Int.reduceToNat] at ho12; rw [← Ny508.out] at ho12)); have HO510 := Aside0.mk (Kd.R_lower ho12 (below_size (bq_ HB))); replace BK504 := bk_ BK504 hb; replace BK505 := bk_ BK505 hb; replace HB := bp_ HB hb; clear hb ho12))
 go_loopg [4, 5] k (fun kq v4 v5 w' => ∃ (x4_1 : List Int) (x5_1 : Int), v5 = .int .i64 x5_1 ∧ Aside0 (spec_BlowUp.l0 kq x4_1 x5_1 l0_0 = some (r1, r2)) ∧ Aside0 (kq ≤ k) ∧ Aside0 (Kd.R (Kd.int .i64) 3 w' w.heap.size (fun _ => True) v4 x4_1) ∧ Aside0 (w'.heap[gb504]? = some (.cells #[(.slice (some ad507) l0_0.length c0_0)] 26 (0, 0))) ∧ Aside0 (w'.heap[gb505]? = some (.cells #[(.slice none 0 0)] 26 (0, 0))) ∧ Aside0 (Below w.heap.size w w'))
 case atStart => exact ⟨(y508), (1), rs_, H', ⟨Nat.le_refl _⟩, ⟨re_ HO510.out⟩, ⟨be_ BK504.out⟩, ⟨be_ BK505.out⟩, ⟨bq_ HB⟩⟩
 case round =>
  clear H'
  try clear c4b0
  try clear c4b1
  try clear hcz10_0
  try clear hcz8_0
  try clear hfz10_0
  try clear hfz8_0
  try clear hx507_0
  try clear p507
  try clear q507
  obtain ⟨x4_1, x5_1, rfl, HA, HK1, HO_4, BK504, BK505, HB⟩ := hrel
  cases gk with
  | zero => exact absurd HA.out (by simp [spec_BlowUp.l0])
  | succ k1 =>
   have H := HA.out
   clear HA
   simp only [spec_BlowUp.l0] at H
   by_cases c13 : x5_1 < (l0_0.length : Int)
   rotate_left
   · rw [if_neg c13] at H
     have c13b0 : decide (x5_1 < (l0_0.length : Int)) = false := decide_eq_false c13
     clear c13
     obtain ⟨⟨t516, t519⟩, A21, H⟩ := ob_ H
     (try dsimp only at H)
     simp only [Option.some.injEq, Prod.mk.injEq] at H
     obtain ⟨rfl, rfl⟩ := H
     have hnb22 := NB504_505.out
     have hnc22 := NB505_504.out
     have hcz23_0 := cz_ BK504
     have hfz23_0 := blk_frozen BK504.out 0
     obtain ⟨Ao24, co24, eo24⟩ := Kd.R_slice HO_4.out
     subst eo24
     go_wp2_with (first | ((with_reducible refine gate_callee (f := 38) rfl ?_); refine gL_ (some 39) Try.func38 #[.slice Ao24 x4_1.length co24] ?_; (with_reducible refine (spec_FromGens.calls k1 _ _ x4_1 t516 t519 _ ?side1 ?side2 A21.out).mono ?_); (case side1 => exact ce_ ((Kd.R_reads' HO_4.out).2.2)); (case side2 => exact (Kd.R_reads' HO_4.out).2.1); rintro e w25 ⟨v517, rfl, ho0, hb⟩; refine ⟨_, rfl, ?_⟩; have HO518 := Aside0.mk (Kd.R_lower (Kd.R_new' ho0 (Kd.R_lt (re_ HO_4.out))) (below_size (bq_ HB))); replace HO_4 := Aside0.mk (Kd.R_elder' (re_ HO_4.out) (Kd.R_base ho0) hb); replace BK504 := bk_ BK504 hb; replace BK505 := bk_ BK505 hb; replace HB := bp_ HB hb; (try clear hb); (try clear ho0)) | ((with_reducible refine gate_dst (N := 6) rfl ?_); refine bx_ 6 #[.slice none 0 0] 26 ?_; intro gb520 hg w26 hbox hb; replace HO_4 := Aside0.mk (Kd.R_below (re_ HO_4.out) hb); replace HO518 := Aside0.mk (Kd.R_below (re_ HO518.out) hb); have BK520 := Aside0.mk (hbox); have GW520 := gq_ hg (bq_ HB); have GE520 := gq_ hg (bq_ HB); replace HB := bp_ HB hb; have NB504_520 := nl_ hg BK504; have NB520_504 := ng_ hg BK504; replace BK504 := bk_ BK504 hb; have NB505_520 := nl_ hg BK505; have NB520_505 := ng_ hg BK505; replace BK505 := bk_ BK505 hb; clear hb hbox hg; obtain ⟨Ao27, co27, eo27⟩ := Kd.R_slice HO518.out; subst eo27; have hnb28 := NB520_504.out; have hnc28 := NB504_520.out; have hnb29 := NB520_505.out; have hnc29 := NB505_520.out; have hcz30_0 := cz_ BK520; have hfz30_0 := blk_frozen BK520.out 0; have hcz31_0 := cz_ BK505; have hfz31_0 := blk_frozen BK505.out 0))
     refine bodyPost_ret (results_ct rfl _ _ gb505 26 #[.slice Ao27 t516.length co27] (0, 0) _ rfl (bz_ BK505) Try.underlying26 rfl (by kernel_rfl)) rfl ?_
     exact ⟨_, rf_, by (with_reducible repeat (first | apply Kd.R_alloc | apply Kd.R_drewN | apply Kd.R_drew)); exact Kd.R_mono (Kd.R_far (p := ⟨gb505, 0, none⟩) (Kd.R_far (p := ⟨gb520, 0, none⟩) (Kd.R_types (Kd.R_types HO518.out BK520.out (by decide)) BK505.out (by decide)) (fun _ hk => hk.1.2) (.slice Ao27 t516.length co27)) (fun _ hk => hk.2) (.slice Ao27 t516.length co27)) (fun _ hk => trivial), bq_ HB⟩
   rw [if_pos c13] at H
   have c13b0 : decide (x5_1 < (l0_0.length : Int)) = true := decide_eq_true c13
   clear c13
   obtain ⟨c14b0, H⟩ := ipd_ H
   obtain ⟨c15, H⟩ := ip_ H
   have c15b0 : decide (0 < (l0_0.length : Int)) = true := decide_eq_true c15
   have c15b1 : decide (0 < l0_0.length) = true := decide_eq_true (by omega)
   clear c15
   obtain ⟨c16, H⟩ := ip_ H
   have LMc16 := Aside0.mk c16
   clear c16
   obtain ⟨y513, hy513⟩ : ∃ y_ : List Int, y_ = (x4_1 ++ [wrap64 ((rd l0_0 x5_1) - (rd l0_0 0))]) := ⟨_, rfl⟩
   replace H : (spec_BlowUp.l0 k1 y513 (wrap64 (x5_1 + 1)) l0_0) = some (r1, r2) := by subst hy513; exact H
   have Ny513 := Aside0.mk hy513
   clear hy513
   have H' := Aside0.mk H
   clear H
   have hnb17 := NB504_505.out
   have hnc17 := NB505_504.out
   have hcz18_0 := cz_ BK504
   have hfz18_0 := blk_frozen BK504.out 0
   try go_wp2
   replace HO_4 := Aside0.mk (Kd.R_drew HO_4.out)
   replace BK504 := Aside0.mk (blk_drew BK504.out)
   replace BK505 := Aside0.mk (blk_drew BK505.out)
   replace HB := Aside0.mk (below_drew1 HB.out)
   have p511 : 0 ≤ (x5_1 : Int) := od_
   have q511 : x5_1 < (l0_0.length : Int) := od_
   obtain ⟨ad511, e511, hx511_0⟩ := Kd.at_int HR0_0.out x5_1 p511 q511
   have hw511_0 := hx511_0
   obtain rfl : ad507 = ad511 := (by injection e511)
   (try replace hx511_0 := (HB.out.cell (World.block_lt_of_cell? w _ hx511_0)).trans hx511_0)
   replace p511 := eq_true p511
   replace q511 := eq_true q511
   have p512 : 0 ≤ (0 : Int) := (by omega)
   have q512 : 0 < (l0_0.length : Int) := od_
   obtain ⟨ad512, e512, hx512_0⟩ := Kd.at_int HR0_0.out 0 p512 q512
   have hw512_0 := hx512_0
   (try rw [show ((0 : Int)).toNat = 0 from rfl] at hw512_0)
   (try rw [show 0 * 1 = 0 from rfl] at hw512_0)
   (try rw [Addr.add_zero'] at hw512_0)
   obtain rfl : ad507 = ad512 := (by injection e512)
   have qi512 : (0 < l0_0.length) = True := eq_true (by omega)
   (try rw [show ((0 : Int)).toNat = 0 from rfl] at hx512_0)
   (try rw [Addr.add_zero'] at hx512_0)
   (try replace hx512_0 := (HB.out.cell (World.block_lt_of_cell? w _ hx512_0)).trans hx512_0)
   replace p512 := eq_true p512
   replace q512 := eq_true q512
   refine start_ (n := 14) (S := fun w' => w'.cell? ⟨gb504, 0, none⟩ = some (.slice (some ad507) l0_0.length c0_0) ∧ w'.cell? (ad507.add (x5_1).toNat) = some (.int .i64 (rd l0_0 x5_1)) ∧ w'.cell? ad507 = some (.int .i64 (rd l0_0 0))) (ds := []) (B_ 0 14) (by kernel_rfl) rfl rfl ⟨(blk_cell BK504.out 0).trans rfl, ((HB.out.cell (World.block_lt_of_cell? w _ hw511_0)).trans hw511_0), ((HB.out.cell (World.block_lt_of_cell? w _ hw512_0)).trans hw512_0)⟩ (fun hHeld => ?_); refine with_tabW spec_BlowUp.tab7 spec_BlowUp.bits7 (fun HT_ HW_ => ?_)
   generalize wr.drew = w19 at HO_4 BK504 BK505 HB hx511_0 hx512_0 hHeld ⊢
   refine pu_ HT_ 0 24 (B_ 1 14) ?_
   refine pu_ HT_ 1 25 (B_ 3 14) ?_
   refine pu_ HT_ 3 27 (B_ 11 14) ?_
   refine pu_ HT_ 6 30 (B_ 75 14) ?_
   refine tk3_ HT_ HW_ hHeld 2 26 (B_ 79 14) ?_
   refine pu_ HT_ 4 28 (B_ 95 14) ?_
   refine tk3_ HT_ HW_ hHeld 5 29 (B_ 127 14) ?_
   refine tk3_ HT_ HW_ hHeld 7 31 (B_ 255 14) ?_
   refine pu_ HT_ 8 32 (B_ 511 14) ?_
   refine tk3_ HT_ HW_ hHeld 9 33 (B_ 1023 14) ?_
   refine pu_ HT_ 10 34 (B_ 2047 14) ?_
   refine on_ HT_ 11 35 (B_ 4095 14) (fun K hK => ?_)
   refine value_ (w1 := ?_) (v := ?_) (by rfl) rfl ?_ ?_
   rotate_left 2
   · go_simp
     constructor
     · rfl
     · rfl
   refine hK.out _ _ ⟨(blk_cell (blk_alloc BK504.out _) 0).trans rfl, (World.cell?_alloc_lt _ _ _ (World.block_lt_of_cell? _ _ (by first | exact hw511_0 | exact (HB.out.cell (World.block_lt_of_cell? w _ hw511_0)).trans hw511_0 | (obtain ⟨_, e_, h_⟩ := Kd.at_int HR0_0.out x5_1 (of_eq_true p511) (of_eq_true q511); cases e_; exact h_)))).trans (by first | exact hw511_0 | exact (HB.out.cell (World.block_lt_of_cell? w _ hw511_0)).trans hw511_0 | (obtain ⟨_, e_, h_⟩ := Kd.at_int HR0_0.out x5_1 (of_eq_true p511) (of_eq_true q511); cases e_; exact h_)), (World.cell?_alloc_lt _ _ _ (World.block_lt_of_cell? _ _ (by first | exact hw512_0 | exact (HB.out.cell (World.block_lt_of_cell? w _ hw512_0)).trans hw512_0 | (obtain ⟨_, e_, h_⟩ := Kd.at_int HR0_0.out 0 (of_eq_true p512) (of_eq_true q512); cases e_; exact h_)))).trans (by first | exact hw512_0 | exact (HB.out.cell (World.block_lt_of_cell? w _ hw512_0)).trans hw512_0 | (obtain ⟨_, e_, h_⟩ := Kd.at_int HR0_0.out 0 (of_eq_true p512) (of_eq_true q512); cases e_; exact h_))⟩ (fun hHeld => ?_)
   clear hK K
   refine norm_ (a' := ?_) ?_ ?_
   rotate_left
   · show Act.put _ (some 35) _ = _
     simp only [Act.put, z1_, z2_, z3_, i64_w, i32_w]
     rfl
   refine on_ HT_ 12 36 (B_ 8191 14) (fun K hK => ?_)
   refine Kd.R_append_step (Kd.int .i64) (w0 := w) w.heap.size (by rfl) (.tmp 24) (.tmp 35) 24 3 (.int .i64 0) 8 rfl Try.underlying24 info3 rfl (by decide) (by omega) u4 x4_1 (wrap64 ((rd l0_0 x5_1) - (rd l0_0 0))) [.int .i64 (wrap64 ((rd l0_0 x5_1) - (rd l0_0 0)))] (fun _ => True) (fun _ => False) rfl rfl ?aP (fun _ hk => hk.elim) ?aF ?aO ?aB ?aS ?aL ?_
   (case aP => exact rfl)
   (case aB => exact (bq_ HB))
   (case aF => exact (fun _ _ => trivial))
   (case aO => exact (re_ HO_4.out))
   (case aS => exact (below_size (bq_ HB)))
   (case aL => have := LMc16.out; omega)
   intro v514 w20 ho hb hg hat
   rw [← Ny513.out] at ho
   replace BK504 := Aside0.mk (blk_grown (be_ BK504.out) hg (Kd.R_ne HO_4.out BK504.out (by decide)))
   replace BK505 := Aside0.mk (blk_grown (be_ BK505.out) hg (Kd.R_ne HO_4.out BK505.out (by decide)))
   replace HB := Aside0.mk (hb)
   have HO515 := Aside0.mk (ho)
   clear HO_4
   clear ho hb hg hat
   refine hK.out _ _ ⟨(blk_cell BK504.out 0).trans rfl, ((HB.out.cell (World.block_lt_of_cell? w _ hw511_0)).trans hw511_0), ((HB.out.cell (World.block_lt_of_cell? w _ hw512_0)).trans hw512_0)⟩ (fun hHeld => ?_)
   clear hK K
   refine norm_ (a' := ?_) ?_ ?_
   rotate_left
   · show Act.put _ (some 36) _ = _
     simp only [Act.put, z1_, z2_, z3_, i64_w, i32_w]
     rfl
   refine pu_ HT_ 13 4 (B_ 16383 14) ?_
   refine done_ (done_of HT_.out (by kernel_rfl)) ?_
   try go_wp2
   go_roundg k1
   case measure => have := HK1.out; omega
   case rel => exact ⟨(y513), (wrap64 (x5_1 + 1)), rs_, H', ⟨by have := HK1.out; omega⟩, ⟨re_ HO515.out⟩, ⟨be_ BK504.out⟩, ⟨be_ BK505.out⟩, ⟨bq_ HB⟩⟩
def spec_MultiplicitySequence.l0 : Nat → List Int → List Int → Option (List Int × Bool)
 | 0, _, _ => none
 | k + 1, x4, x522000 => (spec_IsSemigroup.f k x522000).bind fun t525 => (if t525 = true then (if 0 < (x522000.length : Int) then (if x4.length < 17592186044416 then ((some (x4 ++ [rd x522000 0] : List Int)).bind fun y527 => (if (rd x522000 0) = 1 then (some (y527, true)) else ((spec_BlowUp.f k x522000).bind fun bt531 => (spec_MultiplicitySequence.l0 k y527 bt531.1)))) else (none)) else (none)) else (some ((([] : List Int)), false)))
def spec_MultiplicitySequence.f (k : Nat) (l0_0 : List Int) : Option (List Int × Bool) := spec_MultiplicitySequence.l0 k (([] : List Int)) l0_0
theorem spec_MultiplicitySequence.calls (k : Nat) (P0_0_ : Nat → Prop) (A0_0 : Option Addr) (c0_0 : Nat) (l0_0 : List Int) (r1 : List Int) (r2 : Bool) (w : World) (hs0_0 : Kd.V (Kd.int .i64) 3 w w.heap.size (fun k_ => P0_0_ k_) (.slice A0_0 l0_0.length c0_0) l0_0) (h : spec_MultiplicitySequence.f k l0_0 = some (r1, r2)) :
 Calls Try.prog 15 #[.agg #[.slice A0_0 l0_0.length c0_0]] w fun e w' => ∃ v0_ : Value, e = .returned (.tuple #[v0_, .bool r2]) ∧ Kd.R (Kd.int .i64) 3 w' w.heap.size (fun k_ => (w.heap.size ≤ k_)) v0_ r1 ∧ Below w.heap.size w w' := by
 have hu26 := Try.underlying26
 have HO0_0 := Aside0.mk (show Kd.V (Kd.int .i64) 3 w w.heap.size (fun k_ => (P0_0_ k_ ∨ w.heap.size ≤ k_)) (.slice A0_0 l0_0.length c0_0) l0_0 from Kd.V_mono hs0_0 (fun k_ hk => .inl hk))
 have HB := Aside0.mk (Below.refl w.heap.size w)
 have H := h
 clear h
 unfold spec_MultiplicitySequence.f at H
 obtain ⟨y522, hy522⟩ : ∃ y_ : List Int, y_ = (([] : List Int)) := ⟨_, rfl⟩
 replace H : (spec_MultiplicitySequence.l0 k y522 l0_0) = some (r1, r2) := by subst hy522; exact H
 have Ny522 := Aside0.mk hy522
 clear hy522
 have H' := Aside0.mk H
 clear H
 go_enter Try.func15, Try.ntmps15
 go_wp2_with (first | ((with_reducible refine gate_dst (N := 1) rfl ?_); refine bx_ 1 #[.slice A0_0 l0_0.length c0_0] 26 ?_; intro gb521 hg w2 hbox hb; replace HO0_0 := Aside0.mk (Kd.V_below (Kd.V_elderB (by (with_reducible repeat (first | apply Kd.V_alloc | apply Kd.V_drewN | apply Kd.V_drew)); exact HO0_0.out) gb521 (Nat.le_of_eq hg.symm)) hb); have BK521 := Aside0.mk (hbox); have GW521 := gw_ hg HB; have GE521 := gw_ hg HB; replace HB := bo_ HB hb; clear hb hbox hg) | ((with_reducible refine gate_dst (N := 5) rfl ?_); refine Kd.R_lit (Kd.int .i64) _ 3 ?hg (N := 5) ?hd (xs := ([] : List Int)) (inner := []) (ok := fun _ => True) (okp := fun _ => True) ?hr ?hp (fun _ hk => hk) trivial (Below.refl _ _) (Nat.le_refl _) (by simp) ?_; (case hd => rfl); (case hg => rfl); (case hr => first | (go_simp; done) | (go_simp; rfl)); (case hp => exact (Reps.none _ _)); intro v523 w3 ho4 hb hg_ hnew_; clear hg_ hnew_; (first | rw [← Ny522.out] at ho4 | (simp only [Int.reduceToNat] at ho4; rw [← Ny522.out] at ho4)); replace HO0_0 := Aside0.mk (Kd.V_elder' (by (with_reducible repeat (first | apply Kd.V_alloc | apply Kd.V_drewN | apply Kd.V_drew)); exact HO0_0.out) (Kd.R_base ho4) hb); have HO524 := Aside0.mk (Kd.R_lower (Kd.R_newM (M := fun k_ => (w.heap.size ≤ k_)) ho4 (below_size (bq_ HB)) (fun k_ h_ => h_)) (below_size (bq_ HB))); replace BK521 := bk_ BK521 hb; replace HB := bp_ HB hb; clear hb ho4))
 go_loopg [4] k (fun kq v4 w' => ∃ (x4_1 : List Int) (x522000_1 : List Int) (u522000 : Value), Aside0 (spec_MultiplicitySequence.l0 kq x4_1 x522000_1 = some (r1, r2)) ∧ Aside0 (kq ≤ k) ∧ Aside0 (Kd.R (Kd.int .i64) 3 w' w.heap.size (fun k_ => (w.heap.size ≤ k_)) v4 x4_1) ∧ Aside0 (Kd.V (Kd.int .i64) 3 w' w.heap.size (fun k_ => (P0_0_ k_ ∨ w.heap.size ≤ k_) ∧ some k_ ≠ (v4 : Value).ownBlock ∧ k_ ≠ gb521) u522000 x522000_1) ∧ Aside0 (w'.heap[gb521]? = some (.cells #[u522000] 26 (0, 0))) ∧ Aside0 (Below w.heap.size w w'))
 case atStart => exact ⟨(y522), (l0_0), (.slice A0_0 l0_0.length c0_0), H', ⟨Nat.le_refl _⟩, ⟨by (with_reducible repeat (first | apply Kd.R_alloc | apply Kd.R_drewN | apply Kd.R_drew)); exact Kd.R_mono HO524.out (fun _ hk => hk.1)⟩, ⟨by (with_reducible repeat (first | apply Kd.V_alloc | apply Kd.V_drewN | apply Kd.V_drew)); exact Kd.V_mono HO0_0.out (fun _ hk => ⟨hk.1.1, ⟨hk.2, hk.1.2⟩⟩)⟩, ⟨be_ BK521.out⟩, ⟨bq_ HB⟩⟩
 case round =>
  clear H'
  obtain ⟨x4_1, x522000_1, u522000, HA, HK1, HO_4, HO_522000, BK521, HB⟩ := hrel
  cases gk with
  | zero => exact absurd HA.out (by simp [spec_MultiplicitySequence.l0])
  | succ k1 =>
   have H := HA.out
   clear HA
   simp only [spec_MultiplicitySequence.l0] at H
   obtain ⟨t525, A5, H⟩ := ob_ H
   by_cases c6 : t525 = true
   rotate_left
   · replace c6 := Bool.eq_false_iff.mpr c6
     subst c6
     rw [if_neg (show ¬ (false = true) by decide)] at H
     obtain ⟨y535, hy535⟩ : ∃ y_ : List Int, y_ = (([] : List Int)) := ⟨_, rfl⟩
     replace H : (some (y535, false)) = some (r1, r2) := by subst hy535; exact H
     have Ny535 := Aside0.mk hy535
     clear hy535
     simp only [Option.some.injEq, Prod.mk.injEq] at H
     obtain ⟨rfl, rfl⟩ := H
     have hcz26_0 := cz_ BK521
     have hfz26_0 := blk_frozen BK521.out 0
     obtain ⟨Ao27, co27, eo27⟩ := Kd.V_slice HO_522000.out
     subst eo27
     go_wp2_with (first | ((with_reducible refine gate_callee (f := 27) rfl ?_); refine gL_ (some 7) Try.func27 #[.agg #[.slice Ao27 x522000_1.length co27]] ?_; (with_reducible refine (spec_IsSemigroup.calls k1 _ _ x522000_1 false _ ?side1 ?side2 A5.out).mono ?_); (case side1 => exact ce_ ((Kd.V_reads' HO_522000.out).2.2)); (case side2 => exact (Kd.V_reads' HO_522000.out).2.1); rintro e w28 ⟨rfl, hb⟩; refine ⟨_, rfl, ?_⟩; replace HO_4 := Aside0.mk (Kd.R_below (re_ HO_4.out) hb); replace HO_522000 := Aside0.mk (Kd.V_below (by (with_reducible repeat (first | apply Kd.V_alloc | apply Kd.V_drewN | apply Kd.V_drew)); exact HO_522000.out) hb); replace BK521 := bk_ BK521 hb; replace HB := bp_ HB hb; (try clear hb)) | ((with_reducible refine gate_dst (N := 26) rfl ?_); refine Kd.R_lit (Kd.int .i64) _ 3 ?hg (N := 26) ?hd (xs := ([] : List Int)) (inner := []) (ok := fun _ => True) (okp := fun _ => True) ?hr ?hp (fun _ hk => hk) trivial (Below.refl _ _) (Nat.le_refl _) (by simp) ?_; (case hd => rfl); (case hg => rfl); (case hr => first | (go_simp; done) | (go_simp; rfl)); (case hp => exact (Reps.none _ _)); intro v536 w29 ho30 hb hg_ hnew_; clear hg_ hnew_; (first | rw [← Ny535.out] at ho30 | (simp only [Int.reduceToNat] at ho30; rw [← Ny535.out] at ho30)); replace HO_522000 := Aside0.mk (Kd.V_elder' (by (with_reducible repeat (first | apply Kd.V_alloc | apply Kd.V_drewN | apply Kd.V_drew)); exact HO_522000.out) (Kd.R_base ho30) hb); have HO537 := Aside0.mk (Kd.R_lower (Kd.R_new' (Kd.R_newM (M := fun k_ => (w.heap.size ≤ k_)) ho30 (below_size (bq_ HB)) (fun k_ h_ => h_)) (Kd.R_lt (re_ HO_4.out))) (below_size (bq_ HB))); replace HO_4 := Aside0.mk (Kd.R_elder' (re_ HO_4.out) (Kd.R_base ho30) hb); replace BK521 := bk_ BK521 hb; replace HB := bp_ HB hb; clear hb ho30))
     go_ret2
     exact ⟨_, rf_, by (with_reducible repeat (first | apply Kd.R_alloc | apply Kd.R_drewN | apply Kd.R_drew)); exact Kd.R_mono HO537.out (fun _ hk => hk.1.1), bq_ HB⟩
   subst c6
   rw [if_pos rfl] at H
   obtain ⟨c7, H⟩ := ip_ H
   have c7b0 : decide (0 < (x522000_1.length : Int)) = true := decide_eq_true c7
   have c7b1 : decide (0 < x522000_1.length) = true := decide_eq_true (by omega)
   clear c7
   obtain ⟨c8, H⟩ := ip_ H
   have LMc8 := Aside0.mk c8
   clear c8
   obtain ⟨y527, hy527⟩ : ∃ y_ : List Int, y_ = (x4_1 ++ [rd x522000_1 0]) := ⟨_, rfl⟩
   replace H : (if (rd x522000_1 0) = 1 then (some (y527, true)) else ((spec_BlowUp.f k1 x522000_1).bind fun bt531 => (spec_MultiplicitySequence.l0 k1 y527 bt531.1))) = some (r1, r2) := by subst hy527; exact H
   have Ny527 := Aside0.mk hy527
   clear hy527
   by_cases c9 : (rd x522000_1 0) = 1
   · rw [if_pos c9] at H
     have c9b0 : ((rd x522000_1 0) == 1) = true := beq_iff_eq.mpr c9
     have c9b1 : ((rd x522000_1 0) != 1) = false := bne_eq_false_iff_eq.mpr c9
     clear c9
     simp only [Option.some.injEq, Prod.mk.injEq] at H
     obtain ⟨rfl, rfl⟩ := H
     have hcz10_0 := cz_ BK521
     have hfz10_0 := blk_frozen BK521.out 0
     obtain ⟨Ao11, co11, eo11⟩ := Kd.V_slice HO_522000.out
     subst eo11
     go_wp2_with (first | ((with_reducible refine gate_callee (f := 27) rfl ?_); refine gL_ (some 7) Try.func27 #[.agg #[.slice Ao11 x522000_1.length co11]] ?_; (with_reducible refine (spec_IsSemigroup.calls k1 _ _ x522000_1 true _ ?side1 ?side2 A5.out).mono ?_); (case side1 => exact ce_ ((Kd.V_reads' HO_522000.out).2.2)); (case side2 => exact (Kd.V_reads' HO_522000.out).2.1); rintro e w12 ⟨rfl, hb⟩; refine ⟨_, rfl, ?_⟩; replace HO_4 := Aside0.mk (Kd.R_below (re_ HO_4.out) hb); replace HO_522000 := Aside0.mk (Kd.V_below (by (with_reducible repeat (first | apply Kd.V_alloc | apply Kd.V_drewN | apply Kd.V_drew)); exact HO_522000.out) hb); replace BK521 := bk_ BK521 hb; replace HB := bp_ HB hb; (try clear hb); have hcz13_0 := cz_ BK521; have hfz13_0 := blk_frozen BK521.out 0; have p526 : 0 ≤ (0 : Int) := (by omega); have q526 : 0 < (x522000_1.length : Int) := od_; obtain ⟨ad526, e526, hx526_0⟩ := Kd.at_int (Kd.V_reads' HO_522000.out).2.2 0 p526 q526; cases e526; have qi526 : (0 < x522000_1.length) = True := eq_true (by omega); (try rw [show ((0 : Int)).toNat = 0 from rfl] at hx526_0); (try rw [Addr.add_zero'] at hx526_0); replace p526 := eq_true p526; replace q526 := eq_true q526) | ((with_reducible refine gate_builtin (b := .append) (xs := #[.tmp 8, .tmp 13]) rfl ?_); at_builtin; refine Kd.R_append (Kd.int .i64) (w0 := w) w.heap.size rfl (.tmp 8) (.tmp 13) 24 3 (.int .i64 0) 8 rfl Try.underlying24 info3 rfl (by decide) (by omega) u4 x4_1 (rd x522000_1 0) [.int .i64 (rd x522000_1 0)] (fun k_ => (w.heap.size ≤ k_)) (fun _ => False) rfl rfl ?aP (fun _ hk => hk.elim) ?aF ?aO ?aB ?aS ?aL ?_; (case aP => exact rfl); (case aB => exact (bq_ HB)); (case aF => exact (fun k_ hk => (Nat.le_trans (below_size (bq_ HB)) hk))); (case aO => exact (re_ HO_4.out)); (case aS => exact (below_size (bq_ HB))); (case aL => have := LMc8.out; omega); intro v528 w14 ho hb hg hat; rw [← Ny527.out] at ho; replace HO_522000 := Aside0.mk (Kd.V_afterv (ok := (fun k_ => (P0_0_ k_ ∨ w.heap.size ≤ k_) ∧ k_ ≠ gb521)) (by (with_reducible repeat (first | apply Kd.V_alloc | apply Kd.V_drewN | apply Kd.V_drew)); exact Kd.V_mono HO_522000.out (fun _ hk => ⟨⟨hk.1, hk.2.2⟩, hk.2.1⟩)) hg hat); replace BK521 := Aside0.mk (blk_grown (be_ BK521.out) hg (Kd.R_ne HO_4.out BK521.out (by decide))); replace HB := Aside0.mk (hb); have HO529 := Aside0.mk (ho); clear HO_4; clear ho hb hg hat; have hcz15_0 := cz_ BK521; have hfz15_0 := blk_frozen BK521.out 0; have p530 : 0 ≤ (0 : Int) := (by omega); have q530 : 0 < (x522000_1.length : Int) := od_; obtain ⟨ad530, e530, hx530_0⟩ := Kd.at_int (Kd.V_reads' HO_522000.out).2.2 0 p530 q530; obtain rfl : ad526 = ad530 := (by injection e530); have qi530 : (0 < x522000_1.length) = True := eq_true (by omega); (try rw [show ((0 : Int)).toNat = 0 from rfl] at hx530_0); (try rw [Addr.add_zero'] at hx530_0); replace p530 := eq_true p530; replace q530 := eq_true q530))
     go_ret2
     exact ⟨_, rf_, re_ HO529.out, bq_ HB⟩
   rw [if_neg c9] at H
   have c9b0 : ((rd x522000_1 0) == 1) = false := beq_eq_false_iff_ne.mpr c9
   have c9b1 : ((rd x522000_1 0) != 1) = true := bne_iff_ne.mpr c9
   obtain ⟨⟨t531, t534⟩, A16, H⟩ := ob_ H
   (try dsimp only at H)
   have H' := Aside0.mk H
   clear H
   have hcz17_0 := cz_ BK521
   have hfz17_0 := blk_frozen BK521.out 0
   obtain ⟨Ao18, co18, eo18⟩ := Kd.V_slice HO_522000.out
   subst eo18
   go_wp2_with (first | ((with_reducible refine gate_callee (f := 27) rfl ?_); refine gL_ (some 7) Try.func27 #[.agg #[.slice Ao18 x522000_1.length co18]] ?_; (with_reducible refine (spec_IsSemigroup.calls k1 _ _ x522000_1 true _ ?side1 ?side2 A5.out).mono ?_); (case side1 => exact ce_ ((Kd.V_reads' HO_522000.out).2.2)); (case side2 => exact (Kd.V_reads' HO_522000.out).2.1); rintro e w19 ⟨rfl, hb⟩; refine ⟨_, rfl, ?_⟩; replace HO_4 := Aside0.mk (Kd.R_below (re_ HO_4.out) hb); replace HO_522000 := Aside0.mk (Kd.V_below (by (with_reducible repeat (first | apply Kd.V_alloc | apply Kd.V_drewN | apply Kd.V_drew)); exact HO_522000.out) hb); replace BK521 := bk_ BK521 hb; replace HB := bp_ HB hb; (try clear hb); have hcz20_0 := cz_ BK521; have hfz20_0 := blk_frozen BK521.out 0; have p526 : 0 ≤ (0 : Int) := (by omega); have q526 : 0 < (x522000_1.length : Int) := od_; obtain ⟨ad526, e526, hx526_0⟩ := Kd.at_int (Kd.V_reads' HO_522000.out).2.2 0 p526 q526; cases e526; have qi526 : (0 < x522000_1.length) = True := eq_true (by omega); (try rw [show ((0 : Int)).toNat = 0 from rfl] at hx526_0); (try rw [Addr.add_zero'] at hx526_0); replace p526 := eq_true p526; replace q526 := eq_true q526) | ((with_reducible refine gate_builtin (b := .append) (xs := #[.tmp 8, .tmp 13]) rfl ?_); at_builtin; refine Kd.R_append (Kd.int .i64) (w0 := w) w.heap.size rfl (.tmp 8) (.tmp 13) 24 3 (.int .i64 0) 8 rfl Try.underlying24 info3 rfl (by decide) (by omega) u4 x4_1 (rd x522000_1 0) [.int .i64 (rd x522000_1 0)] (fun k_ => (w.heap.size ≤ k_)) (fun _ => False) rfl rfl ?aP (fun _ hk => hk.elim) ?aF ?aO ?aB ?aS ?aL ?_; (case aP => exact rfl); (case aB => exact (bq_ HB)); (case aF => exact (fun k_ hk => (Nat.le_trans (below_size (bq_ HB)) hk))); (case aO => exact (re_ HO_4.out)); (case aS => exact (below_size (bq_ HB))); (case aL => have := LMc8.out; omega); intro v528 w21 ho hb hg hat; rw [← Ny527.out] at ho; replace HO_522000 := Aside0.mk (Kd.V_afterv (ok := (fun k_ => (P0_0_ k_ ∨ w.heap.size ≤ k_) ∧ k_ ≠ gb521)) (by (with_reducible repeat (first | apply Kd.V_alloc | apply Kd.V_drewN | apply Kd.V_drew)); exact Kd.V_mono HO_522000.out (fun _ hk => ⟨⟨hk.1, hk.2.2⟩, hk.2.1⟩)) hg hat); replace BK521 := Aside0.mk (blk_grown (be_ BK521.out) hg (Kd.R_ne HO_4.out BK521.out (by decide))); replace HB := Aside0.mk (hb); have HO529 := Aside0.mk (ho); clear HO_4; clear ho hb hg hat; have hcz22_0 := cz_ BK521; have hfz22_0 := blk_frozen BK521.out 0; have p530 : 0 ≤ (0 : Int) := (by omega); have q530 : 0 < (x522000_1.length : Int) := od_; obtain ⟨ad530, e530, hx530_0⟩ := Kd.at_int (Kd.V_reads' HO_522000.out).2.2 0 p530 q530; obtain rfl : ad526 = ad530 := (by injection e530); have qi530 : (0 < x522000_1.length) = True := eq_true (by omega); (try rw [show ((0 : Int)).toNat = 0 from rfl] at hx530_0); (try rw [Addr.add_zero'] at hx530_0); replace p530 := eq_true p530; replace q530 := eq_true q530) | ((with_reducible refine gate_callee (f := 13) rfl ?_); refine gL_ (some 23) Try.func13 #[.agg #[.slice (some ad526) x522000_1.length co18]] ?_; (with_reducible refine (spec_BlowUp.calls k1 _ _ x522000_1 t531 t534 _ ?side1 ?side2 A16.out).mono ?_); (case side1 => exact ce_ ((Kd.V_reads' HO_522000.out).2.2)); (case side2 => exact (Kd.V_reads' HO_522000.out).2.1); rintro e w23 ⟨v532, rfl, ho0, hb⟩; refine ⟨_, rfl, ?_⟩; replace HO_522000 := Aside0.mk (Kd.V_elder' (by (with_reducible repeat (first | apply Kd.V_alloc | apply Kd.V_drewN | apply Kd.V_drew)); exact HO_522000.out) (Kd.R_base ho0) hb); have HO533 := Aside0.mk (Kd.R_lower (Kd.R_new' (Kd.R_newM (M := fun k_ => (w.heap.size ≤ k_)) ho0 (below_size (bq_ HB)) (fun k_ h_ => h_)) (Kd.R_lt (re_ HO529.out))) (below_size (bq_ HB))); replace HO529 := Aside0.mk (Kd.R_elder' (re_ HO529.out) (Kd.R_base ho0) hb); replace BK521 := bk_ BK521 hb; replace HB := bp_ HB hb; (try clear hb); (try clear ho0); obtain ⟨Ao24, co24, eo24⟩ := Kd.R_slice HO533.out; subst eo24; have hcz25_0 := cz_ BK521; have hfz25_0 := blk_frozen BK521.out 0))
   go_roundg k1
   case measure => have := HK1.out; omega
   case rel => exact ⟨(y527), (t531), (.slice Ao24 t531.length co24), H', ⟨by have := HK1.out; omega⟩, ⟨by (with_reducible repeat (first | apply Kd.R_alloc | apply Kd.R_drewN | apply Kd.R_drew)); exact Kd.R_mono (Kd.R_far (p := ⟨gb521, 0, none⟩) (Kd.R_types HO529.out BK521.out (by decide)) (fun _ hk => hk.2) (.slice Ao24 t531.length co24)) (fun _ hk => hk.1.1)⟩, ⟨Kd.V_mono (Kd.R_V (by (with_reducible repeat (first | apply Kd.R_alloc | apply Kd.R_drewN | apply Kd.R_drew)); exact Kd.R_mono (ok' := fun k_ => w.heap.size ≤ k_ ∧ (some k_ ≠ (v528 : Value).ownBlock ∧ k_ ≠ gb521)) (Kd.R_far (p := ⟨gb521, 0, none⟩) (Kd.R_types (Kd.R_types HO533.out BK521.out (by decide)) BK521.out (by decide)) (fun _ hk => hk.2) (.slice Ao24 t531.length co24)) (fun _ hk => ⟨hk.1.1.1.1, ⟨hk.1.1.2, hk.1.2⟩⟩))) (fun k_ hk => by first | exact ⟨(.inr (hk.1)), hk.2⟩ | exact (.inr (hk)))⟩, ⟨bz_ BK521⟩, ⟨bq_ HB⟩⟩
def spec_EqualSemigroup.f (k : Nat) (l0_0 : List Int) (l1_0 : List Int) : Option (Bool) := (spec_l2Same.f k l0_0 l1_0).bind fun t540 => (some t540)
theorem spec_EqualSemigroup.calls (k : Nat) (A0_0 : Option Addr) (c0_0 : Nat) (l0_0 : List Int) (A1_0 : Option Addr) (c1_0 : Nat) (l1_0 : List Int) (r : Bool) (w : World) (hr0_0 : Kd.C (Kd.int .i64) w A0_0 l0_0.length l0_0) (hc0_0 : l0_0.length ≤ c0_0) (hr1_0 : Kd.C (Kd.int .i64) w A1_0 l1_0.length l1_0) (hc1_0 : l1_0.length ≤ c1_0) (h : spec_EqualSemigroup.f k l0_0 l1_0 = some r) :
 Calls Try.prog 16 #[.agg #[.slice A0_0 l0_0.length c0_0], .agg #[.slice A1_0 l1_0.length c1_0]] w fun e w' => e = .returned (.bool r) ∧ Below w.heap.size w w' := by
 have hu26 := Try.underlying26
 have HR0_0 := Aside0.mk hr0_0
 have HC0_0 := Aside0.mk hc0_0
 clear hr0_0 hc0_0
 have HR1_0 := Aside0.mk hr1_0
 have HC1_0 := Aside0.mk hc1_0
 clear hr1_0 hc1_0
 have HB := Aside0.mk (Below.refl w.heap.size w)
 have H := h
 clear h
 unfold spec_EqualSemigroup.f at H
 obtain ⟨t540, A3, H⟩ := ob_ H
 obtain rfl := Option.some.inj H
 go_enter Try.func16, Try.ntmps16
 go_wp2_with (first | ((with_reducible refine gate_dst (N := 2) rfl ?_); refine bx_ 2 #[.slice A0_0 l0_0.length c0_0] 26 ?_; intro gb538 hg w4 hbox hb; have BK538 := Aside0.mk (hbox); have GW538 := gw_ hg HB; have GE538 := gw_ hg HB; replace HB := bo_ HB hb; clear hb hbox hg) | ((with_reducible refine gate_dst (N := 3) rfl ?_); refine bx_ 3 #[.slice A1_0 l1_0.length c1_0] 26 ?_; intro gb539 hg w5 hbox hb; have BK539 := Aside0.mk (hbox); have GW539 := gq_ hg (bq_ HB); have GE539 := gq_ hg (bq_ HB); replace HB := bp_ HB hb; have NB538_539 := nl_ hg BK538; have NB539_538 := ng_ hg BK538; replace BK538 := bk_ BK538 hb; clear hb hbox hg; have hnb6 := NB538_539.out; have hnc6 := NB539_538.out; have hcz7_0 := cz_ BK538; have hfz7_0 := blk_frozen BK538.out 0; have hcz8_0 := cz_ BK539; have hfz8_0 := blk_frozen BK539.out 0) | ((with_reducible refine gate_callee (f := 39) rfl ?_); refine gL_ (some 9) Try.func39 #[.slice A0_0 l0_0.length c0_0, .slice A1_0 l1_0.length c1_0] ?_; (with_reducible refine (spec_l2Same.calls k _ _ l0_0 _ _ l1_0 t540 _ ?side1 ?side2 ?side3 ?side4 A3.out).mono ?_); (case side1 => exact ch_ HR0_0 HB); (case side2 => exact HC0_0.out); (case side3 => exact ch_ HR1_0 HB); (case side4 => exact HC1_0.out); rintro e w' ⟨rfl, ⟨nd, rfl⟩⟩; refine ⟨_, rfl, ?_⟩))
 go_ret
 exact ⟨rf_, bq_ HB⟩
def spec_IsArf.f (k : Nat) (l0_0 : List Int) : Option (Bool) := (spec_ArfFailure.f k l0_0).bind fun bt542 => ((spec_IsSemigroup.f k l0_0).bind fun t546 => (if t546 = true then (some (!bt542.2.2.2)) else (some false)))
theorem spec_IsArf.calls (k : Nat) (A0_0 : Option Addr) (c0_0 : Nat) (l0_0 : List Int) (r : Bool) (w : World) (hr0_0 : Kd.C (Kd.int .i64) w A0_0 l0_0.length l0_0) (hc0_0 : l0_0.length ≤ c0_0) (h : spec_IsArf.f k l0_0 = some r) :
 Calls Try.prog 17 #[.agg #[.slice A0_0 l0_0.length c0_0]] w fun e w' => e = .returned (.bool r) ∧ Below w.heap.size w w' := by
 have hu26 := Try.underlying26
 have HR0_0 := Aside0.mk hr0_0
 have HC0_0 := Aside0.mk hc0_0
 clear hr0_0 hc0_0
 have HB := Aside0.mk (Below.refl w.heap.size w)
 have H := h
 clear h
 unfold spec_IsArf.f at H
 obtain ⟨⟨t542, t543, t544, t545⟩, A2, H⟩ := ob_ H
 (try dsimp only at H)
 obtain ⟨t546, A3, H⟩ := ob_ H
 by_cases c4 : t546 = true
 · subst c4
   rw [if_pos rfl] at H
   obtain rfl := Option.some.inj H
   go_enter Try.func17, Try.ntmps17
   go_wp2_with (first | ((with_reducible refine gate_dst (N := 1) rfl ?_); refine bx_ 1 #[.slice A0_0 l0_0.length c0_0] 26 ?_; intro gb541 hg w5 hbox hb; have BK541 := Aside0.mk (hbox); have GW541 := gw_ hg HB; have GE541 := gw_ hg HB; replace HB := bo_ HB hb; clear hb hbox hg; have hcz6_0 := cz_ BK541; have hfz6_0 := blk_frozen BK541.out 0) | ((with_reducible refine gate_callee (f := 11) rfl ?_); refine gL_ (some 9) Try.func11 #[.agg #[.slice A0_0 l0_0.length c0_0]] ?_; (with_reducible refine (spec_ArfFailure.calls k _ _ l0_0 t542 t543 t544 t545 _ ?side1 ?side2 A2.out).mono ?_); (case side1 => exact ch_ HR0_0 HB); (case side2 => exact HC0_0.out); rintro e w7 ⟨rfl, hb⟩; refine ⟨_, rfl, ?_⟩; replace BK541 := bk_ BK541 hb; replace HB := bp_ HB hb; (try clear hb); have hcz8_0 := cz_ BK541; have hfz8_0 := blk_frozen BK541.out 0) | ((with_reducible refine gate_callee (f := 27) rfl ?_); refine gL_ (some 15) Try.func27 #[.agg #[.slice A0_0 l0_0.length c0_0]] ?_; (with_reducible refine (spec_IsSemigroup.calls k _ _ l0_0 true _ ?side1 ?side2 A3.out).mono ?_); (case side1 => exact ch_ HR0_0 HB); (case side2 => exact HC0_0.out); rintro e w9 ⟨rfl, hb⟩; refine ⟨_, rfl, ?_⟩; replace BK541 := bk_ BK541 hb; replace HB := bp_ HB hb; (try clear hb)))
   go_ret
   exact ⟨rf_, bq_ HB⟩
 replace c4 := Bool.eq_false_iff.mpr c4
 subst c4
 rw [if_neg (show ¬ (false = true) by decide)] at H
 obtain rfl := Option.some.inj H
 go_enter Try.func17, Try.ntmps17
 go_wp2_with (first | ((with_reducible refine gate_dst (N := 1) rfl ?_); refine bx_ 1 #[.slice A0_0 l0_0.length c0_0] 26 ?_; intro gb541 hg w10 hbox hb; have BK541 := Aside0.mk (hbox); have GW541 := gw_ hg HB; have GE541 := gw_ hg HB; replace HB := bo_ HB hb; clear hb hbox hg; have hcz11_0 := cz_ BK541; have hfz11_0 := blk_frozen BK541.out 0) | ((with_reducible refine gate_callee (f := 11) rfl ?_); refine gL_ (some 9) Try.func11 #[.agg #[.slice A0_0 l0_0.length c0_0]] ?_; (with_reducible refine (spec_ArfFailure.calls k _ _ l0_0 t542 t543 t544 t545 _ ?side1 ?side2 A2.out).mono ?_); (case side1 => exact ch_ HR0_0 HB); (case side2 => exact HC0_0.out); rintro e w12 ⟨rfl, hb⟩; refine ⟨_, rfl, ?_⟩; replace BK541 := bk_ BK541 hb; replace HB := bp_ HB hb; (try clear hb); have hcz13_0 := cz_ BK541; have hfz13_0 := blk_frozen BK541.out 0) | ((with_reducible refine gate_callee (f := 27) rfl ?_); refine gL_ (some 15) Try.func27 #[.agg #[.slice A0_0 l0_0.length c0_0]] ?_; (with_reducible refine (spec_IsSemigroup.calls k _ _ l0_0 false _ ?side1 ?side2 A3.out).mono ?_); (case side1 => exact ch_ HR0_0 HB); (case side2 => exact HC0_0.out); rintro e w14 ⟨rfl, hb⟩; refine ⟨_, rfl, ?_⟩; replace BK541 := bk_ BK541 hb; replace HB := bp_ HB hb; (try clear hb)))
 go_ret
 exact ⟨rf_, bq_ HB⟩
def spec_Contains.f (k : Nat) (l0_0 : List Int) (a1 : Int) : Option (Bool) := (spec_IsSemigroup.f k l0_0).bind fun t548 => (if t548 = true then ((spec_l3Has.f k l0_0 a1).bind fun t549 => (some t549)) else (some false))
theorem spec_Contains.calls (k : Nat) (A0_0 : Option Addr) (c0_0 : Nat) (l0_0 : List Int) (a1 : Int) (r : Bool) (w : World) (hr0_0 : Kd.C (Kd.int .i64) w A0_0 l0_0.length l0_0) (hc0_0 : l0_0.length ≤ c0_0) (h : spec_Contains.f k l0_0 a1 = some r) :
 Calls Try.prog 19 #[.agg #[.slice A0_0 l0_0.length c0_0], .int .i64 a1] w fun e w' => e = .returned (.bool r) ∧ Below w.heap.size w w' := by
 have hu26 := Try.underlying26
 have HR0_0 := Aside0.mk hr0_0
 have HC0_0 := Aside0.mk hc0_0
 clear hr0_0 hc0_0
 have HB := Aside0.mk (Below.refl w.heap.size w)
 have H := h
 clear h
 unfold spec_Contains.f at H
 obtain ⟨t548, A3, H⟩ := ob_ H
 by_cases c4 : t548 = true
 rotate_left
 · replace c4 := Bool.eq_false_iff.mpr c4
   subst c4
   rw [if_neg (show ¬ (false = true) by decide)] at H
   obtain rfl := Option.some.inj H
   go_enter Try.func19, Try.ntmps19
   go_wp2_with (first | ((with_reducible refine gate_dst (N := 2) rfl ?_); refine bx_ 2 #[.slice A0_0 l0_0.length c0_0] 26 ?_; intro gb547 hg w11 hbox hb; have BK547 := Aside0.mk (hbox); have GW547 := gw_ hg HB; have GE547 := gw_ hg HB; replace HB := bo_ HB hb; clear hb hbox hg; have hcz12_0 := cz_ BK547; have hfz12_0 := blk_frozen BK547.out 0) | ((with_reducible refine gate_callee (f := 27) rfl ?_); refine gL_ (some 6) Try.func27 #[.agg #[.slice A0_0 l0_0.length c0_0]] ?_; (with_reducible refine (spec_IsSemigroup.calls k _ _ l0_0 false _ ?side1 ?side2 A3.out).mono ?_); (case side1 => exact ch_ HR0_0 HB); (case side2 => exact HC0_0.out); rintro e w13 ⟨rfl, hb⟩; refine ⟨_, rfl, ?_⟩; replace BK547 := bk_ BK547 hb; replace HB := bp_ HB hb; (try clear hb)))
   go_ret
   exact ⟨rf_, bq_ HB⟩
 subst c4
 rw [if_pos rfl] at H
 obtain ⟨t549, A5, H⟩ := ob_ H
 obtain rfl := Option.some.inj H
 go_enter Try.func19, Try.ntmps19
 go_wp2_with (first | ((with_reducible refine gate_dst (N := 2) rfl ?_); refine bx_ 2 #[.slice A0_0 l0_0.length c0_0] 26 ?_; intro gb547 hg w6 hbox hb; have BK547 := Aside0.mk (hbox); have GW547 := gw_ hg HB; have GE547 := gw_ hg HB; replace HB := bo_ HB hb; clear hb hbox hg; have hcz7_0 := cz_ BK547; have hfz7_0 := blk_frozen BK547.out 0) | ((with_reducible refine gate_callee (f := 27) rfl ?_); refine gL_ (some 6) Try.func27 #[.agg #[.slice A0_0 l0_0.length c0_0]] ?_; (with_reducible refine (spec_IsSemigroup.calls k _ _ l0_0 true _ ?side1 ?side2 A3.out).mono ?_); (case side1 => exact ch_ HR0_0 HB); (case side2 => exact HC0_0.out); rintro e w8 ⟨rfl, hb⟩; refine ⟨_, rfl, ?_⟩; replace BK547 := bk_ BK547 hb; replace HB := bp_ HB hb; (try clear hb); have hcz9_0 := cz_ BK547; have hfz9_0 := blk_frozen BK547.out 0) | (go_at_call 40; (with_reducible refine (spec_l3Has.calls k _ _ l0_0 a1 t549 _ ?side1 ?side2 A5.out).mono ?_); (case side1 => exact ch_ HR0_0 HB); (case side2 => exact HC0_0.out); rintro e w10 ⟨rfl, hb⟩; replace BK547 := bk_ BK547 hb; replace HB := bp_ HB hb; (try clear hb)))
 go_ret
 exact ⟨rf_, bq_ HB⟩
def laws_big.f (l0 : List Int) : Option (Bool) := some (decide ((l0.length : Int) > 1048576))
theorem laws_big.calls (A0 : Option Addr) (c0 : Nat) (l0 : List Int) (r : Bool) (w : World) (hr0 : Kd.C (Kd.int .u8) w A0 l0.length l0) (hc0 : l0.length ≤ c0) (h : laws_big.f l0 = some r) :
 Calls Try.prog 4 #[.slice A0 l0.length c0] w fun e w' => e = .returned (.bool r) ∧ Drawn0 w w' := by
 have HR0 := Aside0.mk hr0
 have HC0 := Aside0.mk hc0
 clear hr0 hc0
 have H := h
 clear h
 unfold laws_big.f at H
 obtain rfl := Option.some.inj H
 go_enter Try.func4, Try.ntmps4
 go_wp2
 go_ret
 exact ⟨by first | rfl | (simp; done) | (simp [*]; done), by repeat (first | exact Drawn0.refl _ | apply Drawn0.step)⟩
def impl_within.f (a0 : Int) (a1 : Int) (a2 : Int) : Option (Bool) := if a0 ≥ a1 then (some (decide (a0 ≤ a2))) else (some false)
theorem impl_within.calls (a0 : Int) (a1 : Int) (a2 : Int) (r : Bool) (w : World) (h : impl_within.f a0 a1 a2 = some r) :
 Calls Try.prog 42 #[.int .i64 a0, .int .i64 a1, .int .i64 a2] w fun e w' => e = .returned (.bool r) ∧ Drawn0 w w' := by
 have H := h
 clear h
 unfold impl_within.f at H
 by_cases c4 : a0 ≥ a1
 rotate_left
 · rw [if_neg c4] at H
   have c4b0 : decide (a1 ≤ a0) = false := decide_eq_false c4
   clear c4
   obtain rfl := Option.some.inj H
   go_enter Try.func42, Try.ntmps42
   go_wp2
   go_ret
   exact ⟨by first | rfl | (simp; done) | (simp [*]; done), by repeat (first | exact Drawn0.refl _ | apply Drawn0.step)⟩
 rw [if_pos c4] at H
 have c4b0 : decide (a1 ≤ a0) = true := decide_eq_true c4
 clear c4
 obtain rfl := Option.some.inj H
 go_enter Try.func42, Try.ntmps42
 go_wp2
 go_ret
 exact ⟨by first | rfl | (simp; done) | (simp [*]; done), by repeat (first | exact Drawn0.refl _ | apply Drawn0.step)⟩
def impl_allWithin.l0 : Nat → Int → Int → List Int → Int → Int → Option (Bool)
 | 0, _, _, _, _, _ => none
 | k + 1, x1, x2, x9, x10, x11 => if x11 < x10 then (if 0 ≤ x11 then (if x11 < (x9.length : Int) then ((impl_within.f (rd x9 x11) x1 x2).bind fun t551 => (if t551 = true then (impl_allWithin.l0 k x1 x2 x9 x10 (wrap64 (x11 + 1))) else (some false))) else (none)) else (none)) else (some true)
def impl_allWithin.f (k : Nat) (l0 : List Int) (a1 : Int) (a2 : Int) : Option (Bool) := impl_allWithin.l0 k a1 a2 l0 (l0.length : Int) 0
theorem impl_allWithin.calls (k : Nat) (A0 : Option Addr) (c0 : Nat) (l0 : List Int) (a1 : Int) (a2 : Int) (r : Bool) (w : World) (hr0 : Kd.C (Kd.int .i64) w A0 l0.length l0) (hc0 : l0.length ≤ c0) (h : impl_allWithin.f k l0 a1 a2 = some r) :
 Calls Try.prog 46 #[.slice A0 l0.length c0, .int .i64 a1, .int .i64 a2] w fun e w' => e = .returned (.bool r) ∧ Drawn0 w w' := by
 have HR0 := Aside0.mk hr0
 have HC0 := Aside0.mk hc0
 clear hr0 hc0
 have H := h
 clear h
 unfold impl_allWithin.f at H
 have H' := Aside0.mk H
 clear H
 go_enter Try.func46, Try.ntmps46
 go_wp2
 go_loopg [11] k (fun kq v11 w' => ∃ (x11_1 : Int), v11 = .int .i64 x11_1 ∧ Aside0 (impl_allWithin.l0 kq a1 a2 l0 (l0.length : Int) x11_1 = some r) ∧ Aside0 (kq ≤ k) ∧ Drawn0 w w')
 case atStart => exact ⟨(0), rs_, H', ⟨Nat.le_refl _⟩, by repeat (first | exact Drawn0.refl _ | apply Drawn0.step)⟩
 case round =>
  clear H'
  obtain ⟨x11_1, rfl, HA, HK1, ⟨m1, rfl⟩⟩ := hrel
  cases gk with
  | zero => exact absurd HA.out (by simp [impl_allWithin.l0])
  | succ k1 =>
   have H := HA.out
   clear HA
   simp only [impl_allWithin.l0] at H
   by_cases c4 : x11_1 < (l0.length : Int)
   rotate_left
   · rw [if_neg c4] at H
     have c4b0 : decide (x11_1 < (l0.length : Int)) = false := decide_eq_false c4
     clear c4
     obtain rfl := Option.some.inj H
     go_wp2
     go_ret
     exact ⟨by first | rfl | (simp; done) | (simp [*]; done), by repeat (first | exact Drawn0.refl _ | apply Drawn0.step)⟩
   rw [if_pos c4] at H
   have c4b0 : decide (x11_1 < (l0.length : Int)) = true := decide_eq_true c4
   clear c4
   obtain ⟨c5b0, H⟩ := ipd_ H
   obtain ⟨c6b0, H⟩ := ipd_ H
   obtain ⟨t551, A7, H⟩ := ob_ H
   by_cases c8 : t551 = true
   rotate_left
   · replace c8 := Bool.eq_false_iff.mpr c8
     subst c8
     rw [if_neg (show ¬ (false = true) by decide)] at H
     obtain rfl := Option.some.inj H
     have p550 : 0 ≤ (x11_1 : Int) := od_
     have q550 : x11_1 < (l0.length : Int) := od_
     obtain ⟨ad550, e550, hx550_0⟩ := Kd.at_int HR0.out x11_1 p550 q550
     cases e550
     replace p550 := eq_true p550
     replace q550 := eq_true q550
     go_wp2_with (first | ((with_reducible refine gate_callee (f := 42) rfl ?_); refine gL_ (some 18) Try.func42 #[.int .i64 (rd l0 x11_1), .int .i64 a1, .int .i64 a2] ?_; (with_reducible refine (impl_within.calls (rd l0 x11_1) a1 a2 false _ A7.out).mono ?_); rintro e w' ⟨rfl, ⟨nd, rfl⟩⟩; refine ⟨_, rfl, ?_⟩))
     go_ret
     exact ⟨by first | rfl | (simp; done) | (simp [*]; done), by repeat (first | exact Drawn0.refl _ | apply Drawn0.step)⟩
   subst c8
   rw [if_pos rfl] at H
   have H' := Aside0.mk H
   clear H
   have p550 : 0 ≤ (x11_1 : Int) := od_
   have q550 : x11_1 < (l0.length : Int) := od_
   obtain ⟨ad550, e550, hx550_0⟩ := Kd.at_int HR0.out x11_1 p550 q550
   cases e550
   replace p550 := eq_true p550
   replace q550 := eq_true q550
   go_wp2_with (first | ((with_reducible refine gate_callee (f := 42) rfl ?_); refine gL_ (some 18) Try.func42 #[.int .i64 (rd l0 x11_1), .int .i64 a1, .int .i64 a2] ?_; (with_reducible refine (impl_within.calls (rd l0 x11_1) a1 a2 true _ A7.out).mono ?_); rintro e w' ⟨rfl, ⟨nd, rfl⟩⟩; refine ⟨_, rfl, ?_⟩))
   go_roundg k1
   case measure => have := HK1.out; omega
   case rel => exact ⟨(wrap64 (x11_1 + 1)), rs_, H', ⟨by have := HK1.out; omega⟩, by repeat (first | exact Drawn0.refl _ | apply Drawn0.step)⟩
end Go.Proofs.Ytppkokbhgkeknaa.PA
end
