-- Bundled by shake.py from this session's printed and written texts; Lean checks it.
import Derived.Test.YtjjajcldmkmgkaaZFnGluedx1
import Derived.Test.YtjjajcldmkmgkaaZFnGluedx10
import Derived.Test.YtjjajcldmkmgkaaZFnGluedx11
import Derived.Test.YtjjajcldmkmgkaaZFnGluedx2
import Derived.Test.YtjjajcldmkmgkaaZFnGluedx3
import Derived.Test.YtjjajcldmkmgkaaZFnGluedx4
import Derived.Test.YtjjajcldmkmgkaaZFnGluedx7
import Derived.Test.YtjjajcldmkmgkaaZFnGluedx8
import Derived.Test.YtjjajcldmkmgkaaZFnGluedx9
section
namespace Go.Proofs.Ytjjajcldmkmgkaa.PA
open Go.RowKit Go.Proofs.YtjjajcldmkmgkaaW.PrintWords Go.Proofs.YtjjajcldmkmgkaaW.PrintLast Go.Proofs.YtjjajcldmkmgkaaW.PrintMore
attribute [local go_sem] max2_int min2_int max_two min_two max_three min_three max_four min_four
set_option linter.unusedVariables false
set_option linter.unusedSimpArgs false
set_option maxHeartbeats 8000000
set_option maxRecDepth 100000
mutual
def laws_FnGlued.j0 : Nat → Bool → Int → List Int → Bool → Int → Bool → List Int → List Int → List Int → Option (Bool)
 | 0, _, _, _, _, _, _, _, _, _ => none
 | k + 1, x8, x11, x12, x13, x14, x82, x1010000, x1011000, x1016000 => if x82 = true then (some false) else (if x8 = true then ((spec_FrobeniusOf.f k x1016000).bind fun t1031 => (if x11 = t1031 then ((spec_IsSymmetric.f k x1016000).bind fun t1032 => ((spec_IsSymmetric.f k x1010000).bind fun t1033 => (if t1033 = true then ((spec_IsSymmetric.f k x1011000).bind fun t1034 => (laws_FnGlued.j1 k x12 x13 x14 (t1032 != t1034))) else (laws_FnGlued.j1 k x12 x13 x14 (t1032 != false))))) else (laws_FnGlued.j1 k x12 x13 x14 true))) else (laws_FnGlued.j1 k x12 x13 x14 false))
def laws_FnGlued.j1 : Nat → List Int → Bool → Int → Bool → Option (Bool)
 | 0, _, _, _, _ => none
 | k + 1, x12, x13, x14, x100 => if x100 = true then (some false) else ((spec_FromGens.f k x12).bind fun bt1035 => (if x13 = true then (if bt1035.2 = true then ((spec_FrobeniusOf.f k bt1035.1).bind fun t1040 => (if x14 = t1040 then ((spec_IsSymmetric.f k bt1035.1).bind fun t1041 => (some t1041)) else (some false))) else (some true)) else (some true)))
end
def laws_FnGlued.f (k : Nat) (l0 : List Int) : Option (Bool) := (laws_big.f l0).bind fun t1000 => (if t1000 = true then (some true) else ((spec_DrawGlueOf.f k l0).bind fun bt1001 => ((impl_GlueOf.f k bt1001.1 bt1001.2.1 bt1001.2.2.1 bt1001.2.2.2).bind fun bt1011 => ((spec_GlueOf.f k bt1001.1 bt1001.2.1 bt1001.2.2.1 bt1001.2.2.2).bind fun bt1016 => ((impl_GlueFrobenius.f k bt1001.1 bt1001.2.1 bt1001.2.2.1 bt1001.2.2.2).bind fun t1021 => ((spec_DrawIsTelescopic.f k l0).bind fun t1022 => ((impl_IsTelescopic.f k t1022).bind fun t1025 => ((impl_TelescopicFrobenius.f k t1022).bind fun t1026 => (if (bt1011.2 != bt1016.2) = true then (laws_FnGlued.j0 k bt1011.2 t1021 t1022 t1025 t1026 true bt1001.1 bt1001.2.1 bt1011.1) else ((spec_EqualSemigroup.f k bt1011.1 bt1016.1).bind fun t1027 => (if t1027 = true then ((spec_GlueFrobenius.f k bt1001.1 bt1001.2.1 bt1001.2.2.1 bt1001.2.2.2).bind fun t1028 => (if t1021 = t1028 then ((spec_IsTelescopic.f k t1022).bind fun t1029 => (if (t1025 != t1029) = true then (laws_FnGlued.j0 k bt1011.2 t1021 t1022 t1025 t1026 true bt1001.1 bt1001.2.1 bt1011.1) else ((spec_TelescopicFrobenius.f k t1022).bind fun t1030 => (laws_FnGlued.j0 k bt1011.2 t1021 t1022 t1025 t1026 (t1026 != t1030) bt1001.1 bt1001.2.1 bt1011.1)))) else (laws_FnGlued.j0 k bt1011.2 t1021 t1022 t1025 t1026 true bt1001.1 bt1001.2.1 bt1011.1))) else (laws_FnGlued.j0 k bt1011.2 t1021 t1022 t1025 t1026 true bt1001.1 bt1001.2.1 bt1011.1))))))))))))
def laws_FnGlued.T12 : Bool × List (List Nat × List Nat) := (true, [([], []), ([0], [0]), ([1], [1]), ([1], [1]), ([3, 1, 1], [1, 3]), ([2, 4, 1], [1, 2, 4]), ([5, 4, 1], [1, 5]), ([6], [6]), ([7, 6, 6], [6, 7]), ([6], [6]), ([9, 8, 6], [6, 9]), ([10, 10, 6], [6, 10]), ([11], [11]), ([12, 11, 11], [11, 12]), ([11, 13, 6], [6, 11, 13]), ([8, 14, 6], [6, 8, 14]), ([6, 15, 1], [1, 6, 15]), ([1, 16], [1, 16])])
def laws_FnGlued.B12 : List Nat := [0, 1, 3, 3, 11, 31, 63, 127, 255, 127, 1023, 2047, 4095, 8191, 16383, 32767, 65535, 131071]
theorem laws_FnGlued.tab12 : rtab .any (opsOf Try.f3 12) = laws_FnGlued.T12 := by kernel_rfl
theorem laws_FnGlued.bits12 : waitsOk laws_FnGlued.T12.2 laws_FnGlued.B12 = true := by kernel_rfl
theorem laws_FnGlued.calls (k : Nat) (A0 : Option Addr) (c0 : Nat) (l0 : List Int) (r : Bool) (w : World) (hr0 : Kd.C (Kd.int .u8) w A0 l0.length l0) (hc0 : l0.length ≤ c0) (h : laws_FnGlued.f k l0 = some r) (hr_ : r = true := by rfl) :
 Calls Try.prog 3 #[.slice A0 l0.length c0] w fun e w' => e = .returned (.bool r) ∧ Below w.heap.size w w' := by
 have hr_ := Aside0.mk hr_
 have hu26 := Try.underlying26
 have HR0 := Aside0.mk hr0
 have HC0 := Aside0.mk hc0
 clear hr0 hc0
 have HB := Aside0.mk (Below.refl w.heap.size w)
 have H := h
 clear h
 unfold laws_FnGlued.f at H
 obtain ⟨t1000, A2, H⟩ := ob_ H
 by_cases c3 : t1000 = true
 · subst c3
   rw [if_pos rfl] at H
   obtain rfl := Option.some.inj H
   go_enter Try.func3, Try.ntmps3
   go_wp2_with (first | ((with_reducible refine gate_callee (f := 4) rfl ?_); refine gL_ (some 18) Try.func4 #[.slice A0 l0.length c0] ?_; (with_reducible refine (laws_big.calls _ _ l0 true _ ?side1 ?side2 A2.out).mono ?_); (case side1 => exact ce_ (HR0.out)); (case side2 => exact HC0.out); rintro e w' ⟨rfl, ⟨nd, rfl⟩⟩; refine ⟨_, rfl, ?_⟩))
   go_ret
   exact ⟨rf_, bl_ HB.out⟩
 replace c3 := Bool.eq_false_iff.mpr c3
 subst c3
 rw [if_neg (show ¬ (false = true) by decide)] at H
 obtain ⟨⟨t1001, t1004, t1007, t1008⟩, A4, H⟩ := ob_ H
 (try dsimp only at H)
 obtain ⟨⟨t1011, t1014⟩, A5, H⟩ := ob_ H
 (try dsimp only at H)
 obtain ⟨⟨t1016, t1019⟩, A6, H⟩ := ob_ H
 (try dsimp only at H)
 obtain ⟨t1021, A7, H⟩ := ob_ H
 obtain ⟨t1022, A8, H⟩ := ob_ H
 obtain ⟨t1025, A9, H⟩ := ob_ H
 obtain ⟨t1026, A10, H⟩ := ob_ H
 have HC11 := Aside0.mk H
 clear H
 go_enter Try.func3, Try.ntmps3
 go_upto_region 10 with (first | ((with_reducible refine gate_callee (f := 4) rfl ?_); refine gL_ (some 18) Try.func4 #[.slice A0 l0.length c0] ?_; (with_reducible refine (laws_big.calls _ _ l0 false _ ?side1 ?side2 A2.out).mono ?_); (case side1 => exact ce_ (HR0.out)); (case side2 => exact HC0.out); rintro e w' ⟨rfl, ⟨nd, rfl⟩⟩; refine ⟨_, rfl, ?_⟩) | ((with_reducible refine gate_callee (f := 5) rfl ?_); refine gL_ (some 21) Try.func5 #[.slice A0 l0.length c0] ?_; (with_reducible refine (spec_DrawGlueOf.calls k _ _ l0 t1001 t1004 t1007 t1008 _ ?side1 ?side2 A4.out).mono ?_); (case side1 => exact ce_ (HR0.out)); (case side2 => exact HC0.out); rintro e w12 ⟨v1002, v1005, rfl, ho0, ho1, hb⟩; refine ⟨_, rfl, ?_⟩; have HO1003 := Aside0.mk (Kd.Q_lower ho0 (below_size (bl_ HB.out))); have HO1006 := Aside0.mk (Kd.Q_lower ho1 (below_size (bl_ HB.out))); replace HB := bo_ HB hb; (try clear hb); (try clear ho0); (try clear ho1)) | ((with_reducible refine gate_dst (N := 3) rfl ?_); refine bx_ 3 #[.slice none 0 0] 26 ?_; intro gb1009 hg w13 hbox hb; replace HO1003 := Aside0.mk (Kd.Q_below (qe_ HO1003.out) hb); replace HO1006 := Aside0.mk (Kd.Q_below (qe_ HO1006.out) hb); have BK1009 := Aside0.mk (hbox); have GW1009 := gw_ hg HB; have GE1009 := gw_ hg HB; replace HB := bo_ HB hb; clear hb hbox hg) | ((with_reducible refine gate_dst (N := 4) rfl ?_); refine bx_ 4 #[.slice none 0 0] 26 ?_; intro gb1010 hg w14 hbox hb; replace HO1003 := Aside0.mk (Kd.Q_below (qe_ HO1003.out) hb); replace HO1006 := Aside0.mk (Kd.Q_below (qe_ HO1006.out) hb); have BK1010 := Aside0.mk (hbox); have GW1010 := gq_ hg (bq_ HB); have GE1010 := gq_ hg (bq_ HB); replace HB := bp_ HB hb; have NB1009_1010 := nl_ hg BK1009; have NB1010_1009 := ng_ hg BK1009; replace BK1009 := bk_ BK1009 hb; clear hb hbox hg; obtain ⟨Ao15, co15, eo15, _⟩ := Kd.Q_slice HO1003.out; subst eo15; have hnb16 := NB1009_1010.out; have hnc16 := NB1010_1009.out; have hcz17_0 := cz_ BK1009; have hfz17_0 := blk_frozen BK1009.out 0; obtain ⟨Ao18, co18, eo18, _⟩ := Kd.Q_slice HO1006.out; subst eo18; have hcz19_0 := cz_ BK1010; have hfz19_0 := blk_frozen BK1010.out 0) | ((with_reducible refine gate_callee (f := 6) rfl ?_); refine gL_ (some 31) Try.func6 #[.agg #[.slice Ao15 t1001.length co15], .agg #[.slice Ao18 t1004.length co18], .int .i64 t1007, .int .i64 t1008] ?_; (with_reducible refine (impl_GlueOf.calls k _ _ t1001 _ _ t1004 t1007 t1008 t1011 t1014 _ ?side1 ?side2 ?side3 ?side4 A5.out).mono ?_); (case side1 => refine (Kd.Q_reads' (e := 3) (base := w.heap.size) (ok := fun k_ => some k_ ≠ (.slice Ao18 t1004.length co18 : Value).ownBlock) (n := t1001.length) (c := co15) ?_).2.2; exact (by (with_reducible repeat (first | apply Kd.Q_alloc | apply Kd.Q_drewN | apply Kd.Q_drew)); exact (Kd.Q_mono (Kd.Q_mono (Kd.Q_far (p := ⟨gb1010, 0, none⟩) (Kd.Q_far (p := ⟨gb1009, 0, none⟩) (Kd.Q_types (Kd.Q_types HO1003.out BK1009.out (by decide)) BK1010.out (by decide)) (fun _ hk => hk.1.2) (.slice Ao15 t1001.length co15)) (fun _ hk => hk.2) (.slice Ao18 t1004.length co18)) (fun _ h_ => h_.1)) (fun _ h_ => h_.1)))); (case side2 => exact (Kd.Q_reads' HO1003.out).2.1); (case side3 => refine (Kd.Q_reads' (e := 3) (base := w.heap.size) (ok := fun k_ => some k_ ≠ (.slice Ao15 t1001.length co15 : Value).ownBlock) (n := t1004.length) (c := co18) ?_).2.2; exact (by (with_reducible repeat (first | apply Kd.Q_alloc | apply Kd.Q_drewN | apply Kd.Q_drew)); exact (Kd.Q_mono (Kd.Q_mono (Kd.Q_far (p := ⟨gb1010, 0, none⟩) (Kd.Q_far (p := ⟨gb1009, 0, none⟩) (Kd.Q_types (Kd.Q_types HO1006.out BK1009.out (by decide)) BK1010.out (by decide)) (fun _ hk => hk.1.2) (.slice Ao15 t1001.length co15)) (fun _ hk => hk.2) (.slice Ao18 t1004.length co18)) (fun _ h_ => h_.1)) (fun _ h_ => h_.1)))); (case side4 => exact (Kd.Q_reads' HO1006.out).2.1); rintro e w20 ⟨v1012, rfl, ho0, hb⟩; refine ⟨_, rfl, ?_⟩; have HO1013 := Aside0.mk (Kd.R_lower (Kd.R_new' (Kd.R_new' ho0 (Kd.Q_lt (by (with_reducible repeat (first | apply Kd.Q_alloc | apply Kd.Q_drewN | apply Kd.Q_drew)); exact (Kd.Q_mono (Kd.Q_mono (Kd.Q_far (p := ⟨gb1010, 0, none⟩) (Kd.Q_far (p := ⟨gb1009, 0, none⟩) (Kd.Q_types (Kd.Q_types HO1003.out BK1009.out (by decide)) BK1010.out (by decide)) (fun _ hk => hk.1.2) (.slice Ao15 t1001.length co15)) (fun _ hk => hk.2) (.slice Ao18 t1004.length co18)) (fun _ h_ => h_.1)) (fun _ h_ => h_.1))))) (Kd.Q_lt (by (with_reducible repeat (first | apply Kd.Q_alloc | apply Kd.Q_drewN | apply Kd.Q_drew)); exact (Kd.Q_mono (Kd.Q_mono (Kd.Q_far (p := ⟨gb1010, 0, none⟩) (Kd.Q_far (p := ⟨gb1009, 0, none⟩) (Kd.Q_types (Kd.Q_types HO1006.out BK1009.out (by decide)) BK1010.out (by decide)) (fun _ hk => hk.1.2) (.slice Ao15 t1001.length co15)) (fun _ hk => hk.2) (.slice Ao18 t1004.length co18)) (fun _ h_ => h_.1)) (fun _ h_ => h_.1))))) (below_size (bq_ HB))); replace HO1003 := Aside0.mk (Kd.Q_elder' (by (with_reducible repeat (first | apply Kd.Q_alloc | apply Kd.Q_drewN | apply Kd.Q_drew)); exact (Kd.Q_mono (Kd.Q_mono (Kd.Q_far (p := ⟨gb1010, 0, none⟩) (Kd.Q_far (p := ⟨gb1009, 0, none⟩) (Kd.Q_types (Kd.Q_types HO1003.out BK1009.out (by decide)) BK1010.out (by decide)) (fun _ hk => hk.1.2) (.slice Ao15 t1001.length co15)) (fun _ hk => hk.2) (.slice Ao18 t1004.length co18)) (fun _ h_ => h_.1)) (fun _ h_ => h_.1))) (Kd.R_base ho0) hb); replace HO1006 := Aside0.mk (Kd.Q_elder' (by (with_reducible repeat (first | apply Kd.Q_alloc | apply Kd.Q_drewN | apply Kd.Q_drew)); exact (Kd.Q_mono (Kd.Q_mono (Kd.Q_far (p := ⟨gb1010, 0, none⟩) (Kd.Q_far (p := ⟨gb1009, 0, none⟩) (Kd.Q_types (Kd.Q_types HO1006.out BK1009.out (by decide)) BK1010.out (by decide)) (fun _ hk => hk.1.2) (.slice Ao15 t1001.length co15)) (fun _ hk => hk.2) (.slice Ao18 t1004.length co18)) (fun _ h_ => h_.1)) (fun _ h_ => h_.1))) (Kd.R_base ho0) hb); replace BK1009 := Aside0.mk (blk_below (g := gb1009) (o := .cells #[.slice Ao15 t1001.length co15] 26 (0, 0)) (by (with_reducible repeat (first | refine blk_drewN ?_ _ | refine blk_drew ?_ | refine blk_alloc ?_ _)); refine blk_far ?_ NB1009_1010.out _; (with_reducible repeat (first | refine blk_drewN ?_ _ | refine blk_drew ?_ | refine blk_alloc ?_ _)); refine blk_put (cs := #[.slice none 0 0]) ?_ 0 _ rfl; (with_reducible repeat (first | refine blk_drewN ?_ _ | refine blk_drew ?_ | refine blk_alloc ?_ _)); exact BK1009.out) hb); replace BK1010 := Aside0.mk (blk_below (g := gb1010) (o := .cells #[.slice Ao18 t1004.length co18] 26 (0, 0)) (by (with_reducible repeat (first | refine blk_drewN ?_ _ | refine blk_drew ?_ | refine blk_alloc ?_ _)); refine blk_put (cs := #[.slice none 0 0]) ?_ 0 _ rfl; (with_reducible repeat (first | refine blk_drewN ?_ _ | refine blk_drew ?_ | refine blk_alloc ?_ _)); refine blk_far ?_ NB1010_1009.out _; (with_reducible repeat (first | refine blk_drewN ?_ _ | refine blk_drew ?_ | refine blk_alloc ?_ _)); exact BK1010.out) hb); replace HB := bp_ HB hb; (try clear hb); (try clear ho0)) | ((with_reducible refine gate_dst (N := 7) rfl ?_); refine bx_ 7 #[.slice none 0 0] 26 ?_; intro gb1015 hg w21 hbox hb; replace HO1003 := Aside0.mk (Kd.Q_below (qe_ HO1003.out) hb); replace HO1006 := Aside0.mk (Kd.Q_below (qe_ HO1006.out) hb); replace HO1013 := Aside0.mk (Kd.R_below (re_ HO1013.out) hb); have BK1015 := Aside0.mk (hbox); have GW1015 := gq_ hg (bq_ HB); have GE1015 := gq_ hg (bq_ HB); replace HB := bp_ HB hb; have NB1009_1015 := nl_ hg BK1009; have NB1015_1009 := ng_ hg BK1009; replace BK1009 := bk_ BK1009 hb; have NB1010_1015 := nl_ hg BK1010; have NB1015_1010 := ng_ hg BK1010; replace BK1010 := bk_ BK1010 hb; clear hb hbox hg; obtain ⟨Ao22, co22, eo22⟩ := Kd.R_slice HO1013.out; subst eo22; have hnb23 := NB1015_1009.out; have hnc23 := NB1009_1015.out; have hnb24 := NB1015_1010.out; have hnc24 := NB1010_1015.out; have hcz25_0 := cz_ BK1015; have hfz25_0 := blk_frozen BK1015.out 0; have hcz26_0 := cz_ BK1009; have hfz26_0 := blk_frozen BK1009.out 0; have hcz27_0 := cz_ BK1010; have hfz27_0 := blk_frozen BK1010.out 0) | ((with_reducible refine gate_callee (f := 7) rfl ?_); refine gL_ (some 39) Try.func7 #[.agg #[.slice Ao15 t1001.length co15], .agg #[.slice Ao18 t1004.length co18], .int .i64 t1007, .int .i64 t1008] ?_; (with_reducible refine (spec_GlueOf.calls k _ _ t1001 _ _ t1004 t1007 t1008 t1016 t1019 _ ?side1 ?side2 ?side3 ?side4 A6.out).mono ?_); (case side1 => refine (Kd.Q_reads' (e := 3) (base := w.heap.size) (ok := fun k_ => (some k_ ≠ (.slice Ao18 t1004.length co18 : Value).ownBlock ∧ some k_ ≠ (.slice Ao22 t1011.length co22 : Value).ownBlock)) (n := t1001.length) (c := co15) ?_).2.2; exact (by (with_reducible repeat (first | apply Kd.Q_alloc | apply Kd.Q_drewN | apply Kd.Q_drew)); exact (Kd.Q_mono (Kd.Q_far (p := ⟨gb1015, 0, none⟩) (Kd.Q_types HO1003.out BK1015.out (by decide)) (fun _ hk => hk.2) (.slice Ao22 t1011.length co22)) (fun _ h_ => h_.1)))); (case side2 => exact (Kd.Q_reads' HO1003.out).2.1); (case side3 => refine (Kd.Q_reads' (e := 3) (base := w.heap.size) (ok := fun k_ => (some k_ ≠ (.slice Ao15 t1001.length co15 : Value).ownBlock ∧ some k_ ≠ (.slice Ao22 t1011.length co22 : Value).ownBlock)) (n := t1004.length) (c := co18) ?_).2.2; exact (by (with_reducible repeat (first | apply Kd.Q_alloc | apply Kd.Q_drewN | apply Kd.Q_drew)); exact (Kd.Q_mono (Kd.Q_far (p := ⟨gb1015, 0, none⟩) (Kd.Q_types HO1006.out BK1015.out (by decide)) (fun _ hk => hk.2) (.slice Ao22 t1011.length co22)) (fun _ h_ => h_.1)))); (case side4 => exact (Kd.Q_reads' HO1006.out).2.1); rintro e w28 ⟨v1017, rfl, ho0, hb⟩; refine ⟨_, rfl, ?_⟩; have HO1018 := Aside0.mk (Kd.R_lower (Kd.R_new' (Kd.R_new' (Kd.R_new' ho0 (Kd.Q_lt (by (with_reducible repeat (first | apply Kd.Q_alloc | apply Kd.Q_drewN | apply Kd.Q_drew)); exact (Kd.Q_mono (Kd.Q_far (p := ⟨gb1015, 0, none⟩) (Kd.Q_types HO1003.out BK1015.out (by decide)) (fun _ hk => hk.2) (.slice Ao22 t1011.length co22)) (fun _ h_ => h_.1))))) (Kd.Q_lt (by (with_reducible repeat (first | apply Kd.Q_alloc | apply Kd.Q_drewN | apply Kd.Q_drew)); exact (Kd.Q_mono (Kd.Q_far (p := ⟨gb1015, 0, none⟩) (Kd.Q_types HO1006.out BK1015.out (by decide)) (fun _ hk => hk.2) (.slice Ao22 t1011.length co22)) (fun _ h_ => h_.1))))) (Kd.R_lt (by (with_reducible repeat (first | apply Kd.R_alloc | apply Kd.R_drewN | apply Kd.R_drew)); exact (Kd.R_mono (Kd.R_far (p := ⟨gb1015, 0, none⟩) (Kd.R_types HO1013.out BK1015.out (by decide)) (fun _ hk => hk.2) (.slice Ao22 t1011.length co22)) (fun _ h_ => h_.1))))) (below_size (bq_ HB))); replace HO1003 := Aside0.mk (Kd.Q_elder' (by (with_reducible repeat (first | apply Kd.Q_alloc | apply Kd.Q_drewN | apply Kd.Q_drew)); exact (Kd.Q_mono (Kd.Q_far (p := ⟨gb1015, 0, none⟩) (Kd.Q_types HO1003.out BK1015.out (by decide)) (fun _ hk => hk.2) (.slice Ao22 t1011.length co22)) (fun _ h_ => h_.1))) (Kd.R_base ho0) hb); replace HO1006 := Aside0.mk (Kd.Q_elder' (by (with_reducible repeat (first | apply Kd.Q_alloc | apply Kd.Q_drewN | apply Kd.Q_drew)); exact (Kd.Q_mono (Kd.Q_far (p := ⟨gb1015, 0, none⟩) (Kd.Q_types HO1006.out BK1015.out (by decide)) (fun _ hk => hk.2) (.slice Ao22 t1011.length co22)) (fun _ h_ => h_.1))) (Kd.R_base ho0) hb); replace HO1013 := Aside0.mk (Kd.R_elder' (by (with_reducible repeat (first | apply Kd.R_alloc | apply Kd.R_drewN | apply Kd.R_drew)); exact (Kd.R_mono (Kd.R_far (p := ⟨gb1015, 0, none⟩) (Kd.R_types HO1013.out BK1015.out (by decide)) (fun _ hk => hk.2) (.slice Ao22 t1011.length co22)) (fun _ h_ => h_.1))) (Kd.R_base ho0) hb); replace BK1009 := Aside0.mk (blk_below (g := gb1009) (o := .cells #[.slice Ao15 t1001.length co15] 26 (0, 0)) (by (with_reducible repeat (first | refine blk_drewN ?_ _ | refine blk_drew ?_ | refine blk_alloc ?_ _)); refine blk_far ?_ NB1009_1015.out _; (with_reducible repeat (first | refine blk_drewN ?_ _ | refine blk_drew ?_ | refine blk_alloc ?_ _)); exact BK1009.out) hb); replace BK1010 := Aside0.mk (blk_below (g := gb1010) (o := .cells #[.slice Ao18 t1004.length co18] 26 (0, 0)) (by (with_reducible repeat (first | refine blk_drewN ?_ _ | refine blk_drew ?_ | refine blk_alloc ?_ _)); refine blk_far ?_ NB1010_1015.out _; (with_reducible repeat (first | refine blk_drewN ?_ _ | refine blk_drew ?_ | refine blk_alloc ?_ _)); exact BK1010.out) hb); replace BK1015 := Aside0.mk (blk_below (g := gb1015) (o := .cells #[.slice Ao22 t1011.length co22] 26 (0, 0)) (by (with_reducible repeat (first | refine blk_drewN ?_ _ | refine blk_drew ?_ | refine blk_alloc ?_ _)); refine blk_put (cs := #[.slice none 0 0]) ?_ 0 _ rfl; (with_reducible repeat (first | refine blk_drewN ?_ _ | refine blk_drew ?_ | refine blk_alloc ?_ _)); exact BK1015.out) hb); replace HB := bp_ HB hb; (try clear hb); (try clear ho0)) | ((with_reducible refine gate_dst (N := 9) rfl ?_); refine bx_ 9 #[.slice none 0 0] 26 ?_; intro gb1020 hg w29 hbox hb; replace HO1003 := Aside0.mk (Kd.Q_below (qe_ HO1003.out) hb); replace HO1006 := Aside0.mk (Kd.Q_below (qe_ HO1006.out) hb); replace HO1013 := Aside0.mk (Kd.R_below (re_ HO1013.out) hb); replace HO1018 := Aside0.mk (Kd.R_below (re_ HO1018.out) hb); have BK1020 := Aside0.mk (hbox); have GW1020 := gq_ hg (bq_ HB); have GE1020 := gq_ hg (bq_ HB); replace HB := bp_ HB hb; have NB1009_1020 := nl_ hg BK1009; have NB1020_1009 := ng_ hg BK1009; replace BK1009 := bk_ BK1009 hb; have NB1010_1020 := nl_ hg BK1010; have NB1020_1010 := ng_ hg BK1010; replace BK1010 := bk_ BK1010 hb; have NB1015_1020 := nl_ hg BK1015; have NB1020_1015 := ng_ hg BK1015; replace BK1015 := bk_ BK1015 hb; clear hb hbox hg; obtain ⟨Ao30, co30, eo30⟩ := Kd.R_slice HO1018.out; subst eo30; have hnb31 := NB1020_1009.out; have hnc31 := NB1009_1020.out; have hnb32 := NB1020_1010.out; have hnc32 := NB1010_1020.out; have hnb33 := NB1020_1015.out; have hnc33 := NB1015_1020.out; have hcz34_0 := cz_ BK1020; have hfz34_0 := blk_frozen BK1020.out 0; have hcz35_0 := cz_ BK1009; have hfz35_0 := blk_frozen BK1009.out 0; have hcz36_0 := cz_ BK1010; have hfz36_0 := blk_frozen BK1010.out 0) | ((with_reducible refine gate_callee (f := 8) rfl ?_); refine gL_ (some 46) Try.func8 #[.agg #[.slice Ao15 t1001.length co15], .agg #[.slice Ao18 t1004.length co18], .int .i64 t1007, .int .i64 t1008] ?_; (with_reducible refine (impl_GlueFrobenius.calls k _ _ t1001 _ _ t1004 t1007 t1008 t1021 _ ?side1 ?side2 ?side3 ?side4 A7.out).mono ?_); (case side1 => refine (Kd.Q_reads' (e := 3) (base := w.heap.size) (ok := fun k_ => ((some k_ ≠ (.slice Ao18 t1004.length co18 : Value).ownBlock ∧ some k_ ≠ (.slice Ao22 t1011.length co22 : Value).ownBlock) ∧ some k_ ≠ (.slice Ao30 t1016.length co30 : Value).ownBlock)) (n := t1001.length) (c := co15) ?_).2.2; exact (by (with_reducible repeat (first | apply Kd.Q_alloc | apply Kd.Q_drewN | apply Kd.Q_drew)); exact (Kd.Q_mono (Kd.Q_far (p := ⟨gb1020, 0, none⟩) (Kd.Q_types HO1003.out BK1020.out (by decide)) (fun _ hk => hk.2) (.slice Ao30 t1016.length co30)) (fun _ h_ => h_.1)))); (case side2 => exact (Kd.Q_reads' HO1003.out).2.1); (case side3 => refine (Kd.Q_reads' (e := 3) (base := w.heap.size) (ok := fun k_ => ((some k_ ≠ (.slice Ao15 t1001.length co15 : Value).ownBlock ∧ some k_ ≠ (.slice Ao22 t1011.length co22 : Value).ownBlock) ∧ some k_ ≠ (.slice Ao30 t1016.length co30 : Value).ownBlock)) (n := t1004.length) (c := co18) ?_).2.2; exact (by (with_reducible repeat (first | apply Kd.Q_alloc | apply Kd.Q_drewN | apply Kd.Q_drew)); exact (Kd.Q_mono (Kd.Q_far (p := ⟨gb1020, 0, none⟩) (Kd.Q_types HO1006.out BK1020.out (by decide)) (fun _ hk => hk.2) (.slice Ao30 t1016.length co30)) (fun _ h_ => h_.1)))); (case side4 => exact (Kd.Q_reads' HO1006.out).2.1); rintro e w37 ⟨rfl, hb⟩; refine ⟨_, rfl, ?_⟩; replace HO1003 := Aside0.mk (Kd.Q_below (by (with_reducible repeat (first | apply Kd.Q_alloc | apply Kd.Q_drewN | apply Kd.Q_drew)); exact (Kd.Q_mono (Kd.Q_far (p := ⟨gb1020, 0, none⟩) (Kd.Q_types HO1003.out BK1020.out (by decide)) (fun _ hk => hk.2) (.slice Ao30 t1016.length co30)) (fun _ h_ => h_.1))) hb); replace HO1006 := Aside0.mk (Kd.Q_below (by (with_reducible repeat (first | apply Kd.Q_alloc | apply Kd.Q_drewN | apply Kd.Q_drew)); exact (Kd.Q_mono (Kd.Q_far (p := ⟨gb1020, 0, none⟩) (Kd.Q_types HO1006.out BK1020.out (by decide)) (fun _ hk => hk.2) (.slice Ao30 t1016.length co30)) (fun _ h_ => h_.1))) hb); replace HO1013 := Aside0.mk (Kd.R_below (by (with_reducible repeat (first | apply Kd.R_alloc | apply Kd.R_drewN | apply Kd.R_drew)); exact (Kd.R_mono (Kd.R_far (p := ⟨gb1020, 0, none⟩) (Kd.R_types HO1013.out BK1020.out (by decide)) (fun _ hk => hk.2) (.slice Ao30 t1016.length co30)) (fun _ h_ => h_.1))) hb); replace HO1018 := Aside0.mk (Kd.R_below (by (with_reducible repeat (first | apply Kd.R_alloc | apply Kd.R_drewN | apply Kd.R_drew)); exact (Kd.R_mono (Kd.R_far (p := ⟨gb1020, 0, none⟩) (Kd.R_types HO1018.out BK1020.out (by decide)) (fun _ hk => hk.2) (.slice Ao30 t1016.length co30)) (fun _ h_ => h_.1))) hb); replace BK1009 := Aside0.mk (blk_below (g := gb1009) (o := .cells #[.slice Ao15 t1001.length co15] 26 (0, 0)) (by (with_reducible repeat (first | refine blk_drewN ?_ _ | refine blk_drew ?_ | refine blk_alloc ?_ _)); refine blk_far ?_ NB1009_1020.out _; (with_reducible repeat (first | refine blk_drewN ?_ _ | refine blk_drew ?_ | refine blk_alloc ?_ _)); exact BK1009.out) hb); replace BK1010 := Aside0.mk (blk_below (g := gb1010) (o := .cells #[.slice Ao18 t1004.length co18] 26 (0, 0)) (by (with_reducible repeat (first | refine blk_drewN ?_ _ | refine blk_drew ?_ | refine blk_alloc ?_ _)); refine blk_far ?_ NB1010_1020.out _; (with_reducible repeat (first | refine blk_drewN ?_ _ | refine blk_drew ?_ | refine blk_alloc ?_ _)); exact BK1010.out) hb); replace BK1015 := Aside0.mk (blk_below (g := gb1015) (o := .cells #[.slice Ao22 t1011.length co22] 26 (0, 0)) (by (with_reducible repeat (first | refine blk_drewN ?_ _ | refine blk_drew ?_ | refine blk_alloc ?_ _)); refine blk_far ?_ NB1015_1020.out _; (with_reducible repeat (first | refine blk_drewN ?_ _ | refine blk_drew ?_ | refine blk_alloc ?_ _)); exact BK1015.out) hb); replace BK1020 := Aside0.mk (blk_below (g := gb1020) (o := .cells #[.slice Ao30 t1016.length co30] 26 (0, 0)) (by (with_reducible repeat (first | refine blk_drewN ?_ _ | refine blk_drew ?_ | refine blk_alloc ?_ _)); refine blk_put (cs := #[.slice none 0 0]) ?_ 0 _ rfl; (with_reducible repeat (first | refine blk_drewN ?_ _ | refine blk_drew ?_ | refine blk_alloc ?_ _)); exact BK1020.out) hb); replace HB := bp_ HB hb; (try clear hb)) | ((with_reducible refine gate_callee (f := 9) rfl ?_); refine gL_ (some 48) Try.func9 #[.slice A0 l0.length c0] ?_; (with_reducible refine (spec_DrawIsTelescopic.calls k _ _ l0 t1022 _ ?side1 ?side2 A8.out).mono ?_); (case side1 => exact ch_ HR0 HB); (case side2 => exact HC0.out); rintro e w38 ⟨v1023, rfl, ho0, hb⟩; refine ⟨_, rfl, ?_⟩; have HO1024 := Aside0.mk (Kd.R_lower (Kd.R_new' (Kd.R_new' (Kd.R_new' (Kd.R_new' ho0 (Kd.Q_lt (qe_ HO1003.out))) (Kd.Q_lt (qe_ HO1006.out))) (Kd.R_lt (re_ HO1013.out))) (Kd.R_lt (re_ HO1018.out))) (below_size (bq_ HB))); replace HO1003 := Aside0.mk (Kd.Q_elder' (qe_ HO1003.out) (Kd.R_base ho0) hb); replace HO1006 := Aside0.mk (Kd.Q_elder' (qe_ HO1006.out) (Kd.R_base ho0) hb); replace HO1013 := Aside0.mk (Kd.R_elder' (re_ HO1013.out) (Kd.R_base ho0) hb); replace HO1018 := Aside0.mk (Kd.R_elder' (re_ HO1018.out) (Kd.R_base ho0) hb); replace BK1009 := bk_ BK1009 hb; replace BK1010 := bk_ BK1010 hb; replace BK1015 := bk_ BK1015 hb; replace BK1020 := bk_ BK1020 hb; replace HB := bp_ HB hb; (try clear hb); (try clear ho0); obtain ⟨Ao39, co39, eo39⟩ := Kd.R_slice HO1024.out; subst eo39) | ((with_reducible refine gate_callee (f := 10) rfl ?_); refine gL_ (some 50) Try.func10 #[.slice Ao39 t1022.length co39] ?_; (with_reducible refine (impl_IsTelescopic.calls k _ _ t1022 t1025 _ ?side1 ?side2 A9.out).mono ?_); (case side1 => exact ce_ ((Kd.R_reads' HO1024.out).2.2)); (case side2 => exact (Kd.R_reads' HO1024.out).2.1); rintro e w40 ⟨rfl, hb⟩; refine ⟨_, rfl, ?_⟩; replace HO1003 := Aside0.mk (Kd.Q_below (qe_ HO1003.out) hb); replace HO1006 := Aside0.mk (Kd.Q_below (qe_ HO1006.out) hb); replace HO1013 := Aside0.mk (Kd.R_below (re_ HO1013.out) hb); replace HO1018 := Aside0.mk (Kd.R_below (re_ HO1018.out) hb); replace HO1024 := Aside0.mk (Kd.R_below (re_ HO1024.out) hb); replace BK1009 := bk_ BK1009 hb; replace BK1010 := bk_ BK1010 hb; replace BK1015 := bk_ BK1015 hb; replace BK1020 := bk_ BK1020 hb; replace HB := bp_ HB hb; (try clear hb)) | ((with_reducible refine gate_callee (f := 11) rfl ?_); refine gL_ (some 52) Try.func11 #[.slice Ao39 t1022.length co39] ?_; (with_reducible refine (impl_TelescopicFrobenius.calls k _ _ t1022 t1026 _ ?side1 ?side2 A10.out).mono ?_); (case side1 => exact ce_ ((Kd.R_reads' HO1024.out).2.2)); (case side2 => exact (Kd.R_reads' HO1024.out).2.1); rintro e w41 ⟨rfl, hb⟩; refine ⟨_, rfl, ?_⟩; replace HO1003 := Aside0.mk (Kd.Q_below (qe_ HO1003.out) hb); replace HO1006 := Aside0.mk (Kd.Q_below (qe_ HO1006.out) hb); replace HO1013 := Aside0.mk (Kd.R_below (re_ HO1013.out) hb); replace HO1018 := Aside0.mk (Kd.R_below (re_ HO1018.out) hb); replace HO1024 := Aside0.mk (Kd.R_below (re_ HO1024.out) hb); replace BK1009 := bk_ BK1009 hb; replace BK1010 := bk_ BK1010 hb; replace BK1015 := bk_ BK1015 hb; replace BK1020 := bk_ BK1020 hb; replace HB := bp_ HB hb; (try clear hb)))
 (try simp only [Act.put, z1_, z2_, z3_])
 go_cut [82] (fun v82 wc => ∃ (kq : Nat) (x82_10 : Bool), v82 = .bool x82_10 ∧ Aside0 (laws_FnGlued.j0 kq t1014 t1021 t1022 t1025 t1026 x82_10 t1001 t1004 t1011 = some r) ∧ Aside0 (kq ≤ k) ∧ Aside0 (Kd.R (Kd.int .i64) 3 wc w.heap.size (fun k_ => some k_ ≠ ((.slice Ao15 t1001.length co15) : Value).ownBlock ∧ some k_ ≠ ((.slice Ao18 t1004.length co18) : Value).ownBlock ∧ some k_ ≠ ((.slice Ao22 t1011.length co22) : Value).ownBlock ∧ some k_ ≠ ((.slice Ao30 t1016.length co30) : Value).ownBlock) (.slice Ao39 t1022.length co39) t1022) ∧ Aside0 (Kd.Q (Kd.int .i64) 3 wc w.heap.size (fun k_ => some k_ ≠ ((.slice Ao39 t1022.length co39) : Value).ownBlock ∧ some k_ ≠ ((.slice Ao18 t1004.length co18) : Value).ownBlock ∧ some k_ ≠ ((.slice Ao22 t1011.length co22) : Value).ownBlock ∧ some k_ ≠ ((.slice Ao30 t1016.length co30) : Value).ownBlock) (.slice Ao15 t1001.length co15) t1001) ∧ Aside0 (Kd.Q (Kd.int .i64) 3 wc w.heap.size (fun k_ => some k_ ≠ ((.slice Ao39 t1022.length co39) : Value).ownBlock ∧ some k_ ≠ ((.slice Ao15 t1001.length co15) : Value).ownBlock ∧ some k_ ≠ ((.slice Ao22 t1011.length co22) : Value).ownBlock ∧ some k_ ≠ ((.slice Ao30 t1016.length co30) : Value).ownBlock) (.slice Ao18 t1004.length co18) t1004) ∧ Aside0 (Kd.Q (Kd.int .i64) 3 wc w.heap.size (fun k_ => some k_ ≠ ((.slice Ao39 t1022.length co39) : Value).ownBlock ∧ some k_ ≠ ((.slice Ao15 t1001.length co15) : Value).ownBlock ∧ some k_ ≠ ((.slice Ao18 t1004.length co18) : Value).ownBlock ∧ some k_ ≠ ((.slice Ao30 t1016.length co30) : Value).ownBlock) (.slice Ao22 t1011.length co22) t1011) ∧ Aside0 (Kd.Q (Kd.int .i64) 3 wc w.heap.size (fun k_ => some k_ ≠ ((.slice Ao39 t1022.length co39) : Value).ownBlock ∧ some k_ ≠ ((.slice Ao15 t1001.length co15) : Value).ownBlock ∧ some k_ ≠ ((.slice Ao18 t1004.length co18) : Value).ownBlock ∧ some k_ ≠ ((.slice Ao22 t1011.length co22) : Value).ownBlock) (.slice Ao30 t1016.length co30) t1016) ∧ Aside0 (wc.heap[gb1009]? = some (.cells #[(.slice Ao15 t1001.length co15)] 26 (0, 0))) ∧ Aside0 (wc.heap[gb1010]? = some (.cells #[(.slice Ao18 t1004.length co18)] 26 (0, 0))) ∧ Aside0 (wc.heap[gb1015]? = some (.cells #[(.slice Ao22 t1011.length co22)] 26 (0, 0))) ∧ Aside0 (wc.heap[gb1020]? = some (.cells #[(.slice Ao30 t1016.length co30)] 26 (0, 0))) ∧ Aside0 (Below w.heap.size w wc))
 case first =>
  have H := HC11.out
  clear HC11
  by_cases c42 : (t1014 != t1019) = true
  · rw [if_pos c42] at H
    exact absurd (H.trans (congrArg some hr_.out)) (by cases k <;> simp [laws_FnGlued.j0])
  rw [if_neg c42] at H
  have c42b0 : (t1014 != t1019) = false := by simpa using c42
  (try (have c42b1 : decide (t1014 = t1019) = true := by simpa using c42))
  (try (have c42b2 : (t1014 == t1019) = true := by simpa using c42))
  clear c42
  (first | rw [c42b0] | (simp only [i64_w, i32_w]; rw [c42b0]) | skip)
  obtain ⟨t1027, A43, H⟩ := ob_ H
  by_cases c44 : t1027 = true
  rotate_left
  · replace c44 := Bool.eq_false_iff.mpr c44
    subst c44
    have H1 : (laws_FnGlued.j0 k t1014 t1021 t1022 t1025 t1026 true t1001 t1004 t1011) = some r := by rw [if_neg (show ¬ (false = true) by decide)] at H; exact H
    exact absurd (H1.trans (congrArg some hr_.out)) (by cases k <;> simp [laws_FnGlued.j0])
  subst c44
  rw [if_pos rfl] at H
  obtain ⟨t1028, A45, H⟩ := ob_ H
  by_cases c46 : t1021 = t1028
  rotate_left
  · rw [if_neg c46] at H
    exact absurd (H.trans (congrArg some hr_.out)) (by cases k <;> simp [laws_FnGlued.j0])
  rw [if_pos c46] at H
  have c46b0 : (t1021 == t1028) = true := beq_iff_eq.mpr c46
  have c46b1 : (t1021 != t1028) = false := bne_eq_false_iff_eq.mpr c46
  clear c46
  obtain ⟨t1029, A47, H⟩ := ob_ H
  by_cases c48 : (t1025 != t1029) = true
  · rw [if_pos c48] at H
    exact absurd (H.trans (congrArg some hr_.out)) (by cases k <;> simp [laws_FnGlued.j0])
  rw [if_neg c48] at H
  have c48b0 : (t1025 != t1029) = false := by simpa using c48
  (try (have c48b1 : decide (t1025 = t1029) = true := by simpa using c48))
  (try (have c48b2 : (t1025 == t1029) = true := by simpa using c48))
  clear c48
  obtain ⟨t1030, A62, H⟩ := ob_ H
  have H' := Aside0.mk H
  clear H
  have hnb63 := NB1015_1009.out
  have hnc63 := NB1009_1015.out
  have hnb64 := NB1015_1010.out
  have hnc64 := NB1010_1015.out
  have hnb65 := NB1015_1020.out
  have hnc65 := NB1020_1015.out
  have hcz66_0 := cz_ BK1015
  have hfz66_0 := blk_frozen BK1015.out 0
  have hnb67 := NB1020_1009.out
  have hnc67 := NB1009_1020.out
  have hnb68 := NB1020_1010.out
  have hnc68 := NB1010_1020.out
  have hcz69_0 := cz_ BK1020
  have hfz69_0 := blk_frozen BK1020.out 0
  go_wp2_with (first | (go_at_call 12; (with_reducible refine (spec_EqualSemigroup.calls k _ _ t1011 _ _ t1016 true _ ?side1 ?side2 ?side3 ?side4 A43.out).mono ?_); (case side1 => exact ce_ ((Kd.R_reads' HO1013.out).2.2)); (case side2 => exact (Kd.R_reads' HO1013.out).2.1); (case side3 => exact ce_ ((Kd.R_reads' HO1018.out).2.2)); (case side4 => exact (Kd.R_reads' HO1018.out).2.1); rintro e w70 ⟨rfl, hb⟩; replace HO1003 := Aside0.mk (Kd.Q_below (qe_ HO1003.out) hb); replace HO1006 := Aside0.mk (Kd.Q_below (qe_ HO1006.out) hb); replace HO1013 := Aside0.mk (Kd.R_below (re_ HO1013.out) hb); replace HO1018 := Aside0.mk (Kd.R_below (re_ HO1018.out) hb); replace HO1024 := Aside0.mk (Kd.R_below (re_ HO1024.out) hb); replace BK1009 := bk_ BK1009 hb; replace BK1010 := bk_ BK1010 hb; replace BK1015 := bk_ BK1015 hb; replace BK1020 := bk_ BK1020 hb; replace HB := bp_ HB hb; (try clear hb); have hnb71 := NB1009_1010.out; have hnc71 := NB1010_1009.out; have hcz72_0 := cz_ BK1009; have hfz72_0 := blk_frozen BK1009.out 0; have hcz73_0 := cz_ BK1010; have hfz73_0 := blk_frozen BK1010.out 0) | (go_at_call 13; (with_reducible refine (spec_GlueFrobenius.calls k _ _ t1001 _ _ t1004 t1007 t1008 t1028 _ ?side1 ?side2 ?side3 ?side4 A45.out).mono ?_); (case side1 => exact ce_ ((Kd.Q_reads' HO1003.out).2.2)); (case side2 => exact (Kd.Q_reads' HO1003.out).2.1); (case side3 => exact ce_ ((Kd.Q_reads' HO1006.out).2.2)); (case side4 => exact (Kd.Q_reads' HO1006.out).2.1); rintro e w74 ⟨rfl, hb⟩; replace HO1003 := Aside0.mk (Kd.Q_below (qe_ HO1003.out) hb); replace HO1006 := Aside0.mk (Kd.Q_below (qe_ HO1006.out) hb); replace HO1013 := Aside0.mk (Kd.R_below (re_ HO1013.out) hb); replace HO1018 := Aside0.mk (Kd.R_below (re_ HO1018.out) hb); replace HO1024 := Aside0.mk (Kd.R_below (re_ HO1024.out) hb); replace BK1009 := bk_ BK1009 hb; replace BK1010 := bk_ BK1010 hb; replace BK1015 := bk_ BK1015 hb; replace BK1020 := bk_ BK1020 hb; replace HB := bp_ HB hb; (try clear hb)) | (go_at_call 14; (with_reducible refine (spec_IsTelescopic.calls k _ _ t1022 t1029 _ ?side1 ?side2 A47.out).mono ?_); (case side1 => exact ce_ ((Kd.R_reads' HO1024.out).2.2)); (case side2 => exact (Kd.R_reads' HO1024.out).2.1); rintro e w75 ⟨rfl, hb⟩; replace HO1003 := Aside0.mk (Kd.Q_below (qe_ HO1003.out) hb); replace HO1006 := Aside0.mk (Kd.Q_below (qe_ HO1006.out) hb); replace HO1013 := Aside0.mk (Kd.R_below (re_ HO1013.out) hb); replace HO1018 := Aside0.mk (Kd.R_below (re_ HO1018.out) hb); replace HO1024 := Aside0.mk (Kd.R_below (re_ HO1024.out) hb); replace BK1009 := bk_ BK1009 hb; replace BK1010 := bk_ BK1010 hb; replace BK1015 := bk_ BK1015 hb; replace BK1020 := bk_ BK1020 hb; replace HB := bp_ HB hb; (try clear hb)) | (go_at_call 15; (with_reducible refine (spec_TelescopicFrobenius.calls k _ _ t1022 t1030 _ ?side1 ?side2 A62.out).mono ?_); (case side1 => exact ce_ ((Kd.R_reads' HO1024.out).2.2)); (case side2 => exact (Kd.R_reads' HO1024.out).2.1); rintro e w76 ⟨rfl, hb⟩; replace HO1003 := Aside0.mk (Kd.Q_below (qe_ HO1003.out) hb); replace HO1006 := Aside0.mk (Kd.Q_below (qe_ HO1006.out) hb); replace HO1013 := Aside0.mk (Kd.R_below (re_ HO1013.out) hb); replace HO1018 := Aside0.mk (Kd.R_below (re_ HO1018.out) hb); replace HO1024 := Aside0.mk (Kd.R_below (re_ HO1024.out) hb); replace BK1009 := bk_ BK1009 hb; replace BK1010 := bk_ BK1010 hb; replace BK1015 := bk_ BK1015 hb; replace BK1020 := bk_ BK1020 hb; replace HB := bp_ HB hb; (try clear hb)))
  go_meet
  case rel => exact ⟨_, ((t1026 != t1030)), rs_, H', ⟨by first | omega | exact Nat.le_refl _⟩, ⟨by (with_reducible repeat (first | apply Kd.R_alloc | apply Kd.R_drewN | apply Kd.R_drew)); exact Kd.R_mono HO1024.out (fun _ hk => ⟨hk.1.1.1.2, ⟨hk.1.1.2, ⟨hk.1.2, hk.2⟩⟩⟩)⟩, ⟨by (with_reducible repeat (first | apply Kd.Q_alloc | apply Kd.Q_drewN | apply Kd.Q_drew)); exact Kd.Q_mono HO1003.out (fun _ hk => ⟨hk.2, ⟨hk.1.1.1, ⟨hk.1.1.2, hk.1.2⟩⟩⟩)⟩, ⟨by (with_reducible repeat (first | apply Kd.Q_alloc | apply Kd.Q_drewN | apply Kd.Q_drew)); exact Kd.Q_mono HO1006.out (fun _ hk => ⟨hk.2, ⟨hk.1.1.1, ⟨hk.1.1.2, hk.1.2⟩⟩⟩)⟩, ⟨Kd.Q_of_R (by (with_reducible repeat (first | apply Kd.R_alloc | apply Kd.R_drewN | apply Kd.R_drew)); exact Kd.R_mono HO1013.out (fun _ hk => ⟨hk.2, ⟨hk.1.1.1.2, ⟨hk.1.1.2, hk.1.2⟩⟩⟩))⟩, ⟨Kd.Q_of_R (by (with_reducible repeat (first | apply Kd.R_alloc | apply Kd.R_drewN | apply Kd.R_drew)); exact Kd.R_mono HO1018.out (fun _ hk => ⟨hk.2, ⟨hk.1.1.1.2, ⟨hk.1.1.2, hk.1.2⟩⟩⟩))⟩, ⟨be_ BK1009.out⟩, ⟨be_ BK1010.out⟩, ⟨be_ BK1015.out⟩, ⟨be_ BK1020.out⟩, ⟨bq_ HB⟩⟩
 case rest =>
  clear HC11
  try clear c1
  try clear c2
  try clear p2
  try clear c3
  try clear c4
  try clear c5
  try clear c6
  try clear c7
  try clear c8
  try clear c9
  try clear c10
  try clear c11
  try clear c16
  try clear c23
  try clear c24
  try clear c31
  try clear c32
  try clear c33
  try clear c42
  try clear c42b0
  try clear c42b1
  try clear c42b2
  try clear c44
  try clear c46
  try clear c46b0
  try clear c46b1
  try clear c48
  try clear c48b0
  try clear c48b1
  try clear c48b2
  try clear c49
  try clear c50
  try clear c51
  try clear c53
  try clear c54
  try clear c57
  try clear c63
  try clear c64
  try clear c65
  try clear c67
  try clear c68
  try clear c71
  try clear c77
  try clear c78
  try clear c79
  try clear c81
  try clear c82
  try clear c85
  try clear c89
  try clear c90
  try clear c91
  try clear c93
  try clear c94
  try clear hcz17_0
  try clear hcz19_0
  try clear hcz25_0
  try clear hcz26_0
  try clear hcz27_0
  try clear hcz34_0
  try clear hcz35_0
  try clear hcz36_0
  try clear hcz52_0
  try clear hcz55_0
  try clear hcz58_0
  try clear hcz59_0
  try clear hcz66_0
  try clear hcz69_0
  try clear hcz72_0
  try clear hcz73_0
  try clear hcz80_0
  try clear hcz83_0
  try clear hcz86_0
  try clear hcz87_0
  try clear hcz92_0
  try clear hcz95_0
  try clear hfz17_0
  try clear hfz19_0
  try clear hfz25_0
  try clear hfz26_0
  try clear hfz27_0
  try clear hfz34_0
  try clear hfz35_0
  try clear hfz36_0
  try clear hfz52_0
  try clear hfz55_0
  try clear hfz58_0
  try clear hfz59_0
  try clear hfz66_0
  try clear hfz69_0
  try clear hfz72_0
  try clear hfz73_0
  try clear hfz80_0
  try clear hfz83_0
  try clear hfz86_0
  try clear hfz87_0
  try clear hfz92_0
  try clear hfz95_0
  obtain ⟨kq, x82_10, rfl, HA, HJ10, HO_12, HO_1010000, HO_1011000, HO_1016000, HO_1021000, BK1009, BK1010, BK1015, BK1020, HB⟩ := hcut
  cases kq with
  | zero => exact absurd HA.out (by simp [laws_FnGlued.j0])
  | succ kj10 =>
   have H := HA.out
   clear HA
   simp only [laws_FnGlued.j0] at H
   by_cases c97 : x82_10 = true
   · subst c97
     have H1 : (some false) = some r := by rw [if_pos rfl] at H; exact H
     exact absurd (H1.trans (congrArg some hr_.out)) (by simp)
   replace c97 := Bool.eq_false_iff.mpr c97
   subst c97
   rw [if_neg (show ¬ (false = true) by decide)] at H
   have HC98 := Aside0.mk H
   clear H
   go_upto_region 12 with (fail)
   go_cut [100] (fun v100 wc => ∃ (kq : Nat) (x100_97 : Bool), v100 = .bool x100_97 ∧ Aside0 (laws_FnGlued.j1 kq t1022 t1025 t1026 x100_97 = some r) ∧ Aside0 (kq ≤ kj10) ∧ Aside0 (Kd.R (Kd.int .i64) 3 wc w.heap.size (fun k_ => some k_ ≠ ((.slice Ao15 t1001.length co15) : Value).ownBlock ∧ some k_ ≠ ((.slice Ao18 t1004.length co18) : Value).ownBlock ∧ some k_ ≠ ((.slice Ao22 t1011.length co22) : Value).ownBlock ∧ some k_ ≠ ((.slice Ao30 t1016.length co30) : Value).ownBlock) (.slice Ao39 t1022.length co39) t1022) ∧ Aside0 (Kd.Q (Kd.int .i64) 3 wc w.heap.size (fun k_ => some k_ ≠ ((.slice Ao39 t1022.length co39) : Value).ownBlock ∧ some k_ ≠ ((.slice Ao18 t1004.length co18) : Value).ownBlock ∧ some k_ ≠ ((.slice Ao22 t1011.length co22) : Value).ownBlock ∧ some k_ ≠ ((.slice Ao30 t1016.length co30) : Value).ownBlock) (.slice Ao15 t1001.length co15) t1001) ∧ Aside0 (Kd.Q (Kd.int .i64) 3 wc w.heap.size (fun k_ => some k_ ≠ ((.slice Ao39 t1022.length co39) : Value).ownBlock ∧ some k_ ≠ ((.slice Ao15 t1001.length co15) : Value).ownBlock ∧ some k_ ≠ ((.slice Ao22 t1011.length co22) : Value).ownBlock ∧ some k_ ≠ ((.slice Ao30 t1016.length co30) : Value).ownBlock) (.slice Ao18 t1004.length co18) t1004) ∧ Aside0 (Kd.Q (Kd.int .i64) 3 wc w.heap.size (fun k_ => some k_ ≠ ((.slice Ao39 t1022.length co39) : Value).ownBlock ∧ some k_ ≠ ((.slice Ao15 t1001.length co15) : Value).ownBlock ∧ some k_ ≠ ((.slice Ao18 t1004.length co18) : Value).ownBlock ∧ some k_ ≠ ((.slice Ao30 t1016.length co30) : Value).ownBlock) (.slice Ao22 t1011.length co22) t1011) ∧ Aside0 (Kd.Q (Kd.int .i64) 3 wc w.heap.size (fun k_ => some k_ ≠ ((.slice Ao39 t1022.length co39) : Value).ownBlock ∧ some k_ ≠ ((.slice Ao15 t1001.length co15) : Value).ownBlock ∧ some k_ ≠ ((.slice Ao18 t1004.length co18) : Value).ownBlock ∧ some k_ ≠ ((.slice Ao22 t1011.length co22) : Value).ownBlock) (.slice Ao30 t1016.length co30) t1016) ∧ Aside0 (wc.heap[gb1009]? = some (.cells #[(.slice Ao15 t1001.length co15)] 26 (0, 0))) ∧ Aside0 (wc.heap[gb1010]? = some (.cells #[(.slice Ao18 t1004.length co18)] 26 (0, 0))) ∧ Aside0 (wc.heap[gb1015]? = some (.cells #[(.slice Ao22 t1011.length co22)] 26 (0, 0))) ∧ Aside0 (wc.heap[gb1020]? = some (.cells #[(.slice Ao30 t1016.length co30)] 26 (0, 0))) ∧ Aside0 (Below w.heap.size w wc))
   case first =>
    have H := HC98.out
    clear HC98
    by_cases c99 : t1014 = true
    rotate_left
    · replace c99 := Bool.eq_false_iff.mpr c99
      subst c99
      rw [if_neg (show ¬ (false = true) by decide)] at H
      have H' := Aside0.mk H
      clear H
      try go_wp2
      replace HO_12 := Aside0.mk (Kd.R_drew HO_12.out)
      replace HO_1010000 := Aside0.mk (Kd.Q_drew HO_1010000.out)
      replace HO_1011000 := Aside0.mk (Kd.Q_drew HO_1011000.out)
      replace HO_1016000 := Aside0.mk (Kd.Q_drew HO_1016000.out)
      replace HO_1021000 := Aside0.mk (Kd.Q_drew HO_1021000.out)
      replace BK1009 := Aside0.mk (blk_drew BK1009.out)
      replace BK1010 := Aside0.mk (blk_drew BK1010.out)
      replace BK1015 := Aside0.mk (blk_drew BK1015.out)
      replace BK1020 := Aside0.mk (blk_drew BK1020.out)
      replace HB := Aside0.mk (below_drew1 HB.out)
      refine start_ (n := 18) (S := fun w' => True) (ds := []) (B_ 0 18) (by kernel_rfl) rfl rfl trivial (fun hHeld => ?_); refine with_tabW laws_FnGlued.tab12 laws_FnGlued.bits12 (fun HT_ HW_ => ?_)
      generalize wc.drew = w117 at HO_12 HO_1010000 HO_1011000 HO_1016000 HO_1021000 BK1009 BK1010 BK1015 BK1020 HB hHeld ⊢
      refine pu_ HT_ 0 83 (B_ 1 18) ?_
      refine pu_ HT_ 1 84 (B_ 3 18) ?_
      refine pn_ HT_ 2 85 (B_ 7 18) ?_
      refine pn_ HT_ 3 86 (B_ 15 18) ?_
      refine pn_ HT_ 4 87 (B_ 31 18) ?_
      refine pn_ HT_ 5 88 (B_ 63 18) ?_
      refine pn_ HT_ 6 89 (B_ 127 18) ?_
      refine pn_ HT_ 7 90 (B_ 255 18) ?_
      refine pn_ HT_ 8 91 (B_ 511 18) ?_
      refine pn_ HT_ 9 92 (B_ 1023 18) ?_
      refine pn_ HT_ 10 93 (B_ 2047 18) ?_
      refine pn_ HT_ 11 94 (B_ 4095 18) ?_
      refine pn_ HT_ 12 95 (B_ 8191 18) ?_
      refine pn_ HT_ 13 96 (B_ 16383 18) ?_
      refine pn_ HT_ 14 97 (B_ 32767 18) ?_
      refine pn_ HT_ 15 98 (B_ 65535 18) ?_
      refine pn_ HT_ 16 99 (B_ 131071 18) ?_
      refine pu_ HT_ 17 100 (B_ 262143 18) ?_
      refine done_ (done_of HT_.out (by kernel_rfl)) ?_
      try go_wp2
      go_meet
      case rel => exact ⟨_, (false), rs_, H', ⟨by have := HJ10.out; first | omega | exact Nat.le_refl _⟩, ⟨re_ HO_12.out⟩, ⟨qe_ HO_1010000.out⟩, ⟨qe_ HO_1011000.out⟩, ⟨qe_ HO_1016000.out⟩, ⟨qe_ HO_1021000.out⟩, ⟨be_ BK1009.out⟩, ⟨be_ BK1010.out⟩, ⟨be_ BK1015.out⟩, ⟨be_ BK1020.out⟩, ⟨bq_ HB⟩⟩
    subst c99
    rw [if_pos rfl] at H
    obtain ⟨t1031, A100, H⟩ := ob_ H
    by_cases c101 : t1021 = t1031
    rotate_left
    · rw [if_neg c101] at H
      exact absurd (H.trans (congrArg some hr_.out)) (by cases kj10 <;> simp [laws_FnGlued.j1])
    rw [if_pos c101] at H
    have c101b0 : (t1021 == t1031) = true := beq_iff_eq.mpr c101
    have c101b1 : (t1021 != t1031) = false := bne_eq_false_iff_eq.mpr c101
    clear c101
    (first | rw [c101b0] | (simp only [i64_w, i32_w]; rw [c101b0]) | skip)
    obtain ⟨t1032, A102, H⟩ := ob_ H
    obtain ⟨t1033, A103, H⟩ := ob_ H
    by_cases c104 : t1033 = true
    rotate_left
    · replace c104 := Bool.eq_false_iff.mpr c104
      subst c104
      rw [if_neg (show ¬ (false = true) by decide)] at H
      have H' := Aside0.mk H
      clear H
      try go_wp2
      replace HO_12 := Aside0.mk (Kd.R_drew HO_12.out)
      replace HO_1010000 := Aside0.mk (Kd.Q_drew HO_1010000.out)
      replace HO_1011000 := Aside0.mk (Kd.Q_drew HO_1011000.out)
      replace HO_1016000 := Aside0.mk (Kd.Q_drew HO_1016000.out)
      replace HO_1021000 := Aside0.mk (Kd.Q_drew HO_1021000.out)
      replace BK1009 := Aside0.mk (blk_drew BK1009.out)
      replace BK1010 := Aside0.mk (blk_drew BK1010.out)
      replace BK1015 := Aside0.mk (blk_drew BK1015.out)
      replace BK1020 := Aside0.mk (blk_drew BK1020.out)
      replace HB := Aside0.mk (below_drew1 HB.out)
      refine start_ (n := 18) (S := fun w' => w'.cell? ⟨gb1015, 0, none⟩ = some (.slice Ao22 t1011.length co22) ∧ w'.cell? ⟨gb1009, 0, none⟩ = some (.slice Ao15 t1001.length co15)) (ds := []) (B_ 0 18) (by kernel_rfl) rfl rfl ⟨(blk_cell BK1015.out 0).trans rfl, (blk_cell BK1009.out 0).trans rfl⟩ (fun hHeld => ?_); refine with_tabW laws_FnGlued.tab12 laws_FnGlued.bits12 (fun HT_ HW_ => ?_)
      generalize wc.drew = w111 at HO_12 HO_1010000 HO_1011000 HO_1016000 HO_1021000 BK1009 BK1010 BK1015 BK1020 HB hHeld ⊢
      refine pu_ HT_ 0 83 (B_ 1 18) ?_
      refine pu_ HT_ 1 84 (B_ 3 18) ?_
      refine pu_ HT_ 2 85 (B_ 7 18) ?_
      refine tk2_ HT_ HW_ hHeld 3 86 (B_ 15 18) ?_
      refine on_ HT_ 4 87 (B_ 31 18) (fun K hK => ?_)
      refine goes_ Try.func16 (by kernel_rfl) rfl #[.agg #[.slice Ao22 t1011.length co22]] (by rfl) rfl rfl (by (try simp only [List.map_toArray, List.map_cons, List.map_nil]); first | done | rfl | (simp only [List.length_drop, List.length_take]; rfl)) ?_
      with_reducible refine (spec_FrobeniusOf.calls kj10 _ _ t1011 t1031 _ ?side1 ?side2 A100.out).mono ?_
      (case side1 => exact ce_ ((Kd.Q_reads' HO_1016000.out).2.2))
      (case side2 => exact (Kd.Q_reads' HO_1016000.out).2.1)
      rintro e w112 ⟨rfl, hb⟩
      refine ⟨_, rfl, ?_⟩
      replace HO_12 := Aside0.mk (Kd.R_below (re_ HO_12.out) hb)
      replace HO_1010000 := Aside0.mk (Kd.Q_below (qe_ HO_1010000.out) hb)
      replace HO_1011000 := Aside0.mk (Kd.Q_below (qe_ HO_1011000.out) hb)
      replace HO_1016000 := Aside0.mk (Kd.Q_below (qe_ HO_1016000.out) hb)
      replace HO_1021000 := Aside0.mk (Kd.Q_below (qe_ HO_1021000.out) hb)
      replace BK1009 := bk_ BK1009 hb
      replace BK1010 := bk_ BK1010 hb
      replace BK1015 := bk_ BK1015 hb
      replace BK1020 := bk_ BK1020 hb
      replace HB := bp_ HB hb
      (try clear hb)
      refine hK.out _ _ ⟨(blk_cell BK1015.out 0).trans rfl, (blk_cell BK1009.out 0).trans rfl⟩ (fun hHeld => ?_)
      clear hK K
      refine norm_ (a' := ?_) ?_ ?_
      rotate_left
      · show Act.put _ (some 87) _ = _
        simp only [Act.put, z1_, z2_, z3_, i64_w, i32_w]
        rfl
      refine pu_ HT_ 5 88 (B_ 63 18) ?_
      refine pu_ HT_ 6 89 (B_ 127 18) ?_
      refine tk2_ HT_ HW_ hHeld 7 90 (B_ 255 18) ?_
      refine tk2_ HT_ HW_ hHeld 9 92 (B_ 767 18) ?_
      refine on_ HT_ 8 91 (B_ 1023 18) (fun K hK => ?_)
      refine goes_ Try.func17 (by kernel_rfl) rfl #[.agg #[.slice Ao22 t1011.length co22]] (by rfl) rfl rfl (by (try simp only [List.map_toArray, List.map_cons, List.map_nil]); first | done | rfl | (simp only [List.length_drop, List.length_take]; rfl)) ?_
      with_reducible refine (spec_IsSymmetric.calls kj10 _ _ t1011 t1032 _ ?side1 ?side2 A102.out).mono ?_
      (case side1 => exact ce_ ((Kd.Q_reads' HO_1016000.out).2.2))
      (case side2 => exact (Kd.Q_reads' HO_1016000.out).2.1)
      rintro e w113 ⟨rfl, hb⟩
      refine ⟨_, rfl, ?_⟩
      replace HO_12 := Aside0.mk (Kd.R_below (re_ HO_12.out) hb)
      replace HO_1010000 := Aside0.mk (Kd.Q_below (qe_ HO_1010000.out) hb)
      replace HO_1011000 := Aside0.mk (Kd.Q_below (qe_ HO_1011000.out) hb)
      replace HO_1016000 := Aside0.mk (Kd.Q_below (qe_ HO_1016000.out) hb)
      replace HO_1021000 := Aside0.mk (Kd.Q_below (qe_ HO_1021000.out) hb)
      replace BK1009 := bk_ BK1009 hb
      replace BK1010 := bk_ BK1010 hb
      replace BK1015 := bk_ BK1015 hb
      replace BK1020 := bk_ BK1020 hb
      replace HB := bp_ HB hb
      (try clear hb)
      refine hK.out _ _ ⟨(blk_cell BK1015.out 0).trans rfl, (blk_cell BK1009.out 0).trans rfl⟩ (fun hHeld => ?_)
      clear hK K
      refine norm_ (a' := ?_) ?_ ?_
      rotate_left
      · show Act.put _ (some 91) _ = _
        simp only [Act.put, z1_, z2_, z3_, i64_w, i32_w]
        rfl
      refine on_ HT_ 10 93 (B_ 2047 18) (fun K hK => ?_)
      refine goes_ Try.func17 (by kernel_rfl) rfl #[.agg #[.slice Ao15 t1001.length co15]] (by rfl) rfl rfl (by (try simp only [List.map_toArray, List.map_cons, List.map_nil]); first | done | rfl | (simp only [List.length_drop, List.length_take]; rfl)) ?_
      with_reducible refine (spec_IsSymmetric.calls kj10 _ _ t1001 false _ ?side1 ?side2 A103.out).mono ?_
      (case side1 => exact ce_ ((Kd.Q_reads' HO_1010000.out).2.2))
      (case side2 => exact (Kd.Q_reads' HO_1010000.out).2.1)
      rintro e w114 ⟨rfl, hb⟩
      refine ⟨_, rfl, ?_⟩
      replace HO_12 := Aside0.mk (Kd.R_below (re_ HO_12.out) hb)
      replace HO_1010000 := Aside0.mk (Kd.Q_below (qe_ HO_1010000.out) hb)
      replace HO_1011000 := Aside0.mk (Kd.Q_below (qe_ HO_1011000.out) hb)
      replace HO_1016000 := Aside0.mk (Kd.Q_below (qe_ HO_1016000.out) hb)
      replace HO_1021000 := Aside0.mk (Kd.Q_below (qe_ HO_1021000.out) hb)
      replace BK1009 := bk_ BK1009 hb
      replace BK1010 := bk_ BK1010 hb
      replace BK1015 := bk_ BK1015 hb
      replace BK1020 := bk_ BK1020 hb
      replace HB := bp_ HB hb
      (try clear hb)
      refine hK.out _ _ ⟨(blk_cell BK1015.out 0).trans rfl, (blk_cell BK1009.out 0).trans rfl⟩ (fun hHeld => ?_)
      clear hK K
      refine norm_ (a' := ?_) ?_ ?_
      rotate_left
      · show Act.put _ (some 93) _ = _
        simp only [Act.put, z1_, z2_, z3_, i64_w, i32_w]
        rfl
      refine pu_ HT_ 11 94 (B_ 4095 18) ?_
      refine pn_ HT_ 12 95 (B_ 8191 18) ?_
      refine pn_ HT_ 13 96 (B_ 16383 18) ?_
      refine pu_ HT_ 14 97 (B_ 32767 18) ?_
      refine pu_ HT_ 15 98 (B_ 65535 18) ?_
      refine pu_ HT_ 16 99 (B_ 131071 18) ?_
      refine pu_ HT_ 17 100 (B_ 262143 18) ?_
      refine done_ (done_of HT_.out (by kernel_rfl)) ?_
      try go_wp2
      go_meet
      case rel => exact ⟨_, ((t1032 != false)), rs_, H', ⟨by have := HJ10.out; first | omega | exact Nat.le_refl _⟩, ⟨re_ HO_12.out⟩, ⟨qe_ HO_1010000.out⟩, ⟨qe_ HO_1011000.out⟩, ⟨qe_ HO_1016000.out⟩, ⟨qe_ HO_1021000.out⟩, ⟨be_ BK1009.out⟩, ⟨be_ BK1010.out⟩, ⟨be_ BK1015.out⟩, ⟨be_ BK1020.out⟩, ⟨bq_ HB⟩⟩
    subst c104
    rw [if_pos rfl] at H
    obtain ⟨t1034, A105, H⟩ := ob_ H
    have H' := Aside0.mk H
    clear H
    try go_wp2
    replace HO_12 := Aside0.mk (Kd.R_drew HO_12.out)
    replace HO_1010000 := Aside0.mk (Kd.Q_drew HO_1010000.out)
    replace HO_1011000 := Aside0.mk (Kd.Q_drew HO_1011000.out)
    replace HO_1016000 := Aside0.mk (Kd.Q_drew HO_1016000.out)
    replace HO_1021000 := Aside0.mk (Kd.Q_drew HO_1021000.out)
    replace BK1009 := Aside0.mk (blk_drew BK1009.out)
    replace BK1010 := Aside0.mk (blk_drew BK1010.out)
    replace BK1015 := Aside0.mk (blk_drew BK1015.out)
    replace BK1020 := Aside0.mk (blk_drew BK1020.out)
    replace HB := Aside0.mk (below_drew1 HB.out)
    refine start_ (n := 18) (S := fun w' => w'.cell? ⟨gb1015, 0, none⟩ = some (.slice Ao22 t1011.length co22) ∧ w'.cell? ⟨gb1009, 0, none⟩ = some (.slice Ao15 t1001.length co15) ∧ w'.cell? ⟨gb1010, 0, none⟩ = some (.slice Ao18 t1004.length co18)) (ds := []) (B_ 0 18) (by kernel_rfl) rfl rfl ⟨(blk_cell BK1015.out 0).trans rfl, (blk_cell BK1009.out 0).trans rfl, (blk_cell BK1010.out 0).trans rfl⟩ (fun hHeld => ?_); refine with_tabW laws_FnGlued.tab12 laws_FnGlued.bits12 (fun HT_ HW_ => ?_)
    generalize wc.drew = w106 at HO_12 HO_1010000 HO_1011000 HO_1016000 HO_1021000 BK1009 BK1010 BK1015 BK1020 HB hHeld ⊢
    refine pu_ HT_ 0 83 (B_ 1 18) ?_
    refine pu_ HT_ 1 84 (B_ 3 18) ?_
    refine pu_ HT_ 2 85 (B_ 7 18) ?_
    refine tk3_ HT_ HW_ hHeld 3 86 (B_ 15 18) ?_
    refine on_ HT_ 4 87 (B_ 31 18) (fun K hK => ?_)
    refine goes_ Try.func16 (by kernel_rfl) rfl #[.agg #[.slice Ao22 t1011.length co22]] (by rfl) rfl rfl (by (try simp only [List.map_toArray, List.map_cons, List.map_nil]); first | done | rfl | (simp only [List.length_drop, List.length_take]; rfl)) ?_
    with_reducible refine (spec_FrobeniusOf.calls kj10 _ _ t1011 t1031 _ ?side1 ?side2 A100.out).mono ?_
    (case side1 => exact ce_ ((Kd.Q_reads' HO_1016000.out).2.2))
    (case side2 => exact (Kd.Q_reads' HO_1016000.out).2.1)
    rintro e w107 ⟨rfl, hb⟩
    refine ⟨_, rfl, ?_⟩
    replace HO_12 := Aside0.mk (Kd.R_below (re_ HO_12.out) hb)
    replace HO_1010000 := Aside0.mk (Kd.Q_below (qe_ HO_1010000.out) hb)
    replace HO_1011000 := Aside0.mk (Kd.Q_below (qe_ HO_1011000.out) hb)
    replace HO_1016000 := Aside0.mk (Kd.Q_below (qe_ HO_1016000.out) hb)
    replace HO_1021000 := Aside0.mk (Kd.Q_below (qe_ HO_1021000.out) hb)
    replace BK1009 := bk_ BK1009 hb
    replace BK1010 := bk_ BK1010 hb
    replace BK1015 := bk_ BK1015 hb
    replace BK1020 := bk_ BK1020 hb
    replace HB := bp_ HB hb
    (try clear hb)
    refine hK.out _ _ ⟨(blk_cell BK1015.out 0).trans rfl, (blk_cell BK1009.out 0).trans rfl, (blk_cell BK1010.out 0).trans rfl⟩ (fun hHeld => ?_)
    clear hK K
    refine norm_ (a' := ?_) ?_ ?_
    rotate_left
    · show Act.put _ (some 87) _ = _
      simp only [Act.put, z1_, z2_, z3_, i64_w, i32_w]
      rfl
    refine pu_ HT_ 5 88 (B_ 63 18) ?_
    refine pu_ HT_ 6 89 (B_ 127 18) ?_
    refine tk3_ HT_ HW_ hHeld 7 90 (B_ 255 18) ?_
    refine tk3_ HT_ HW_ hHeld 9 92 (B_ 767 18) ?_
    refine on_ HT_ 8 91 (B_ 1023 18) (fun K hK => ?_)
    refine goes_ Try.func17 (by kernel_rfl) rfl #[.agg #[.slice Ao22 t1011.length co22]] (by rfl) rfl rfl (by (try simp only [List.map_toArray, List.map_cons, List.map_nil]); first | done | rfl | (simp only [List.length_drop, List.length_take]; rfl)) ?_
    with_reducible refine (spec_IsSymmetric.calls kj10 _ _ t1011 t1032 _ ?side1 ?side2 A102.out).mono ?_
    (case side1 => exact ce_ ((Kd.Q_reads' HO_1016000.out).2.2))
    (case side2 => exact (Kd.Q_reads' HO_1016000.out).2.1)
    rintro e w108 ⟨rfl, hb⟩
    refine ⟨_, rfl, ?_⟩
    replace HO_12 := Aside0.mk (Kd.R_below (re_ HO_12.out) hb)
    replace HO_1010000 := Aside0.mk (Kd.Q_below (qe_ HO_1010000.out) hb)
    replace HO_1011000 := Aside0.mk (Kd.Q_below (qe_ HO_1011000.out) hb)
    replace HO_1016000 := Aside0.mk (Kd.Q_below (qe_ HO_1016000.out) hb)
    replace HO_1021000 := Aside0.mk (Kd.Q_below (qe_ HO_1021000.out) hb)
    replace BK1009 := bk_ BK1009 hb
    replace BK1010 := bk_ BK1010 hb
    replace BK1015 := bk_ BK1015 hb
    replace BK1020 := bk_ BK1020 hb
    replace HB := bp_ HB hb
    (try clear hb)
    refine hK.out _ _ ⟨(blk_cell BK1015.out 0).trans rfl, (blk_cell BK1009.out 0).trans rfl, (blk_cell BK1010.out 0).trans rfl⟩ (fun hHeld => ?_)
    clear hK K
    refine norm_ (a' := ?_) ?_ ?_
    rotate_left
    · show Act.put _ (some 91) _ = _
      simp only [Act.put, z1_, z2_, z3_, i64_w, i32_w]
      rfl
    refine on_ HT_ 10 93 (B_ 2047 18) (fun K hK => ?_)
    refine goes_ Try.func17 (by kernel_rfl) rfl #[.agg #[.slice Ao15 t1001.length co15]] (by rfl) rfl rfl (by (try simp only [List.map_toArray, List.map_cons, List.map_nil]); first | done | rfl | (simp only [List.length_drop, List.length_take]; rfl)) ?_
    with_reducible refine (spec_IsSymmetric.calls kj10 _ _ t1001 true _ ?side1 ?side2 A103.out).mono ?_
    (case side1 => exact ce_ ((Kd.Q_reads' HO_1010000.out).2.2))
    (case side2 => exact (Kd.Q_reads' HO_1010000.out).2.1)
    rintro e w109 ⟨rfl, hb⟩
    refine ⟨_, rfl, ?_⟩
    replace HO_12 := Aside0.mk (Kd.R_below (re_ HO_12.out) hb)
    replace HO_1010000 := Aside0.mk (Kd.Q_below (qe_ HO_1010000.out) hb)
    replace HO_1011000 := Aside0.mk (Kd.Q_below (qe_ HO_1011000.out) hb)
    replace HO_1016000 := Aside0.mk (Kd.Q_below (qe_ HO_1016000.out) hb)
    replace HO_1021000 := Aside0.mk (Kd.Q_below (qe_ HO_1021000.out) hb)
    replace BK1009 := bk_ BK1009 hb
    replace BK1010 := bk_ BK1010 hb
    replace BK1015 := bk_ BK1015 hb
    replace BK1020 := bk_ BK1020 hb
    replace HB := bp_ HB hb
    (try clear hb)
    refine hK.out _ _ ⟨(blk_cell BK1015.out 0).trans rfl, (blk_cell BK1009.out 0).trans rfl, (blk_cell BK1010.out 0).trans rfl⟩ (fun hHeld => ?_)
    clear hK K
    refine norm_ (a' := ?_) ?_ ?_
    rotate_left
    · show Act.put _ (some 93) _ = _
      simp only [Act.put, z1_, z2_, z3_, i64_w, i32_w]
      rfl
    refine pu_ HT_ 11 94 (B_ 4095 18) ?_
    refine tk3_ HT_ HW_ hHeld 12 95 (B_ 8191 18) ?_
    refine on_ HT_ 13 96 (B_ 16383 18) (fun K hK => ?_)
    refine goes_ Try.func17 (by kernel_rfl) rfl #[.agg #[.slice Ao18 t1004.length co18]] (by rfl) rfl rfl (by (try simp only [List.map_toArray, List.map_cons, List.map_nil]); first | done | rfl | (simp only [List.length_drop, List.length_take]; rfl)) ?_
    with_reducible refine (spec_IsSymmetric.calls kj10 _ _ t1004 t1034 _ ?side1 ?side2 A105.out).mono ?_
    (case side1 => exact ce_ ((Kd.Q_reads' HO_1011000.out).2.2))
    (case side2 => exact (Kd.Q_reads' HO_1011000.out).2.1)
    rintro e w110 ⟨rfl, hb⟩
    refine ⟨_, rfl, ?_⟩
    replace HO_12 := Aside0.mk (Kd.R_below (re_ HO_12.out) hb)
    replace HO_1010000 := Aside0.mk (Kd.Q_below (qe_ HO_1010000.out) hb)
    replace HO_1011000 := Aside0.mk (Kd.Q_below (qe_ HO_1011000.out) hb)
    replace HO_1016000 := Aside0.mk (Kd.Q_below (qe_ HO_1016000.out) hb)
    replace HO_1021000 := Aside0.mk (Kd.Q_below (qe_ HO_1021000.out) hb)
    replace BK1009 := bk_ BK1009 hb
    replace BK1010 := bk_ BK1010 hb
    replace BK1015 := bk_ BK1015 hb
    replace BK1020 := bk_ BK1020 hb
    replace HB := bp_ HB hb
    (try clear hb)
    refine hK.out _ _ ⟨(blk_cell BK1015.out 0).trans rfl, (blk_cell BK1009.out 0).trans rfl, (blk_cell BK1010.out 0).trans rfl⟩ (fun hHeld => ?_)
    clear hK K
    refine norm_ (a' := ?_) ?_ ?_
    rotate_left
    · show Act.put _ (some 96) _ = _
      simp only [Act.put, z1_, z2_, z3_, i64_w, i32_w]
      rfl
    refine pu_ HT_ 14 97 (B_ 32767 18) ?_
    refine pu_ HT_ 15 98 (B_ 65535 18) ?_
    refine pu_ HT_ 16 99 (B_ 131071 18) ?_
    refine pu_ HT_ 17 100 (B_ 262143 18) ?_
    refine done_ (done_of HT_.out (by kernel_rfl)) ?_
    try go_wp2
    go_meet
    case rel => exact ⟨_, ((t1032 != t1034)), rs_, H', ⟨by have := HJ10.out; first | omega | exact Nat.le_refl _⟩, ⟨re_ HO_12.out⟩, ⟨qe_ HO_1010000.out⟩, ⟨qe_ HO_1011000.out⟩, ⟨qe_ HO_1016000.out⟩, ⟨qe_ HO_1021000.out⟩, ⟨be_ BK1009.out⟩, ⟨be_ BK1010.out⟩, ⟨be_ BK1015.out⟩, ⟨be_ BK1020.out⟩, ⟨bq_ HB⟩⟩
   case rest =>
    clear HC98
    try clear c1
    try clear p2
    try clear c9
    try clear c10
    try clear c16
    try clear c17
    try clear c99
    try clear c101
    try clear c101b0
    try clear c101b1
    obtain ⟨kq, x100_97, rfl, HA, HJ97, HO_12, HO_1010000, HO_1011000, HO_1016000, HO_1021000, BK1009, BK1010, BK1015, BK1020, HB⟩ := hcut
    cases kq with
    | zero => exact absurd HA.out (by simp [laws_FnGlued.j1])
    | succ kj97 =>
     have H := HA.out
     clear HA
     simp only [laws_FnGlued.j1] at H
     by_cases c118 : x100_97 = true
     · subst c118
       have H1 : (some false) = some r := by rw [if_pos rfl] at H; exact H
       exact absurd (H1.trans (congrArg some hr_.out)) (by simp)
     replace c118 := Bool.eq_false_iff.mpr c118
     subst c118
     rw [if_neg (show ¬ (false = true) by decide)] at H
     obtain ⟨⟨t1035, t1038⟩, A119, H⟩ := ob_ H
     (try dsimp only at H)
     by_cases c120 : t1025 = true
     rotate_left
     · replace c120 := Bool.eq_false_iff.mpr c120
       subst c120
       rw [if_neg (show ¬ (false = true) by decide)] at H
       obtain rfl := Option.some.inj H
       go_wp2_with (first | ((with_reducible refine gate_callee (f := 18) rfl ?_); refine gL_ (some 103) Try.func18 #[.slice Ao39 t1022.length co39] ?_; (with_reducible refine (spec_FromGens.calls kj97 _ _ t1022 t1035 t1038 _ ?side1 ?side2 A119.out).mono ?_); (case side1 => exact ce_ ((Kd.R_reads' HO_12.out).2.2)); (case side2 => exact (Kd.R_reads' HO_12.out).2.1); rintro e w153 ⟨v1036, rfl, ho0, hb⟩; refine ⟨_, rfl, ?_⟩; have HO1037 := Aside0.mk (Kd.R_lower (Kd.R_new' (Kd.R_new' (Kd.R_new' (Kd.R_new' (Kd.R_new' ho0 (Kd.R_lt (re_ HO_12.out))) (Kd.Q_lt (qe_ HO_1010000.out))) (Kd.Q_lt (qe_ HO_1011000.out))) (Kd.Q_lt (qe_ HO_1016000.out))) (Kd.Q_lt (qe_ HO_1021000.out))) (below_size (bq_ HB))); replace HO_12 := Aside0.mk (Kd.R_elder' (re_ HO_12.out) (Kd.R_base ho0) hb); replace HO_1010000 := Aside0.mk (Kd.Q_elder' (qe_ HO_1010000.out) (Kd.R_base ho0) hb); replace HO_1011000 := Aside0.mk (Kd.Q_elder' (qe_ HO_1011000.out) (Kd.R_base ho0) hb); replace HO_1016000 := Aside0.mk (Kd.Q_elder' (qe_ HO_1016000.out) (Kd.R_base ho0) hb); replace HO_1021000 := Aside0.mk (Kd.Q_elder' (qe_ HO_1021000.out) (Kd.R_base ho0) hb); replace BK1009 := bk_ BK1009 hb; replace BK1010 := bk_ BK1010 hb; replace BK1015 := bk_ BK1015 hb; replace BK1020 := bk_ BK1020 hb; replace HB := bp_ HB hb; (try clear hb); (try clear ho0)) | ((with_reducible refine gate_dst (N := 15) rfl ?_); refine bx_ 15 #[.slice none 0 0] 26 ?_; intro gb1039 hg w154 hbox hb; replace HO_12 := Aside0.mk (Kd.R_below (re_ HO_12.out) hb); replace HO_1010000 := Aside0.mk (Kd.Q_below (qe_ HO_1010000.out) hb); replace HO_1011000 := Aside0.mk (Kd.Q_below (qe_ HO_1011000.out) hb); replace HO_1016000 := Aside0.mk (Kd.Q_below (qe_ HO_1016000.out) hb); replace HO_1021000 := Aside0.mk (Kd.Q_below (qe_ HO_1021000.out) hb); replace HO1037 := Aside0.mk (Kd.R_below (re_ HO1037.out) hb); have BK1039 := Aside0.mk (hbox); have GW1039 := gq_ hg (bq_ HB); have GE1039 := gq_ hg (bq_ HB); replace HB := bp_ HB hb; have NB1009_1039 := nl_ hg BK1009; have NB1039_1009 := ng_ hg BK1009; replace BK1009 := bk_ BK1009 hb; have NB1010_1039 := nl_ hg BK1010; have NB1039_1010 := ng_ hg BK1010; replace BK1010 := bk_ BK1010 hb; have NB1015_1039 := nl_ hg BK1015; have NB1039_1015 := ng_ hg BK1015; replace BK1015 := bk_ BK1015 hb; have NB1020_1039 := nl_ hg BK1020; have NB1039_1020 := ng_ hg BK1020; replace BK1020 := bk_ BK1020 hb; clear hb hbox hg; obtain ⟨Ao155, co155, eo155⟩ := Kd.R_slice HO1037.out; subst eo155; have hnb156 := NB1039_1009.out; have hnc156 := NB1009_1039.out; have hnb157 := NB1039_1010.out; have hnc157 := NB1010_1039.out; have hnb158 := NB1039_1015.out; have hnc158 := NB1015_1039.out; have hnb159 := NB1039_1020.out; have hnc159 := NB1020_1039.out; have hcz160_0 := cz_ BK1039; have hfz160_0 := blk_frozen BK1039.out 0))
       go_ret
       exact ⟨rf_, bq_ HB⟩
     subst c120
     rw [if_pos rfl] at H
     by_cases c121 : t1038 = true
     rotate_left
     · replace c121 := Bool.eq_false_iff.mpr c121
       subst c121
       rw [if_neg (show ¬ (false = true) by decide)] at H
       obtain rfl := Option.some.inj H
       go_wp2_with (first | ((with_reducible refine gate_callee (f := 18) rfl ?_); refine gL_ (some 103) Try.func18 #[.slice Ao39 t1022.length co39] ?_; (with_reducible refine (spec_FromGens.calls kj97 _ _ t1022 t1035 false _ ?side1 ?side2 A119.out).mono ?_); (case side1 => exact ce_ ((Kd.R_reads' HO_12.out).2.2)); (case side2 => exact (Kd.R_reads' HO_12.out).2.1); rintro e w145 ⟨v1036, rfl, ho0, hb⟩; refine ⟨_, rfl, ?_⟩; have HO1037 := Aside0.mk (Kd.R_lower (Kd.R_new' (Kd.R_new' (Kd.R_new' (Kd.R_new' (Kd.R_new' ho0 (Kd.R_lt (re_ HO_12.out))) (Kd.Q_lt (qe_ HO_1010000.out))) (Kd.Q_lt (qe_ HO_1011000.out))) (Kd.Q_lt (qe_ HO_1016000.out))) (Kd.Q_lt (qe_ HO_1021000.out))) (below_size (bq_ HB))); replace HO_12 := Aside0.mk (Kd.R_elder' (re_ HO_12.out) (Kd.R_base ho0) hb); replace HO_1010000 := Aside0.mk (Kd.Q_elder' (qe_ HO_1010000.out) (Kd.R_base ho0) hb); replace HO_1011000 := Aside0.mk (Kd.Q_elder' (qe_ HO_1011000.out) (Kd.R_base ho0) hb); replace HO_1016000 := Aside0.mk (Kd.Q_elder' (qe_ HO_1016000.out) (Kd.R_base ho0) hb); replace HO_1021000 := Aside0.mk (Kd.Q_elder' (qe_ HO_1021000.out) (Kd.R_base ho0) hb); replace BK1009 := bk_ BK1009 hb; replace BK1010 := bk_ BK1010 hb; replace BK1015 := bk_ BK1015 hb; replace BK1020 := bk_ BK1020 hb; replace HB := bp_ HB hb; (try clear hb); (try clear ho0)) | ((with_reducible refine gate_dst (N := 15) rfl ?_); refine bx_ 15 #[.slice none 0 0] 26 ?_; intro gb1039 hg w146 hbox hb; replace HO_12 := Aside0.mk (Kd.R_below (re_ HO_12.out) hb); replace HO_1010000 := Aside0.mk (Kd.Q_below (qe_ HO_1010000.out) hb); replace HO_1011000 := Aside0.mk (Kd.Q_below (qe_ HO_1011000.out) hb); replace HO_1016000 := Aside0.mk (Kd.Q_below (qe_ HO_1016000.out) hb); replace HO_1021000 := Aside0.mk (Kd.Q_below (qe_ HO_1021000.out) hb); replace HO1037 := Aside0.mk (Kd.R_below (re_ HO1037.out) hb); have BK1039 := Aside0.mk (hbox); have GW1039 := gq_ hg (bq_ HB); have GE1039 := gq_ hg (bq_ HB); replace HB := bp_ HB hb; have NB1009_1039 := nl_ hg BK1009; have NB1039_1009 := ng_ hg BK1009; replace BK1009 := bk_ BK1009 hb; have NB1010_1039 := nl_ hg BK1010; have NB1039_1010 := ng_ hg BK1010; replace BK1010 := bk_ BK1010 hb; have NB1015_1039 := nl_ hg BK1015; have NB1039_1015 := ng_ hg BK1015; replace BK1015 := bk_ BK1015 hb; have NB1020_1039 := nl_ hg BK1020; have NB1039_1020 := ng_ hg BK1020; replace BK1020 := bk_ BK1020 hb; clear hb hbox hg; obtain ⟨Ao147, co147, eo147⟩ := Kd.R_slice HO1037.out; subst eo147; have hnb148 := NB1039_1009.out; have hnc148 := NB1009_1039.out; have hnb149 := NB1039_1010.out; have hnc149 := NB1010_1039.out; have hnb150 := NB1039_1015.out; have hnc150 := NB1015_1039.out; have hnb151 := NB1039_1020.out; have hnc151 := NB1020_1039.out; have hcz152_0 := cz_ BK1039; have hfz152_0 := blk_frozen BK1039.out 0))
       go_ret
       exact ⟨rf_, bq_ HB⟩
     subst c121
     rw [if_pos rfl] at H
     obtain ⟨t1040, A122, H⟩ := ob_ H
     by_cases c123 : t1026 = t1040
     rotate_left
     · rw [if_neg c123] at H
       exact absurd (H.trans (congrArg some hr_.out)) (by simp)
     rw [if_pos c123] at H
     have c123b0 : (t1026 == t1040) = true := beq_iff_eq.mpr c123
     have c123b1 : (t1026 != t1040) = false := bne_eq_false_iff_eq.mpr c123
     clear c123
     obtain ⟨t1041, A124, H⟩ := ob_ H
     obtain rfl := Option.some.inj H
     go_wp2_with (first | ((with_reducible refine gate_callee (f := 18) rfl ?_); refine gL_ (some 103) Try.func18 #[.slice Ao39 t1022.length co39] ?_; (with_reducible refine (spec_FromGens.calls kj97 _ _ t1022 t1035 true _ ?side1 ?side2 A119.out).mono ?_); (case side1 => exact ce_ ((Kd.R_reads' HO_12.out).2.2)); (case side2 => exact (Kd.R_reads' HO_12.out).2.1); rintro e w125 ⟨v1036, rfl, ho0, hb⟩; refine ⟨_, rfl, ?_⟩; have HO1037 := Aside0.mk (Kd.R_lower (Kd.R_new' (Kd.R_new' (Kd.R_new' (Kd.R_new' (Kd.R_new' ho0 (Kd.R_lt (re_ HO_12.out))) (Kd.Q_lt (qe_ HO_1010000.out))) (Kd.Q_lt (qe_ HO_1011000.out))) (Kd.Q_lt (qe_ HO_1016000.out))) (Kd.Q_lt (qe_ HO_1021000.out))) (below_size (bq_ HB))); replace HO_12 := Aside0.mk (Kd.R_elder' (re_ HO_12.out) (Kd.R_base ho0) hb); replace HO_1010000 := Aside0.mk (Kd.Q_elder' (qe_ HO_1010000.out) (Kd.R_base ho0) hb); replace HO_1011000 := Aside0.mk (Kd.Q_elder' (qe_ HO_1011000.out) (Kd.R_base ho0) hb); replace HO_1016000 := Aside0.mk (Kd.Q_elder' (qe_ HO_1016000.out) (Kd.R_base ho0) hb); replace HO_1021000 := Aside0.mk (Kd.Q_elder' (qe_ HO_1021000.out) (Kd.R_base ho0) hb); replace BK1009 := bk_ BK1009 hb; replace BK1010 := bk_ BK1010 hb; replace BK1015 := bk_ BK1015 hb; replace BK1020 := bk_ BK1020 hb; replace HB := bp_ HB hb; (try clear hb); (try clear ho0)) | ((with_reducible refine gate_dst (N := 15) rfl ?_); refine bx_ 15 #[.slice none 0 0] 26 ?_; intro gb1039 hg w126 hbox hb; replace HO_12 := Aside0.mk (Kd.R_below (re_ HO_12.out) hb); replace HO_1010000 := Aside0.mk (Kd.Q_below (qe_ HO_1010000.out) hb); replace HO_1011000 := Aside0.mk (Kd.Q_below (qe_ HO_1011000.out) hb); replace HO_1016000 := Aside0.mk (Kd.Q_below (qe_ HO_1016000.out) hb); replace HO_1021000 := Aside0.mk (Kd.Q_below (qe_ HO_1021000.out) hb); replace HO1037 := Aside0.mk (Kd.R_below (re_ HO1037.out) hb); have BK1039 := Aside0.mk (hbox); have GW1039 := gq_ hg (bq_ HB); have GE1039 := gq_ hg (bq_ HB); replace HB := bp_ HB hb; have NB1009_1039 := nl_ hg BK1009; have NB1039_1009 := ng_ hg BK1009; replace BK1009 := bk_ BK1009 hb; have NB1010_1039 := nl_ hg BK1010; have NB1039_1010 := ng_ hg BK1010; replace BK1010 := bk_ BK1010 hb; have NB1015_1039 := nl_ hg BK1015; have NB1039_1015 := ng_ hg BK1015; replace BK1015 := bk_ BK1015 hb; have NB1020_1039 := nl_ hg BK1020; have NB1039_1020 := ng_ hg BK1020; replace BK1020 := bk_ BK1020 hb; clear hb hbox hg; obtain ⟨Ao127, co127, eo127⟩ := Kd.R_slice HO1037.out; subst eo127; have hnb128 := NB1039_1009.out; have hnc128 := NB1009_1039.out; have hnb129 := NB1039_1010.out; have hnc129 := NB1010_1039.out; have hnb130 := NB1039_1015.out; have hnc130 := NB1015_1039.out; have hnb131 := NB1039_1020.out; have hnc131 := NB1020_1039.out; have hcz132_0 := cz_ BK1039; have hfz132_0 := blk_frozen BK1039.out 0) | (go_at_call 16; (with_reducible refine (spec_FrobeniusOf.calls kj97 _ _ t1035 t1040 _ ?side1 ?side2 A122.out).mono ?_); (case side1 => refine (Kd.R_reads' (e := 3) (base := w.heap.size) (ok := fun k_ => (((((True ∧ some k_ ≠ (.slice Ao39 t1022.length co39 : Value).ownBlock) ∧ some k_ ≠ (.slice Ao15 t1001.length co15 : Value).ownBlock) ∧ some k_ ≠ (.slice Ao18 t1004.length co18 : Value).ownBlock) ∧ some k_ ≠ (.slice Ao22 t1011.length co22 : Value).ownBlock) ∧ some k_ ≠ (.slice Ao30 t1016.length co30 : Value).ownBlock)) (n := t1035.length) (c := co127) ?_).2.2; exact (by (with_reducible repeat (first | apply Kd.R_alloc | apply Kd.R_drewN | apply Kd.R_drew)); exact (Kd.R_mono (Kd.R_far (p := ⟨gb1039, 0, none⟩) (Kd.R_types HO1037.out BK1039.out (by decide)) (fun _ hk => hk.2) (.slice Ao127 t1035.length co127)) (fun _ h_ => h_.1)))); (case side2 => exact (Kd.R_reads' HO1037.out).2.1); rintro e w133 ⟨rfl, hb⟩; replace HO_12 := Aside0.mk (Kd.R_below (by (with_reducible repeat (first | apply Kd.R_alloc | apply Kd.R_drewN | apply Kd.R_drew)); exact (Kd.R_mono (Kd.R_far (p := ⟨gb1039, 0, none⟩) (Kd.R_types HO_12.out BK1039.out (by decide)) (fun _ hk => hk.2) (.slice Ao127 t1035.length co127)) (fun _ h_ => h_.1))) hb); replace HO_1010000 := Aside0.mk (Kd.Q_below (by (with_reducible repeat (first | apply Kd.Q_alloc | apply Kd.Q_drewN | apply Kd.Q_drew)); exact (Kd.Q_mono (Kd.Q_far (p := ⟨gb1039, 0, none⟩) (Kd.Q_types HO_1010000.out BK1039.out (by decide)) (fun _ hk => hk.2) (.slice Ao127 t1035.length co127)) (fun _ h_ => h_.1))) hb); replace HO_1011000 := Aside0.mk (Kd.Q_below (by (with_reducible repeat (first | apply Kd.Q_alloc | apply Kd.Q_drewN | apply Kd.Q_drew)); exact (Kd.Q_mono (Kd.Q_far (p := ⟨gb1039, 0, none⟩) (Kd.Q_types HO_1011000.out BK1039.out (by decide)) (fun _ hk => hk.2) (.slice Ao127 t1035.length co127)) (fun _ h_ => h_.1))) hb); replace HO_1016000 := Aside0.mk (Kd.Q_below (by (with_reducible repeat (first | apply Kd.Q_alloc | apply Kd.Q_drewN | apply Kd.Q_drew)); exact (Kd.Q_mono (Kd.Q_far (p := ⟨gb1039, 0, none⟩) (Kd.Q_types HO_1016000.out BK1039.out (by decide)) (fun _ hk => hk.2) (.slice Ao127 t1035.length co127)) (fun _ h_ => h_.1))) hb); replace HO_1021000 := Aside0.mk (Kd.Q_below (by (with_reducible repeat (first | apply Kd.Q_alloc | apply Kd.Q_drewN | apply Kd.Q_drew)); exact (Kd.Q_mono (Kd.Q_far (p := ⟨gb1039, 0, none⟩) (Kd.Q_types HO_1021000.out BK1039.out (by decide)) (fun _ hk => hk.2) (.slice Ao127 t1035.length co127)) (fun _ h_ => h_.1))) hb); replace HO1037 := Aside0.mk (Kd.R_below (by (with_reducible repeat (first | apply Kd.R_alloc | apply Kd.R_drewN | apply Kd.R_drew)); exact (Kd.R_mono (Kd.R_far (p := ⟨gb1039, 0, none⟩) (Kd.R_types HO1037.out BK1039.out (by decide)) (fun _ hk => hk.2) (.slice Ao127 t1035.length co127)) (fun _ h_ => h_.1))) hb); replace BK1009 := Aside0.mk (blk_below (g := gb1009) (o := .cells #[.slice Ao15 t1001.length co15] 26 (0, 0)) (by (with_reducible repeat (first | refine blk_drewN ?_ _ | refine blk_drew ?_ | refine blk_alloc ?_ _)); refine blk_far ?_ NB1009_1039.out _; (with_reducible repeat (first | refine blk_drewN ?_ _ | refine blk_drew ?_ | refine blk_alloc ?_ _)); exact BK1009.out) hb); replace BK1010 := Aside0.mk (blk_below (g := gb1010) (o := .cells #[.slice Ao18 t1004.length co18] 26 (0, 0)) (by (with_reducible repeat (first | refine blk_drewN ?_ _ | refine blk_drew ?_ | refine blk_alloc ?_ _)); refine blk_far ?_ NB1010_1039.out _; (with_reducible repeat (first | refine blk_drewN ?_ _ | refine blk_drew ?_ | refine blk_alloc ?_ _)); exact BK1010.out) hb); replace BK1015 := Aside0.mk (blk_below (g := gb1015) (o := .cells #[.slice Ao22 t1011.length co22] 26 (0, 0)) (by (with_reducible repeat (first | refine blk_drewN ?_ _ | refine blk_drew ?_ | refine blk_alloc ?_ _)); refine blk_far ?_ NB1015_1039.out _; (with_reducible repeat (first | refine blk_drewN ?_ _ | refine blk_drew ?_ | refine blk_alloc ?_ _)); exact BK1015.out) hb); replace BK1020 := Aside0.mk (blk_below (g := gb1020) (o := .cells #[.slice Ao30 t1016.length co30] 26 (0, 0)) (by (with_reducible repeat (first | refine blk_drewN ?_ _ | refine blk_drew ?_ | refine blk_alloc ?_ _)); refine blk_far ?_ NB1020_1039.out _; (with_reducible repeat (first | refine blk_drewN ?_ _ | refine blk_drew ?_ | refine blk_alloc ?_ _)); exact BK1020.out) hb); replace BK1039 := Aside0.mk (blk_below (g := gb1039) (o := .cells #[.slice Ao127 t1035.length co127] 26 (0, 0)) (by (with_reducible repeat (first | refine blk_drewN ?_ _ | refine blk_drew ?_ | refine blk_alloc ?_ _)); refine blk_put (cs := #[.slice none 0 0]) ?_ 0 _ rfl; (with_reducible repeat (first | refine blk_drewN ?_ _ | refine blk_drew ?_ | refine blk_alloc ?_ _)); exact BK1039.out) hb); replace HB := bp_ HB hb; (try clear hb); have hcz134_0 := cz_ BK1039; have hfz134_0 := blk_frozen BK1039.out 0) | (go_at_call 17; (with_reducible refine (spec_IsSymmetric.calls kj97 _ _ t1035 t1041 _ ?side1 ?side2 A124.out).mono ?_); (case side1 => exact ce_ ((Kd.R_reads' HO1037.out).2.2)); (case side2 => exact (Kd.R_reads' HO1037.out).2.1); rintro e w135 ⟨rfl, hb⟩; replace HO_12 := Aside0.mk (Kd.R_below (re_ HO_12.out) hb); replace HO_1010000 := Aside0.mk (Kd.Q_below (qe_ HO_1010000.out) hb); replace HO_1011000 := Aside0.mk (Kd.Q_below (qe_ HO_1011000.out) hb); replace HO_1016000 := Aside0.mk (Kd.Q_below (qe_ HO_1016000.out) hb); replace HO_1021000 := Aside0.mk (Kd.Q_below (qe_ HO_1021000.out) hb); replace HO1037 := Aside0.mk (Kd.R_below (re_ HO1037.out) hb); replace BK1009 := bk_ BK1009 hb; replace BK1010 := bk_ BK1010 hb; replace BK1015 := bk_ BK1015 hb; replace BK1020 := bk_ BK1020 hb; replace BK1039 := bk_ BK1039 hb; replace HB := bp_ HB hb; (try clear hb)))
     go_ret
     exact ⟨rf_, bq_ HB⟩
def laws_FnGlued.Pure : Prop := ∀ (l0 : List Int), l0.length ≤ maxLen → l0.length * 1 ≤ 140737488351232 → (∀ x ∈ l0, (Lit.int .u8 x).wf = true) → ∃ k, laws_FnGlued.f k l0 = some true
theorem laws_FnGlued.walk (P : laws_FnGlued.Pure) (a0 : Option Addr) (len0 cap0 : Nat) (z0 : List Int) (w : World) (w0 : (a0 = none ∧ len0 = 0 ∧ cap0 = 0 ∧ z0 = []) ∨ ∃ x, a0 = some x ∧ len0 ≤ cap0 ∧ cap0 ≤ maxLen ∧ z0.length = cap0 ∧ (∀ i, i < z0.length → w.cell? (x.add i) = some (.int .u8 (z0.getD i 0))) ∧ ∀ n ∈ z0, (Lit.int .u8 n).wf = true) (y0 : len0 * 1 ≤ 140737488351232) :
 Calls Try.prog 3 #[.slice a0 len0 cap0] w fun e w' => e = .returned (.bool true) ∧ Below w.heap.size w w' := by
 obtain ⟨l0, rfl, hr0, hm0, hw0, hc0⟩ := ReadsInt.ofRowC w0
 obtain ⟨k, h⟩ := P l0 hm0 y0 hw0
 refine (laws_FnGlued.calls k _ _ l0 true w (Kd.C_of_reads (d := (0 : Int)) (h1 := fun _ => rfl) hr0) hc0 h).mono ?_
 rintro e w' ⟨rfl, hd⟩
 exact ⟨rfl, hd⟩
end Go.Proofs.Ytjjajcldmkmgkaa.PA
end
section
namespace Go.Proofs.Ytjjajcldmkmgkaa.E
open Go.RowKit Go.Proofs.YtjjajcldmkmgkaaW.PrintWords Go.Proofs.YtjjajcldmkmgkaaW.PrintLast Go.Proofs.YtjjajcldmkmgkaaW.PrintMore
set_option linter.unusedVariables false
set_option linter.unusedSimpArgs false
theorem w64 {x : Int} (h1 : -9223372036854775808 ≤ x) (h2 : x ≤ 9223372036854775807) : wrap64 x = x := by
 unfold wrap64; omega
theorem nd_t {p : Prop} [Decidable p] (h : ¬ p) : (!decide p) = true := by simp [h]
theorem nd_f {p : Prop} [Decidable p] (h : p) : ¬ (!decide p) = true := by simp [h]
theorem d_t {p : Prop} [Decidable p] (h : p) : decide p = true := by simp [h]
theorem d_f {p : Prop} [Decidable p] (h : ¬ p) : ¬ decide p = true := by simp [h]
theorem emod_le_self {n x : Int} (h : 0 ≤ n) (hx : 0 < x) : n % x ≤ n := by
 have h1 := Int.mul_ediv_add_emod n x
 have h2 : 0 ≤ x * (n / x) := Int.mul_nonneg (by omega) (Int.ediv_nonneg h (by omega))
 omega
theorem ev_ifp {α : Type} {c : Prop} [Decidable c] {a b : Nat → Option α} {r : α} (h : c) (k : Ev a r) : Ev (fun n => if c then a n else b n) r :=
 Ev.congr (fun _ => if_pos h) k
theorem ev_ifn {α : Type} {c : Prop} [Decidable c] {a b : Nat → Option α} {r : α} (h : ¬ c) (k : Ev b r) : Ev (fun n => if c then a n else b n) r :=
 Ev.congr (fun _ => if_neg h) k
theorem ev_bind {α β : Type} {g : Nat → Option α} {f : Nat → α → Option β} (a : α) {r : β} (h : Ev g a) (k : Ev (fun n => f n a) r) : Ev (fun n => (g n).bind (f n)) r := Ev.bind h k
theorem ev_one {α : Type} {g : Nat → Option α} {a b : α} (h : Ev g a) (k : Ev g b) : a = b := by
 obtain ⟨K, h⟩ := h
 obtain ⟨L, k⟩ := k
 have h1 := h (max K L) (by omega)
 have h2 := k (max K L) (by omega)
 rw [h1] at h2
 exact Option.some.inj h2
theorem ev_to {α : Type} {g : Nat → Option α} {a b : α} (h : Ev g a) (e : a = b) : Ev g b := e ▸ h
theorem rd_lt {l : List Int} {i : Int} (h0 : 0 ≤ i) (h : i < l.length) : rd l i = l[i.toNat]'(by omega) := by
 unfold rd; rw [List.getD_eq_getElem?_getD, List.getElem?_eq_getElem (by omega)]; rfl
theorem rd_mem {l : List Int} {i : Int} (h0 : 0 ≤ i) (h : i < l.length) : rd l i ∈ l := by
 rw [rd_lt h0 h]; exact List.getElem_mem _
theorem drop_rd {l : List Int} {i : Int} (h0 : 0 ≤ i) (h : i < l.length) : l.drop i.toNat = rd l i :: l.drop (i + 1).toNat := by
 rw [rd_lt h0 h, List.drop_eq_getElem_cons (by omega)]
 congr 2; omega
theorem take_rd {l : List Int} {i : Int} (h0 : 0 ≤ i) (h : i < l.length) : l.take (i + 1).toNat = l.take i.toNat ++ [rd l i] := by
 rw [rd_lt h0 h, show (i + 1).toNat = i.toNat + 1 from by omega, List.take_succ_eq_append_getElem (by omega)]
theorem rd_ext {l m : List Int} (hl : l.length = m.length) (h : ∀ i : Int, 0 ≤ i → i < l.length → rd l i = rd m i) : l = m := by
 refine List.ext_getElem hl fun n h1 h2 => ?_
 have := h n (by omega) (by omega)
 rw [rd_lt (by omega) (by omega), rd_lt (by omega) (by omega)] at this
 simpa using this
theorem rd_set {l : List Int} {i j : Int} (x : Int) (hi : 0 ≤ i) (hi' : i < l.length) (hj : 0 ≤ j) : rd (l.set i.toNat x) j = if j = i then x else rd l j := by
 unfold rd
 rw [List.getD_eq_getElem?_getD, List.getD_eq_getElem?_getD, List.getElem?_set]
 by_cases h : j = i
 · subst h; rw [if_pos rfl, if_pos rfl, if_pos (by omega)]; rfl
 · rw [if_neg h, if_neg (by omega)]
theorem rd_append {l m : List Int} {i : Int} (hi : 0 ≤ i) : rd (l ++ m) i = if i < l.length then rd l i else rd m (i - l.length) := by
 unfold rd
 rw [List.getD_eq_getElem?_getD, List.getD_eq_getElem?_getD, List.getD_eq_getElem?_getD, List.getElem?_append]
 by_cases h : i < l.length
 · rw [if_pos h, if_pos (by omega)]
 · rw [if_neg h, if_neg (by omega), show i.toNat - l.length = (i - l.length).toNat from by omega]
theorem rd_rep {n : Nat} {x : Int} {i : Int} (hi : 0 ≤ i) (h : i < n) : rd (List.replicate n x) i = x := by
 rw [rd_lt hi (by simpa using h)]; simp
theorem mem_rd {l : List Int} {x : Int} (h : x ∈ l) : ∃ i : Int, 0 ≤ i ∧ i < l.length ∧ rd l i = x := by
 obtain ⟨n, hn, rfl⟩ := List.mem_iff_getElem.1 h
 exact ⟨n, by omega, by omega, by rw [rd_lt (by omega) (by omega)]; simp⟩
end Go.Proofs.Ytjjajcldmkmgkaa.E
end
section
namespace Go.Proofs.Ytjjajcldmkmgkaa.E
open Go.RowKit Go.Proofs.Ytjjajcldmkmgkaa.PA Go.Proofs.YtjjajcldmkmgkaaW.PrintWords Go.Proofs.YtjjajcldmkmgkaaW.PrintLast Go.Proofs.YtjjajcldmkmgkaaW.PrintMore
set_option linter.unusedVariables false
set_option linter.unusedSimpArgs false
theorem and255 (a : Int) : 0 ≤ Go.bits .and .i64 a 255 ∧ Go.bits .and .i64 a 255 ≤ 255 := by
 have h : ((BitVec.ofInt 64 a &&& BitVec.ofInt 64 255).toNat : Nat) ≤ 255 := by
  rw [BitVec.toNat_and]
  exact Nat.le_trans Nat.and_le_right (by decide)
 show 0 ≤ IntKind.i64.wrap ((BitVec.ofInt 64 a &&& BitVec.ofInt 64 255).toNat : Int) ∧ IntKind.i64.wrap ((BitVec.ofInt 64 a &&& BitVec.ofInt 64 255).toNat : Int) ≤ 255
 rw [Go.IntKind.wrap_i64]
 omega
def Cu (b : List Int) (i : Int) : Prop := 0 ≤ i ∧ i ≤ b.length ∧ (b.length : Int) ≤ 1099511627776
theorem byte_ok {b : List Int} {i : Int} (h : Int) (c : Cu b i) : ∃ x j g, spec_l1Byte.f b i h = some (x, j, g) ∧ (0 ≤ x ∧ x ≤ 255) ∧ Cu b j := by
 obtain ⟨c1, c2, c3⟩ := c
 unfold spec_l1Byte.f
 by_cases e : i < b.length
 · rw [if_pos e, if_pos c1, w64 (x := i + 1) (by omega) (by omega)]
   exact ⟨_, _, _, rfl, and255 _, by omega, by omega, c3⟩
 · rw [if_neg e]
   exact ⟨_, _, _, rfl, and255 _, c1, c2, c3⟩
theorem below_ok {b : List Int} {i : Int} (h : Int) (c : Cu b i) {n : Int} (hn : 0 < n) : ∃ x j g, spec_l1Below.f b i h n = some (x, j, g) ∧ (0 ≤ x ∧ x < n) ∧ Cu b j := by
 unfold spec_l1Below.f
 rw [if_neg (by omega)]
 by_cases e : n ≤ 256
 · obtain ⟨x, j, g, e1, hx, c'⟩ := byte_ok h c
   rw [if_pos e, e1]
   simp only [Option.bind_some]
   rw [if_neg (by omega), Int.tmod_eq_emod_of_nonneg hx.1]
   exact ⟨_, _, _, rfl, ⟨Int.emod_nonneg _ (by omega), Int.emod_lt_of_pos _ hn⟩, c'⟩
 · obtain ⟨x, j, g, e1, hx, c1⟩ := byte_ok h c
   obtain ⟨y, j2, g2, e2, hy, c2⟩ := byte_ok g c1
   obtain ⟨z, j3, g3, e3, hz, c3⟩ := byte_ok g2 c2
   obtain ⟨u, j4, g4, e4, hu, c4⟩ := byte_ok g3 c3
   rw [if_neg e, e1]
   simp only [Option.bind_some]
   rw [e2]
   simp only [Option.bind_some]
   rw [e3]
   simp only [Option.bind_some]
   rw [e4]
   simp only [Option.bind_some]
   rw [if_neg (by omega), w64 (x := x * 16777216) (by omega) (by omega), w64 (x := y * 65536) (by omega) (by omega), w64 (x := z * 256) (by omega) (by omega), w64 (x := x * 16777216 + y * 65536) (by omega) (by omega), w64 (x := x * 16777216 + y * 65536 + z * 256) (by omega) (by omega), w64 (x := x * 16777216 + y * 65536 + z * 256 + u) (by omega) (by omega), Int.tmod_eq_emod_of_nonneg (by omega)]
   exact ⟨_, _, _, rfl, ⟨Int.emod_nonneg _ (by omega), Int.emod_lt_of_pos _ hn⟩, c4⟩
theorem pick_ok {b : List Int} {i : Int} (h : Int) (c : Cu b i) {l : List Int} (hl : 0 < (l.length : Int)) : ∃ x j g, spec_l1PickInt.f b i h l = some (x, j, g) ∧ x ∈ l ∧ Cu b j := by
 obtain ⟨x, j, g, e, hx, c'⟩ := below_ok h c hl
 unfold spec_l1PickInt.f
 rw [e]
 simp only [Option.bind_some]
 rw [if_pos hx.1, if_pos hx.2]
 exact ⟨_, _, _, rfl, rd_mem hx.1 hx.2, c'⟩
theorem new_l {b : List Int} (hb : (b.length : Int) ≤ 1099511627776) (d : Nat) : ∀ i h : Int, 0 ≤ i → i + d = max i (min 4000 b.length) → ∃ g, Ev (fun k => spec_l1New.l0 k b h i) (b, 0, g) := by
 induction d with
 | zero =>
  intro i h h0 h1
  refine ⟨h, Ev.step (fun k => by rw [spec_l1New.l0]) ?_⟩
  by_cases c : i < b.length
  · exact ev_ifp c (ev_ifn (by omega) (Ev.now _))
  · exact ev_ifn c (Ev.now _)
 | succ d ih =>
  intro i h h0 h1
  obtain ⟨g, hE⟩ := ih (i + 1) (Go.bits .and .i64 (wrap64 ((wrap64 ((wrap64 (h * 131)) + (wrap64 (rd b i)))) + 7)) 1073741823) (by omega) (by omega)
  refine ⟨g, Ev.step (fun k => by rw [spec_l1New.l0]) ?_⟩
  rw [w64 (x := i + 1) (by omega) (by omega)]
  exact ev_ifp (by omega) (ev_ifp (by omega) (ev_ifp h0 hE))
theorem new_ev {b : List Int} (hb : (b.length : Int) ≤ 1099511627776) : ∃ g, Ev (fun k => spec_l1New.f k b) (b, 0, g) ∧ Cu b 0 := by
 obtain ⟨g, hE⟩ := new_l hb (min 4000 b.length) 0 (wrap64 (26583 + (b.length : Int))) (by omega) (by omega)
 exact ⟨g, hE, by omega, by omega, hb⟩
end Go.Proofs.Ytjjajcldmkmgkaa.E
end
section
namespace Go.Proofs.Ytjjajcldmkmgkaa.E
open Go.RowKit Go.Proofs.YtjjajcldmkmgkaaW.PrintWords Go.Proofs.YtjjajcldmkmgkaaW.PrintLast Go.Proofs.YtjjajcldmkmgkaaW.PrintMore
set_option linter.unusedVariables false
set_option linter.unusedSimpArgs false
inductive Way (v : List Int) : Int → Int → Prop
 | zero : Way v 0 0
 | add {x k c : Int} : x ∈ v → Way v k c → Way v (k + x) (c + 1)
theorem Way.mono {v u : List Int} (h : ∀ x ∈ v, x ∈ u) {k c : Int} (w : Way v k c) : Way u k c := by
 induction w with
 | zero => exact .zero
 | add hx _ ih => exact .add (h _ hx) ih
theorem Way.pos {v : List Int} (h : ∀ x ∈ v, 1 ≤ x) {k c : Int} (w : Way v k c) : 0 ≤ c ∧ c ≤ k := by
 induction w with
 | zero => omega
 | add hx _ ih => have := h _ hx; omega
theorem Way.plus {v : List Int} {k c : Int} (w : Way v k c) {k' c' : Int} (w' : Way v k' c') : Way v (k + k') (c + c') := by
 induction w' with
 | zero => simpa using w
 | @add x k1 c1 hx _ ih =>
  rw [← Int.add_assoc, ← Int.add_assoc]
  exact .add hx ih
theorem Way.times {v : List Int} {x : Int} (hx : x ∈ v) (j : Nat) : Way v (j * x) j := by
 induction j with
 | zero => simpa using Way.zero
 | succ j ih =>
  have := Way.add hx ih
  rw [show ((j + 1 : Nat) : Int) * x = j * x + x from by rw [Int.natCast_add, Int.add_mul]; simp]
  exact this
theorem Way.last {v : List Int} {k c : Int} (w : Way v k c) : (k = 0 ∧ c = 0) ∨ ∃ x ∈ v, Way v (k - x) (c - 1) := by
 cases w with
 | zero => exact .inl ⟨rfl, rfl⟩
 | @add x k c hx hw => exact .inr ⟨x, hx, by rwa [show k + x - x = k from by omega, show c + 1 - 1 = c from by omega]⟩
theorem Way.split {u : List Int} {x : Int} {k c : Int} (w : Way (u ++ [x]) k c) : ∃ j : Nat, Way u (k - j * x) (c - j) := by
 induction w with
 | zero => exact ⟨0, by simpa using Way.zero⟩
 | @add y k c hy _ ih =>
  obtain ⟨j, h⟩ := ih
  rcases List.mem_append.1 hy with hu | hx
  · refine ⟨j, ?_⟩
    have := Way.add hu h
    rwa [show k - j * x + y = k + y - j * x from by omega, show c - (j : Int) + 1 = c + 1 - j from by omega] at this
  · obtain rfl : y = x := by simpa using hx
    refine ⟨j + 1, ?_⟩
    rw [show ((j + 1 : Nat) : Int) * y = j * y + y from by rw [Int.natCast_add, Int.add_mul]; simp, show k + y - (j * y + y) = k - j * y from by omega, show c + 1 - ((j + 1 : Nat) : Int) = c - j from by omega]
    exact h
def Fw (v : List Int) (k m : Int) : Prop := (m = -1 ∧ ∀ c, ¬ Way v k c) ∨ (Way v k m ∧ ∀ c, Way v k c → m ≤ c)
theorem Fw.one {v : List Int} (hv : ∀ x ∈ v, 1 ≤ x) {k m m' : Int} (h : Fw v k m) (h' : Fw v k m') : m = m' := by
 rcases h with ⟨h1, h2⟩ | ⟨h1, h2⟩ <;> rcases h' with ⟨h3, h4⟩ | ⟨h3, h4⟩
 · omega
 · exact absurd h3 (h2 _)
 · exact absurd h1 (h4 _)
 · have := h2 _ h3; have := h4 _ h1; omega
theorem Fw.ge {v : List Int} (hv : ∀ x ∈ v, 1 ≤ x) {k m : Int} (h : Fw v k m) : -1 ≤ m := by
 rcases h with ⟨h1, h2⟩ | ⟨h1, h2⟩
 · omega
 · have := h1.pos hv; omega
theorem Fw.le {v : List Int} (hv : ∀ x ∈ v, 1 ≤ x) {k m : Int} (h : Fw v k m) (hk : 0 ≤ k) : m ≤ k := by
 rcases h with ⟨h1, h2⟩ | ⟨h1, h2⟩
 · omega
 · have := h1.pos hv; omega
theorem Fw.way {v : List Int} {k m : Int} (h : Fw v k m) (hm : 0 ≤ m) : Way v k m ∧ ∀ c, Way v k c → m ≤ c := by
 rcases h with ⟨h1, h2⟩ | h
 · omega
 · exact h
theorem Fw.nil {k : Int} (hk : 0 ≤ k) : Fw [] k (if k = 0 then 0 else -1) := by
 by_cases h : k = 0
 · subst h
   exact .inr ⟨.zero, fun c w => (w.pos (by simp)).1⟩
 · rw [if_neg h]
   refine .inl ⟨rfl, fun c w => ?_⟩
   rcases w.last with ⟨h1, _⟩ | ⟨x, hx, _⟩
   · exact h h1
   · simp at hx
theorem Fw.below {u : List Int} {x k m : Int} (hu : ∀ y ∈ u, 1 ≤ y) (hk : k < x) (h : Fw u k m) (h0 : 0 ≤ k) : Fw (u ++ [x]) k m := by
 have hv : ∀ y ∈ u ++ [x], 1 ≤ y := by
  intro y hy
  rcases List.mem_append.1 hy with hy | hy
  · exact hu y hy
  · have : y = x := by simpa using hy
    omega
 have key : ∀ c, Way (u ++ [x]) k c → Way u k c := by
  intro c w
  obtain ⟨j, hj⟩ := w.split
  by_cases h : j = 0
  · subst h; simpa using hj
  · exfalso
    have := hj.pos hu
    have hj1 : x ≤ (j : Int) * x := by
     have := Int.mul_le_mul_of_nonneg_right (show (1 : Int) ≤ j from by omega) (show 0 ≤ x from by omega)
     omega
    omega
 rcases h with ⟨h1, h2⟩ | ⟨h1, h2⟩
 · exact .inl ⟨h1, fun c w => h2 c (key c w)⟩
 · exact .inr ⟨h1.mono (fun y hy => List.mem_append.2 (.inl hy)), fun c w => h2 c (key c w)⟩
structure Lst (v : List Int) (a G : Int) (t : List Int) : Prop where
 len : (t.length : Int) = a
 ge : ∀ r, 0 ≤ r → r < a → -1 ≤ rd t r
 way : ∀ r, 0 ≤ r → r < a → 0 ≤ rd t r → (∃ c, Way v (rd t r) c) ∧ rd t r % a = r
 least : ∀ n c, Way v n c → 0 ≤ rd t (n % a) ∧ rd t (n % a) ≤ n
 bound : ∀ r, 0 ≤ r → r < a → rd t r ≤ (a - 1) * G
def sets (t : List Int) : Nat := t.countP (fun x => decide (0 ≤ x))
theorem sets_le (t : List Int) : sets t ≤ t.length := List.countP_le_length
def weight (B : Int) (t : List Int) : Int := (t.map fun x => if x < 0 then B else x).sum
theorem weight_nonneg {B : Int} (hB : 0 ≤ B) (t : List Int) : 0 ≤ weight B t := by
 induction t with
 | nil => simp [weight]
 | cons x t ih =>
  unfold weight at *
  rw [List.map_cons, List.sum_cons]
  by_cases h : x < 0
  · rw [if_pos h]; omega
  · rw [if_neg h]; omega
theorem weight_set (B : Int) (t : List Int) (i : Nat) (h : i < t.length) (x : Int) : weight B (t.set i x) + (if t[i] < 0 then B else t[i]) = weight B t + (if x < 0 then B else x) := by
 induction t generalizing i with
 | nil => simp at h
 | cons y t ih =>
  unfold weight at *
  cases i with
  | zero => simp only [z2_, List.map_cons, List.sum_cons, List.getElem_cons_zero]; omega
  | succ i =>
   have := ih i (by simpa using h)
   simp only [z3_, List.map_cons, List.sum_cons, List.getElem_cons_succ]
   omega
theorem sets_set (t : List Int) (i : Nat) (h : i < t.length) (x : Int) (hx : 0 ≤ x) : sets (t.set i x) + (if 0 ≤ t[i] then 1 else 0) = sets t + 1 := by
 induction t generalizing i with
 | nil => simp at h
 | cons y t ih =>
  unfold sets at *
  cases i with
  | zero =>
   simp only [z2_, List.countP_cons, List.getElem_cons_zero]
   by_cases e : 0 ≤ y <;> simp [e, hx]
  | succ i =>
   have := ih i (by simpa using h)
   simp only [z3_, List.countP_cons, List.getElem_cons_succ]
   omega
structure LInv (v : List Int) (a G : Int) (t : List Int) : Prop where
 len : (t.length : Int) = a
 zero : rd t 0 = 0
 ge : ∀ r, 0 ≤ r → r < a → -1 ≤ rd t r
 way : ∀ r, 0 ≤ r → r < a → 0 ≤ rd t r → (∃ c, Way v (rd t r) c) ∧ rd t r % a = r
 bound : ∀ r, 0 ≤ r → r < a → rd t r ≤ ((sets t : Int) - 1) * G
theorem mul_le_of {x y G : Int} (hG : 0 ≤ G) (h : x ≤ y) : x * G ≤ y * G := Int.mul_le_mul_of_nonneg_right h hG
theorem LInv.top {v : List Int} {a G : Int} {t : List Int} (hG : 0 ≤ G) (h : LInv v a G t) {r : Int} (h0 : 0 ≤ r) (h1 : r < a) : rd t r ≤ (a - 1) * G := by
 have := h.bound r h0 h1
 have := sets_le t
 have := h.len
 have := mul_le_of (x := (sets t : Int) - 1) (y := a - 1) hG (by omega)
 omega
theorem LInv.step {v : List Int} {a G : Int} {t : List Int} (hv : ∀ x ∈ v, 1 ≤ x ∧ x ≤ G) (ha : 1 ≤ a) (h : LInv v a G t) {r g : Int} (hr0 : 0 ≤ r) (hr1 : r < a) (hg : g ∈ v) (hs : 0 ≤ rd t r)
 (hc : rd t ((rd t r + g) % a) < 0 ∨ rd t r + g < rd t ((rd t r + g) % a)) :
 LInv v a G (t.set ((rd t r + g) % a).toNat (rd t r + g)) ∧ weight (a * G + 1) (t.set ((rd t r + g) % a).toNat (rd t r + g)) < weight (a * G + 1) t ∧ rd t r + g ≤ a * G ∧ (rd t r + g) % a ≠ r := by
 have hgv := hv g hg
 have hG : 0 ≤ G := by omega
 have q0 := Int.emod_nonneg (rd t r + g) (b := a) (by omega)
 have q1 := Int.emod_lt_of_pos (rd t r + g) (b := a) (by omega)
 generalize hto : (rd t r + g) % a = y0 at *
 have hl := h.len
 have hb := h.bound r hr0 hr1
 have hbt := h.bound y0 q0 q1
 have hsl := sets_le t
 have hne : y0 ≠ r := by rintro rfl; omega
 have h00 : y0 ≠ 0 := by rintro rfl; rw [h.zero] at hc; omega
 have hrd : rd t y0 = t[y0.toNat]'(by omega) := rd_lt q0 (by omega)
 have hss := sets_set t y0.toNat (by omega) (rd t r + g) (by omega)
 have hws := weight_set (a * G + 1) t y0.toNat (by omega) (rd t r + g)
 rw [← hrd] at hss hws
 have hset0 : (sets (t.set y0.toNat (rd t r + g)) : Int) + (if 0 ≤ rd t y0 then 1 else 0) = sets t + 1 := by
  split at hss <;> omega
 have hm : a * G = (a - 1) * G + G := by rw [Int.sub_mul]; omega
 have hm2 : ((sets t : Int)) * G = ((sets t : Int) - 1) * G + G := by rw [Int.sub_mul]; omega
 have hm3 := mul_le_of (x := (sets t : Int) - 1) (y := a - 1) hG (by omega)
 obtain ⟨⟨c, hw⟩, hmod⟩ := h.way r hr0 hr1 hs
 have hset : (sets (t.set y0.toNat (rd t r + g)) : Int) = if rd t y0 < 0 then (sets t : Int) + 1 else sets t := by
  by_cases e : rd t y0 < 0
  · rw [if_pos e]; rw [if_neg (by omega)] at hset0; omega
  · rw [if_neg e]; rw [if_pos (by omega)] at hset0; omega
 have hsets : (sets t : Int) ≤ sets (t.set y0.toNat (rd t r + g)) := by rw [hset]; split <;> omega
 have hup : ((sets t : Int) - 1) * G ≤ ((sets (t.set y0.toNat (rd t r + g)) : Int) - 1) * G := mul_le_of hG (by omega)
 have hy : rd t r + g ≤ ((sets (t.set y0.toNat (rd t r + g)) : Int) - 1) * G := by
  by_cases e : rd t y0 < 0
  · rw [hset, if_pos e, show (sets t : Int) + 1 - 1 = sets t from by omega]; omega
  · omega
 refine ⟨⟨by simpa using hl, ?_, ?_, ?_, ?_⟩, ?_, by omega, hne⟩
 · have := rd_set (l := t) (rd t r + g) q0 (by omega) (show (0 : Int) ≤ 0 by omega)
   rw [this, if_neg (fun e => h00 e.symm)]; exact h.zero
 · intro s hs0 hs1
   rw [rd_set _ q0 (by omega) hs0]
   by_cases e : s = y0
   · rw [if_pos e]; omega
   · rw [if_neg e]; exact h.ge s hs0 hs1
 · intro s hs0 hs1 hpos
   rw [rd_set _ q0 (by omega) hs0] at hpos ⊢
   by_cases e : s = y0
   · rw [if_pos e] at hpos ⊢
     exact ⟨⟨c + 1, .add hg hw⟩, by rw [hto, e]⟩
   · rw [if_neg e] at hpos ⊢; exact h.way s hs0 hs1 hpos
 · intro s hs0 hs1
   rw [rd_set _ q0 (by omega) hs0]
   by_cases e : s = y0
   · rw [if_pos e]; exact hy
   · rw [if_neg e]; have := h.bound s hs0 hs1; omega
 · rw [if_neg (show ¬ rd t r + g < 0 by omega)] at hws
   by_cases e : rd t y0 < 0
   · rw [if_pos e] at hws; omega
   · rw [if_neg e] at hws; omega
def Closed (v : List Int) (a : Int) (t : List Int) : Prop := ∀ r, 0 ≤ r → r < a → 0 ≤ rd t r → ∀ g ∈ v, 0 ≤ rd t ((rd t r + g) % a) ∧ rd t ((rd t r + g) % a) ≤ rd t r + g
theorem LInv.done {v : List Int} {a G : Int} {t : List Int} (hv : ∀ x ∈ v, 1 ≤ x ∧ x ≤ G) (hG : 0 ≤ G) (ha : 1 ≤ a) (h : LInv v a G t) (hc : Closed v a t) : Lst v a G t := by
 refine ⟨h.len, h.ge, h.way, fun n c w => ?_, fun r h0 h1 => h.top hG h0 h1⟩
 induction w with
 | zero => simp [h.zero]
 | @add g k c hg hw ih =>
  have q0 := Int.emod_nonneg k (b := a) (by omega)
  have q1 := Int.emod_lt_of_pos k (b := a) (by omega)
  obtain ⟨c1, c2⟩ := hc (k % a) q0 q1 ih.1 g hg
  have hmod := (h.way (k % a) q0 q1 ih.1).2
  have e : (rd t (k % a) + g) % a = (k + g) % a := by
   rw [Int.add_emod, hmod, ← Int.add_emod]
  rw [e] at c1 c2
  exact ⟨c1, by omega⟩
theorem Lst.one {v : List Int} {a G G' : Int} {t u : List Int} (h : Lst v a G t) (k : Lst v a G' u) : t = u := by
 refine rd_ext (by have := h.len; have := k.len; omega) fun r h0 h1 => ?_
 have ha : r < a := by have := h.len; omega
 have g1 := h.ge r h0 ha
 have g2 := k.ge r h0 ha
 have l1 : 0 ≤ rd t r → 0 ≤ rd u r ∧ rd u r ≤ rd t r := fun hs => by
  obtain ⟨⟨c, w⟩, e⟩ := h.way r h0 ha hs
  have := k.least _ _ w
  rwa [e] at this
 have l2 : 0 ≤ rd u r → 0 ≤ rd t r ∧ rd t r ≤ rd u r := fun hs => by
  obtain ⟨⟨c, w⟩, e⟩ := k.way r h0 ha hs
  have := h.least _ _ w
  rwa [e] at this
 by_cases e1 : 0 ≤ rd t r
 · have := l1 e1; have := l2 (by omega); omega
 · by_cases e2 : 0 ≤ rd u r
   · have := l2 e2; omega
   · omega
theorem LInv.first {v : List Int} {a G : Int} (ha : 1 ≤ a) (hG : 0 ≤ G) : LInv v a G ((List.replicate a.toNat (-1)).set 0 0) := by
 have hl : ((List.replicate a.toNat (-1 : Int)).length : Int) = a := by simp; omega
 have hr : ∀ r, 0 ≤ r → r < a → rd ((List.replicate a.toNat (-1)).set 0 0) r = if r = 0 then 0 else -1 := fun r h0 h1 => by
  have := rd_set (l := List.replicate a.toNat (-1)) (i := 0) (j := r) 0 (by omega) (by omega) h0
  rw [show (0 : Int).toNat = 0 from rfl] at this
  rw [this]
  by_cases e : r = 0
  · rw [if_pos e, if_pos e]
  · rw [if_neg e, if_neg e, rd_rep h0 (by omega)]
 have hs : 1 ≤ sets ((List.replicate a.toNat (-1)).set 0 0) := by
  have := sets_set (List.replicate a.toNat (-1)) 0 (by simp; omega) 0 (by omega)
  simp at this
  omega
 have hp : 0 ≤ ((sets ((List.replicate a.toNat (-1)).set 0 0) : Int) - 1) * G := Int.mul_nonneg (by omega) hG
 refine ⟨by simp; omega, by rw [hr 0 (by omega) (by omega)]; rfl, fun r h0 h1 => ?_, fun r h0 h1 h2 => ?_, fun r h0 h1 => ?_⟩
 · rw [hr r h0 h1]; split <;> omega
 · rw [hr r h0 h1] at h2 ⊢
   by_cases e : r = 0
   · rw [if_pos e]; exact ⟨⟨0, .zero⟩, by rw [e]; rfl⟩
   · rw [if_neg e] at h2; omega
 · rw [hr r h0 h1]; split <;> omega
def Su (v : List Int) (n : Int) : Prop := ∃ c, Way v n c
noncomputable instance (v : List Int) (n : Int) : Decidable (Su v n) := Classical.propDecidable _
theorem Su.zero (v : List Int) : Su v 0 := ⟨0, .zero⟩
theorem Su.add {v : List Int} {n m : Int} (h : Su v n) (k : Su v m) : Su v (n + m) := by
 obtain ⟨c, h⟩ := h; obtain ⟨d, k⟩ := k; exact ⟨c + d, h.plus k⟩
theorem Su.mem {v : List Int} {x : Int} (h : x ∈ v) : Su v x := ⟨0 + 1, by have := Way.add h Way.zero; rwa [Int.zero_add] at this⟩
theorem Su.pos {v : List Int} (hv : ∀ x ∈ v, 1 ≤ x) {n : Int} (h : Su v n) : 0 ≤ n := by
 obtain ⟨c, h⟩ := h; have := h.pos hv; omega
theorem Su.mono {v u : List Int} (h : ∀ x ∈ v, x ∈ u) {n : Int} (k : Su v n) : Su u n := by
 obtain ⟨c, k⟩ := k; exact ⟨c, k.mono h⟩
theorem Su.last {v : List Int} {n : Int} (hn : n ≠ 0) : Su v n ↔ ∃ x ∈ v, Su v (n - x) := by
 constructor
 · rintro ⟨c, w⟩
   rcases w.last with h | ⟨x, hx, h⟩
   · exact absurd h.1 hn
   · exact ⟨x, hx, _, h⟩
 · rintro ⟨x, hx, h⟩
   have := h.add (Su.mem hx)
   rwa [show n - x + x = n from by omega] at this
theorem Su.times {v : List Int} {x : Int} (h : Su v x) (j : Nat) : Su v (j * x) := by
 induction j with
 | zero => simpa using Su.zero v
 | succ j ih =>
  have := ih.add h
  rwa [show (j : Int) * x + x = ((j + 1 : Nat) : Int) * x from by rw [Int.natCast_add, Int.add_mul]; simp] at this
theorem Su.dvd {v : List Int} {d : Int} (h : ∀ x ∈ v, d ∣ x) {n : Int} (k : Su v n) : d ∣ n := by
 obtain ⟨c, w⟩ := k
 induction w with
 | zero => exact Int.dvd_zero _
 | add hx _ ih => exact Int.dvd_add ih (h _ hx)
theorem Su.up {v : List Int} {a : Int} (ha : 1 ≤ a) (h : Su v a) {n m : Int} (hn : Su v n) (hle : n ≤ m) (hm : n % a = m % a) : Su v m := by
 have e1 := Int.mul_ediv_add_emod n a
 have e2 := Int.mul_ediv_add_emod m a
 have hq : n / a ≤ m / a := Int.ediv_le_ediv (by omega) hle
 have := hn.add (h.times (m / a - n / a).toNat)
 rw [show (((m / a - n / a).toNat : Nat) : Int) = m / a - n / a from by omega] at this
 rwa [show n + (m / a - n / a) * a = m from by rw [Int.sub_mul, Int.mul_comm (m / a), Int.mul_comm (n / a)]; omega] at this
theorem Lst.su {v : List Int} {a G : Int} {t : List Int} (h : Lst v a G t) (ha : 1 ≤ a) (hav : Su v a) {n : Int} : Su v n ↔ 0 ≤ rd t (n % a) ∧ rd t (n % a) ≤ n := by
 have q0 := Int.emod_nonneg n (b := a) (by omega)
 have q1 := Int.emod_lt_of_pos n (b := a) (by omega)
 constructor
 · rintro ⟨c, w⟩; exact h.least _ _ w
 · rintro ⟨h1, h2⟩
   obtain ⟨w, e⟩ := h.way _ q0 q1 h1
   exact Su.up ha hav w h2 (by omega)
def UL (v : List Int) : Prop := (1 ≤ (v.length : Int) ∧ (v.length : Int) ≤ 20) ∧ ∀ x ∈ v, 1 ≤ x ∧ x ≤ 60
noncomputable instance (v : List Int) : Decidable (UL v) := Classical.propDecidable _
theorem UL.pos {v : List Int} (h : UL v) : ∀ x ∈ v, 1 ≤ x := fun x hx => (h.2 x hx).1
theorem UL.first {v : List Int} (h : UL v) : rd v 0 ∈ v ∧ 1 ≤ rd v 0 ∧ rd v 0 ≤ 60 := by
 have := rd_mem (l := v) (i := 0) (by omega) (by have := h.1; omega)
 exact ⟨this, h.2 _ this⟩
theorem UL.ne {v : List Int} (h : UL v) : v ≠ [] := by rintro rfl; have := h.1; simp at this
theorem Lst.far {v : List Int} {a : Int} {t : List Int} (h : Lst v a 60 t) (ha : 1 ≤ a) (ha' : a ≤ 60) (hav : Su v a) {n m : Int} (hn : Su v n) (hm : 3540 ≤ m) (e : n % a = m % a) : Su v m := by
 have q0 := Int.emod_nonneg n (b := a) (by omega)
 have q1 := Int.emod_lt_of_pos n (b := a) (by omega)
 have k := (h.su ha hav).1 hn
 have b := h.bound _ q0 q1
 exact (h.su ha hav).2 (by rw [← e]; omega)
end Go.Proofs.Ytjjajcldmkmgkaa.E
end
section
namespace Go.Proofs.Ytjjajcldmkmgkaa.E
open Go.RowKit Go.Proofs.Ytjjajcldmkmgkaa.PA Go.Proofs.YtjjajcldmkmgkaaW.PrintWords Go.Proofs.YtjjajcldmkmgkaaW.PrintLast Go.Proofs.YtjjajcldmkmgkaaW.PrintMore
set_option linter.unusedVariables false
set_option linter.unusedSimpArgs false
theorem rdb_set {l : List Bool} {i j : Int} (x : Bool) (hi : 0 ≤ i) (hi' : i < l.length) (hj : 0 ≤ j) : rdOf false (l.set i.toNat x) j = if j = i then x else rdOf false l j := by
 unfold rdOf
 rw [List.getD_eq_getElem?_getD, List.getD_eq_getElem?_getD, List.getElem?_set]
 by_cases h : j = i
 · subst h; rw [if_pos rfl, if_pos rfl, if_pos (by omega)]; rfl
 · rw [if_neg h, if_neg (by omega)]
theorem rdb_rep {n : Nat} {i : Int} : rdOf false (List.replicate n false) i = false := by
 unfold rdOf
 rw [List.getD_eq_getElem?_getD, List.getElem?_replicate]
 split <;> rfl
def TabAt (v : List Int) (n : Int) (t : List Bool) : Prop := (∀ j, 0 ≤ j → j < n → (rdOf false t j = true ↔ Su v j)) ∧ ∀ j, n ≤ j → rdOf false t j = false
theorem tab_l1 {v : List Int} (hl : v.length ≤ 1048576) (hv : ∀ x ∈ v, 1 ≤ x ∧ x ≤ 1048576) {most n : Int} (hm : most ≤ 1048576) (hn : 1 ≤ n) (hn' : n ≤ most) {r : List Bool}
 (H : ∀ t : List Bool, (t.length : Int) = most + 1 → TabAt v (n + 1) t → Ev (fun k => spec_l3Table.l0 k v most t (n + 1)) r → True) (d : Nat) :
 ∀ (i : Int) (t : List Bool), 0 ≤ i → i + d = v.length → (t.length : Int) = most + 1 → (∀ j, 0 ≤ j → j < n → (rdOf false t j = true ↔ Su v j)) → (∀ j, n < j → rdOf false t j = false) → (rdOf false t n = true ↔ ∃ j, 0 ≤ j ∧ j < i ∧ rd v j ≤ n ∧ Su v (n - rd v j)) →
  ∃ t' : List Bool, (t'.length : Int) = most + 1 ∧ TabAt v (n + 1) t' ∧ ∀ r, Ev (fun k => spec_l3Table.l0 k v most t' (n + 1)) r → Ev (fun k => spec_l3Table.l1 k v most t n i) r := by
 have hv1 : ∀ x ∈ v, 1 ≤ x := fun x hx => (hv x hx).1
 induction d with
 | zero =>
  intro i t h0 h1 h2 h3 h4 h5
  refine ⟨t, h2, ⟨fun j hj hj' => ?_, fun j hj => h4 j (by omega)⟩, fun r hr => Ev.step (fun k => by rw [spec_l3Table.l1]) (ev_ifn (by omega) ?_)⟩
  · by_cases e : j = n
    · subst e
      rw [h5, Su.last (by omega)]
      constructor
      · rintro ⟨q, a, b, _, c⟩; exact ⟨_, rd_mem a (by omega), c⟩
      · rintro ⟨x, hx, c⟩
        obtain ⟨q, a, b, rfl⟩ := mem_rd hx
        have := c.pos hv1
        exact ⟨q, a, by omega, by omega, c⟩
    · exact h3 j hj (by omega)
  · rw [w64 (by omega) (by omega)]; exact hr
 | succ d ih =>
  intro i t h0 h1 h2 h3 h4 h5
  have hx := hv _ (rd_mem (l := v) h0 (by omega))
  by_cases c : n ≥ rd v i
  · have e := h3 (n - rd v i) (by omega) (by omega)
    by_cases b : rdOf false t (n - rd v i) = true
    · obtain ⟨t', a1, a2, a3⟩ := ih (i + 1) (t.set n.toNat true) (by omega) (by omega) (by simpa using h2) (fun j hj hj' => by rw [rdb_set _ (by omega) (by omega) hj, if_neg (by omega)]; exact h3 j hj hj') (fun j hj => by rw [rdb_set _ (by omega) (by omega) (by omega), if_neg (by omega)]; exact h4 j hj)
       (by rw [rdb_set _ (by omega) (by omega) (by omega), if_pos rfl]; exact ⟨fun _ => ⟨i, h0, by omega, c, e.1 b⟩, fun _ => rfl⟩)
      refine ⟨t', a1, a2, fun r hr => Ev.step (fun k => by rw [spec_l3Table.l1]) ?_⟩
      rw [w64 (x := n - rd v i) (by omega) (by omega), w64 (x := i + 1) (by omega) (by omega)]
      exact ev_ifp (by omega) (ev_ifp h0 (ev_ifp c (ev_ifp (by omega) (ev_ifp (by omega) (ev_ifp b (ev_ifp (by omega) (ev_ifp (by omega) (a3 r hr))))))))
    · obtain ⟨t', a1, a2, a3⟩ := ih (i + 1) t (by omega) (by omega) h2 h3 h4 (by
       rw [h5]
       constructor
       · rintro ⟨q, u1, u2, u3⟩; exact ⟨q, u1, by omega, u3⟩
       · rintro ⟨q, u1, u2, u3, u4⟩
         by_cases eq : q = i
         · subst eq; exact absurd (e.2 u4) b
         · exact ⟨q, u1, by omega, u3, u4⟩)
      refine ⟨t', a1, a2, fun r hr => Ev.step (fun k => by rw [spec_l3Table.l1]) ?_⟩
      rw [w64 (x := n - rd v i) (by omega) (by omega), w64 (x := i + 1) (by omega) (by omega)]
      exact ev_ifp (by omega) (ev_ifp h0 (ev_ifp c (ev_ifp (by omega) (ev_ifp (by omega) (ev_ifn b (a3 r hr))))))
  · obtain ⟨t', a1, a2, a3⟩ := ih (i + 1) t (by omega) (by omega) h2 h3 h4 (by
     rw [h5]
     constructor
     · rintro ⟨q, u1, u2, u3⟩; exact ⟨q, u1, by omega, u3⟩
     · rintro ⟨q, u1, u2, u3, u4⟩
       by_cases eq : q = i
       · subst eq; omega
       · exact ⟨q, u1, by omega, u3, u4⟩)
    refine ⟨t', a1, a2, fun r hr => Ev.step (fun k => by rw [spec_l3Table.l1]) ?_⟩
    rw [w64 (x := i + 1) (by omega) (by omega)]
    exact ev_ifp (by omega) (ev_ifp h0 (ev_ifn c (a3 r hr)))
theorem tab_l0 {v : List Int} (hl : v.length ≤ 1048576) (hv : ∀ x ∈ v, 1 ≤ x ∧ x ≤ 1048576) {most : Int} (hm : most ≤ 1048576) (d : Nat) : ∀ (n : Int) (t : List Bool), 1 ≤ n → n + d = most + 1 → (t.length : Int) = most + 1 → TabAt v n t →
 ∃ t' : List Bool, (t'.length : Int) = most + 1 ∧ (∀ j, 0 ≤ j → j ≤ most → (rdOf false t' j = true ↔ Su v j)) ∧ Ev (fun k => spec_l3Table.l0 k v most t n) t' := by
 induction d with
 | zero =>
  intro n t h0 h1 h2 h3
  exact ⟨t, h2, fun j hj hj' => h3.1 j hj (by omega), Ev.step (fun k => by rw [spec_l3Table.l0]) (ev_ifn (by omega) (Ev.now _))⟩
 | succ d ih =>
  intro n t h0 h1 h2 h3
  obtain ⟨t', a1, a2, a3⟩ := tab_l1 (r := t) hl hv hm h0 (by omega) (fun _ _ _ _ => trivial) v.length 0 t (by omega) (by omega) h2 h3.1 (fun j hj => h3.2 j (by omega)) (by
   rw [h3.2 n (Int.le_refl _)]
   exact ⟨fun h => (by cases h), fun ⟨j, u1, u2, _⟩ => by omega⟩)
  obtain ⟨t'', b1, b2, b3⟩ := ih (n + 1) t' (by omega) (by omega) a1 a2
  refine ⟨t'', b1, b2, Ev.step (fun k => by rw [spec_l3Table.l0]) ?_⟩
  exact ev_ifp (by omega) (a3 _ b3)
theorem tabG_ev {v : List Int} (hl : v.length ≤ 1048576) (hv : ∀ x ∈ v, 1 ≤ x ∧ x ≤ 1048576) {most : Int} (hm0 : 0 ≤ most) (hm : most ≤ 1048576) :
 ∃ t : List Bool, (t.length : Int) = most + 1 ∧ (∀ j, 0 ≤ j → j ≤ most → (rdOf false t j = true ↔ Su v j)) ∧ Ev (fun k => spec_l3Table.f k v most) t := by
 have e0 : ((List.replicate (most + 1).toNat false).length : Int) = most + 1 := by simp; omega
 obtain ⟨t, a, b, c⟩ := tab_l0 hl hv hm most.toNat 1 ((List.replicate (most + 1).toNat false).set (0 : Int).toNat true) (by omega) (by omega) (by rw [List.length_set]; exact e0) ⟨fun j hj hj' => by
  rw [rdb_set _ (by omega) (by omega) hj, if_pos (by omega), show j = 0 from by omega]
  exact ⟨fun _ => Su.zero v, fun _ => rfl⟩, fun j hj => by
  rw [rdb_set _ (by omega) (by omega) (by omega), if_neg (by omega)]; exact rdb_rep⟩
 refine ⟨t, a, b, ?_⟩
 unfold spec_l3Table.f
 rw [w64 (by omega) (by omega)]
 simp only [Option.bind_some]
 exact ev_ifp (by omega) (ev_ifp (by omega) (ev_ifp (by omega) c))
theorem tabS_ev {v : List Int} (hl : v.length ≤ 20) (hv : ∀ x ∈ v, 1 ≤ x ∧ x ≤ 60) {most : Int} (hm0 : 0 ≤ most) (hm : most ≤ 1048576) :
 ∃ t : List Bool, (t.length : Int) = most + 1 ∧ (∀ j, 0 ≤ j → j ≤ most → (rdOf false t j = true ↔ Su v j)) ∧ Ev (fun k => spec_l3Table.f k v most) t :=
 tabG_ev (by omega) (fun x hx => ⟨(hv x hx).1, by have := (hv x hx).2; omega⟩) hm0 hm
theorem l1In_eq (n lo hi : Int) : spec_l1In.f n lo hi = some (decide (lo ≤ n ∧ n ≤ hi)) := by
 unfold spec_l1In.f; by_cases h : n ≥ lo
 · rw [if_pos h]; simp [h]
 · rw [if_neg h]; simp [show ¬ lo ≤ n from h]
theorem within_eq (n lo hi : Int) : impl_within.f n lo hi = some (decide (lo ≤ n ∧ n ≤ hi)) := l1In_eq n lo hi
theorem allWithin_l {l : List Int} {lo hi : Int} (hl : l.length ≤ 1099511627776) (d : Nat) : ∀ (i : Int), 0 ≤ i → i + d = l.length → Ev (fun k => impl_allWithin.l0 k lo hi l l.length i) (decide (∀ x ∈ l.drop i.toNat, lo ≤ x ∧ x ≤ hi)) := by
 induction d with
 | zero =>
  intro i h0 h1
  refine Ev.step (fun k => by rw [impl_allWithin.l0]) ?_
  simp (disch := omega) only [if_neg]
  refine ev_to (Ev.now _) ?_
  rw [List.drop_of_length_le (by omega)]; simp
 | succ d ih =>
  intro i h0 h1
  refine Ev.step (fun k => by rw [impl_allWithin.l0]) ?_
  simp (disch := omega) only [if_pos, w64, within_eq, Option.bind_some]
  rw [drop_rd h0 (by omega)]
  by_cases h : lo ≤ rd l i ∧ rd l i ≤ hi
  · refine ev_ifp (by simpa using h) (ev_to (ih (i + 1) (by omega) (by omega)) ?_)
    simp [h]
  · refine ev_ifn (by simpa using h) (ev_to (Ev.now _) ?_)
    simp only [List.mem_cons, forall_eq_or_imp, h, false_and, decide_false]
theorem allWithin_ev {l : List Int} (lo hi : Int) (hl : l.length ≤ 1099511627776) : Ev (fun k => impl_allWithin.f k l lo hi) (decide (∀ x ∈ l, lo ≤ x ∧ x ≤ hi)) :=
 ev_to (allWithin_l hl l.length 0 (by omega) (by omega)) (by simp)
def Asc (l : List Int) : Prop := ∀ i : Int, 0 < i → i < l.length → rd l (i - 1) < rd l i
noncomputable instance (l : List Int) : Decidable (Asc l) := Classical.propDecidable _
theorem asc_l {l : List Int} (hl : l.length ≤ 1099511627776) (d : Nat) : ∀ (i : Int), 0 < i → i + d = max 1 l.length → (∀ j, 0 < j → j < i → rd l (j - 1) < rd l j) → Ev (fun k => impl_IsAscending.l0 k l i) (decide (Asc l)) ∧ Ev (fun k => spec_IsAscending.l0 k l i) (decide (Asc l)) := by
 induction d with
 | zero =>
  intro i h0 h1 h2
  have ha : Asc l := fun j hj hj' => h2 j hj (by omega)
  constructor
  · refine Ev.step (fun k => by rw [impl_IsAscending.l0]) ?_
    simp (disch := omega) only [if_neg]
    exact ev_to (Ev.now _) (by simp [ha])
  · refine Ev.step (fun k => by rw [spec_IsAscending.l0]) ?_
    simp (disch := omega) only [if_neg]
    exact ev_to (Ev.now _) (by simp [ha])
 | succ d ih =>
  intro i h0 h1 h2
  by_cases h : rd l (i - 1) < rd l i
  · obtain ⟨a, b⟩ := ih (i + 1) (by omega) (by omega) (fun j hj hj' => by
     by_cases e : j = i
     · subst e; exact h
     · exact h2 j hj (by omega))
    constructor
    · refine Ev.step (fun k => by rw [impl_IsAscending.l0]) ?_
      simp (disch := omega) only [if_pos, if_neg, w64]
      exact a
    · refine Ev.step (fun k => by rw [spec_IsAscending.l0]) ?_
      simp (disch := omega) only [if_pos, if_neg, w64]
      exact b
  · have hn : ¬ Asc l := fun ha => h (ha i h0 (by omega))
    constructor
    · refine Ev.step (fun k => by rw [impl_IsAscending.l0]) ?_
      simp (disch := omega) only [if_pos, w64]
      exact ev_to (Ev.now _) (by simp [hn])
    · refine Ev.step (fun k => by rw [spec_IsAscending.l0]) ?_
      simp (disch := omega) only [if_pos, w64]
      exact ev_to (Ev.now _) (by simp [hn])
theorem ascI_ev {l : List Int} (hl : l.length ≤ 1099511627776) : Ev (fun k => impl_IsAscending.f k l) (decide (Asc l)) :=
 (asc_l hl (l.length - 1) 1 (by omega) (by omega) (fun j h h' => by omega)).1
theorem ascS_ev {l : List Int} (hl : l.length ≤ 1099511627776) : Ev (fun k => spec_IsAscending.f k l) (decide (Asc l)) :=
 (asc_l hl (l.length - 1) 1 (by omega) (by omega) (fun j h h' => by omega)).2
theorem l2Small_eq (n : Int) : spec_l2Small.f n = some (decide (-1000000 ≤ n ∧ n ≤ 1000000)) := by
 unfold spec_l2Small.f; rw [l1In_eq]; rfl
theorem l1Max_eq (a b : Int) : spec_l1Max.f a b = some (max a b) := by
 unfold spec_l1Max.f
 by_cases h : a > b
 · rw [if_pos h, Int.max_eq_left (by omega)]
 · rw [if_neg h, Int.max_eq_right (by omega)]
theorem mx_eq (a b : Int) : mx a b = max a b := by unfold mx; omega
theorem gcdI_l (m : Nat) : ∀ n : Nat, Ev (fun k => impl_GcdOf.l0 k (m : Int) (n : Int)) (Nat.gcd m n : Int) := by
 induction m using Nat.strongRecOn with
 | _ m ih =>
  intro n
  refine Ev.step (fun k => by rw [impl_GcdOf.l0]) ?_
  by_cases h : m = 0
  · subst h
    refine ev_ifp (by rfl) (ev_to (Ev.now _) (by simp))
  · refine ev_ifn (by omega) ?_
    rw [show Int.tmod (n : Int) (m : Int) = ((n % m : Nat) : Int) from rfl, Nat.gcd_rec]
    exact ih _ (Nat.mod_lt _ (by omega)) m
theorem gcdS_l (n : Nat) : ∀ m : Nat, Ev (fun k => spec_GcdOf.l0 k (m : Int) (n : Int)) (Nat.gcd m n : Int) := by
 induction n using Nat.strongRecOn with
 | _ n ih =>
  intro m
  refine Ev.step (fun k => by rw [spec_GcdOf.l0]) ?_
  by_cases h : n = 0
  · subst h
    refine ev_ifn (by simp) (ev_to (Ev.now _) (by simp))
  · refine ev_ifp (by omega) (ev_ifn (by omega) ?_)
    rw [show Int.tmod (m : Int) (n : Int) = ((m % n : Nat) : Int) from rfl, Nat.gcd_comm, Nat.gcd_rec, Nat.gcd_comm]
    exact ih _ (Nat.mod_lt _ (by omega)) n
def gcdOf (a b : Int) : Int := if (-1000000 ≤ a ∧ a ≤ 1000000) ∧ -1000000 ≤ b ∧ b ≤ 1000000 then (Int.gcd a b : Int) else 0
theorem abs_cast (a : Int) : max a (-a) = ((a.natAbs : Nat) : Int) := by omega
theorem gcdI_ev (a b : Int) : Ev (fun k => impl_GcdOf.f k a b) (gcdOf a b) := by
 unfold impl_GcdOf.f gcdOf
 refine ev_bind _ (allWithin_ev _ _ (by simp)) ?_
 by_cases h : (-1000000 ≤ a ∧ a ≤ 1000000) ∧ -1000000 ≤ b ∧ b ≤ 1000000
 · rw [if_pos h]
   refine ev_ifp (by simpa using h) ?_
   obtain ⟨h1, h2⟩ := h
   rw [w64 (by omega) (by omega), w64 (by omega) (by omega), mx_eq, mx_eq, abs_cast, abs_cast]
   exact gcdI_l _ _
 · rw [if_neg h]
   refine ev_ifn (by simpa using h) (Ev.now _)
theorem gcdS_ev (a b : Int) : Ev (fun k => spec_GcdOf.f k a b) (gcdOf a b) := by
 unfold spec_GcdOf.f gcdOf
 simp only [l2Small_eq, Option.bind_some]
 by_cases h1 : -1000000 ≤ a ∧ a ≤ 1000000
 · refine ev_ifp (by simpa using h1) (Ev.step (fun k => by rw [spec_GcdOf.j0]) ?_)
   by_cases h2 : -1000000 ≤ b ∧ b ≤ 1000000
   · rw [if_pos ⟨h1, h2⟩]
     refine ev_ifn (by simpa using h2) ?_
     simp only [l1Max_eq, Option.bind_some]
     rw [w64 (by omega) (by omega), w64 (by omega) (by omega), abs_cast, abs_cast]
     exact gcdS_l _ _
   · rw [if_neg (fun h => h2 h.2)]
     exact ev_ifp (nd_t h2) (Ev.now _)
 · rw [if_neg (fun h => h1 h.1)]
   refine ev_ifn (by simpa using h1) (Ev.step (fun k => by rw [spec_GcdOf.j0]) ?_)
   exact ev_ifp rfl (Ev.now _)
end Go.Proofs.Ytjjajcldmkmgkaa.E
end
