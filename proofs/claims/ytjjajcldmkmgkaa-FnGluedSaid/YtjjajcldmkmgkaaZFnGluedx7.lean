-- Bundled by shake.py from this session's printed and written texts; Lean checks it.
import Derived.Test.YtjjajcldmkmgkaaZFnGluedx1
import Derived.Test.YtjjajcldmkmgkaaZFnGluedx6
section
namespace Go.Proofs.Ytjjajcldmkmgkaa.PA
open Go.RowKit Go.Proofs.YtjjajcldmkmgkaaW.PrintWords Go.Proofs.YtjjajcldmkmgkaaW.PrintLast Go.Proofs.YtjjajcldmkmgkaaW.PrintMore
attribute [local go_sem] max2_int min2_int max_two min_two max_three min_three max_four min_four
set_option linter.unusedVariables false
set_option linter.unusedSimpArgs false
set_option maxHeartbeats 8000000
set_option maxRecDepth 100000
def spec_DrawGlueOf.f (k : Nat) (l0 : List Int) : Option (List Int × List Int × Int × Int) := (spec_l22Case.f k l0).bind fun bt468 => (some (bt468.1, bt468.2.1, bt468.2.2.1, bt468.2.2.2))
def spec_DrawGlueOf.T2 : Bool × List (List Nat × List Nat) := (true, [([], []), ([], []), ([], []), ([], []), ([0, 0], [0]), ([1, 4, 0, 1, 4], [1]), ([2, 5, 0, 1, 2, 4, 5], [2]), ([3, 6, 0, 1, 2, 3, 4, 5, 6], [3])])
def spec_DrawGlueOf.B2 : List Nat := [0, 0, 0, 0, 1, 19, 55, 127]
theorem spec_DrawGlueOf.tab2 : rtab .any (opsOf Try.f5 2) = spec_DrawGlueOf.T2 := by kernel_rfl
theorem spec_DrawGlueOf.bits2 : waitsOk spec_DrawGlueOf.T2.2 spec_DrawGlueOf.B2 = true := by kernel_rfl
theorem spec_DrawGlueOf.calls (k : Nat) (A0 : Option Addr) (c0 : Nat) (l0 : List Int) (r1 : List Int) (r2 : List Int) (r3 : Int) (r4 : Int) (w : World) (hr0 : Kd.C (Kd.int .u8) w A0 l0.length l0) (hc0 : l0.length ≤ c0) (h : spec_DrawGlueOf.f k l0 = some (r1, r2, r3, r4)) :
 Calls Try.prog 5 #[.slice A0 l0.length c0] w fun e w' => ∃ v0_ v1_ : Value, e = .returned (.tuple #[.agg #[v0_], .agg #[v1_], .int .i64 r3, .int .i64 r4]) ∧ Kd.Q (Kd.int .i64) 3 w' w.heap.size (fun k_ => some k_ ≠ (v1_ : Value).ownBlock) v0_ r1 ∧ Kd.Q (Kd.int .i64) 3 w' w.heap.size (fun k_ => some k_ ≠ (v0_ : Value).ownBlock) v1_ r2 ∧ Below w.heap.size w w' := by
 have hu26 := Try.underlying26
 have HR0 := Aside0.mk hr0
 have HC0 := Aside0.mk hc0
 clear hr0 hc0
 have HB := Aside0.mk (Below.refl w.heap.size w)
 have H := h
 clear h
 unfold spec_DrawGlueOf.f at H
 obtain ⟨⟨t468, t471, t474, t475⟩, A2, H⟩ := ob_ H
 (try dsimp only at H)
 simp only [Option.some.injEq, Prod.mk.injEq] at H
 obtain ⟨rfl, rfl, rfl, rfl⟩ := H
 go_enter Try.func5, Try.ntmps5
 try go_wp2_with (first | ((with_reducible refine gate_dst (N := 2) rfl ?_); refine bx_ 2 #[.slice none 0 0] 26 ?_; intro gb466 hg w3 hbox hb; have BK466 := Aside0.mk (hbox); have GW466 := gw_ hg HB; have GE466 := gw_ hg HB; replace HB := bo_ HB hb; clear hb hbox hg) | ((with_reducible refine gate_dst (N := 3) rfl ?_); refine bx_ 3 #[.slice none 0 0] 26 ?_; intro gb467 hg w4 hbox hb; have BK467 := Aside0.mk (hbox); have GW467 := gq_ hg (bq_ HB); have GE467 := gq_ hg (bq_ HB); replace HB := bp_ HB hb; have NB466_467 := nl_ hg BK466; have NB467_466 := ng_ hg BK466; replace BK466 := bk_ BK466 hb; clear hb hbox hg) | ((with_reducible refine gate_callee (f := 19) rfl ?_); refine gL_ (some 12) Try.func19 #[.slice A0 l0.length c0] ?_; (with_reducible refine (spec_l22Case.calls k _ _ l0 t468 t471 t474 t475 _ ?side1 ?side2 A2.out).mono ?_); (case side1 => exact ch_ HR0 HB); (case side2 => exact HC0.out); rintro e w5 ⟨v469, v472, rfl, ho0, ho1, hb⟩; refine ⟨_, rfl, ?_⟩; have HO470 := Aside0.mk (Kd.Q_lower ho0 (below_size (bq_ HB))); have HO473 := Aside0.mk (Kd.Q_lower ho1 (below_size (bq_ HB))); replace BK466 := bk_ BK466 hb; replace BK467 := bk_ BK467 hb; replace HB := bp_ HB hb; (try clear hb); (try clear ho0); (try clear ho1)) | ((with_reducible refine gate_dst (N := 6) rfl ?_); refine bx_ 6 #[.slice none 0 0] 26 ?_; intro gb476 hg w6 hbox hb; replace HO470 := Aside0.mk (Kd.Q_below (qe_ HO470.out) hb); replace HO473 := Aside0.mk (Kd.Q_below (qe_ HO473.out) hb); have BK476 := Aside0.mk (hbox); have GW476 := gq_ hg (bq_ HB); have GE476 := gq_ hg (bq_ HB); replace HB := bp_ HB hb; have NB466_476 := nl_ hg BK466; have NB476_466 := ng_ hg BK466; replace BK466 := bk_ BK466 hb; have NB467_476 := nl_ hg BK467; have NB476_467 := ng_ hg BK467; replace BK467 := bk_ BK467 hb; clear hb hbox hg) | ((with_reducible refine gate_dst (N := 7) rfl ?_); refine bx_ 7 #[.slice none 0 0] 26 ?_; intro gb477 hg w7 hbox hb; replace HO470 := Aside0.mk (Kd.Q_below (qe_ HO470.out) hb); replace HO473 := Aside0.mk (Kd.Q_below (qe_ HO473.out) hb); have BK477 := Aside0.mk (hbox); have GW477 := gq_ hg (bq_ HB); have GE477 := gq_ hg (bq_ HB); replace HB := bp_ HB hb; have NB466_477 := nl_ hg BK466; have NB477_466 := ng_ hg BK466; replace BK466 := bk_ BK466 hb; have NB467_477 := nl_ hg BK467; have NB477_467 := ng_ hg BK467; replace BK467 := bk_ BK467 hb; have NB476_477 := nl_ hg BK476; have NB477_476 := ng_ hg BK476; replace BK476 := bk_ BK476 hb; clear hb hbox hg; obtain ⟨Ao8, co8, eo8, _⟩ := Kd.Q_slice HO470.out; subst eo8; have hnb9 := NB476_466.out; have hnc9 := NB466_476.out; have hnb10 := NB476_467.out; have hnc10 := NB467_476.out; have hnb11 := NB476_477.out; have hnc11 := NB477_476.out; have hcz12_0 := cz_ BK476; have hfz12_0 := blk_frozen BK476.out 0; obtain ⟨Ao13, co13, eo13, _⟩ := Kd.Q_slice HO473.out; subst eo13; have hnb14 := NB477_466.out; have hnc14 := NB466_477.out; have hnb15 := NB477_467.out; have hnc15 := NB467_477.out; have hcz16_0 := cz_ BK477; have hfz16_0 := blk_frozen BK477.out 0))
 have n0_ : Aside0 (Kd.Q (Kd.int .i64) 3 ((w7.setCell ⟨gb476, 0, none⟩ (.slice Ao8 t468.length co8)).setCell ⟨gb477, 0, none⟩ (.slice Ao13 t471.length co13)) w.heap.size (fun k_ => some k_ ≠ (.slice Ao13 t471.length co13 : Value).ownBlock) (.slice Ao8 t468.length co8) t468) := ⟨by (with_reducible repeat (first | apply Kd.Q_alloc | apply Kd.Q_drewN | apply Kd.Q_drew)); exact Kd.Q_mono (Kd.Q_far (p := ⟨gb477, 0, none⟩) (Kd.Q_far (p := ⟨gb476, 0, none⟩) (Kd.Q_types (Kd.Q_types HO470.out BK476.out (by decide)) BK477.out (by decide)) (fun _ hk => hk.1.2) (.slice Ao8 t468.length co8)) (fun _ hk => hk.2) (.slice Ao13 t471.length co13)) (fun _ hk => hk.1.1)⟩
 have n1_ : Aside0 (Kd.Q (Kd.int .i64) 3 ((w7.setCell ⟨gb476, 0, none⟩ (.slice Ao8 t468.length co8)).setCell ⟨gb477, 0, none⟩ (.slice Ao13 t471.length co13)) w.heap.size (fun k_ => some k_ ≠ (.slice Ao8 t468.length co8 : Value).ownBlock) (.slice Ao13 t471.length co13) t471) := ⟨by (with_reducible repeat (first | apply Kd.Q_alloc | apply Kd.Q_drewN | apply Kd.Q_drew)); exact Kd.Q_mono (Kd.Q_far (p := ⟨gb477, 0, none⟩) (Kd.Q_far (p := ⟨gb476, 0, none⟩) (Kd.Q_types (Kd.Q_types HO473.out BK476.out (by decide)) BK477.out (by decide)) (fun _ hk => hk.1.2) (.slice Ao8 t468.length co8)) (fun _ hk => hk.2) (.slice Ao13 t471.length co13)) (fun _ hk => hk.1.1)⟩
 have n2_ : Aside0 (((w7.setCell ⟨gb476, 0, none⟩ (.slice Ao8 t468.length co8)).setCell ⟨gb477, 0, none⟩ (.slice Ao13 t471.length co13)).heap[gb466]? = some (.cells #[.slice none 0 0] 26 (0, 0))) := ⟨by (with_reducible repeat (first | refine blk_drewN ?_ _ | refine blk_drew ?_ | refine blk_alloc ?_ _)); refine blk_far ?_ NB466_477.out _; (with_reducible repeat (first | refine blk_drewN ?_ _ | refine blk_drew ?_ | refine blk_alloc ?_ _)); refine blk_far ?_ NB466_476.out _; (with_reducible repeat (first | refine blk_drewN ?_ _ | refine blk_drew ?_ | refine blk_alloc ?_ _)); exact BK466.out⟩
 have n3_ : Aside0 (((w7.setCell ⟨gb476, 0, none⟩ (.slice Ao8 t468.length co8)).setCell ⟨gb477, 0, none⟩ (.slice Ao13 t471.length co13)).heap[gb467]? = some (.cells #[.slice none 0 0] 26 (0, 0))) := ⟨by (with_reducible repeat (first | refine blk_drewN ?_ _ | refine blk_drew ?_ | refine blk_alloc ?_ _)); refine blk_far ?_ NB467_477.out _; (with_reducible repeat (first | refine blk_drewN ?_ _ | refine blk_drew ?_ | refine blk_alloc ?_ _)); refine blk_far ?_ NB467_476.out _; (with_reducible repeat (first | refine blk_drewN ?_ _ | refine blk_drew ?_ | refine blk_alloc ?_ _)); exact BK467.out⟩
 have n4_ : Aside0 (((w7.setCell ⟨gb476, 0, none⟩ (.slice Ao8 t468.length co8)).setCell ⟨gb477, 0, none⟩ (.slice Ao13 t471.length co13)).heap[gb476]? = some (.cells #[.slice Ao8 t468.length co8] 26 (0, 0))) := ⟨by (with_reducible repeat (first | refine blk_drewN ?_ _ | refine blk_drew ?_ | refine blk_alloc ?_ _)); refine blk_far ?_ NB476_477.out _; (with_reducible repeat (first | refine blk_drewN ?_ _ | refine blk_drew ?_ | refine blk_alloc ?_ _)); refine blk_put (cs := #[.slice none 0 0]) ?_ 0 _ rfl; (with_reducible repeat (first | refine blk_drewN ?_ _ | refine blk_drew ?_ | refine blk_alloc ?_ _)); exact BK476.out⟩
 have n5_ : Aside0 (((w7.setCell ⟨gb476, 0, none⟩ (.slice Ao8 t468.length co8)).setCell ⟨gb477, 0, none⟩ (.slice Ao13 t471.length co13)).heap[gb477]? = some (.cells #[.slice Ao13 t471.length co13] 26 (0, 0))) := ⟨by (with_reducible repeat (first | refine blk_drewN ?_ _ | refine blk_drew ?_ | refine blk_alloc ?_ _)); refine blk_put (cs := #[.slice none 0 0]) ?_ 0 _ rfl; (with_reducible repeat (first | refine blk_drewN ?_ _ | refine blk_drew ?_ | refine blk_alloc ?_ _)); refine blk_far ?_ NB477_476.out _; (with_reducible repeat (first | refine blk_drewN ?_ _ | refine blk_drew ?_ | refine blk_alloc ?_ _)); exact BK477.out⟩
 have n6_ : Aside0 (Below w.heap.size w ((w7.setCell ⟨gb476, 0, none⟩ (.slice Ao8 t468.length co8)).setCell ⟨gb477, 0, none⟩ (.slice Ao13 t471.length co13))) := ⟨bq_ HB⟩
 (try clear HO470)
 (try clear HO473)
 (try clear BK466)
 (try clear BK467)
 (try clear BK476)
 (try clear BK477)
 (try clear HB)
 generalize ((w7.setCell ⟨gb476, 0, none⟩ (.slice Ao8 t468.length co8)).setCell ⟨gb477, 0, none⟩ (.slice Ao13 t471.length co13)) = w17 at n0_ n1_ n2_ n3_ n4_ n5_ n6_ ⊢
 have HO470 := n0_
 have HO473 := n1_
 have BK466 := n2_
 have BK467 := n3_
 have BK476 := n4_
 have BK477 := n5_
 have HB := n6_
 clear n0_ n1_ n2_ n3_ n4_ n5_ n6_
 replace HO470 := Aside0.mk (Kd.Q_drew HO470.out)
 replace HO473 := Aside0.mk (Kd.Q_drew HO473.out)
 replace BK466 := Aside0.mk (blk_drew BK466.out)
 replace BK467 := Aside0.mk (blk_drew BK467.out)
 replace BK476 := Aside0.mk (blk_drew BK476.out)
 replace BK477 := Aside0.mk (blk_drew BK477.out)
 replace HB := Aside0.mk (below_drew1 HB.out)
 refine start_ (n := 8) (S := fun w' => w'.cell? ⟨gb476, 0, none⟩ = some (.slice Ao8 t468.length co8) ∧ w'.cell? ⟨gb477, 0, none⟩ = some (.slice Ao13 t471.length co13)) (ds := []) (B_ 0 8) (by kernel_rfl) rfl rfl ⟨(blk_cell BK476.out 0).trans rfl, (blk_cell BK477.out 0).trans rfl⟩ (fun hHeld => ?_); refine with_tabW spec_DrawGlueOf.tab2 spec_DrawGlueOf.bits2 (fun HT_ HW_ => ?_)
 generalize w17.drew = w18 at HO470 HO473 BK466 BK467 BK476 BK477 HB hHeld ⊢
 refine pu_ HT_ 2 19 (B_ 4 8) ?_
 refine pu_ HT_ 3 20 (B_ 12 8) ?_
 refine tk2_ HT_ HW_ hHeld 0 17 (B_ 13 8) ?_
 refine tk2_ HT_ HW_ hHeld 1 18 (B_ 15 8) ?_
 refine one_ (i := 4) (N := none) (B_ 31 8) rfl rfl (one_of HT_.out (by kernel_rfl)) (by decide) (fun K hK => ?_)
 have hs19 : w18.cell? ⟨gb466, 0, none⟩ = some (.slice none 0 0) := (blk_cell BK466.out 0).trans rfl
 have hfs19 := blk_frozen BK466.out 0
 have hns19_1 := NB467_466.out
 have hns19_2 := NB476_466.out
 have hns19_3 := NB477_466.out
 have hms19_1 := NB466_467.out
 have hms19_2 := NB466_476.out
 have hms19_3 := NB466_477.out
 refine skip_ (w1 := ?_) (by rfl) rfl ?_ ?_
 rotate_left
 · go_simp
   rfl
 refine hK.out _ _ ⟨((cell_far (p := ⟨gb466, _, none⟩) NB476_466.out _).trans (hHeld.1)), ((cell_far (p := ⟨gb466, _, none⟩) NB477_466.out _).trans (hHeld.2))⟩ (fun hHeld => ?_)
 clear hK K
 refine one_ (i := 5) (N := none) (B_ 63 8) rfl rfl (one_of HT_.out (by kernel_rfl)) (by decide) (fun K hK => ?_)
 have hs20 : w18.cell? ⟨gb467, 0, none⟩ = some (.slice none 0 0) := (blk_cell BK467.out 0).trans rfl
 have hfs20 := blk_frozen BK467.out 0
 have hns20_0 := NB466_467.out
 have hns20_2 := NB476_467.out
 have hns20_3 := NB477_467.out
 have hms20_0 := NB467_466.out
 have hms20_2 := NB467_476.out
 have hms20_3 := NB467_477.out
 refine skip_ (w1 := ?_) (by rfl) rfl ?_ ?_
 rotate_left
 · go_simp
   rfl
 refine hK.out _ _ ⟨((cell_far (p := ⟨gb467, _, none⟩) NB476_467.out _).trans (hHeld.1)), ((cell_far (p := ⟨gb467, _, none⟩) NB477_467.out _).trans (hHeld.2))⟩ (fun hHeld => ?_)
 clear hK K
 refine pu_ HT_ 6 4 (B_ 127 8) ?_
 refine pu_ HT_ 7 5 (B_ 255 8) ?_
 refine done_ (done_of HT_.out (by kernel_rfl)) ?_
 try go_wp2
 refine bodyPost_ret (results_list (rs := [.cell 2 26, .cell 3 26, .tmp 4, .tmp 5]) rfl (by simp) (.cell gb466 26 #[.slice Ao8 t468.length co8] (0, 0) _ rfl (by (with_reducible repeat (first | refine blk_drewN ?_ _ | refine blk_drew ?_ | refine blk_alloc ?_ _)); refine blk_far ?_ NB466_467.out _; (with_reducible repeat (first | refine blk_drewN ?_ _ | refine blk_drew ?_ | refine blk_alloc ?_ _)); refine blk_put (cs := #[.slice none 0 0]) ?_ 0 _ rfl; (with_reducible repeat (first | refine blk_drewN ?_ _ | refine blk_drew ?_ | refine blk_alloc ?_ _)); exact BK466.out) Try.underlying26 rfl (by kernel_rfl) (.cell gb467 26 #[.slice Ao13 t471.length co13] (0, 0) _ rfl (by (with_reducible repeat (first | refine blk_drewN ?_ _ | refine blk_drew ?_ | refine blk_alloc ?_ _)); refine blk_put (cs := #[.slice none 0 0]) ?_ 0 _ rfl; (with_reducible repeat (first | refine blk_drewN ?_ _ | refine blk_drew ?_ | refine blk_alloc ?_ _)); refine blk_far ?_ NB467_466.out _; (with_reducible repeat (first | refine blk_drewN ?_ _ | refine blk_drew ?_ | refine blk_alloc ?_ _)); exact BK467.out) Try.underlying26 rfl (by kernel_rfl) (.tmp (.tmp .nil))))) rfl ?_
 exact ⟨_, _, rf_, by (with_reducible repeat (first | apply Kd.Q_alloc | apply Kd.Q_drewN | apply Kd.Q_drew)); exact Kd.Q_mono (Kd.Q_far (p := ⟨gb467, 0, none⟩) (Kd.Q_far (p := ⟨gb466, 0, none⟩) (Kd.Q_types (Kd.Q_types HO470.out BK466.out (by decide)) BK467.out (by decide)) (fun _ hk => hk.1.2) (.slice Ao8 t468.length co8)) (fun _ hk => hk.2) (.slice Ao13 t471.length co13)) (fun _ hk => hk.1.1), by (with_reducible repeat (first | apply Kd.Q_alloc | apply Kd.Q_drewN | apply Kd.Q_drew)); exact Kd.Q_mono (Kd.Q_far (p := ⟨gb467, 0, none⟩) (Kd.Q_far (p := ⟨gb466, 0, none⟩) (Kd.Q_types (Kd.Q_types HO473.out BK466.out (by decide)) BK467.out (by decide)) (fun _ hk => hk.1.2) (.slice Ao8 t468.length co8)) (fun _ hk => hk.2) (.slice Ao13 t471.length co13)) (fun _ hk => hk.1.1), bq_ HB⟩
def impl_within.f (a0 : Int) (a1 : Int) (a2 : Int) : Option (Bool) := if a0 ≥ a1 then (some (decide (a0 ≤ a2))) else (some false)
theorem impl_within.calls (a0 : Int) (a1 : Int) (a2 : Int) (r : Bool) (w : World) (h : impl_within.f a0 a1 a2 = some r) :
 Calls Try.prog 22 #[.int .i64 a0, .int .i64 a1, .int .i64 a2] w fun e w' => e = .returned (.bool r) ∧ Drawn0 w w' := by
 have H := h
 clear h
 unfold impl_within.f at H
 by_cases c4 : a0 ≥ a1
 rotate_left
 · rw [if_neg c4] at H
   have c4b0 : decide (a1 ≤ a0) = false := decide_eq_false c4
   clear c4
   obtain rfl := Option.some.inj H
   go_enter Try.func22, Try.ntmps22
   go_wp2
   go_ret
   exact ⟨by first | rfl | (simp; done) | (simp [*]; done), by repeat (first | exact Drawn0.refl _ | apply Drawn0.step)⟩
 rw [if_pos c4] at H
 have c4b0 : decide (a1 ≤ a0) = true := decide_eq_true c4
 clear c4
 obtain rfl := Option.some.inj H
 go_enter Try.func22, Try.ntmps22
 go_wp2
 go_ret
 exact ⟨by first | rfl | (simp; done) | (simp [*]; done), by repeat (first | exact Drawn0.refl _ | apply Drawn0.step)⟩
def impl_allWithin.l0 : Nat → Int → Int → List Int → Int → Int → Option (Bool)
 | 0, _, _, _, _, _ => none
 | k + 1, x1, x2, x9, x10, x11 => if x11 < x10 then (if 0 ≤ x11 then (if x11 < (x9.length : Int) then ((impl_within.f (rd x9 x11) x1 x2).bind fun t479 => (if t479 = true then (impl_allWithin.l0 k x1 x2 x9 x10 (wrap64 (x11 + 1))) else (some false))) else (none)) else (none)) else (some true)
def impl_allWithin.f (k : Nat) (l0 : List Int) (a1 : Int) (a2 : Int) : Option (Bool) := impl_allWithin.l0 k a1 a2 l0 (l0.length : Int) 0
theorem impl_allWithin.calls (k : Nat) (A0 : Option Addr) (c0 : Nat) (l0 : List Int) (a1 : Int) (a2 : Int) (r : Bool) (w : World) (hr0 : Kd.C (Kd.int .i64) w A0 l0.length l0) (hc0 : l0.length ≤ c0) (h : impl_allWithin.f k l0 a1 a2 = some r) :
 Calls Try.prog 56 #[.slice A0 l0.length c0, .int .i64 a1, .int .i64 a2] w fun e w' => e = .returned (.bool r) ∧ Drawn0 w w' := by
 have HR0 := Aside0.mk hr0
 have HC0 := Aside0.mk hc0
 clear hr0 hc0
 have H := h
 clear h
 unfold impl_allWithin.f at H
 have H' := Aside0.mk H
 clear H
 go_enter Try.func56, Try.ntmps56
 go_wp2
 go_loopg [11] k (fun kq v11 w' => ∃ (x11_1 : Int), v11 = .int .i64 x11_1 ∧ Aside0 (impl_allWithin.l0 kq a1 a2 l0 (l0.length : Int) x11_1 = some r) ∧ Aside0 (kq ≤ k) ∧ Drawn0 w w')
 case atStart => exact ⟨(0), rs_, H', ⟨Nat.le_refl _⟩, by repeat (first | exact Drawn0.refl _ | apply Drawn0.step)⟩
 case round =>
  clear H'
  try clear p2
  obtain ⟨x11_1, rfl, HA, HK1, ⟨m1, rfl⟩⟩ := hrel
  cases gk with
  | zero => exact absurd HA.out (by simp [impl_allWithin.l0])
  | succ k1 =>
   have H := HA.out
   clear HA
   simp only [impl_allWithin.l0] at H
   by_cases c4 : x11_1 < (l0.length : Int)
   rotate_left
   · rw [if_neg c4] at H
     have c4b0 : decide (x11_1 < (l0.length : Int)) = false := decide_eq_false c4
     clear c4
     obtain rfl := Option.some.inj H
     go_wp2
     go_ret
     exact ⟨by first | rfl | (simp; done) | (simp [*]; done), by repeat (first | exact Drawn0.refl _ | apply Drawn0.step)⟩
   rw [if_pos c4] at H
   have c4b0 : decide (x11_1 < (l0.length : Int)) = true := decide_eq_true c4
   clear c4
   by_cases c5 : 0 ≤ x11_1
   rotate_left
   · rw [if_neg c5] at H
     cases H
   rw [if_pos c5] at H
   have c5b0 : decide (0 ≤ x11_1) = true := decide_eq_true c5
   clear c5
   by_cases c6 : x11_1 < (l0.length : Int)
   rotate_left
   · rw [if_neg c6] at H
     cases H
   rw [if_pos c6] at H
   have c6b0 : decide (x11_1 < (l0.length : Int)) = true := decide_eq_true c6
   clear c6
   obtain ⟨t479, A7, H⟩ := ob_ H
   by_cases c8 : t479 = true
   rotate_left
   · replace c8 := Bool.eq_false_iff.mpr c8
     subst c8
     rw [if_neg (show ¬ (false = true) by decide)] at H
     obtain rfl := Option.some.inj H
     have p478 : 0 ≤ (x11_1 : Int) := od_
     have q478 : x11_1 < (l0.length : Int) := od_
     obtain ⟨ad478, e478, hx478_0⟩ := Kd.at_int HR0.out x11_1 p478 q478
     cases e478
     replace p478 := eq_true p478
     replace q478 := eq_true q478
     go_wp2_with (first | ((with_reducible refine gate_callee (f := 22) rfl ?_); refine gL_ (some 18) Try.func22 #[.int .i64 (rd l0 x11_1), .int .i64 a1, .int .i64 a2] ?_; (with_reducible refine (impl_within.calls (rd l0 x11_1) a1 a2 false _ A7.out).mono ?_); rintro e w' ⟨rfl, ⟨nd, rfl⟩⟩; refine ⟨_, rfl, ?_⟩))
     go_ret
     exact ⟨by first | rfl | (simp; done) | (simp [*]; done), by repeat (first | exact Drawn0.refl _ | apply Drawn0.step)⟩
   subst c8
   rw [if_pos rfl] at H
   have H' := Aside0.mk H
   clear H
   have p478 : 0 ≤ (x11_1 : Int) := od_
   have q478 : x11_1 < (l0.length : Int) := od_
   obtain ⟨ad478, e478, hx478_0⟩ := Kd.at_int HR0.out x11_1 p478 q478
   cases e478
   replace p478 := eq_true p478
   replace q478 := eq_true q478
   go_wp2_with (first | ((with_reducible refine gate_callee (f := 22) rfl ?_); refine gL_ (some 18) Try.func22 #[.int .i64 (rd l0 x11_1), .int .i64 a1, .int .i64 a2] ?_; (with_reducible refine (impl_within.calls (rd l0 x11_1) a1 a2 true _ A7.out).mono ?_); rintro e w' ⟨rfl, ⟨nd, rfl⟩⟩; refine ⟨_, rfl, ?_⟩))
   go_roundg k1
   case measure => have := HK1.out; omega
   case rel => exact ⟨(wrap64 (x11_1 + 1)), rs_, H', ⟨by have := HK1.out; omega⟩, by repeat (first | exact Drawn0.refl _ | apply Drawn0.step)⟩
def impl_GcdOf.l0 : Nat → Int → Int → Option (Int)
 | 0, _, _ => none
 | k + 1, x0, x1 => if x0 = 0 then (some x1) else (impl_GcdOf.l0 k (Int.tmod x1 x0) x0)
def impl_GcdOf.f (k : Nat) (a0 : Int) (a1 : Int) : Option (Int) := (impl_allWithin.f k (([a0, a1] : List Int)) (-1000000) 1000000).bind fun t483 => (if t483 = true then (impl_GcdOf.l0 k (mx a0 (wrap64 (-a0))) (mx a1 (wrap64 (-a1)))) else (some 0))
theorem impl_GcdOf.calls (k : Nat) (a0 : Int) (a1 : Int) (r : Int) (w : World) (h : impl_GcdOf.f k a0 a1 = some r) :
 Calls Try.prog 23 #[.int .i64 a0, .int .i64 a1] w fun e w' => e = .returned (.int .i64 r) ∧ Below w.heap.size w w' := by
 have HB := Aside0.mk (Below.refl w.heap.size w)
 have H := h
 clear h
 unfold impl_GcdOf.f at H
 obtain ⟨y480, hy480⟩ : ∃ y_ : List Int, y_ = (([a0, a1] : List Int)) := ⟨_, rfl⟩
 replace H : ((impl_allWithin.f k y480 (-1000000) 1000000).bind fun t483 => (if t483 = true then (impl_GcdOf.l0 k (mx a0 (wrap64 (-a0))) (mx a1 (wrap64 (-a1)))) else (some 0))) = some r := by subst hy480; exact H
 have Ny480 := Aside0.mk hy480
 clear hy480
 obtain ⟨t483, A3, H⟩ := ob_ H
 by_cases c4 : t483 = true
 rotate_left
 · replace c4 := Bool.eq_false_iff.mpr c4
   subst c4
   rw [if_neg (show ¬ (false = true) by decide)] at H
   obtain rfl := Option.some.inj H
   go_enter Try.func23, Try.ntmps23
   go_wp2_with (first | ((with_reducible refine gate_dst (N := 7) rfl ?_); refine Kd.R_lit (Kd.int .i64) _ 3 ?hg (N := 7) ?hd (xs := ([a0, a1] : List Int)) (inner := [.int .i64 a0, .int .i64 a1]) (ok := fun _ => True) (okp := fun _ => True) ?hr ?hp (fun _ hk => hk) trivial (Below.refl _ _) (Nat.le_refl _) (by simp) ?_; (case hd => rfl); (case hg => rfl); (case hr => first | (go_simp; done) | (go_simp; rfl)); (case hp => exact (Reps.one (show Kd.M (Kd.int .i64) _ _ _ a0 [.int .i64 a0] from rfl) (Reps.one (show Kd.M (Kd.int .i64) _ _ _ a1 [.int .i64 a1] from rfl) (Reps.none _ _)))); intro v481 w11 ho12 hb hg_ hnew_; clear hg_ hnew_; (first | rw [← Ny480.out] at ho12 | (simp only [Int.reduceToNat] at ho12; rw [← Ny480.out] at ho12)); have HO482 := Aside0.mk (Kd.R_lower ho12 (below_size (bl_ HB.out))); replace HB := bo_ HB hb; clear hb ho12; obtain ⟨Ao13, co13, eo13⟩ := Kd.R_slice HO482.out; subst eo13) | ((with_reducible refine gate_callee (f := 56) rfl ?_); refine gL_ (some 8) Try.func56 #[.slice Ao13 y480.length co13, .int .i64 (-1000000), .int .i64 1000000] ?_; (with_reducible refine (impl_allWithin.calls k _ _ y480 (-1000000) 1000000 false _ ?side1 ?side2 A3.out).mono ?_); (case side1 => exact ce_ ((Kd.R_reads' HO482.out).2.2)); (case side2 => exact (Kd.R_reads' HO482.out).2.1); rintro e w' ⟨rfl, ⟨nd, rfl⟩⟩; refine ⟨_, rfl, ?_⟩))
   go_ret
   exact ⟨rf_, bl_ HB.out⟩
 subst c4
 rw [if_pos rfl] at H
 obtain ⟨ji5, hji5⟩ : ∃ j_ : Int, (mx a0 (wrap64 (-a0))) = j_ := ⟨_, rfl⟩
 replace H : (impl_GcdOf.l0 k ji5 (mx a1 (wrap64 (-a1)))) = some r := by first | (rw [hji5] at H; exact H) | (simp only [hji5] at H ⊢; exact H)
 (try rw [hji5] at A3)
 have hji5_ : (if a0 < (wrap64 (-a0)) then (wrap64 (-a0)) else a0) = ji5 := hji5
 obtain ⟨ji6, hji6⟩ : ∃ j_ : Int, (mx a1 (wrap64 (-a1))) = j_ := ⟨_, rfl⟩
 replace H : (impl_GcdOf.l0 k ji5 ji6) = some r := by first | (rw [hji6] at H; exact H) | (simp only [hji6] at H ⊢; exact H)
 (try rw [hji6] at A3)
 have hji6_ : (if a1 < (wrap64 (-a1)) then (wrap64 (-a1)) else a1) = ji6 := hji6
 have H' := Aside0.mk H
 clear H
 go_enter Try.func23, Try.ntmps23
 go_wp2_with (first | ((with_reducible refine gate_dst (N := 7) rfl ?_); refine Kd.R_lit (Kd.int .i64) _ 3 ?hg (N := 7) ?hd (xs := ([a0, a1] : List Int)) (inner := [.int .i64 a0, .int .i64 a1]) (ok := fun _ => True) (okp := fun _ => True) ?hr ?hp (fun _ hk => hk) trivial (Below.refl _ _) (Nat.le_refl _) (by simp) ?_; (case hd => rfl); (case hg => rfl); (case hr => first | (go_simp; done) | (go_simp; rfl)); (case hp => exact (Reps.one (show Kd.M (Kd.int .i64) _ _ _ a0 [.int .i64 a0] from rfl) (Reps.one (show Kd.M (Kd.int .i64) _ _ _ a1 [.int .i64 a1] from rfl) (Reps.none _ _)))); intro v481 w7 ho8 hb hg_ hnew_; clear hg_ hnew_; (first | rw [← Ny480.out] at ho8 | (simp only [Int.reduceToNat] at ho8; rw [← Ny480.out] at ho8)); have HO482 := Aside0.mk (Kd.R_lower ho8 (below_size (bl_ HB.out))); replace HB := bo_ HB hb; clear hb ho8; obtain ⟨Ao9, co9, eo9⟩ := Kd.R_slice HO482.out; subst eo9) | ((with_reducible refine gate_callee (f := 56) rfl ?_); refine gL_ (some 8) Try.func56 #[.slice Ao9 y480.length co9, .int .i64 (-1000000), .int .i64 1000000] ?_; (with_reducible refine (impl_allWithin.calls k _ _ y480 (-1000000) 1000000 true _ ?side1 ?side2 A3.out).mono ?_); (case side1 => exact ce_ ((Kd.R_reads' HO482.out).2.2)); (case side2 => exact (Kd.R_reads' HO482.out).2.1); rintro e w' ⟨rfl, ⟨nd, rfl⟩⟩; refine ⟨_, rfl, ?_⟩))
 go_loopg [0, 1] k (fun kq v0 v1 w' => ∃ (x0_1 : Int) (x1_1 : Int), v0 = .int .i64 x0_1 ∧ v1 = .int .i64 x1_1 ∧ Aside0 (impl_GcdOf.l0 kq x0_1 x1_1 = some r) ∧ Aside0 (kq ≤ k) ∧ Aside0 (Below w.heap.size w w'))
 case atStart => exact ⟨(ji5), (ji6), (by first | rfl | (simp; done) | (simp only [← hji5] <;> (first | rfl | simp)) | (simp [*]; done)), (by first | rfl | (simp; done) | (simp only [← hji6] <;> (first | rfl | simp)) | (simp [*]; done)), H', ⟨Nat.le_refl _⟩, ⟨bl_ HB.out⟩⟩
 case round =>
  clear H'
  try clear c2
  try clear p2
  try clear c4
  try clear c5
  try clear p6
  obtain ⟨x0_1, x1_1, rfl, rfl, HA, HK1, HB⟩ := hrel
  cases gk with
  | zero => exact absurd HA.out (by simp [impl_GcdOf.l0])
  | succ k1 =>
   have H := HA.out
   clear HA
   simp only [impl_GcdOf.l0] at H
   by_cases c10 : x0_1 = 0
   · rw [if_pos c10] at H
     have c10b0 : (x0_1 == 0) = true := beq_iff_eq.mpr c10
     have c10b1 : (x0_1 != 0) = false := bne_eq_false_iff_eq.mpr c10
     clear c10
     obtain rfl := Option.some.inj H
     go_wp2
     go_ret
     exact ⟨by first | rfl | (simp [errW_none, errW_some] <;> rfl) | (simp only [← hji5, ← hji6]; first | rfl | (simp [errW_none, errW_some] <;> rfl)) | (simp [*, errW_none, errW_some] <;> rfl), bl_ HB.out⟩
   rw [if_neg c10] at H
   have c10b0 : (x0_1 == 0) = false := beq_eq_false_iff_ne.mpr c10
   have c10b1 : (x0_1 != 0) = true := bne_iff_ne.mpr c10
   have H' := Aside0.mk H
   clear H
   go_wp2
   go_roundg k1
   case measure => have := HK1.out; omega
   case rel => exact ⟨(Int.tmod x1_1 x0_1), (x0_1), rs_, rs_, H', ⟨by have := HK1.out; omega⟩, ⟨bl_ HB.out⟩⟩
def impl_GcdOfList.l0 : Nat → Int → List Int → Int → Int → Option (Int)
 | 0, _, _, _, _ => none
 | k + 1, x3, x6, x7, x8 => if x8 < x7 then (if 0 ≤ x8 then (if x8 < (x6.length : Int) then ((impl_GcdOf.f k x3 (rd x6 x8)).bind fun t485 => (impl_GcdOfList.l0 k t485 x6 x7 (wrap64 (x8 + 1)))) else (none)) else (none)) else (some x3)
def impl_GcdOfList.f (k : Nat) (l0 : List Int) : Option (Int) := impl_GcdOfList.l0 k 0 l0 (l0.length : Int) 0
theorem impl_GcdOfList.calls (k : Nat) (A0 : Option Addr) (c0 : Nat) (l0 : List Int) (r : Int) (w : World) (hr0 : Kd.C (Kd.int .i64) w A0 l0.length l0) (hc0 : l0.length ≤ c0) (h : impl_GcdOfList.f k l0 = some r) :
 Calls Try.prog 33 #[.slice A0 l0.length c0] w fun e w' => e = .returned (.int .i64 r) ∧ Below w.heap.size w w' := by
 have HR0 := Aside0.mk hr0
 have HC0 := Aside0.mk hc0
 clear hr0 hc0
 have HB := Aside0.mk (Below.refl w.heap.size w)
 have H := h
 clear h
 unfold impl_GcdOfList.f at H
 have H' := Aside0.mk H
 clear H
 go_enter Try.func33, Try.ntmps33
 go_wp2
 go_loopg [3, 8] k (fun kq v3 v8 w' => ∃ (x3_1 : Int) (x8_1 : Int), v3 = .int .i64 x3_1 ∧ v8 = .int .i64 x8_1 ∧ Aside0 (impl_GcdOfList.l0 kq x3_1 l0 (l0.length : Int) x8_1 = some r) ∧ Aside0 (kq ≤ k) ∧ Aside0 (Below w.heap.size w w'))
 case atStart => exact ⟨(0), (0), rs_, rs_, H', ⟨Nat.le_refl _⟩, ⟨bl_ HB.out⟩⟩
 case round =>
  clear H'
  obtain ⟨x3_1, x8_1, rfl, rfl, HA, HK1, HB⟩ := hrel
  cases gk with
  | zero => exact absurd HA.out (by simp [impl_GcdOfList.l0])
  | succ k1 =>
   have H := HA.out
   clear HA
   simp only [impl_GcdOfList.l0] at H
   by_cases c2 : x8_1 < (l0.length : Int)
   rotate_left
   · rw [if_neg c2] at H
     have c2b0 : decide (x8_1 < (l0.length : Int)) = false := decide_eq_false c2
     clear c2
     obtain rfl := Option.some.inj H
     go_wp2
     go_ret
     exact ⟨rf_, bl_ HB.out⟩
   rw [if_pos c2] at H
   have c2b0 : decide (x8_1 < (l0.length : Int)) = true := decide_eq_true c2
   clear c2
   by_cases c3 : 0 ≤ x8_1
   rotate_left
   · rw [if_neg c3] at H
     cases H
   rw [if_pos c3] at H
   have c3b0 : decide (0 ≤ x8_1) = true := decide_eq_true c3
   clear c3
   by_cases c4 : x8_1 < (l0.length : Int)
   rotate_left
   · rw [if_neg c4] at H
     cases H
   rw [if_pos c4] at H
   have c4b0 : decide (x8_1 < (l0.length : Int)) = true := decide_eq_true c4
   clear c4
   obtain ⟨t485, A5, H⟩ := ob_ H
   have H' := Aside0.mk H
   clear H
   have p484 : 0 ≤ (x8_1 : Int) := od_
   have q484 : x8_1 < (l0.length : Int) := od_
   obtain ⟨ad484, e484, hx484_0⟩ := Kd.at_int HR0.out x8_1 p484 q484
   cases e484
   (try replace hx484_0 := (HB.out.cell (World.block_lt_of_cell? w _ hx484_0)).trans hx484_0)
   replace p484 := eq_true p484
   replace q484 := eq_true q484
   go_wp2_with (first | ((with_reducible refine gate_callee (f := 23) rfl ?_); refine gL_ (some 14) Try.func23 #[.int .i64 x3_1, .int .i64 (rd l0 x8_1)] ?_; (with_reducible refine (impl_GcdOf.calls k1 x3_1 (rd l0 x8_1) t485 _ A5.out).mono ?_); rintro e w6 ⟨rfl, hb⟩; refine ⟨_, rfl, ?_⟩; replace HB := bo_ HB hb; (try clear hb)))
   go_roundg k1
   case measure => have := HK1.out; omega
   case rel => exact ⟨(t485), (wrap64 (x8_1 + 1)), rs_, rs_, H', ⟨by have := HK1.out; omega⟩, ⟨bl_ HB.out⟩⟩
def impl_usable.f (k : Nat) (l0 : List Int) : Option (Bool) := (impl_within.f (l0.length : Int) 1 20).bind fun t486 => (if t486 = true then ((impl_allWithin.f k l0 1 60).bind fun t487 => (some t487)) else (some false))
theorem impl_usable.calls (k : Nat) (A0 : Option Addr) (c0 : Nat) (l0 : List Int) (r : Bool) (w : World) (hr0 : Kd.C (Kd.int .i64) w A0 l0.length l0) (hc0 : l0.length ≤ c0) (h : impl_usable.f k l0 = some r) :
 Calls Try.prog 32 #[.slice A0 l0.length c0] w fun e w' => e = .returned (.bool r) ∧ Drawn0 w w' := by
 have HR0 := Aside0.mk hr0
 have HC0 := Aside0.mk hc0
 clear hr0 hc0
 have H := h
 clear h
 unfold impl_usable.f at H
 obtain ⟨t486, A2, H⟩ := ob_ H
 by_cases c3 : t486 = true
 rotate_left
 · replace c3 := Bool.eq_false_iff.mpr c3
   subst c3
   rw [if_neg (show ¬ (false = true) by decide)] at H
   obtain rfl := Option.some.inj H
   go_enter Try.func32, Try.ntmps32
   go_wp2_with (first | ((with_reducible refine gate_callee (f := 22) rfl ?_); refine gL_ (some 5) Try.func22 #[.int .i64 (l0.length : Int), .int .i64 1, .int .i64 20] ?_; (with_reducible refine (impl_within.calls (l0.length : Int) 1 20 false _ A2.out).mono ?_); rintro e w' ⟨rfl, ⟨nd, rfl⟩⟩; refine ⟨_, rfl, ?_⟩))
   go_ret
   exact ⟨by first | rfl | (simp; done) | (simp [*]; done), by repeat (first | exact Drawn0.refl _ | apply Drawn0.step)⟩
 subst c3
 rw [if_pos rfl] at H
 obtain ⟨t487, A4, H⟩ := ob_ H
 obtain rfl := Option.some.inj H
 go_enter Try.func32, Try.ntmps32
 go_wp2_with (first | ((with_reducible refine gate_callee (f := 22) rfl ?_); refine gL_ (some 5) Try.func22 #[.int .i64 (l0.length : Int), .int .i64 1, .int .i64 20] ?_; (with_reducible refine (impl_within.calls (l0.length : Int) 1 20 true _ A2.out).mono ?_); rintro e w' ⟨rfl, ⟨nd, rfl⟩⟩; refine ⟨_, rfl, ?_⟩) | (go_at_call 56; (with_reducible refine (impl_allWithin.calls k _ _ l0 1 60 t487 _ ?side1 ?side2 A4.out).mono ?_); (case side1 => exact ce_ (HR0.out)); (case side2 => exact HC0.out); rintro e w' ⟨rfl, ⟨nd, rfl⟩⟩))
 go_ret
 exact ⟨by first | rfl | (simp; done) | (simp [*]; done), by repeat (first | exact Drawn0.refl _ | apply Drawn0.step)⟩
mutual
def impl_leasts.l0 : Nat → List Int → Int → List Int → Int → Int → Option (List Int)
 | 0, _, _, _, _, _ => none
 | k + 1, x0, x1, x5, x16, x17 => if x17 < x16 then (if 0 ≤ x17 then (if x17 < (x5.length : Int) then (impl_leasts.l0 k x0 x1 (x5.set (x17 : Int).toNat (-1)) x16 (wrap64 (x17 + 1))) else (none)) else (none)) else (if 0 < (x5.length : Int) then (impl_leasts.l1 k x0 x1 (x5.set (0 : Int).toNat 0) true) else (none))
def impl_leasts.l1 : Nat → List Int → Int → List Int → Bool → Option (List Int)
 | 0, _, _, _, _ => none
 | k + 1, x0, x1, x5, x7 => if x7 = true then (impl_leasts.l2 k x0 x1 x5 false (x5.length : Int) 0) else (some x5)
def impl_leasts.l2 : Nat → List Int → Int → List Int → Bool → Int → Int → Option (List Int)
 | 0, _, _, _, _, _, _ => none
 | k + 1, x0, x1, x5, x7, x28, x29 => if x29 < x28 then (if 0 ≤ x29 then (if x29 < (x5.length : Int) then (if (rd x5 x29) < 0 then (impl_leasts.l2 k x0 x1 x5 x7 x28 (wrap64 (x29 + 1))) else (impl_leasts.l3 k x0 x1 x5 x7 x29 (rd x5 x29) x28 x29 x0 (x0.length : Int) 0)) else (none)) else (none)) else (impl_leasts.l1 k x0 x1 x5 x7)
def impl_leasts.l3 : Nat → List Int → Int → List Int → Bool → Int → Int → Int → Int → List Int → Int → Int → Option (List Int)
 | 0, _, _, _, _, _, _, _, _, _, _, _ => none
 | k + 1, x0, x1, x5, x7, x8, x9, x28, x29, x36, x37, x38 => if x38 < x37 then (if 0 ≤ x38 then (if x38 < (x36.length : Int) then (if x1 = 0 then (none) else (if 0 ≤ (Int.tmod (wrap64 (x8 + (rd x36 x38))) x1) then (if (Int.tmod (wrap64 (x8 + (rd x36 x38))) x1) < (x5.length : Int) then (if (rd x5 (Int.tmod (wrap64 (x8 + (rd x36 x38))) x1)) < 0 then (impl_leasts.l3 k x0 x1 (x5.set ((Int.tmod (wrap64 (x8 + (rd x36 x38))) x1) : Int).toNat (wrap64 (x9 + (rd x36 x38)))) true x8 x9 x28 x29 x36 x37 (wrap64 (x38 + 1))) else (if (wrap64 (x9 + (rd x36 x38))) < (rd x5 (Int.tmod (wrap64 (x8 + (rd x36 x38))) x1)) then (impl_leasts.l3 k x0 x1 (x5.set ((Int.tmod (wrap64 (x8 + (rd x36 x38))) x1) : Int).toNat (wrap64 (x9 + (rd x36 x38)))) true x8 x9 x28 x29 x36 x37 (wrap64 (x38 + 1))) else (impl_leasts.l3 k x0 x1 x5 x7 x8 x9 x28 x29 x36 x37 (wrap64 (x38 + 1))))) else (none)) else (none))) else (none)) else (none)) else (impl_leasts.l2 k x0 x1 x5 x7 x28 (wrap64 (x29 + 1)))
end
def impl_leasts.f (k : Nat) (l0 : List Int) (a1 : Int) : Option (List Int) := if 0 ≤ a1 then (if (a1 : Int).toNat ≤ 35184372088832 then ((some (List.replicate (a1 : Int).toNat 0 : List Int)).bind fun y488 => (impl_leasts.l0 k l0 a1 y488 (y488.length : Int) 0)) else (none)) else (none)
theorem impl_leasts.calls (k : Nat) (A0 : Option Addr) (c0 : Nat) (l0 : List Int) (a1 : Int) (r : List Int) (w : World) (hr0 : Kd.C (Kd.int .i64) w A0 l0.length l0) (hc0 : l0.length ≤ c0) (h : impl_leasts.f k l0 a1 = some r) :
 Calls Try.prog 54 #[.slice A0 l0.length c0, .int .i64 a1] w fun e w' => ∃ v0_ : Value, e = .returned (v0_) ∧ Kd.R (Kd.int .i64) 3 w' w.heap.size (fun _ => True) v0_ r ∧ Below w.heap.size w w' := by
 have HR0 := Aside0.mk hr0
 have HC0 := Aside0.mk hc0
 clear hr0 hc0
 have HB := Aside0.mk (Below.refl w.heap.size w)
 have H := h
 clear h
 unfold impl_leasts.f at H
 by_cases c3 : 0 ≤ a1
 rotate_left
 · rw [if_neg c3] at H
   cases H
 rw [if_pos c3] at H
 have c3b0 := eq_true c3
 have c3b1 : decide (0 ≤ a1) = true := decide_eq_true c3
 clear c3
 by_cases c4 : (a1 : Int).toNat ≤ 35184372088832
 rotate_left
 · rw [if_neg c4] at H
   cases H
 rw [if_pos c4] at H
 have c4b0 := eq_true c4
 have c4b1 : decide ((a1 : Int).toNat ≤ 35184372088832) = true := decide_eq_true c4
 clear c4
 obtain ⟨y488, hy488⟩ : ∃ y_ : List Int, y_ = (List.replicate (a1 : Int).toNat 0) := ⟨_, rfl⟩
 replace H : (impl_leasts.l0 k l0 a1 y488 (y488.length : Int) 0) = some r := by subst hy488; exact H
 have Ny488 := Aside0.mk hy488
 clear hy488
 have H' := Aside0.mk H
 clear H
 go_enter Try.func54, Try.ntmps54
 go_wp2_with (first | ((with_reducible refine gate_dst (N := 14) rfl ?_); refine Kd.R_make (Kd.int .i64) _ 3 rfl (N := 14) rfl 24 _ _ rfl a1 rfl rfl Try.underlying24 (.int .i64 0) 8 info3 rfl (by decide) (by omega) 0 (ok := fun _ => True) (okp := fun _ => True) rfl (fun _ hk => hk) trivial (od_) (Nat.le_trans (Nat.mul_le_mul_right _ (od_ : a1.toNat ≤ 35184372088832)) (by omega)) (Below.refl _ _) (Nat.le_refl _) ?_; intro v489 w5 ho6 hb hg_ hnew_; clear hg_ hnew_; (first | rw [← Ny488.out] at ho6 | (simp only [Int.reduceToNat] at ho6; rw [← Ny488.out] at ho6)); have HO490 := Aside0.mk (Kd.R_lower ho6 (below_size (bl_ HB.out))); replace HB := bo_ HB hb; clear hb ho6; obtain ⟨Ao7, co7, eo7⟩ := Kd.R_slice HO490.out; subst eo7))
 go_loopg [17] k (fun kq v17 w' => ∃ (x5_1 : List Int) (x17_1 : Int), v17 = .int .i64 x17_1 ∧ Aside0 (impl_leasts.l0 kq l0 a1 x5_1 (y488.length : Int) x17_1 = some r) ∧ Aside0 (kq ≤ k) ∧ Aside0 (Kd.R (Kd.int .i64) 3 w' w.heap.size (fun _ => True) (.slice Ao7 y488.length co7) x5_1) ∧ Aside0 (Below w.heap.size w w'))
 case atStart => exact ⟨(y488), (0), rs_, H', ⟨Nat.le_refl _⟩, ⟨re_ HO490.out⟩, ⟨bl_ HB.out⟩⟩
 case round =>
  clear H'
  try clear p2
  try clear c3
  try clear c3b0
  try clear c3b1
  try clear c4
  try clear c4b0
  try clear c4b1
  try clear c5
  obtain ⟨x5_1, x17_1, rfl, HA, HK1, HO_5, HB⟩ := hrel
  have hl5_1 := (Kd.R_reads' HO_5.out).1
  rw [hl5_1] at HO_5
  (try simp only [hl5_1])
  cases gk with
  | zero => exact absurd HA.out (by simp [impl_leasts.l0])
  | succ k1 =>
   have H := HA.out
   clear HA
   simp only [impl_leasts.l0] at H
   by_cases c8 : x17_1 < (y488.length : Int)
   · rw [if_pos c8] at H
     have c8b0 : decide (x17_1 < (y488.length : Int)) = true := decide_eq_true c8
     (try (have c8h := c8b0; simp only [hl5_1] at c8h))
     clear c8
     by_cases c9 : 0 ≤ x17_1
     rotate_left
     · rw [if_neg c9] at H
       cases H
     rw [if_pos c9] at H
     have c9b0 : decide (0 ≤ x17_1) = true := decide_eq_true c9
     clear c9
     by_cases c10 : x17_1 < (x5_1.length : Int)
     rotate_left
     · rw [if_neg c10] at H
       cases H
     rw [if_pos c10] at H
     have c10b0 : decide (x17_1 < (x5_1.length : Int)) = true := decide_eq_true c10
     (try (have c10h := c10b0; simp only [hl5_1] at c10h))
     clear c10
     obtain ⟨y491, hy491⟩ : ∃ y_ : List Int, y_ = (x5_1.set (x17_1 : Int).toNat (-1)) := ⟨_, rfl⟩
     replace H : (impl_leasts.l0 k1 l0 a1 y491 (y488.length : Int) (wrap64 (x17_1 + 1))) = some r := by subst hy491; exact H
     have Ny491 := Aside0.mk hy491
     clear hy491
     have H' := Aside0.mk H
     clear H
     have p11 : 0 ≤ (x17_1 : Int) := od_
     have q11 : (x17_1 : Int) < ((x5_1.length : Int) : Int) := od_
     obtain ⟨go11, co11, eo11, gb11, gl11, cl11, HG11⟩ := Kd.R_form HO_5.out (by omega)
     (first | cases eo11 | (injection eo11 with ea_ en_ ec_; (first | subst ea_ | (injection ea_ with ea_; subst ea_)); subst ec_; clear en_))
     have GB11 := Aside0.mk gb11
     have GG11 := Aside0.mk HG11
     clear gb11 gl11 HG11
     obtain ⟨hx11_0, hf11_0⟩ := Kd.R_celln 0 HO_5.out (x17_1 : Int) p11 q11
     replace p11 := eq_true p11
     replace q11 := eq_true q11
     have HP12 := Kd.R_putg HO_5.out (x17_1 : Int) (-1)
     go_wp2_with (first | ((with_reducible refine gate_store (t := 3) (p := 22) rfl ?_); refine store_event (t := 3) (p := 22) (v := ?vo_w13) (w1 := (wr.setCell ⟨go11, (x17_1 : Int).toNat, none⟩ (.int .i64 (-1)))) ?hg ?ho ?hn ?hr ?_; (case ho => rfl); (case hg => rfl); (case hn => rfl); (case hr => first | (go_simp; done) | (go_simp; rfl)); intro w13 hw; have hg : wr.grownBy w13 (some go11) := (by rw [hw]; exact HP12.2); have hp_ : Kd.R (Kd.int .i64) 3 w13 w.heap.size (fun _ => True) (.slice (some ⟨go11, 0, none⟩) x5_1.length co7) y491 := (by rw [hw, Ny491.out]; exact HP12.1); clear HP12; replace HO_5 := Aside0.mk (hp_); replace HB := Aside0.mk ((by rw [hw]; exact below_set (HB.out) GB11.out : Below w.heap.size w w13)); clear hg hw hp_))
     (try simp only [← hl5_1])
     go_roundg k1
     case measure => have := HK1.out; omega
     case rel => exact ⟨(y491), (wrap64 (x17_1 + 1)), rs_, H', ⟨by have := HK1.out; omega⟩, ⟨by (try simp only [hl5_1]); (with_reducible repeat (first | apply Kd.R_alloc | apply Kd.R_drewN | apply Kd.R_drew)); exact HO_5.out⟩, ⟨bl_ HB.out⟩⟩
   rw [if_neg c8] at H
   have c8b0 : decide (x17_1 < (y488.length : Int)) = false := decide_eq_false c8
   (try (have c8h := c8b0; simp only [hl5_1] at c8h))
   clear c8
   by_cases c14 : 0 < (x5_1.length : Int)
   rotate_left
   · rw [if_neg c14] at H
     cases H
   rw [if_pos c14] at H
   have c14b0 : decide (0 < (x5_1.length : Int)) = true := decide_eq_true c14
   have c14b1 : decide (0 < x5_1.length) = true := decide_eq_true (by omega)
   (try (have c14h := c14b0; simp only [hl5_1] at c14h))
   clear c14
   obtain ⟨y492, hy492⟩ : ∃ y_ : List Int, y_ = (x5_1.set (0 : Int).toNat 0) := ⟨_, rfl⟩
   replace H : (impl_leasts.l1 k1 l0 a1 y492 true) = some r := by subst hy492; exact H
   have Ny492 := Aside0.mk hy492
   clear hy492
   have H' := Aside0.mk H
   clear H
   have p15 : 0 ≤ (0 : Int) := (by omega)
   have q15 : (0 : Int) < ((x5_1.length : Int) : Int) := od_
   have qi15 : (0 < x5_1.length) = True := eq_true (by omega)
   obtain ⟨go15, co15, eo15, gb15, gl15, cl15, HG15⟩ := Kd.R_form HO_5.out (by omega)
   (first | cases eo15 | (injection eo15 with ea_ en_ ec_; (first | subst ea_ | (injection ea_ with ea_; subst ea_)); subst ec_; clear en_))
   have GB15 := Aside0.mk gb15
   have GG15 := Aside0.mk HG15
   clear gb15 gl15 HG15
   obtain ⟨hx15_0, hf15_0⟩ := Kd.R_celln 0 HO_5.out (0 : Int) p15 q15
   (try rw [show ((0 : Int)).toNat = 0 from rfl] at hx15_0)
   (try simp only [Nat.reduceMul, Nat.zero_mul, Nat.zero_add, Nat.reduceAdd] at hx15_0)
   (try rw [show ((0 : Int)).toNat = 0 from rfl] at hf15_0)
   (try simp only [Nat.reduceMul, Nat.zero_mul, Nat.zero_add, Nat.reduceAdd] at hf15_0)
   replace p15 := eq_true p15
   replace q15 := eq_true q15
   have HP16 := Kd.R_putg HO_5.out (0 : Int) 0
   go_wp2_with (first | ((with_reducible refine gate_store (t := 3) (p := 25) rfl ?_); refine store_event (t := 3) (p := 25) (v := ?vo_w17) (w1 := (wr.setCell ⟨go15, (0 : Int).toNat, none⟩ (.int .i64 0))) ?hg ?ho ?hn ?hr ?_; (case ho => rfl); (case hg => rfl); (case hn => rfl); (case hr => first | (go_simp; done) | (go_simp; rfl)); intro w17 hw; have hg : wr.grownBy w17 (some go15) := (by rw [hw]; exact HP16.2); have hp_ : Kd.R (Kd.int .i64) 3 w17 w.heap.size (fun _ => True) (.slice (some ⟨go15, 0, none⟩) x5_1.length co7) y492 := (by rw [hw, Ny492.out]; exact HP16.1); clear HP16; replace HO_5 := Aside0.mk (hp_); replace HB := Aside0.mk ((by rw [hw]; exact below_set (HB.out) GB15.out : Below w.heap.size w w17)); clear hg hw hp_))
   go_loopg [7] k1 (fun kq v7 w' => ∃ (x5_2 : List Int) (x7_2 : Bool), v7 = .bool x7_2 ∧ Aside0 (impl_leasts.l1 kq l0 a1 x5_2 x7_2 = some r) ∧ Aside0 (kq ≤ k1) ∧ Aside0 (Kd.R (Kd.int .i64) 3 w' w.heap.size (fun _ => True) (.slice (some ⟨go15, 0, none⟩) x5_1.length co7) x5_2) ∧ Aside0 (Below w.heap.size w w'))
   case atStart => exact ⟨(y492), (true), rs_, H', ⟨Nat.le_refl _⟩, ⟨by (try simp only [hl5_1]); (with_reducible repeat (first | apply Kd.R_alloc | apply Kd.R_drewN | apply Kd.R_drew)); exact HO_5.out⟩, ⟨bl_ HB.out⟩⟩
   case round =>
    clear H'
    try clear c1
    try clear p1
    try clear q1
    try clear hx1
    try clear qi1
    try clear p2
    try clear c3
    try clear c3b0
    try clear c3b1
    try clear c4
    try clear c4b0
    try clear c4b1
    try clear c5
    try clear p6
    try clear c8
    try clear c8b0
    try clear c9
    try clear c9b0
    try clear c10
    try clear c10b0
    try clear p11
    try clear q11
    try clear hx11
    try clear hf11
    try clear c14
    try clear c14b0
    try clear c14b1
    try clear p15
    try clear q15
    try clear hx15
    try clear qi15
    try clear hf15
    try clear hx11_0
    try clear hx15_0
    try clear p11
    try clear p15
    try clear p2
    try clear q11
    try clear q15
    obtain ⟨x5_2, x7_2, rfl, HA, HK2, HO_5, HB⟩ := hrel
    have hl5_2 := (Kd.R_reads' HO_5.out).1
    rw [hl5_2] at HO_5
    (try simp only [hl5_2])
    cases gk with
    | zero => exact absurd HA.out (by simp [impl_leasts.l1])
    | succ k2 =>
     have H := HA.out
     clear HA
     simp only [impl_leasts.l1] at H
     by_cases c18 : x7_2 = true
     rotate_left
     · replace c18 := Bool.eq_false_iff.mpr c18
       subst c18
       rw [if_neg (show ¬ (false = true) by decide)] at H
       obtain rfl := Option.some.inj H
       go_wp2
       go_ret
       exact ⟨_, rf_, re_ HO_5.out, bl_ HB.out⟩
     subst c18
     rw [if_pos rfl] at H
     have H' := Aside0.mk H
     clear H
     go_wp2
     go_loopg [7, 29] k2 (fun kq v7 v29 w' => ∃ (x5_3 : List Int) (x7_3 : Bool) (x29_3 : Int), v7 = .bool x7_3 ∧ v29 = .int .i64 x29_3 ∧ Aside0 (impl_leasts.l2 kq l0 a1 x5_3 x7_3 (x5_2.length : Int) x29_3 = some r) ∧ Aside0 (kq ≤ k2) ∧ Aside0 (Kd.R (Kd.int .i64) 3 w' w.heap.size (fun _ => True) (.slice (some ⟨go15, 0, none⟩) x5_2.length co7) x5_3) ∧ Aside0 (Below w.heap.size w w'))
     case atStart => exact ⟨(x5_2), (false), (0), rs_, rs_, H', ⟨Nat.le_refl _⟩, ⟨by (try simp only [hl5_1]); (try simp only [hl5_2]); (with_reducible repeat (first | apply Kd.R_alloc | apply Kd.R_drewN | apply Kd.R_drew)); exact HO_5.out⟩, ⟨bl_ HB.out⟩⟩
     case round =>
      clear H'
      try clear c1
      try clear p1
      try clear q1
      try clear hx1
      try clear qi1
      try clear p2
      try clear c3
      try clear c3b0
      try clear c3b1
      try clear c4
      try clear c4b0
      try clear c4b1
      try clear c5
      try clear p6
      try clear c8
      try clear c8b0
      try clear c9
      try clear c9b0
      try clear c10
      try clear c10b0
      try clear p11
      try clear q11
      try clear hx11
      try clear hf11
      try clear c14
      try clear c14b0
      try clear c14b1
      try clear p15
      try clear q15
      try clear hx15
      try clear qi15
      try clear hf15
      try clear c18
      try clear hx11_0
      try clear hx15_0
      try clear p1
      try clear p11
      try clear p15
      try clear p2
      try clear p6
      try clear q1
      try clear q11
      try clear q15
      obtain ⟨x5_3, x7_3, x29_3, rfl, rfl, HA, HK3, HO_5, HB⟩ := hrel
      have hl5_3 := (Kd.R_reads' HO_5.out).1
      rw [hl5_3] at HO_5
      (try simp only [hl5_3])
      cases gk with
      | zero => exact absurd HA.out (by simp [impl_leasts.l2])
      | succ k3 =>
       have H := HA.out
       clear HA
       simp only [impl_leasts.l2] at H
       by_cases c19 : x29_3 < (x5_2.length : Int)
       rotate_left
       · rw [if_neg c19] at H
         have c19b0 : decide (x29_3 < (x5_2.length : Int)) = false := decide_eq_false c19
         (try (have c19h := c19b0; simp only [hl5_1, hl5_2, hl5_3] at c19h))
         clear c19
         have H' := Aside0.mk H
         clear H
         go_wp2
         (try simp only [← hl5_2, ← hl5_3])
         go_roundg k3
         case measure => have := HK1.out; have := HK2.out; have := HK3.out; omega
         case rel => exact ⟨(x5_3), (x7_3), rs_, H', ⟨by have := HK1.out; have := HK2.out; have := HK3.out; omega⟩, ⟨by (try simp only [hl5_1]); (try simp only [hl5_2]); (try simp only [hl5_3]); (with_reducible repeat (first | apply Kd.R_alloc | apply Kd.R_drewN | apply Kd.R_drew)); exact HO_5.out⟩, ⟨bl_ HB.out⟩⟩
       rw [if_pos c19] at H
       have c19b0 : decide (x29_3 < (x5_2.length : Int)) = true := decide_eq_true c19
       (try (have c19h := c19b0; simp only [hl5_1, hl5_2, hl5_3] at c19h))
       clear c19
       by_cases c20 : 0 ≤ x29_3
       rotate_left
       · rw [if_neg c20] at H
         cases H
       rw [if_pos c20] at H
       have c20b0 : decide (0 ≤ x29_3) = true := decide_eq_true c20
       clear c20
       by_cases c21 : x29_3 < (x5_3.length : Int)
       rotate_left
       · rw [if_neg c21] at H
         cases H
       rw [if_pos c21] at H
       have c21b0 : decide (x29_3 < (x5_3.length : Int)) = true := decide_eq_true c21
       (try (have c21h := c21b0; simp only [hl5_1, hl5_2, hl5_3] at c21h))
       clear c21
       by_cases c22 : (rd x5_3 x29_3) < 0
       · rw [if_pos c22] at H
         have c22b0 : decide ((rd x5_3 x29_3) < 0) = true := decide_eq_true c22
         clear c22
         have H' := Aside0.mk H
         clear H
         have p493 : 0 ≤ (x29_3 : Int) := od_
         have q493 : x29_3 < (x5_3.length : Int) := od_
         obtain ⟨ad493, e493, hx493_0⟩ := Kd.at_int (Kd.R_reads' HO_5.out).2.2 x29_3 p493 q493
         obtain rfl : (⟨go15, 0, none⟩ : Addr) = ad493 := (by injection e493)
         (first | simp only [add_plain] at hx493_0 | simp only [add_at] at hx493_0 | simp only [Addr.add, Nat.zero_add] at hx493_0 | skip)
         replace p493 := eq_true p493
         replace q493 := eq_true q493
         go_wp2
         (try simp only [← hl5_3])
         go_roundg k3
         case measure => have := HK1.out; have := HK2.out; have := HK3.out; omega
         case rel => exact ⟨(x5_3), (x7_3), (wrap64 (x29_3 + 1)), rs_, rs_, H', ⟨by have := HK1.out; have := HK2.out; have := HK3.out; omega⟩, ⟨by (try simp only [hl5_1]); (try simp only [hl5_2]); (try simp only [hl5_3]); (with_reducible repeat (first | apply Kd.R_alloc | apply Kd.R_drewN | apply Kd.R_drew)); exact HO_5.out⟩, ⟨bl_ HB.out⟩⟩
       rw [if_neg c22] at H
       have c22b0 : decide ((rd x5_3 x29_3) < 0) = false := decide_eq_false c22
       clear c22
       have H' := Aside0.mk H
       clear H
       have p493 : 0 ≤ (x29_3 : Int) := od_
       have q493 : x29_3 < (x5_3.length : Int) := od_
       obtain ⟨ad493, e493, hx493_0⟩ := Kd.at_int (Kd.R_reads' HO_5.out).2.2 x29_3 p493 q493
       obtain rfl : (⟨go15, 0, none⟩ : Addr) = ad493 := (by injection e493)
       (first | simp only [add_plain] at hx493_0 | simp only [add_at] at hx493_0 | simp only [Addr.add, Nat.zero_add] at hx493_0 | skip)
       replace p493 := eq_true p493
       replace q493 := eq_true q493
       go_wp2
       go_loopg [7, 38] k3 (fun kq v7 v38 w' => ∃ (x5_4 : List Int) (x7_4 : Bool) (x38_4 : Int), v7 = .bool x7_4 ∧ v38 = .int .i64 x38_4 ∧ Aside0 (impl_leasts.l3 kq l0 a1 x5_4 x7_4 x29_3 (rd x5_3 x29_3) (x5_2.length : Int) x29_3 l0 (l0.length : Int) x38_4 = some r) ∧ Aside0 (kq ≤ k3) ∧ Aside0 (Kd.R (Kd.int .i64) 3 w' w.heap.size (fun _ => True) (.slice (some ⟨go15, 0, none⟩) x5_3.length co7) x5_4) ∧ Aside0 (Below w.heap.size w w'))
       case atStart => exact ⟨(x5_3), (x7_3), (0), rs_, rs_, H', ⟨Nat.le_refl _⟩, ⟨by (try simp only [hl5_1]); (try simp only [hl5_2]); (try simp only [hl5_3]); (with_reducible repeat (first | apply Kd.R_alloc | apply Kd.R_drewN | apply Kd.R_drew)); exact HO_5.out⟩, ⟨bl_ HB.out⟩⟩
       case round =>
        clear H'
        try clear c1
        try clear p1
        try clear q1
        try clear hx1
        try clear qi1
        try clear c2
        try clear p2
        try clear c3
        try clear c3b0
        try clear c3b1
        try clear c4
        try clear c4b0
        try clear c4b1
        try clear p4
        try clear q4
        try clear hx4
        try clear c5
        try clear p6
        try clear c8
        try clear c8b0
        try clear c9
        try clear c9b0
        try clear c10
        try clear c10b0
        try clear p11
        try clear q11
        try clear hx11
        try clear hf11
        try clear c14
        try clear c14b0
        try clear c14b1
        try clear p15
        try clear q15
        try clear hx15
        try clear qi15
        try clear hf15
        try clear c18
        try clear c19
        try clear c19b0
        try clear c20
        try clear c20b0
        try clear c21
        try clear c21b0
        try clear c22
        try clear c22b0
        try clear hx11_0
        try clear hx15_0
        try clear hx493_0
        try clear p1
        try clear p11
        try clear p15
        try clear p2
        try clear p493
        try clear p6
        try clear q1
        try clear q11
        try clear q15
        try clear q493
        obtain ⟨x5_4, x7_4, x38_4, rfl, rfl, HA, HK4, HO_5, HB⟩ := hrel
        have hl5_4 := (Kd.R_reads' HO_5.out).1
        rw [hl5_4] at HO_5
        (try simp only [hl5_4])
        cases gk with
        | zero => exact absurd HA.out (by simp [impl_leasts.l3])
        | succ k4 =>
         have H := HA.out
         clear HA
         simp only [impl_leasts.l3] at H
         by_cases c23 : x38_4 < (l0.length : Int)
         rotate_left
         · rw [if_neg c23] at H
           have c23b0 : decide (x38_4 < (l0.length : Int)) = false := decide_eq_false c23
           (try (have c23h := c23b0; simp only [hl5_1, hl5_2, hl5_3, hl5_4] at c23h))
           clear c23
           have H' := Aside0.mk H
           clear H
           go_wp2
           (try simp only [← hl5_3, ← hl5_4])
           go_roundg k4
           case measure => have := HK1.out; have := HK2.out; have := HK3.out; have := HK4.out; omega
           case rel => exact ⟨(x5_4), (x7_4), (wrap64 (x29_3 + 1)), rs_, rs_, H', ⟨by have := HK1.out; have := HK2.out; have := HK3.out; have := HK4.out; omega⟩, ⟨by (try simp only [hl5_1]); (try simp only [hl5_2]); (try simp only [hl5_3]); (try simp only [hl5_4]); (with_reducible repeat (first | apply Kd.R_alloc | apply Kd.R_drewN | apply Kd.R_drew)); exact HO_5.out⟩, ⟨bl_ HB.out⟩⟩
         rw [if_pos c23] at H
         have c23b0 : decide (x38_4 < (l0.length : Int)) = true := decide_eq_true c23
         (try (have c23h := c23b0; simp only [hl5_1, hl5_2, hl5_3, hl5_4] at c23h))
         clear c23
         by_cases c24 : 0 ≤ x38_4
         rotate_left
         · rw [if_neg c24] at H
           cases H
         rw [if_pos c24] at H
         have c24b0 : decide (0 ≤ x38_4) = true := decide_eq_true c24
         clear c24
         by_cases c25 : x38_4 < (l0.length : Int)
         rotate_left
         · rw [if_neg c25] at H
           cases H
         rw [if_pos c25] at H
         have c25b0 : decide (x38_4 < (l0.length : Int)) = true := decide_eq_true c25
         (try (have c25h := c25b0; simp only [hl5_1, hl5_2, hl5_3, hl5_4] at c25h))
         clear c25
         by_cases c26 : a1 = 0
         · rw [if_pos c26] at H
           cases H
         rw [if_neg c26] at H
         have c26b0 : (a1 == 0) = false := beq_eq_false_iff_ne.mpr c26
         have c26b1 : (a1 != 0) = true := bne_iff_ne.mpr c26
         obtain ⟨ji27, hji27⟩ : ∃ j_ : Int, (Int.tmod (wrap64 (x29_3 + (rd l0 x38_4))) a1) = j_ := ⟨_, rfl⟩
         replace H : (if 0 ≤ (ji27) then (if (ji27) < (x5_4.length : Int) then (if (rd x5_4 (ji27)) < 0 then (impl_leasts.l3 k4 l0 a1 (x5_4.set ((ji27) : Int).toNat (wrap64 ((rd x5_3 x29_3) + (rd l0 x38_4)))) true x29_3 (rd x5_3 x29_3) (x5_2.length : Int) x29_3 l0 (l0.length : Int) (wrap64 (x38_4 + 1))) else (if (wrap64 ((rd x5_3 x29_3) + (rd l0 x38_4))) < (rd x5_4 (ji27)) then (impl_leasts.l3 k4 l0 a1 (x5_4.set ((ji27) : Int).toNat (wrap64 ((rd x5_3 x29_3) + (rd l0 x38_4)))) true x29_3 (rd x5_3 x29_3) (x5_2.length : Int) x29_3 l0 (l0.length : Int) (wrap64 (x38_4 + 1))) else (impl_leasts.l3 k4 l0 a1 x5_4 x7_4 x29_3 (rd x5_3 x29_3) (x5_2.length : Int) x29_3 l0 (l0.length : Int) (wrap64 (x38_4 + 1))))) else (none)) else (none)) = some r := by first | (rw [hji27] at H; exact H) | (simp only [hji27] at H ⊢; exact H)
         by_cases c28 : 0 ≤ (ji27)
         rotate_left
         · rw [if_neg c28] at H
           cases H
         rw [if_pos c28] at H
         have c28b0 : decide (0 ≤ (ji27)) = true := decide_eq_true c28
         clear c28
         by_cases c29 : (ji27) < (x5_4.length : Int)
         rotate_left
         · rw [if_neg c29] at H
           cases H
         rw [if_pos c29] at H
         have c29b0 : decide ((ji27) < (x5_4.length : Int)) = true := decide_eq_true c29
         (try (have c29h := c29b0; simp only [hl5_1, hl5_2, hl5_3, hl5_4] at c29h))
         clear c29
         by_cases c30 : (rd x5_4 (ji27)) < 0
         · rw [if_pos c30] at H
           have c30b0 : decide ((rd x5_4 (ji27)) < 0) = true := decide_eq_true c30
           clear c30
           obtain ⟨y496, hy496⟩ : ∃ y_ : List Int, y_ = (x5_4.set ((ji27) : Int).toNat (wrap64 ((rd x5_3 x29_3) + (rd l0 x38_4)))) := ⟨_, rfl⟩
           replace H : (impl_leasts.l3 k4 l0 a1 y496 true x29_3 (rd x5_3 x29_3) (x5_2.length : Int) x29_3 l0 (l0.length : Int) (wrap64 (x38_4 + 1))) = some r := by subst hy496; exact H
           have Ny496 := Aside0.mk hy496
           clear hy496
           have H' := Aside0.mk H
           clear H
           have p494 : 0 ≤ (x38_4 : Int) := od_
           have q494 : x38_4 < (l0.length : Int) := od_
           obtain ⟨ad494, e494, hx494_0⟩ := Kd.at_int HR0.out x38_4 p494 q494
           cases e494
           (try replace hx494_0 := (HB.out.cell (World.block_lt_of_cell? w _ hx494_0)).trans hx494_0)
           replace p494 := eq_true p494
           replace q494 := eq_true q494
           have p495 : 0 ≤ ((ji27) : Int) := od_
           have q495 : (ji27) < (x5_4.length : Int) := od_
           obtain ⟨ad495, e495, hx495_0⟩ := Kd.at_int (Kd.R_reads' HO_5.out).2.2 (ji27) p495 q495
           obtain rfl : (⟨go15, 0, none⟩ : Addr) = ad495 := (by injection e495)
           (first | simp only [add_plain] at hx495_0 | simp only [add_at] at hx495_0 | simp only [Addr.add, Nat.zero_add] at hx495_0 | skip)
           replace p495 := eq_true p495
           replace q495 := eq_true q495
           have p31 : 0 ≤ ((ji27) : Int) := od_
           have q31 : ((ji27) : Int) < ((x5_4.length : Int) : Int) := od_
           obtain ⟨hx31_0, hf31_0⟩ := Kd.R_celln 0 HO_5.out ((ji27) : Int) p31 q31
           replace p31 := eq_true p31
           replace q31 := eq_true q31
           have HP32 := Kd.R_putg HO_5.out ((ji27) : Int) (wrap64 ((rd x5_3 x29_3) + (rd l0 x38_4)))
           go_wp2_with (first | ((with_reducible refine gate_store (t := 3) (p := 67) rfl ?_); refine store_event (t := 3) (p := 67) (v := ?vo_w33) (w1 := (wr.setCell ⟨go15, ((ji27) : Int).toNat, none⟩ (.int .i64 (wrap64 ((rd x5_3 x29_3) + (rd l0 x38_4)))))) ?hg ?ho ?hn ?hr ?_; (case ho => rfl); (case hg => rfl); (case hn => rfl); (case hr => first | (go_simp; done) | (go_simp; rfl)); intro w33 hw; have hg : wr.grownBy w33 (some go15) := (by rw [hw]; exact HP32.2); have hp_ : Kd.R (Kd.int .i64) 3 w33 w.heap.size (fun _ => True) (.slice (some ⟨go15, 0, none⟩) x5_4.length co7) y496 := (by rw [hw, Ny496.out]; exact HP32.1); clear HP32; replace HO_5 := Aside0.mk (hp_); replace HB := Aside0.mk ((by rw [hw]; exact below_set (HB.out) GB15.out : Below w.heap.size w w33)); clear hg hw hp_))
           (try simp only [← hl5_4])
           go_roundg k4
           case measure => have := HK1.out; have := HK2.out; have := HK3.out; have := HK4.out; omega
           case rel => exact ⟨(y496), (true), (wrap64 (x38_4 + 1)), rs_, rs_, H', ⟨by have := HK1.out; have := HK2.out; have := HK3.out; have := HK4.out; omega⟩, ⟨by (try simp only [hl5_1]); (try simp only [hl5_2]); (try simp only [hl5_3]); (try simp only [hl5_4]); (with_reducible repeat (first | apply Kd.R_alloc | apply Kd.R_drewN | apply Kd.R_drew)); exact HO_5.out⟩, ⟨bl_ HB.out⟩⟩
         rw [if_neg c30] at H
         have c30b0 : decide ((rd x5_4 (ji27)) < 0) = false := decide_eq_false c30
         clear c30
         by_cases c34 : (wrap64 ((rd x5_3 x29_3) + (rd l0 x38_4))) < (rd x5_4 (ji27))
         rotate_left
         · rw [if_neg c34] at H
           have c34b0 : decide ((wrap64 ((rd x5_3 x29_3) + (rd l0 x38_4))) < (rd x5_4 (ji27))) = false := decide_eq_false c34
           clear c34
           have H' := Aside0.mk H
           clear H
           have p494 : 0 ≤ (x38_4 : Int) := od_
           have q494 : x38_4 < (l0.length : Int) := od_
           obtain ⟨ad494, e494, hx494_0⟩ := Kd.at_int HR0.out x38_4 p494 q494
           cases e494
           (try replace hx494_0 := (HB.out.cell (World.block_lt_of_cell? w _ hx494_0)).trans hx494_0)
           replace p494 := eq_true p494
           replace q494 := eq_true q494
           have p495 : 0 ≤ ((ji27) : Int) := od_
           have q495 : (ji27) < (x5_4.length : Int) := od_
           obtain ⟨ad495, e495, hx495_0⟩ := Kd.at_int (Kd.R_reads' HO_5.out).2.2 (ji27) p495 q495
           obtain rfl : (⟨go15, 0, none⟩ : Addr) = ad495 := (by injection e495)
           (first | simp only [add_plain] at hx495_0 | simp only [add_at] at hx495_0 | simp only [Addr.add, Nat.zero_add] at hx495_0 | skip)
           replace p495 := eq_true p495
           replace q495 := eq_true q495
           have p497 : 0 ≤ ((ji27) : Int) := od_
           have q497 : (ji27) < (x5_4.length : Int) := od_
           obtain ⟨ad497, e497, hx497_0⟩ := Kd.at_int (Kd.R_reads' HO_5.out).2.2 (ji27) p497 q497
           obtain rfl : (⟨go15, 0, none⟩ : Addr) = ad497 := (by injection e497)
           (first | simp only [add_plain] at hx497_0 | simp only [add_at] at hx497_0 | simp only [Addr.add, Nat.zero_add] at hx497_0 | skip)
           replace p497 := eq_true p497
           replace q497 := eq_true q497
           go_wp2
           (try simp only [← hl5_4])
           go_roundg k4
           case measure => have := HK1.out; have := HK2.out; have := HK3.out; have := HK4.out; omega
           case rel => exact ⟨(x5_4), (x7_4), (wrap64 (x38_4 + 1)), rs_, rs_, H', ⟨by have := HK1.out; have := HK2.out; have := HK3.out; have := HK4.out; omega⟩, ⟨by (try simp only [hl5_1]); (try simp only [hl5_2]); (try simp only [hl5_3]); (try simp only [hl5_4]); (with_reducible repeat (first | apply Kd.R_alloc | apply Kd.R_drewN | apply Kd.R_drew)); exact HO_5.out⟩, ⟨bl_ HB.out⟩⟩
         rw [if_pos c34] at H
         have c34b0 : decide ((wrap64 ((rd x5_3 x29_3) + (rd l0 x38_4))) < (rd x5_4 (ji27))) = true := decide_eq_true c34
         clear c34
         obtain ⟨y498, hy498⟩ : ∃ y_ : List Int, y_ = (x5_4.set ((ji27) : Int).toNat (wrap64 ((rd x5_3 x29_3) + (rd l0 x38_4)))) := ⟨_, rfl⟩
         replace H : (impl_leasts.l3 k4 l0 a1 y498 true x29_3 (rd x5_3 x29_3) (x5_2.length : Int) x29_3 l0 (l0.length : Int) (wrap64 (x38_4 + 1))) = some r := by subst hy498; exact H
         have Ny498 := Aside0.mk hy498
         clear hy498
         have H' := Aside0.mk H
         clear H
         have p494 : 0 ≤ (x38_4 : Int) := od_
         have q494 : x38_4 < (l0.length : Int) := od_
         obtain ⟨ad494, e494, hx494_0⟩ := Kd.at_int HR0.out x38_4 p494 q494
         cases e494
         (try replace hx494_0 := (HB.out.cell (World.block_lt_of_cell? w _ hx494_0)).trans hx494_0)
         replace p494 := eq_true p494
         replace q494 := eq_true q494
         have p495 : 0 ≤ ((ji27) : Int) := od_
         have q495 : (ji27) < (x5_4.length : Int) := od_
         obtain ⟨ad495, e495, hx495_0⟩ := Kd.at_int (Kd.R_reads' HO_5.out).2.2 (ji27) p495 q495
         obtain rfl : (⟨go15, 0, none⟩ : Addr) = ad495 := (by injection e495)
         (first | simp only [add_plain] at hx495_0 | simp only [add_at] at hx495_0 | simp only [Addr.add, Nat.zero_add] at hx495_0 | skip)
         replace p495 := eq_true p495
         replace q495 := eq_true q495
         have p497 : 0 ≤ ((ji27) : Int) := od_
         have q497 : (ji27) < (x5_4.length : Int) := od_
         obtain ⟨ad497, e497, hx497_0⟩ := Kd.at_int (Kd.R_reads' HO_5.out).2.2 (ji27) p497 q497
         obtain rfl : (⟨go15, 0, none⟩ : Addr) = ad497 := (by injection e497)
         (first | simp only [add_plain] at hx497_0 | simp only [add_at] at hx497_0 | simp only [Addr.add, Nat.zero_add] at hx497_0 | skip)
         replace p497 := eq_true p497
         replace q497 := eq_true q497
         have p35 : 0 ≤ ((ji27) : Int) := od_
         have q35 : ((ji27) : Int) < ((x5_4.length : Int) : Int) := od_
         obtain ⟨hx35_0, hf35_0⟩ := Kd.R_celln 0 HO_5.out ((ji27) : Int) p35 q35
         replace p35 := eq_true p35
         replace q35 := eq_true q35
         have HP36 := Kd.R_putg HO_5.out ((ji27) : Int) (wrap64 ((rd x5_3 x29_3) + (rd l0 x38_4)))
         go_wp2_with (first | ((with_reducible refine gate_store (t := 3) (p := 67) rfl ?_); refine store_event (t := 3) (p := 67) (v := ?vo_w37) (w1 := (wr.setCell ⟨go15, ((ji27) : Int).toNat, none⟩ (.int .i64 (wrap64 ((rd x5_3 x29_3) + (rd l0 x38_4)))))) ?hg ?ho ?hn ?hr ?_; (case ho => rfl); (case hg => rfl); (case hn => rfl); (case hr => first | (go_simp; done) | (go_simp; rfl)); intro w37 hw; have hg : wr.grownBy w37 (some go15) := (by rw [hw]; exact HP36.2); have hp_ : Kd.R (Kd.int .i64) 3 w37 w.heap.size (fun _ => True) (.slice (some ⟨go15, 0, none⟩) x5_4.length co7) y498 := (by rw [hw, Ny498.out]; exact HP36.1); clear HP36; replace HO_5 := Aside0.mk (hp_); replace HB := Aside0.mk ((by rw [hw]; exact below_set (HB.out) GB15.out : Below w.heap.size w w37)); clear hg hw hp_))
         (try simp only [← hl5_4])
         go_roundg k4
         case measure => have := HK1.out; have := HK2.out; have := HK3.out; have := HK4.out; omega
         case rel => exact ⟨(y498), (true), (wrap64 (x38_4 + 1)), rs_, rs_, H', ⟨by have := HK1.out; have := HK2.out; have := HK3.out; have := HK4.out; omega⟩, ⟨by (try simp only [hl5_1]); (try simp only [hl5_2]); (try simp only [hl5_3]); (try simp only [hl5_4]); (with_reducible repeat (first | apply Kd.R_alloc | apply Kd.R_drewN | apply Kd.R_drew)); exact HO_5.out⟩, ⟨bl_ HB.out⟩⟩
def impl_Generates.f (k : Nat) (l0 : List Int) (a1 : Int) : Option (Bool) := (impl_usable.f k l0).bind fun t499 => (if t499 = true then ((impl_within.f a1 0 1000000).bind fun t500 => (if t500 = true then (if 0 < (l0.length : Int) then ((impl_leasts.f k l0 (rd l0 0)).bind fun t502 => (if (rd l0 0) = 0 then (none) else (if 0 ≤ (Int.tmod a1 (rd l0 0)) then (if (Int.tmod a1 (rd l0 0)) < (t502.length : Int) then (if (rd t502 (Int.tmod a1 (rd l0 0))) ≥ 0 then (some (decide ((rd t502 (Int.tmod a1 (rd l0 0))) ≤ a1))) else (some false)) else (none)) else (none)))) else (none)) else (some false))) else (some false))
def impl_Generates.T3 : Bool × List (List Nat × List Nat) := (true, [([], []), ([], []), ([1], [1]), ([2], [2]), ([0, 3], [0, 3]), ([], []), ([], []), ([6], [6]), ([7], [7]), ([5, 8], [5, 8]), ([4, 9], [4, 9]), ([10], [10]), ([11, 4, 0, 1, 2, 3, 4, 5, 6, 7, 8, 9, 10, 11], [11])])
def impl_Generates.B3 : List Nat := [0, 0, 2, 6, 15, 0, 0, 64, 192, 480, 1023, 2047, 4095]
theorem impl_Generates.tab3 : rtab .any (opsOf Try.f35 3) = impl_Generates.T3 := by kernel_rfl
theorem impl_Generates.bits3 : waitsOk impl_Generates.T3.2 impl_Generates.B3 = true := by kernel_rfl
theorem impl_Generates.calls (k : Nat) (A0 : Option Addr) (c0 : Nat) (l0 : List Int) (a1 : Int) (r : Bool) (w : World) (hr0 : Kd.C (Kd.int .i64) w A0 l0.length l0) (hc0 : l0.length ≤ c0) (h : impl_Generates.f k l0 a1 = some r) :
 Calls Try.prog 35 #[.slice A0 l0.length c0, .int .i64 a1] w fun e w' => e = .returned (.bool r) ∧ Below w.heap.size w w' := by
 have HR0 := Aside0.mk hr0
 have HC0 := Aside0.mk hc0
 clear hr0 hc0
 have HB := Aside0.mk (Below.refl w.heap.size w)
 have H := h
 clear h
 unfold impl_Generates.f at H
 obtain ⟨t499, A3, H⟩ := ob_ H
 by_cases c4 : t499 = true
 rotate_left
 · replace c4 := Bool.eq_false_iff.mpr c4
   subst c4
   rw [if_neg (show ¬ (false = true) by decide)] at H
   obtain rfl := Option.some.inj H
   go_enter Try.func35, Try.ntmps35
   go_wp2_with (first | ((with_reducible refine gate_callee (f := 32) rfl ?_); refine gL_ (some 7) Try.func32 #[.slice A0 l0.length c0] ?_; (with_reducible refine (impl_usable.calls k _ _ l0 false _ ?side1 ?side2 A3.out).mono ?_); (case side1 => exact ce_ (HR0.out)); (case side2 => exact HC0.out); rintro e w' ⟨rfl, ⟨nd, rfl⟩⟩; refine ⟨_, rfl, ?_⟩))
   go_ret
   exact ⟨rf_, bl_ HB.out⟩
 subst c4
 rw [if_pos rfl] at H
 obtain ⟨t500, A5, H⟩ := ob_ H
 by_cases c6 : t500 = true
 rotate_left
 · replace c6 := Bool.eq_false_iff.mpr c6
   subst c6
   rw [if_neg (show ¬ (false = true) by decide)] at H
   obtain rfl := Option.some.inj H
   go_enter Try.func35, Try.ntmps35
   go_wp2_with (first | ((with_reducible refine gate_callee (f := 32) rfl ?_); refine gL_ (some 7) Try.func32 #[.slice A0 l0.length c0] ?_; (with_reducible refine (impl_usable.calls k _ _ l0 true _ ?side1 ?side2 A3.out).mono ?_); (case side1 => exact ce_ (HR0.out)); (case side2 => exact HC0.out); rintro e w' ⟨rfl, ⟨nd, rfl⟩⟩; refine ⟨_, rfl, ?_⟩) | (go_at_call 22; (with_reducible refine (impl_within.calls a1 0 1000000 false _ A5.out).mono ?_); rintro e w' ⟨rfl, ⟨nd, rfl⟩⟩))
   go_ret
   exact ⟨rf_, bl_ HB.out⟩
 subst c6
 rw [if_pos rfl] at H
 by_cases c7 : 0 < (l0.length : Int)
 rotate_left
 · rw [if_neg c7] at H
   cases H
 rw [if_pos c7] at H
 have c7b0 : decide (0 < (l0.length : Int)) = true := decide_eq_true c7
 have c7b1 : decide (0 < l0.length) = true := decide_eq_true (by omega)
 clear c7
 obtain ⟨t502, A8, H⟩ := ob_ H
 by_cases c9 : (rd l0 0) = 0
 · rw [if_pos c9] at H
   cases H
 rw [if_neg c9] at H
 have c9b0 : ((rd l0 0) == 0) = false := beq_eq_false_iff_ne.mpr c9
 have c9b1 : ((rd l0 0) != 0) = true := bne_iff_ne.mpr c9
 obtain ⟨ji10, hji10⟩ : ∃ j_ : Int, (Int.tmod a1 (rd l0 0)) = j_ := ⟨_, rfl⟩
 replace H : (if 0 ≤ (ji10) then (if (ji10) < (t502.length : Int) then (if (rd t502 (ji10)) ≥ 0 then (some (decide ((rd t502 (ji10)) ≤ a1))) else (some false)) else (none)) else (none)) = some r := by first | (rw [hji10] at H; exact H) | (simp only [hji10] at H ⊢; exact H)
 (try rw [hji10] at A3)
 (try rw [hji10] at A5)
 (try rw [hji10] at A8)
 by_cases c11 : 0 ≤ (ji10)
 rotate_left
 · rw [if_neg c11] at H
   cases H
 rw [if_pos c11] at H
 have c11b0 : decide (0 ≤ (ji10)) = true := decide_eq_true c11
 clear c11
 by_cases c12 : (ji10) < (t502.length : Int)
 rotate_left
 · rw [if_neg c12] at H
   cases H
 rw [if_pos c12] at H
 have c12b0 : decide ((ji10) < (t502.length : Int)) = true := decide_eq_true c12
 clear c12
 by_cases c13 : (rd t502 (ji10)) ≥ 0
 rotate_left
 · rw [if_neg c13] at H
   have c13b0 : decide (0 ≤ (rd t502 (ji10))) = false := decide_eq_false c13
   clear c13
   obtain rfl := Option.some.inj H
   go_enter Try.func35, Try.ntmps35
   try go_wp2_with (first | ((with_reducible refine gate_callee (f := 32) rfl ?_); refine gL_ (some 7) Try.func32 #[.slice A0 l0.length c0] ?_; (with_reducible refine (impl_usable.calls k _ _ l0 true _ ?side1 ?side2 A3.out).mono ?_); (case side1 => exact ce_ (HR0.out)); (case side2 => exact HC0.out); rintro e w' ⟨rfl, ⟨nd, rfl⟩⟩; refine ⟨_, rfl, ?_⟩) | (go_at_call 22; (with_reducible refine (impl_within.calls a1 0 1000000 true _ A5.out).mono ?_); rintro e w' ⟨rfl, ⟨nd, rfl⟩⟩))
   replace HB := Aside0.mk (below_drew1 HB.out)
   have p501 : 0 ≤ (0 : Int) := (by omega)
   have q501 : 0 < (l0.length : Int) := od_
   obtain ⟨ad501, e501, hx501_0⟩ := Kd.at_int HR0.out 0 p501 q501
   have hw501_0 := hx501_0
   (try rw [show ((0 : Int)).toNat = 0 from rfl] at hw501_0)
   (try rw [show 0 * 1 = 0 from rfl] at hw501_0)
   (try rw [Addr.add_zero'] at hw501_0)
   cases e501
   have qi501 : (0 < l0.length) = True := eq_true (by omega)
   (try rw [show ((0 : Int)).toNat = 0 from rfl] at hx501_0)
   (try rw [Addr.add_zero'] at hx501_0)
   (try replace hx501_0 := (HB.out.cell (World.block_lt_of_cell? w _ hx501_0)).trans hx501_0)
   replace p501 := eq_true p501
   replace q501 := eq_true q501
   have p505 : 0 ≤ (0 : Int) := (by omega)
   have q505 : 0 < (l0.length : Int) := od_
   obtain ⟨ad505, e505, hx505_0⟩ := Kd.at_int HR0.out 0 p505 q505
   have hw505_0 := hx505_0
   (try rw [show ((0 : Int)).toNat = 0 from rfl] at hw505_0)
   (try rw [show 0 * 1 = 0 from rfl] at hw505_0)
   (try rw [Addr.add_zero'] at hw505_0)
   obtain rfl : ad501 = ad505 := (by injection e505)
   have qi505 : (0 < l0.length) = True := eq_true (by omega)
   (try rw [show ((0 : Int)).toNat = 0 from rfl] at hx505_0)
   (try rw [Addr.add_zero'] at hx505_0)
   (try replace hx505_0 := (HB.out.cell (World.block_lt_of_cell? w _ hx505_0)).trans hx505_0)
   replace p505 := eq_true p505
   replace q505 := eq_true q505
   refine start_ (n := 13) (S := fun w' => w'.cell? ad501 = some (.int .i64 (rd l0 0)) ∧ w'.cell? ad501 = some (.int .i64 (rd l0 0)) ∧ True) (ds := []) (B_ 0 13) (by kernel_rfl) rfl rfl ⟨((HB.out.cell (World.block_lt_of_cell? w _ hw501_0)).trans hw501_0), ((HB.out.cell (World.block_lt_of_cell? w _ hw505_0)).trans hw505_0), trivial⟩ (fun hHeld => ?_); refine with_tabW impl_Generates.tab3 impl_Generates.bits3 (fun HT_ HW_ => ?_)
   (first | (generalize hq_ : World.drew (World.drewN w _) = w17 at hHeld ⊢; have HBq_ : Aside0 (Below w.heap.size w w17) := ⟨hq_ ▸ (below_drew1 (pw_below_drewN (Below.refl w.heap.size w) _))⟩; clear hq_ HB; have HB := HBq_; clear HBq_; replace hx501_0 := (HB.out.cell (World.block_lt_of_cell? w _ hw501_0)).trans hw501_0; replace hx505_0 := (HB.out.cell (World.block_lt_of_cell? w _ hw505_0)).trans hw505_0) | (generalize w.drew = w17 at HB hx501_0 hx505_0 hHeld ⊢))
   refine pu_ HT_ 0 14 (B_ 1 13) ?_
   refine pu_ HT_ 1 15 (B_ 3 13) ?_
   refine pu_ HT_ 2 16 (B_ 7 13) ?_
   refine pu_ HT_ 5 19 (B_ 39 13) ?_
   refine pu_ HT_ 6 20 (B_ 103 13) ?_
   refine pu_ HT_ 7 21 (B_ 231 13) ?_
   refine tk3_ HT_ HW_ hHeld 3 17 (B_ 239 13) ?_
   refine tk3_ HT_ HW_ hHeld 8 22 (B_ 495 13) ?_
   refine pu_ HT_ 9 23 (B_ 1007 13) ?_
   refine on_ HT_ 4 18 (B_ 1023 13) (fun K hK => ?_)
   refine goes_ Try.func54 (by kernel_rfl) rfl #[.slice (some ad501) l0.length c0, .int .i64 (rd l0 0)] (by rfl) rfl rfl (by (try simp only [List.map_toArray, List.map_cons, List.map_nil]); first | done | rfl | (simp only [List.length_drop, List.length_take]; rfl)) ?_
   with_reducible refine (impl_leasts.calls k _ _ l0 (rd l0 0) t502 _ ?side1 ?side2 A8.out).mono ?_
   (case side1 => exact ch_ HR0 HB)
   (case side2 => exact HC0.out)
   rintro e w18 ⟨v503, rfl, ho0, hb⟩
   refine ⟨_, rfl, ?_⟩
   have HO504 := Aside0.mk (Kd.R_lower ho0 (below_size (bl_ HB.out)))
   replace HB := bo_ HB hb
   (try clear hb)
   (try clear ho0)
   obtain ⟨Ao19, co19, eo19⟩ := Kd.R_slice HO504.out
   (first | subst eo19 | (injection eo19 with f1_ f2_ f3_; have f4_ := f1_.symm; have f5_ := f3_.symm; clear f1_ f2_ f3_; subst f4_; subst f5_))
   have p506 : 0 ≤ ((ji10) : Int) := od_
   have q506 : (ji10) < (t502.length : Int) := od_
   obtain ⟨ad506, e506, hx506_0⟩ := Kd.at_int (Kd.R_reads' HO504.out).2.2 (ji10) p506 q506
   cases e506
   replace p506 := eq_true p506
   replace q506 := eq_true q506
   refine hK.out _ _ ⟨((HB.out.cell (World.block_lt_of_cell? w _ hw501_0)).trans hw501_0), ((HB.out.cell (World.block_lt_of_cell? w _ hw505_0)).trans hw505_0), trivial⟩ (fun _ => ?_); refine restart_ (S' := fun w' => w'.cell? ad501 = some (.int .i64 (rd l0 0)) ∧ w'.cell? ad501 = some (.int .i64 (rd l0 0)) ∧ w'.cell? (ad506.add ((ji10)).toNat) = some (.int .i64 (rd t502 (ji10)))) (fun _ h => ⟨h.1, h.2.1, trivial⟩) ⟨((HB.out.cell (World.block_lt_of_cell? w _ hw501_0)).trans hw501_0), ((HB.out.cell (World.block_lt_of_cell? w _ hw505_0)).trans hw505_0), hx506_0⟩ (fun hHeld => ?_)
   clear hK K
   refine norm_ (a' := ?_) ?_ ?_
   rotate_left
   · show Act.put _ (some 18) _ = _
     simp only [Act.put, z1_, z2_, z3_, i64_w, i32_w]
     rfl
   refine pu_ HT_ 10 24 (B_ 2047 13) ?_
   refine tk3_ HT_ HW_ hHeld 11 25 (B_ 4095 13) ?_
   refine pu_ HT_ 12 5 (B_ 8191 13) ?_
   refine done_ (done_of HT_.out (by kernel_rfl)) ?_
   try go_wp2
   go_ret
   exact ⟨by first | rfl | (simp [errW_none, errW_some] <;> rfl) | (simp only [← hji10]; first | rfl | (simp [errW_none, errW_some] <;> rfl)) | (simp [*, errW_none, errW_some] <;> rfl), bl_ HB.out⟩
 rw [if_pos c13] at H
 have c13b0 : decide (0 ≤ (rd t502 (ji10))) = true := decide_eq_true c13
 clear c13
 obtain rfl := Option.some.inj H
 go_enter Try.func35, Try.ntmps35
 try go_wp2_with (first | ((with_reducible refine gate_callee (f := 32) rfl ?_); refine gL_ (some 7) Try.func32 #[.slice A0 l0.length c0] ?_; (with_reducible refine (impl_usable.calls k _ _ l0 true _ ?side1 ?side2 A3.out).mono ?_); (case side1 => exact ce_ (HR0.out)); (case side2 => exact HC0.out); rintro e w' ⟨rfl, ⟨nd, rfl⟩⟩; refine ⟨_, rfl, ?_⟩) | (go_at_call 22; (with_reducible refine (impl_within.calls a1 0 1000000 true _ A5.out).mono ?_); rintro e w' ⟨rfl, ⟨nd, rfl⟩⟩))
 replace HB := Aside0.mk (below_drew1 HB.out)
 have p501 : 0 ≤ (0 : Int) := (by omega)
 have q501 : 0 < (l0.length : Int) := od_
 obtain ⟨ad501, e501, hx501_0⟩ := Kd.at_int HR0.out 0 p501 q501
 have hw501_0 := hx501_0
 (try rw [show ((0 : Int)).toNat = 0 from rfl] at hw501_0)
 (try rw [show 0 * 1 = 0 from rfl] at hw501_0)
 (try rw [Addr.add_zero'] at hw501_0)
 cases e501
 have qi501 : (0 < l0.length) = True := eq_true (by omega)
 (try rw [show ((0 : Int)).toNat = 0 from rfl] at hx501_0)
 (try rw [Addr.add_zero'] at hx501_0)
 (try replace hx501_0 := (HB.out.cell (World.block_lt_of_cell? w _ hx501_0)).trans hx501_0)
 replace p501 := eq_true p501
 replace q501 := eq_true q501
 have p505 : 0 ≤ (0 : Int) := (by omega)
 have q505 : 0 < (l0.length : Int) := od_
 obtain ⟨ad505, e505, hx505_0⟩ := Kd.at_int HR0.out 0 p505 q505
 have hw505_0 := hx505_0
 (try rw [show ((0 : Int)).toNat = 0 from rfl] at hw505_0)
 (try rw [show 0 * 1 = 0 from rfl] at hw505_0)
 (try rw [Addr.add_zero'] at hw505_0)
 obtain rfl : ad501 = ad505 := (by injection e505)
 have qi505 : (0 < l0.length) = True := eq_true (by omega)
 (try rw [show ((0 : Int)).toNat = 0 from rfl] at hx505_0)
 (try rw [Addr.add_zero'] at hx505_0)
 (try replace hx505_0 := (HB.out.cell (World.block_lt_of_cell? w _ hx505_0)).trans hx505_0)
 replace p505 := eq_true p505
 replace q505 := eq_true q505
 refine start_ (n := 13) (S := fun w' => w'.cell? ad501 = some (.int .i64 (rd l0 0)) ∧ w'.cell? ad501 = some (.int .i64 (rd l0 0)) ∧ True) (ds := []) (B_ 0 13) (by kernel_rfl) rfl rfl ⟨((HB.out.cell (World.block_lt_of_cell? w _ hw501_0)).trans hw501_0), ((HB.out.cell (World.block_lt_of_cell? w _ hw505_0)).trans hw505_0), trivial⟩ (fun hHeld => ?_); refine with_tabW impl_Generates.tab3 impl_Generates.bits3 (fun HT_ HW_ => ?_)
 (first | (generalize hq_ : World.drew (World.drewN w _) = w14 at hHeld ⊢; have HBq_ : Aside0 (Below w.heap.size w w14) := ⟨hq_ ▸ (below_drew1 (pw_below_drewN (Below.refl w.heap.size w) _))⟩; clear hq_ HB; have HB := HBq_; clear HBq_; replace hx501_0 := (HB.out.cell (World.block_lt_of_cell? w _ hw501_0)).trans hw501_0; replace hx505_0 := (HB.out.cell (World.block_lt_of_cell? w _ hw505_0)).trans hw505_0) | (generalize w.drew = w14 at HB hx501_0 hx505_0 hHeld ⊢))
 refine pu_ HT_ 0 14 (B_ 1 13) ?_
 refine pu_ HT_ 1 15 (B_ 3 13) ?_
 refine pu_ HT_ 2 16 (B_ 7 13) ?_
 refine pu_ HT_ 5 19 (B_ 39 13) ?_
 refine pu_ HT_ 6 20 (B_ 103 13) ?_
 refine pu_ HT_ 7 21 (B_ 231 13) ?_
 refine tk3_ HT_ HW_ hHeld 3 17 (B_ 239 13) ?_
 refine tk3_ HT_ HW_ hHeld 8 22 (B_ 495 13) ?_
 refine pu_ HT_ 9 23 (B_ 1007 13) ?_
 refine on_ HT_ 4 18 (B_ 1023 13) (fun K hK => ?_)
 refine goes_ Try.func54 (by kernel_rfl) rfl #[.slice (some ad501) l0.length c0, .int .i64 (rd l0 0)] (by rfl) rfl rfl (by (try simp only [List.map_toArray, List.map_cons, List.map_nil]); first | done | rfl | (simp only [List.length_drop, List.length_take]; rfl)) ?_
 with_reducible refine (impl_leasts.calls k _ _ l0 (rd l0 0) t502 _ ?side1 ?side2 A8.out).mono ?_
 (case side1 => exact ch_ HR0 HB)
 (case side2 => exact HC0.out)
 rintro e w15 ⟨v503, rfl, ho0, hb⟩
 refine ⟨_, rfl, ?_⟩
 have HO504 := Aside0.mk (Kd.R_lower ho0 (below_size (bl_ HB.out)))
 replace HB := bo_ HB hb
 (try clear hb)
 (try clear ho0)
 obtain ⟨Ao16, co16, eo16⟩ := Kd.R_slice HO504.out
 (first | subst eo16 | (injection eo16 with f1_ f2_ f3_; have f4_ := f1_.symm; have f5_ := f3_.symm; clear f1_ f2_ f3_; subst f4_; subst f5_))
 have p506 : 0 ≤ ((ji10) : Int) := od_
 have q506 : (ji10) < (t502.length : Int) := od_
 obtain ⟨ad506, e506, hx506_0⟩ := Kd.at_int (Kd.R_reads' HO504.out).2.2 (ji10) p506 q506
 cases e506
 replace p506 := eq_true p506
 replace q506 := eq_true q506
 refine hK.out _ _ ⟨((HB.out.cell (World.block_lt_of_cell? w _ hw501_0)).trans hw501_0), ((HB.out.cell (World.block_lt_of_cell? w _ hw505_0)).trans hw505_0), trivial⟩ (fun _ => ?_); refine restart_ (S' := fun w' => w'.cell? ad501 = some (.int .i64 (rd l0 0)) ∧ w'.cell? ad501 = some (.int .i64 (rd l0 0)) ∧ w'.cell? (ad506.add ((ji10)).toNat) = some (.int .i64 (rd t502 (ji10)))) (fun _ h => ⟨h.1, h.2.1, trivial⟩) ⟨((HB.out.cell (World.block_lt_of_cell? w _ hw501_0)).trans hw501_0), ((HB.out.cell (World.block_lt_of_cell? w _ hw505_0)).trans hw505_0), hx506_0⟩ (fun hHeld => ?_)
 clear hK K
 refine norm_ (a' := ?_) ?_ ?_
 rotate_left
 · show Act.put _ (some 18) _ = _
   simp only [Act.put, z1_, z2_, z3_, i64_w, i32_w]
   rfl
 refine pu_ HT_ 10 24 (B_ 2047 13) ?_
 refine tk3_ HT_ HW_ hHeld 11 25 (B_ 4095 13) ?_
 refine pu_ HT_ 12 5 (B_ 8191 13) ?_
 refine done_ (done_of HT_.out (by kernel_rfl)) ?_
 try go_wp2
 go_ret
 exact ⟨by first | rfl | (simp [errW_none, errW_some] <;> rfl) | (simp only [← hji10]; first | rfl | (simp [errW_none, errW_some] <;> rfl)) | (simp [*, errW_none, errW_some] <;> rfl), bl_ HB.out⟩
def impl_IsAscending.l0 : Nat → List Int → Int → Option (Bool)
 | 0, _, _ => none
 | k + 1, x0, x3 => if x3 < (x0.length : Int) then (if 0 ≤ x3 then (if 0 ≤ (wrap64 (x3 - 1)) then (if (wrap64 (x3 - 1)) < (x0.length : Int) then (if (rd x0 x3) ≤ (rd x0 (wrap64 (x3 - 1))) then (some false) else (impl_IsAscending.l0 k x0 (wrap64 (x3 + 1)))) else (none)) else (none)) else (none)) else (some true)
def impl_IsAscending.f (k : Nat) (l0 : List Int) : Option (Bool) := impl_IsAscending.l0 k l0 1
theorem impl_IsAscending.calls (k : Nat) (A0 : Option Addr) (c0 : Nat) (l0 : List Int) (r : Bool) (w : World) (hr0 : Kd.C (Kd.int .i64) w A0 l0.length l0) (hc0 : l0.length ≤ c0) (h : impl_IsAscending.f k l0 = some r) :
 Calls Try.prog 72 #[.slice A0 l0.length c0] w fun e w' => e = .returned (.bool r) ∧ Drawn0 w w' := by
 have HR0 := Aside0.mk hr0
 have HC0 := Aside0.mk hc0
 clear hr0 hc0
 have H := h
 clear h
 unfold impl_IsAscending.f at H
 have H' := Aside0.mk H
 clear H
 go_enter Try.func72, Try.ntmps72
 go_wp2
 repeat (go_quiet (fail); try go_wp2)
 go_loopg [3] k (fun kq v3 w' => ∃ (x3_1 : Int), v3 = .int .i64 x3_1 ∧ Aside0 (impl_IsAscending.l0 kq l0 x3_1 = some r) ∧ Aside0 (kq ≤ k) ∧ Drawn0 w w')
 case atStart => exact ⟨(1), rs_, H', ⟨Nat.le_refl _⟩, by repeat (first | exact Drawn0.refl _ | apply Drawn0.step)⟩
 case round =>
  clear H'
  obtain ⟨x3_1, rfl, HA, HK1, ⟨m1, rfl⟩⟩ := hrel
  cases gk with
  | zero => exact absurd HA.out (by simp [impl_IsAscending.l0])
  | succ k1 =>
   have H := HA.out
   clear HA
   simp only [impl_IsAscending.l0] at H
   by_cases c2 : x3_1 < (l0.length : Int)
   rotate_left
   · rw [if_neg c2] at H
     have c2b0 : decide (x3_1 < (l0.length : Int)) = false := decide_eq_false c2
     clear c2
     obtain rfl := Option.some.inj H
     go_wp2
     repeat (go_quiet (fail); try go_wp2)
     go_ret
     exact ⟨by first | rfl | (simp; done) | (simp [*]; done), by repeat (first | exact Drawn0.refl _ | apply Drawn0.step)⟩
   rw [if_pos c2] at H
   have c2b0 : decide (x3_1 < (l0.length : Int)) = true := decide_eq_true c2
   clear c2
   by_cases c3 : 0 ≤ x3_1
   rotate_left
   · rw [if_neg c3] at H
     cases H
   rw [if_pos c3] at H
   have c3b0 : decide (0 ≤ x3_1) = true := decide_eq_true c3
   clear c3
   obtain ⟨ji4, hji4⟩ : ∃ j_ : Int, (wrap64 (x3_1 - 1)) = j_ := ⟨_, rfl⟩
   replace H : (if 0 ≤ (ji4) then (if (ji4) < (l0.length : Int) then (if (rd l0 x3_1) ≤ (rd l0 (ji4)) then (some false) else (impl_IsAscending.l0 k1 l0 (wrap64 (x3_1 + 1)))) else (none)) else (none)) = some r := by first | (rw [hji4] at H; exact H) | (simp only [hji4] at H ⊢; exact H)
   have hji4w : (IntKind.i64.wrap (x3_1 - 1)) = ji4 := (i64_w _).trans hji4
   by_cases c5 : 0 ≤ (ji4)
   rotate_left
   · rw [if_neg c5] at H
     cases H
   rw [if_pos c5] at H
   have c5b0 : decide (0 ≤ (ji4)) = true := decide_eq_true c5
   clear c5
   by_cases c6 : (ji4) < (l0.length : Int)
   rotate_left
   · rw [if_neg c6] at H
     cases H
   rw [if_pos c6] at H
   have c6b0 : decide ((ji4) < (l0.length : Int)) = true := decide_eq_true c6
   clear c6
   by_cases c7 : (rd l0 x3_1) ≤ (rd l0 (ji4))
   · rw [if_pos c7] at H
     have c7b0 : decide ((rd l0 x3_1) ≤ (rd l0 (ji4))) = true := decide_eq_true c7
     clear c7
     obtain rfl := Option.some.inj H
     have p507 : 0 ≤ (x3_1 : Int) := od_
     have q507 : x3_1 < (l0.length : Int) := od_
     obtain ⟨ad507, e507, hx507_0⟩ := Kd.at_int HR0.out x3_1 p507 q507
     cases e507
     replace p507 := eq_true p507
     replace q507 := eq_true q507
     have p508 : 0 ≤ ((ji4) : Int) := od_
     have q508 : (ji4) < (l0.length : Int) := od_
     obtain ⟨ad508, e508, hx508_0⟩ := Kd.at_int HR0.out (ji4) p508 q508
     obtain rfl : ad507 = ad508 := (by injection e508)
     replace p508 := eq_true p508
     replace q508 := eq_true q508
     go_wp2
     repeat (go_quiet (fail); try go_wp2)
     go_ret
     exact ⟨by first | rfl | (simp; done) | (simp only [← hji4] <;> (first | rfl | simp)) | (simp [*]; done), by repeat (first | exact Drawn0.refl _ | apply Drawn0.step)⟩
   rw [if_neg c7] at H
   have c7b0 : decide ((rd l0 x3_1) ≤ (rd l0 (ji4))) = false := decide_eq_false c7
   clear c7
   have H' := Aside0.mk H
   clear H
   have p507 : 0 ≤ (x3_1 : Int) := od_
   have q507 : x3_1 < (l0.length : Int) := od_
   obtain ⟨ad507, e507, hx507_0⟩ := Kd.at_int HR0.out x3_1 p507 q507
   cases e507
   replace p507 := eq_true p507
   replace q507 := eq_true q507
   have p508 : 0 ≤ ((ji4) : Int) := od_
   have q508 : (ji4) < (l0.length : Int) := od_
   obtain ⟨ad508, e508, hx508_0⟩ := Kd.at_int HR0.out (ji4) p508 q508
   obtain rfl : ad507 = ad508 := (by injection e508)
   replace p508 := eq_true p508
   replace q508 := eq_true q508
   go_wp2
   repeat (go_quiet (fail); try go_wp2)
   go_roundg k1
   case measure => have := HK1.out; omega
   case rel => exact ⟨(wrap64 (x3_1 + 1)), rs_, H', ⟨by have := HK1.out; omega⟩, by repeat (first | exact Drawn0.refl _ | apply Drawn0.step)⟩
mutual
def impl_IsSemigroup.j0 : Nat → List Int → Bool → Option (Bool)
 | 0, _, _ => none
 | k + 1, x3, x27 => if x27 = true then (some false) else (impl_IsSemigroup.l0 k x3 1)
def impl_IsSemigroup.l0 : Nat → List Int → Int → Option (Bool)
 | 0, _, _ => none
 | k + 1, x3, x4 => if x4 < (x3.length : Int) then (if 0 ≤ x4 then (if x4 ≤ (x3.length : Int) then ((impl_Generates.f k (x3.take (x4 : Int).toNat) (rd x3 x4)).bind fun t516 => (if t516 = true then (some false) else (impl_IsSemigroup.l0 k x3 (wrap64 (x4 + 1))))) else (none)) else (none)) else (if 0 < (x3.length : Int) then ((impl_leasts.f k x3 (rd x3 0)).bind fun t518 => (impl_IsSemigroup.l1 k x3 t518 (t518.length : Int) 0)) else (none))
def impl_IsSemigroup.l1 : Nat → List Int → List Int → Int → Int → Option (Bool)
 | 0, _, _, _, _ => none
 | k + 1, x3, x46, x47, x48 => if x48 < x47 then (if 0 ≤ x48 then (if x48 < (x46.length : Int) then (if 0 < (x3.length : Int) then (if (wrap64 ((rd x46 x48) - (rd x3 0))) ≥ 200 then (some false) else (impl_IsSemigroup.l1 k x3 x46 x47 (wrap64 (x48 + 1)))) else (none)) else (none)) else (none)) else (some true)
end
def impl_IsSemigroup.f (k : Nat) (l0_0 : List Int) : Option (Bool) := (impl_within.f (l0_0.length : Int) 1 12).bind fun t510 => (if t510 = true then ((impl_allWithin.f k l0_0 1 60).bind fun t511 => (if t511 = true then ((impl_IsAscending.f k l0_0).bind fun t512 => (if t512 = true then ((impl_GcdOfList.f k l0_0).bind fun t513 => (impl_IsSemigroup.j0 k l0_0 (t513 != 1))) else (impl_IsSemigroup.j0 k l0_0 true))) else (impl_IsSemigroup.j0 k l0_0 true))) else (impl_IsSemigroup.j0 k l0_0 true))
def impl_IsSemigroup.T7 : Bool × List (List Nat × List Nat) := (true, [([], []), ([], []), ([0, 1], [0, 1]), ([], []), ([], []), ([3, 4], [3, 4]), ([5], [5]), ([2, 6], [2, 6])])
def impl_IsSemigroup.B7 : List Nat := [0, 0, 3, 0, 0, 24, 56, 127]
theorem impl_IsSemigroup.tab7 : rtab .any (opsOf Try.f53 7) = impl_IsSemigroup.T7 := by kernel_rfl
theorem impl_IsSemigroup.bits7 : waitsOk impl_IsSemigroup.T7.2 impl_IsSemigroup.B7 = true := by kernel_rfl
theorem impl_IsSemigroup.calls (k : Nat) (A0_0 : Option Addr) (c0_0 : Nat) (l0_0 : List Int) (r : Bool) (w : World) (hr0_0 : Kd.C (Kd.int .i64) w A0_0 l0_0.length l0_0) (hc0_0 : l0_0.length ≤ c0_0) (h : impl_IsSemigroup.f k l0_0 = some r) :
 Calls Try.prog 53 #[.agg #[.slice A0_0 l0_0.length c0_0]] w fun e w' => e = .returned (.bool r) ∧ Below w.heap.size w w' := by
 have hu26 := Try.underlying26
 have HR0_0 := Aside0.mk hr0_0
 have HC0_0 := Aside0.mk hc0_0
 clear hr0_0 hc0_0
 have HB := Aside0.mk (Below.refl w.heap.size w)
 have H := h
 clear h
 unfold impl_IsSemigroup.f at H
 have HC2 := Aside0.mk H
 clear H
 go_enter Try.func53, Try.ntmps53
 go_upto_region 2 with (first | ((with_reducible refine gate_dst (N := 1) rfl ?_); refine bx_ 1 #[.slice A0_0 l0_0.length c0_0] 26 ?_; intro gb509 hg w3 hbox hb; have BK509 := Aside0.mk (hbox); have GW509 := gw_ hg HB; have GE509 := gw_ hg HB; replace HB := bo_ HB hb; clear hb hbox hg; have hcz4_0 := cz_ BK509; have hfz4_0 := blk_frozen BK509.out 0))
 (try simp only [Act.put, z1_, z2_, z3_])
 go_cut [27] (fun v27 wc => ∃ (kq : Nat) (x27_1 : Bool), v27 = .bool x27_1 ∧ Aside0 (impl_IsSemigroup.j0 kq l0_0 x27_1 = some r) ∧ Aside0 (kq ≤ k) ∧ Aside0 (wc.heap[gb509]? = some (.cells #[(.slice A0_0 l0_0.length c0_0)] 26 (0, 0))) ∧ Aside0 (Below w.heap.size w wc))
 case first =>
  have H := HC2.out
  clear HC2
  obtain ⟨t510, A5, H⟩ := ob_ H
  by_cases c6 : t510 = true
  rotate_left
  · replace c6 := Bool.eq_false_iff.mpr c6
    subst c6
    rw [if_neg (show ¬ (false = true) by decide)] at H
    have H' := Aside0.mk H
    clear H
    go_wp2_with (first | ((with_reducible refine gate_callee (f := 22) rfl ?_); refine gL_ (some 11) Try.func22 #[.int .i64 (l0_0.length : Int), .int .i64 1, .int .i64 12] ?_; (with_reducible refine (impl_within.calls (l0_0.length : Int) 1 12 false _ A5.out).mono ?_); rintro e w' ⟨rfl, ⟨nd, rfl⟩⟩; refine ⟨_, rfl, ?_⟩))
    go_meet
    case rel => exact ⟨_, (true), rs_, H', ⟨by first | omega | exact Nat.le_refl _⟩, ⟨be_ BK509.out⟩, ⟨bq_ HB⟩⟩
  subst c6
  rw [if_pos rfl] at H
  obtain ⟨t511, A7, H⟩ := ob_ H
  by_cases c8 : t511 = true
  rotate_left
  · replace c8 := Bool.eq_false_iff.mpr c8
    subst c8
    rw [if_neg (show ¬ (false = true) by decide)] at H
    have H' := Aside0.mk H
    clear H
    go_wp2_with (first | ((with_reducible refine gate_callee (f := 22) rfl ?_); refine gL_ (some 11) Try.func22 #[.int .i64 (l0_0.length : Int), .int .i64 1, .int .i64 12] ?_; (with_reducible refine (impl_within.calls (l0_0.length : Int) 1 12 true _ A5.out).mono ?_); rintro e w' ⟨rfl, ⟨nd, rfl⟩⟩; refine ⟨_, rfl, ?_⟩) | (go_at_call 56; (with_reducible refine (impl_allWithin.calls k _ _ l0_0 1 60 false _ ?side1 ?side2 A7.out).mono ?_); (case side1 => repeat (first | exact (Kd.C_below HR0_0.out (bq_ HB)) | (with_reducible refine Kd.C_alloc ?_ _) | (with_reducible refine Kd.C_drewN ?_ _) | (with_reducible refine Kd.C_drew ?_))); (case side2 => exact HC0_0.out); rintro e w' ⟨rfl, ⟨nd, rfl⟩⟩))
    go_meet
    case rel => exact ⟨_, (true), rs_, H', ⟨by first | omega | exact Nat.le_refl _⟩, ⟨be_ BK509.out⟩, ⟨bq_ HB⟩⟩
  subst c8
  rw [if_pos rfl] at H
  obtain ⟨t512, A9, H⟩ := ob_ H
  by_cases c10 : t512 = true
  rotate_left
  · replace c10 := Bool.eq_false_iff.mpr c10
    subst c10
    rw [if_neg (show ¬ (false = true) by decide)] at H
    have H' := Aside0.mk H
    clear H
    go_wp2_with (first | ((with_reducible refine gate_callee (f := 22) rfl ?_); refine gL_ (some 11) Try.func22 #[.int .i64 (l0_0.length : Int), .int .i64 1, .int .i64 12] ?_; (with_reducible refine (impl_within.calls (l0_0.length : Int) 1 12 true _ A5.out).mono ?_); rintro e w' ⟨rfl, ⟨nd, rfl⟩⟩; refine ⟨_, rfl, ?_⟩) | (go_at_call 56; (with_reducible refine (impl_allWithin.calls k _ _ l0_0 1 60 true _ ?side1 ?side2 A7.out).mono ?_); (case side1 => repeat (first | exact (Kd.C_below HR0_0.out (bq_ HB)) | (with_reducible refine Kd.C_alloc ?_ _) | (with_reducible refine Kd.C_drewN ?_ _) | (with_reducible refine Kd.C_drew ?_))); (case side2 => exact HC0_0.out); rintro e w' ⟨rfl, ⟨nd, rfl⟩⟩) | (go_at_call 72; (with_reducible refine (impl_IsAscending.calls k _ _ l0_0 false _ ?side1 ?side2 A9.out).mono ?_); (case side1 => repeat (first | exact (Kd.C_below HR0_0.out (bq_ HB)) | (with_reducible refine Kd.C_alloc ?_ _) | (with_reducible refine Kd.C_drewN ?_ _) | (with_reducible refine Kd.C_drew ?_))); (case side2 => exact HC0_0.out); rintro e w' ⟨rfl, ⟨nd, rfl⟩⟩))
    go_meet
    case rel => exact ⟨_, (true), rs_, H', ⟨by first | omega | exact Nat.le_refl _⟩, ⟨be_ BK509.out⟩, ⟨bq_ HB⟩⟩
  subst c10
  rw [if_pos rfl] at H
  obtain ⟨t513, A11, H⟩ := ob_ H
  have H' := Aside0.mk H
  clear H
  go_wp2_with (first | ((with_reducible refine gate_callee (f := 22) rfl ?_); refine gL_ (some 11) Try.func22 #[.int .i64 (l0_0.length : Int), .int .i64 1, .int .i64 12] ?_; (with_reducible refine (impl_within.calls (l0_0.length : Int) 1 12 true _ A5.out).mono ?_); rintro e w' ⟨rfl, ⟨nd, rfl⟩⟩; refine ⟨_, rfl, ?_⟩) | (go_at_call 56; (with_reducible refine (impl_allWithin.calls k _ _ l0_0 1 60 true _ ?side1 ?side2 A7.out).mono ?_); (case side1 => repeat (first | exact (Kd.C_below HR0_0.out (bq_ HB)) | (with_reducible refine Kd.C_alloc ?_ _) | (with_reducible refine Kd.C_drewN ?_ _) | (with_reducible refine Kd.C_drew ?_))); (case side2 => exact HC0_0.out); rintro e w' ⟨rfl, ⟨nd, rfl⟩⟩) | (go_at_call 72; (with_reducible refine (impl_IsAscending.calls k _ _ l0_0 true _ ?side1 ?side2 A9.out).mono ?_); (case side1 => repeat (first | exact (Kd.C_below HR0_0.out (bq_ HB)) | (with_reducible refine Kd.C_alloc ?_ _) | (with_reducible refine Kd.C_drewN ?_ _) | (with_reducible refine Kd.C_drew ?_))); (case side2 => exact HC0_0.out); rintro e w' ⟨rfl, ⟨nd, rfl⟩⟩) | (go_at_call 33; (with_reducible refine (impl_GcdOfList.calls k _ _ l0_0 t513 _ ?side1 ?side2 A11.out).mono ?_); (case side1 => repeat (first | exact (Kd.C_below HR0_0.out (bq_ HB)) | (with_reducible refine Kd.C_alloc ?_ _) | (with_reducible refine Kd.C_drewN ?_ _) | (with_reducible refine Kd.C_drew ?_))); (case side2 => exact HC0_0.out); rintro e w12 ⟨rfl, hb⟩; replace BK509 := bk_ BK509 hb; replace HB := bp_ HB hb; (try clear hb)))
  go_meet
  case rel => exact ⟨_, ((t513 != 1)), rs_, H', ⟨by first | omega | exact Nat.le_refl _⟩, ⟨be_ BK509.out⟩, ⟨bq_ HB⟩⟩
 case rest =>
  clear HC2
  try clear c1
  try clear c2
  try clear p2
  try clear c5
  try clear c6
  try clear c8
  try clear c10
  try clear hcz4_0
  try clear hfz4_0
  obtain ⟨kq, x27_1, rfl, HA, HJ1, BK509, HB⟩ := hcut
  cases kq with
  | zero => exact absurd HA.out (by simp [impl_IsSemigroup.j0])
  | succ kj1 =>
   have H := HA.out
   clear HA
   simp only [impl_IsSemigroup.j0] at H
   by_cases c13 : x27_1 = true
   · subst c13
     rw [if_pos rfl] at H
     obtain rfl := Option.some.inj H
     go_wp2
     go_ret
     exact ⟨rf_, bq_ HB⟩
   replace c13 := Bool.eq_false_iff.mpr c13
   subst c13
   rw [if_neg (show ¬ (false = true) by decide)] at H
   have H' := Aside0.mk H
   clear H
   go_wp2
   go_loopg [4] kj1 (fun kq v4 w' => ∃ (x4_2 : Int), v4 = .int .i64 x4_2 ∧ Aside0 (impl_IsSemigroup.l0 kq l0_0 x4_2 = some r) ∧ Aside0 (kq ≤ kj1) ∧ Aside0 (w'.heap[gb509]? = some (.cells #[(.slice A0_0 l0_0.length c0_0)] 26 (0, 0))) ∧ Aside0 (Below w.heap.size w w'))
   case atStart => exact ⟨(1), rs_, H', ⟨Nat.le_refl _⟩, ⟨be_ BK509.out⟩, ⟨bq_ HB⟩⟩
   case round =>
    clear H'
    try clear c1
    try clear c2
    try clear p2
    try clear c5
    try clear c6
    try clear c8
    try clear c10
    try clear c13
    try clear hcz4_0
    try clear hfz4_0
    try clear p2
    obtain ⟨x4_2, rfl, HA, HK2, BK509, HB⟩ := hrel
    cases gk with
    | zero => exact absurd HA.out (by simp [impl_IsSemigroup.l0])
    | succ k2 =>
     have H := HA.out
     clear HA
     simp only [impl_IsSemigroup.l0] at H
     by_cases c14 : x4_2 < (l0_0.length : Int)
     · rw [if_pos c14] at H
       have c14b0 : decide (x4_2 < (l0_0.length : Int)) = true := decide_eq_true c14
       clear c14
       by_cases c15 : 0 ≤ x4_2
       rotate_left
       · rw [if_neg c15] at H
         cases H
       rw [if_pos c15] at H
       have c15b0 := eq_true c15
       have c15b1 : decide (0 ≤ x4_2) = true := decide_eq_true c15
       clear c15
       by_cases c16 : x4_2 ≤ (l0_0.length : Int)
       rotate_left
       · rw [if_neg c16] at H
         cases H
       rw [if_pos c16] at H
       have c16b0 := eq_true c16
       have c16b1 : decide (x4_2 ≤ (l0_0.length : Int)) = true := decide_eq_true c16
       clear c16
       obtain ⟨t516, A17, H⟩ := ob_ H
       by_cases c18 : t516 = true
       · subst c18
         rw [if_pos rfl] at H
         obtain rfl := Option.some.inj H
         try go_wp2
         replace BK509 := Aside0.mk (blk_drew BK509.out)
         replace HB := Aside0.mk (below_drew1 HB.out)
         obtain ⟨i020, hi020, _, hsz20, _⟩ := info_parts info3
         obtain ⟨hcut20, hA20, hC20⟩ := print_take_of (P := Try.prog) (Value.int .i64) 0 24 3 .i64 Try.underlying24 hi020 hsz20 A0_0 c0_0 l0_0 x4_2 (od_) (od_) HC0_0.out
         have HR514 := Aside0.mk (Kd.C_of_reads (h1 := fun _ => rfl) (hA20 _ (Kd.reads_of_C HR0_0.out)))
         have HC514 := Aside0.mk hC20
         clear hA20 hC20 hi020 hsz20
         have p515 : 0 ≤ (x4_2 : Int) := od_
         have q515 : x4_2 < (l0_0.length : Int) := od_
         obtain ⟨ad515, e515, hx515_0⟩ := Kd.at_int HR0_0.out x4_2 p515 q515
         have hw515_0 := hx515_0
         cases e515
         (try replace hx515_0 := (HB.out.cell (World.block_lt_of_cell? w _ hx515_0)).trans hx515_0)
         replace p515 := eq_true p515
         replace q515 := eq_true q515
         refine start_ (n := 8) (S := fun w' => w'.cell? (ad515.add (x4_2).toNat) = some (.int .i64 (rd l0_0 x4_2))) (ds := []) (B_ 0 8) (by kernel_rfl) rfl rfl (by first | exact hw515_0 | exact (HB.out.cell (World.block_lt_of_cell? w _ hw515_0)).trans hw515_0 | (obtain ⟨_, e_, h_⟩ := Kd.at_int HR0_0.out x4_2 (of_eq_true p515) (of_eq_true q515); cases e_; exact h_)) (fun hHeld => ?_); refine with_tabW impl_IsSemigroup.tab7 impl_IsSemigroup.bits7 (fun HT_ HW_ => ?_)
         generalize wr.drew = w19 at BK509 HB HR514 hx515_0 hHeld ⊢
         refine pu_ HT_ 0 34 (B_ 1 8) ?_
         refine pu_ HT_ 1 35 (B_ 3 8) ?_
         refine pu_ HT_ 2 36 (B_ 7 8) ?_
         refine pu_ HT_ 3 37 (B_ 15 8) ?_
         refine pu_ HT_ 4 38 (B_ 31 8) ?_
         refine pu_ HT_ 5 39 (B_ 63 8) ?_
         refine tk1_ HT_ HW_ hHeld 6 40 (B_ 127 8) ?_
         refine on_ HT_ 7 41 (B_ 255 8) (fun K hK => ?_)
         refine goes_ Try.func35 (by kernel_rfl) rfl #[.slice (some ad515) (l0_0.take (x4_2 : Int).toNat).length c0_0, .int .i64 (rd l0_0 x4_2)] (by rfl) rfl rfl (by (try simp only [List.map_toArray, List.map_cons, List.map_nil]); first | done | (rw [show (l0_0.take (x4_2 : Int).toNat).length = x4_2.toNat from (by rw [List.length_take]; have h_ : (x4_2 : Int) ≤ (l0_0.length : Int) := od_; omega)] <;> rfl) | rfl | (simp only [List.length_drop, List.length_take]; rfl)) ?_
         with_reducible refine (impl_Generates.calls k2 _ _ (l0_0.take (x4_2 : Int).toNat) (rd l0_0 x4_2) true _ ?side1 ?side2 A17.out).mono ?_
         (case side1 => exact ch_ HR514 HB)
         (case side2 => exact HC514.out)
         rintro e w21 ⟨rfl, hb⟩
         refine ⟨_, rfl, ?_⟩
         replace BK509 := bk_ BK509 hb
         replace HB := bp_ HB hb
         (try clear hb)
         refine hK.out _ _ (by first | exact hw515_0 | exact (HB.out.cell (World.block_lt_of_cell? w _ hw515_0)).trans hw515_0 | (obtain ⟨_, e_, h_⟩ := Kd.at_int HR0_0.out x4_2 (of_eq_true p515) (of_eq_true q515); cases e_; exact h_)) (fun hHeld => ?_)
         clear hK K
         refine norm_ (a' := ?_) ?_ ?_
         rotate_left
         · show Act.put _ (some 41) _ = _
           simp only [Act.put, z1_, z2_, z3_, i64_w, i32_w]
           rfl
         refine done_ (done_of HT_.out (by kernel_rfl)) ?_
         try go_wp2
         go_ret
         exact ⟨rf_, bq_ HB⟩
       replace c18 := Bool.eq_false_iff.mpr c18
       subst c18
       rw [if_neg (show ¬ (false = true) by decide)] at H
       have H' := Aside0.mk H
       clear H
       try go_wp2
       replace BK509 := Aside0.mk (blk_drew BK509.out)
       replace HB := Aside0.mk (below_drew1 HB.out)
       obtain ⟨i023, hi023, _, hsz23, _⟩ := info_parts info3
       obtain ⟨hcut23, hA23, hC23⟩ := print_take_of (P := Try.prog) (Value.int .i64) 0 24 3 .i64 Try.underlying24 hi023 hsz23 A0_0 c0_0 l0_0 x4_2 (od_) (od_) HC0_0.out
       have HR514 := Aside0.mk (Kd.C_of_reads (h1 := fun _ => rfl) (hA23 _ (Kd.reads_of_C HR0_0.out)))
       have HC514 := Aside0.mk hC23
       clear hA23 hC23 hi023 hsz23
       have p515 : 0 ≤ (x4_2 : Int) := od_
       have q515 : x4_2 < (l0_0.length : Int) := od_
       obtain ⟨ad515, e515, hx515_0⟩ := Kd.at_int HR0_0.out x4_2 p515 q515
       have hw515_0 := hx515_0
       cases e515
       (try replace hx515_0 := (HB.out.cell (World.block_lt_of_cell? w _ hx515_0)).trans hx515_0)
       replace p515 := eq_true p515
       replace q515 := eq_true q515
       refine start_ (n := 8) (S := fun w' => w'.cell? (ad515.add (x4_2).toNat) = some (.int .i64 (rd l0_0 x4_2))) (ds := []) (B_ 0 8) (by kernel_rfl) rfl rfl (by first | exact hw515_0 | exact (HB.out.cell (World.block_lt_of_cell? w _ hw515_0)).trans hw515_0 | (obtain ⟨_, e_, h_⟩ := Kd.at_int HR0_0.out x4_2 (of_eq_true p515) (of_eq_true q515); cases e_; exact h_)) (fun hHeld => ?_); refine with_tabW impl_IsSemigroup.tab7 impl_IsSemigroup.bits7 (fun HT_ HW_ => ?_)
       generalize wr.drew = w22 at BK509 HB HR514 hx515_0 hHeld ⊢
       refine pu_ HT_ 0 34 (B_ 1 8) ?_
       refine pu_ HT_ 1 35 (B_ 3 8) ?_
       refine pu_ HT_ 2 36 (B_ 7 8) ?_
       refine pu_ HT_ 3 37 (B_ 15 8) ?_
       refine pu_ HT_ 4 38 (B_ 31 8) ?_
       refine pu_ HT_ 5 39 (B_ 63 8) ?_
       refine tk1_ HT_ HW_ hHeld 6 40 (B_ 127 8) ?_
       refine on_ HT_ 7 41 (B_ 255 8) (fun K hK => ?_)
       refine goes_ Try.func35 (by kernel_rfl) rfl #[.slice (some ad515) (l0_0.take (x4_2 : Int).toNat).length c0_0, .int .i64 (rd l0_0 x4_2)] (by rfl) rfl rfl (by (try simp only [List.map_toArray, List.map_cons, List.map_nil]); first | done | (rw [show (l0_0.take (x4_2 : Int).toNat).length = x4_2.toNat from (by rw [List.length_take]; have h_ : (x4_2 : Int) ≤ (l0_0.length : Int) := od_; omega)] <;> rfl) | rfl | (simp only [List.length_drop, List.length_take]; rfl)) ?_
       with_reducible refine (impl_Generates.calls k2 _ _ (l0_0.take (x4_2 : Int).toNat) (rd l0_0 x4_2) false _ ?side1 ?side2 A17.out).mono ?_
       (case side1 => exact ch_ HR514 HB)
       (case side2 => exact HC514.out)
       rintro e w24 ⟨rfl, hb⟩
       refine ⟨_, rfl, ?_⟩
       replace BK509 := bk_ BK509 hb
       replace HB := bp_ HB hb
       (try clear hb)
       refine hK.out _ _ (by first | exact hw515_0 | exact (HB.out.cell (World.block_lt_of_cell? w _ hw515_0)).trans hw515_0 | (obtain ⟨_, e_, h_⟩ := Kd.at_int HR0_0.out x4_2 (of_eq_true p515) (of_eq_true q515); cases e_; exact h_)) (fun hHeld => ?_)
       clear hK K
       refine norm_ (a' := ?_) ?_ ?_
       rotate_left
       · show Act.put _ (some 41) _ = _
         simp only [Act.put, z1_, z2_, z3_, i64_w, i32_w]
         rfl
       refine done_ (done_of HT_.out (by kernel_rfl)) ?_
       try go_wp2
       go_roundg k2
       case measure => have := HJ1.out; have := HK2.out; omega
       case rel => exact ⟨(wrap64 (x4_2 + 1)), rs_, H', ⟨by have := HJ1.out; have := HK2.out; omega⟩, ⟨be_ BK509.out⟩, ⟨bq_ HB⟩⟩
     rw [if_neg c14] at H
     have c14b0 : decide (x4_2 < (l0_0.length : Int)) = false := decide_eq_false c14
     clear c14
     by_cases c25 : 0 < (l0_0.length : Int)
     rotate_left
     · rw [if_neg c25] at H
       cases H
     rw [if_pos c25] at H
     have c25b0 : decide (0 < (l0_0.length : Int)) = true := decide_eq_true c25
     have c25b1 : decide (0 < l0_0.length) = true := decide_eq_true (by omega)
     clear c25
     obtain ⟨t518, A26, H⟩ := ob_ H
     have H' := Aside0.mk H
     clear H
     have p517 : 0 ≤ (0 : Int) := (by omega)
     have q517 : 0 < (l0_0.length : Int) := od_
     obtain ⟨ad517, e517, hx517_0⟩ := Kd.at_int HR0_0.out 0 p517 q517
     cases e517
     have qi517 : (0 < l0_0.length) = True := eq_true (by omega)
     (try rw [show ((0 : Int)).toNat = 0 from rfl] at hx517_0)
     (try rw [Addr.add_zero'] at hx517_0)
     (try replace hx517_0 := (HB.out.cell (World.block_lt_of_cell? w _ hx517_0)).trans hx517_0)
     replace p517 := eq_true p517
     replace q517 := eq_true q517
     go_wp2_with (first | ((with_reducible refine gate_callee (f := 54) rfl ?_); refine gL_ (some 46) Try.func54 #[.slice (some ad517) l0_0.length c0_0, .int .i64 (rd l0_0 0)] ?_; (with_reducible refine (impl_leasts.calls k2 _ _ l0_0 (rd l0_0 0) t518 _ ?side1 ?side2 A26.out).mono ?_); (case side1 => exact ch_ HR0_0 HB); (case side2 => exact HC0_0.out); rintro e w27 ⟨v519, rfl, ho0, hb⟩; refine ⟨_, rfl, ?_⟩; have HO520 := Aside0.mk (Kd.R_lower ho0 (below_size (bq_ HB))); replace BK509 := bk_ BK509 hb; replace HB := bp_ HB hb; (try clear hb); (try clear ho0); obtain ⟨Ao28, co28, eo28⟩ := Kd.R_slice HO520.out; subst eo28))
     go_loopg [48] k2 (fun kq v48 w' => ∃ (x48_3 : Int), v48 = .int .i64 x48_3 ∧ Aside0 (impl_IsSemigroup.l1 kq l0_0 t518 (t518.length : Int) x48_3 = some r) ∧ Aside0 (kq ≤ k2) ∧ Aside0 (Kd.R (Kd.int .i64) 3 w' w.heap.size (fun _ => True) (.slice Ao28 t518.length co28) t518) ∧ Aside0 (w'.heap[gb509]? = some (.cells #[(.slice (some ad517) l0_0.length c0_0)] 26 (0, 0))) ∧ Aside0 (Below w.heap.size w w'))
     case atStart => exact ⟨(0), rs_, H', ⟨Nat.le_refl _⟩, ⟨re_ HO520.out⟩, ⟨be_ BK509.out⟩, ⟨bq_ HB⟩⟩
     case round =>
      clear H'
      try clear c1
      try clear c2
      try clear p2
      try clear c3
      try clear c5
      try clear p5
      try clear q5
      try clear hx5
      try clear qi5
      try clear c6
      try clear p6
      try clear c8
      try clear c10
      try clear c13
      try clear c14
      try clear c14b0
      try clear c15
      try clear c15b0
      try clear c15b1
      try clear c16
      try clear c16b0
      try clear c16b1
      try clear c18
      try clear c22
      try clear c25
      try clear c25b0
      try clear c25b1
      try clear hcz4_0
      try clear hfz4_0
      try clear hx515_0
      try clear hx517_0
      try clear p2
      try clear p515
      try clear p517
      try clear q515
      try clear q517
      obtain ⟨x48_3, rfl, HA, HK3, HO_46, BK509, HB⟩ := hrel
      cases gk with
      | zero => exact absurd HA.out (by simp [impl_IsSemigroup.l1])
      | succ k3 =>
       have H := HA.out
       clear HA
       simp only [impl_IsSemigroup.l1] at H
       by_cases c29 : x48_3 < (t518.length : Int)
       rotate_left
       · rw [if_neg c29] at H
         have c29b0 : decide (x48_3 < (t518.length : Int)) = false := decide_eq_false c29
         clear c29
         obtain rfl := Option.some.inj H
         go_wp2
         go_ret
         exact ⟨rf_, bq_ HB⟩
       rw [if_pos c29] at H
       have c29b0 : decide (x48_3 < (t518.length : Int)) = true := decide_eq_true c29
       clear c29
       by_cases c30 : 0 ≤ x48_3
       rotate_left
       · rw [if_neg c30] at H
         cases H
       rw [if_pos c30] at H
       have c30b0 : decide (0 ≤ x48_3) = true := decide_eq_true c30
       clear c30
       by_cases c31 : x48_3 < (t518.length : Int)
       rotate_left
       · rw [if_neg c31] at H
         cases H
       rw [if_pos c31] at H
       have c31b0 : decide (x48_3 < (t518.length : Int)) = true := decide_eq_true c31
       clear c31
       by_cases c32 : 0 < (l0_0.length : Int)
       rotate_left
       · rw [if_neg c32] at H
         cases H
       rw [if_pos c32] at H
       have c32b0 : decide (0 < (l0_0.length : Int)) = true := decide_eq_true c32
       have c32b1 : decide (0 < l0_0.length) = true := decide_eq_true (by omega)
       clear c32
       by_cases c33 : (wrap64 ((rd t518 x48_3) - (rd l0_0 0))) ≥ 200
       · rw [if_pos c33] at H
         have c33b0 : decide (200 ≤ (wrap64 ((rd t518 x48_3) - (rd l0_0 0)))) = true := decide_eq_true c33
         clear c33
         obtain rfl := Option.some.inj H
         have p521 : 0 ≤ (x48_3 : Int) := od_
         have q521 : x48_3 < (t518.length : Int) := od_
         obtain ⟨ad521, e521, hx521_0⟩ := Kd.at_int (Kd.R_reads' HO_46.out).2.2 x48_3 p521 q521
         cases e521
         replace p521 := eq_true p521
         replace q521 := eq_true q521
         have p522 : 0 ≤ (0 : Int) := (by omega)
         have q522 : 0 < (l0_0.length : Int) := od_
         obtain ⟨ad522, e522, hx522_0⟩ := Kd.at_int HR0_0.out 0 p522 q522
         obtain rfl : ad517 = ad522 := (by injection e522)
         have qi522 : (0 < l0_0.length) = True := eq_true (by omega)
         (try rw [show ((0 : Int)).toNat = 0 from rfl] at hx522_0)
         (try rw [Addr.add_zero'] at hx522_0)
         (try replace hx522_0 := (HB.out.cell (World.block_lt_of_cell? w _ hx522_0)).trans hx522_0)
         replace p522 := eq_true p522
         replace q522 := eq_true q522
         go_wp2
         go_ret
         exact ⟨rf_, bq_ HB⟩
       rw [if_neg c33] at H
       have c33b0 : decide (200 ≤ (wrap64 ((rd t518 x48_3) - (rd l0_0 0)))) = false := decide_eq_false c33
       clear c33
       have H' := Aside0.mk H
       clear H
       have p521 : 0 ≤ (x48_3 : Int) := od_
       have q521 : x48_3 < (t518.length : Int) := od_
       obtain ⟨ad521, e521, hx521_0⟩ := Kd.at_int (Kd.R_reads' HO_46.out).2.2 x48_3 p521 q521
       cases e521
       replace p521 := eq_true p521
       replace q521 := eq_true q521
       have p522 : 0 ≤ (0 : Int) := (by omega)
       have q522 : 0 < (l0_0.length : Int) := od_
       obtain ⟨ad522, e522, hx522_0⟩ := Kd.at_int HR0_0.out 0 p522 q522
       obtain rfl : ad517 = ad522 := (by injection e522)
       have qi522 : (0 < l0_0.length) = True := eq_true (by omega)
       (try rw [show ((0 : Int)).toNat = 0 from rfl] at hx522_0)
       (try rw [Addr.add_zero'] at hx522_0)
       (try replace hx522_0 := (HB.out.cell (World.block_lt_of_cell? w _ hx522_0)).trans hx522_0)
       replace p522 := eq_true p522
       replace q522 := eq_true q522
       go_wp2
       go_roundg k3
       case measure => have := HJ1.out; have := HK2.out; have := HK3.out; omega
       case rel => exact ⟨(wrap64 (x48_3 + 1)), rs_, H', ⟨by have := HJ1.out; have := HK2.out; have := HK3.out; omega⟩, ⟨re_ HO_46.out⟩, ⟨be_ BK509.out⟩, ⟨bq_ HB⟩⟩
end Go.Proofs.Ytjjajcldmkmgkaa.PA
end
