-- Bundled by shake.py from this session's printed and written texts; Lean checks it.
import Derived.Test.YtapdhljbhekcdaaZFnBoundsx1
import Derived.Test.YtapdhljbhekcdaaZFnBoundsx7
import Derived.Test.YtapdhljbhekcdaaZFnBoundsx8
section
namespace Go.Proofs.Ytapdhljbhekcdaa.PB
open Go.RowKit Go.Proofs.YtapdhljbhekcdaaW.PrintWords Go.Proofs.YtapdhljbhekcdaaW.PrintLast Go.Proofs.YtapdhljbhekcdaaW.PrintMore
set_option linter.unusedVariables false
set_option linter.unusedSimpArgs false
def spec_l3Bent.f (k : Nat) (s0_0 : List Int) (s0_1 : Int) (s0_2 : Int) : Option (List Int × Int × Int) := (spec_l3Draw.f k s0_0 s0_1 s0_2).bind fun bt586 => ((spec_l1Below.f s0_0 bt586.2.1 bt586.2.2 12).bind fun bt592 => (if bt592.1 = 0 then ((spec_l1PickInt.f s0_0 bt592.2.1 bt592.2.2 (([0, 61, 12, (-3), 60] : List Int))).bind fun bt598 => (if bt586.1.length < 17592186044416 then (some ((bt586.1 ++ [bt598.1]), bt598.2.1, bt598.2.2)) else (none))) else (if bt592.1 = 1 then (if 1 ≤ (bt586.1.length : Int) then (some ((bt586.1.drop (1 : Int).toNat), bt592.2.1, bt592.2.2)) else (none)) else (if bt592.1 = 2 then ((spec_l1PickInt.f s0_0 bt592.2.1 bt592.2.2 (([0, 59, 4] : List Int))).bind fun bt610 => (some ((([bt610.1, 60] : List Int)), bt610.2.1, bt610.2.2))) else (some (bt586.1, bt592.2.1, bt592.2.2))))))
def spec_l3Bent.T4 : Bool × List (List Nat × List Nat) := (true, [([], []), ([0], [0]), ([], []), ([], []), ([2, 3], [2, 3]), ([4], [4]), ([1, 5, 4], [1, 5]), ([0, 1, 2, 3, 4, 5, 6], []), ([7, 6, 6, 0, 1, 2, 3, 4, 5, 6], [6, 7])])
def spec_l3Bent.B4 : List Nat := [0, 1, 0, 0, 12, 28, 63, 127, 255]
theorem spec_l3Bent.tab4 : rtab .any (opsOf Try.f75 4) = spec_l3Bent.T4 := by kernel_rfl
theorem spec_l3Bent.bits4 : waitsOk spec_l3Bent.T4.2 spec_l3Bent.B4 = true := by kernel_rfl
set_option maxHeartbeats 8000000 in
set_option maxRecDepth 100000 in
theorem spec_l3Bent.calls (k : Nat) (g : Nat) (s0_0 : List Int) (s0_1 : Int) (s0_2 : Int) (r1 : List Int) (r2 : Int) (r3 : Int) (w0 w : World) (hI : IsS74 w0 w g s0_0 s0_1 s0_2) (hB : Below w0.heap.size w0 w) (h : spec_l3Bent.f k s0_0 s0_1 s0_2 = some (r1, r2, r3)) :
 Calls Try.prog 75 #[.pointer (some ⟨g, 0, none⟩)] w fun e w' => ∃ v0_ : Value, e = .returned (.agg #[v0_]) ∧ Kd.Q (Kd.int .i64) 3 w' w.heap.size (fun _ => True) v0_ r1 ∧ IsS74 w0 w' g s0_0 r2 r3 ∧ Below w0.heap.size w0 w' ∧ KeepBut w w' g none := by
 have hu27 := Try.underlying27
 have HI0 := Aside0.mk hI
 have HK := Aside0.mk (KeepBut.refl w g none)
 have HL := Aside0.mk hB.size
 clear hI
 have HW0 := Aside0.mk hB.size
 have HB := Aside0.mk hB
 clear hB
 have H : ((spec_l3Draw.f k s0_0 s0_1 s0_2).bind fun bt586 => ((spec_l1Below.f s0_0 bt586.2.1 bt586.2.2 12).bind fun bt592 => (if bt592.1 = 0 then ((spec_l1PickInt.f s0_0 bt592.2.1 bt592.2.2 (([0, 61, 12, (-3), 60] : List Int))).bind fun bt598 => (if bt586.1.length < 17592186044416 then (some ((bt586.1 ++ [bt598.1]), bt598.2.1, bt598.2.2)) else (none))) else (if bt592.1 = 1 then (if 1 ≤ (bt586.1.length : Int) then (some ((bt586.1.drop (1 : Int).toNat), bt592.2.1, bt592.2.2)) else (none)) else (if bt592.1 = 2 then ((spec_l1PickInt.f s0_0 bt592.2.1 bt592.2.2 (([0, 59, 4] : List Int))).bind fun bt610 => (some ((([bt610.1, 60] : List Int)), bt610.2.1, bt610.2.2))) else (some (bt586.1, bt592.2.1, bt592.2.2))))))) = some (r1, r2, r3) := h
 clear h
 replace H := Option.bind_eq_some_iff.mp H
 obtain ⟨⟨t586, t589, t590⟩, A20, H⟩ := H
 replace H : ((spec_l1Below.f s0_0 t589 t590 12).bind fun bt592 => (if bt592.1 = 0 then ((spec_l1PickInt.f s0_0 bt592.2.1 bt592.2.2 (([0, 61, 12, (-3), 60] : List Int))).bind fun bt598 => (if t586.length < 17592186044416 then (some ((t586 ++ [bt598.1]), bt598.2.1, bt598.2.2)) else (none))) else (if bt592.1 = 1 then (if 1 ≤ (t586.length : Int) then (some ((t586.drop (1 : Int).toNat), bt592.2.1, bt592.2.2)) else (none)) else (if bt592.1 = 2 then ((spec_l1PickInt.f s0_0 bt592.2.1 bt592.2.2 (([0, 59, 4] : List Int))).bind fun bt610 => (some ((([bt610.1, 60] : List Int)), bt610.2.1, bt610.2.2))) else (some (t586, bt592.2.1, bt592.2.2)))))) = some (r1, r2, r3) := H
 have A2 := Aside0.mk A20
 clear A20
 replace H := Option.bind_eq_some_iff.mp H
 obtain ⟨⟨t592, t593, t594⟩, A30, H⟩ := H
 replace H : (if t592 = 0 then ((spec_l1PickInt.f s0_0 t593 t594 (([0, 61, 12, (-3), 60] : List Int))).bind fun bt598 => (if t586.length < 17592186044416 then (some ((t586 ++ [bt598.1]), bt598.2.1, bt598.2.2)) else (none))) else (if t592 = 1 then (if 1 ≤ (t586.length : Int) then (some ((t586.drop (1 : Int).toNat), t593, t594)) else (none)) else (if t592 = 2 then ((spec_l1PickInt.f s0_0 t593 t594 (([0, 59, 4] : List Int))).bind fun bt610 => (some ((([bt610.1, 60] : List Int)), bt610.2.1, bt610.2.2))) else (some (t586, t593, t594))))) = some (r1, r2, r3) := H
 have A3 := Aside0.mk A30
 clear A30
 by_cases c4 : t592 = 0
 · rw [if_pos c4] at H
   have c4b0 : (t592 == 0) = true := beq_iff_eq.mpr c4
   have c4b1 : (t592 != 0) = false := bne_eq_false_iff_eq.mpr c4
   clear c4
   obtain ⟨y595, hy595⟩ : ∃ y_ : List Int, y_ = (([0, 61, 12, (-3), 60] : List Int)) := ⟨_, rfl⟩
   replace H : ((spec_l1PickInt.f s0_0 t593 t594 y595).bind fun bt598 => (if t586.length < 17592186044416 then (some ((t586 ++ [bt598.1]), bt598.2.1, bt598.2.2)) else (none))) = some (r1, r2, r3) := by first | (rw [hy595]; with_reducible exact H) | (have H2_ := (Option.bind_some _ _).symm.trans H; rw [hy595]; with_reducible exact H2_) | (have H2_ := (Option.bind_some _ _).symm.trans H; with_reducible exact H2_) | with_reducible exact H | (rw [hy595]; exact H) | exact H
   have Ny595 := Aside0.mk hy595
   clear hy595
   replace H := Option.bind_eq_some_iff.mp H
   obtain ⟨⟨t598, t599, t600⟩, A50, H⟩ := H
   replace H : (if t586.length < 17592186044416 then (some ((t586 ++ [t598]), t599, t600)) else (none)) = some (r1, r2, r3) := H
   have A5 := Aside0.mk A50
   clear A50
   by_cases c6 : t586.length < 17592186044416
   · rw [if_pos c6] at H
     have LMc6 := Aside0.mk c6
     clear c6
     obtain ⟨y601, hy601⟩ : ∃ y_ : List Int, y_ = (t586 ++ [t598]) := ⟨_, rfl⟩
     replace H : (some (y601, t599, t600)) = some (r1, r2, r3) := by first | (rw [hy601]; with_reducible exact H) | (have H2_ := (Option.bind_some _ _).symm.trans H; rw [hy601]; with_reducible exact H2_) | (have H2_ := (Option.bind_some _ _).symm.trans H; with_reducible exact H2_) | with_reducible exact H | (rw [hy601]; exact H) | exact H
     have Ny601 := Aside0.mk hy601
     clear hy601
     simp only [Option.some.injEq, Prod.mk.injEq] at H
     obtain ⟨rfl, rfl, rfl⟩ := H
     go_enter Try.func75, Try.ntmps75
     try go_wp2_with (first | ((with_reducible refine gate_dst (N := 2) rfl ?_); refine box_event ?hg (N := 2) ?hd (cs := #[.slice none 0 0]) (t := 27) ?hr ?_; (case hd => rfl); (case hg => rfl); (case hr => first | (go_simp; done) | (go_simp; rfl)); intro gb585 hg w7 hbox hb; have n0_ := Aside0.mk (IsS74.below (by repeat (first | (with_reducible first | exact HI0.out | apply IsS74.alloc | apply IsS74.drewN | apply IsS74.drew | apply IsS74.set_1 | apply IsS74.set_2) | exact HI0.out)) hb); have n1_ := Aside0.mk (KeepBut.trans (by repeat (first | (with_reducible first | exact HK.out | apply KeepBut.set_ | apply keep_drewN | apply keep_drew | apply keep_alloc) | exact HK.out)) (KeepBut.of_below hb g none) (.inl rfl)); have n2_ := Aside0.mk (below_step (by repeat (first | (with_reducible first | exact HB.out | apply below_alloc | apply pw_below_drewN | apply below_drew1 | refine below_set ?_ (IsS74.ge HI0.out)) | exact HB.out)) hb); have n3_ := Aside0.mk (hbox); have n4_ := Aside0.mk ((by rw [hg]; exact (keep_size (w := w) (g := g) (row := none) (by repeat (first | (with_reducible first | exact HK.out | apply KeepBut.set_ | apply keep_drewN | apply keep_drew | apply keep_alloc) | exact HK.out))) : w.heap.size ≤ gb585)); have n5_ := Aside0.mk ((Nat.le_trans HW0.out (by rw [hg]; exact (keep_size (w := w) (g := g) (row := none) (by repeat (first | (with_reducible first | exact HK.out | apply KeepBut.set_ | apply keep_drewN | apply keep_drew | apply keep_alloc) | exact HK.out))) : w.heap.size ≤ gb585) : w0.heap.size ≤ gb585)); have n6_ := Aside0.mk ((by rw [hg]; exact Nat.ne_of_lt (IsS74.lt (show IsS74 w0 _ g s0_0 s0_1 s0_2 from by repeat (first | (with_reducible first | exact HI0.out | apply IsS74.alloc | apply IsS74.drewN | apply IsS74.drew | apply IsS74.set_1 | apply IsS74.set_2) | exact HI0.out))) : g ≠ gb585)); have n7_ := Aside0.mk ((by rw [hg]; exact Nat.ne_of_gt (IsS74.lt (show IsS74 w0 _ g s0_0 s0_1 s0_2 from by repeat (first | (with_reducible first | exact HI0.out | apply IsS74.alloc | apply IsS74.drewN | apply IsS74.drew | apply IsS74.set_1 | apply IsS74.set_2) | exact HI0.out))) : gb585 ≠ g)); clear HI0; clear HK; clear HB; have HI0 := n0_; have HK := n1_; have HB := n2_; have BK585 := n3_; have GW585 := n4_; have GE585 := n5_; have NB0_585 := n6_; have NB585_0 := n7_; clear n0_ n1_ n2_ n3_ n4_ n5_ n6_ n7_; clear hb hbox hg) | ((with_reducible refine gate_callee (f := 107) rfl ?_); refine goesL_ (some 5) rfl rfl Try.func107 (by kernel_rfl) rfl #[.pointer (some ⟨g, 0, none⟩)] rfl (by (try simp only [List.map_toArray, List.map_cons, List.map_nil]); first | done | rfl | (simp only [List.length_drop, List.length_take]; rfl)) ?_; (with_reducible refine (spec_l3Draw.calls k g s0_0 s0_1 s0_2 t586 t589 t590 w0 _ ?side1 ?side2 A2.out).mono ?_); (case side1 => repeat (first | (with_reducible first | exact HI0.out | apply IsS74.alloc | apply IsS74.drewN | apply IsS74.drew | apply IsS74.set_1 | apply IsS74.set_2 | refine IsS74.far ?_ NB0_585.out _) | exact HI0.out)); (case side2 => repeat (first | (with_reducible first | exact HB.out | apply below_alloc | apply pw_below_drewN | apply below_drew1 | refine below_set ?_ (IsS74.ge HI0.out) | refine below_set ?_ GE585.out) | exact HB.out)); rintro e w8 ⟨v587, rfl, ho0, hi, hb, hk⟩; refine ⟨_, rfl, ?_⟩; have n0_ := Aside0.mk (KeepBut.blk hk (g' := gb585) (o := .cells #[.slice none 0 0] 27 (0, 0)) (be_ BK585.out) NB585_0.out (by simp)); have n1_ := Aside0.mk (Kd.R_lower ho0 (keep_size (w := w) (g := g) (row := none) (by repeat (first | (with_reducible first | exact HK.out | apply KeepBut.set_ | apply keep_drewN | apply keep_drew | apply keep_alloc | refine keep_far ?_ GW585.out _) | exact HK.out)))); have n2_ := Aside0.mk (KeepBut.trans (by repeat (first | (with_reducible first | exact HK.out | apply KeepBut.set_ | apply keep_drewN | apply keep_drew | apply keep_alloc | refine keep_far ?_ GW585.out _) | exact HK.out)) hk (.inl rfl)); have n3_ := Aside0.mk (hb); have n4_ := Aside0.mk (hi); clear BK585; clear HK; clear HB; clear HI0; have BK585 := n0_; have HO588 := n1_; have HK := n2_; have HB := n3_; have HI0 := n4_; clear n0_ n1_ n2_ n3_ n4_; (try clear hb); (try clear hb2); (try clear hk); (try clear hi); (try clear ho0)) | ((with_reducible refine gate_dst (N := 3) rfl ?_); refine box_event ?hg (N := 3) ?hd (cs := #[.slice none 0 0]) (t := 27) ?hr ?_; (case hd => rfl); (case hg => rfl); (case hr => first | (go_simp; done) | (go_simp; rfl)); intro gb591 hg w9 hbox hb; have n0_ := Aside0.mk (Kd.R_below (re_ HO588.out) hb); have n1_ := Aside0.mk (IsS74.below (by repeat (first | (with_reducible first | exact HI0.out | apply IsS74.alloc | apply IsS74.drewN | apply IsS74.drew | apply IsS74.set_1 | apply IsS74.set_2 | refine IsS74.far ?_ NB0_585.out _) | exact HI0.out)) hb); have n2_ := Aside0.mk (blk_below (g := gb585) (o := .cells #[.slice none 0 0] 27 (0, 0)) (be_ BK585.out) hb); have n3_ := Aside0.mk (KeepBut.trans (by repeat (first | (with_reducible first | exact HK.out | apply KeepBut.set_ | apply keep_drewN | apply keep_drew | apply keep_alloc | refine keep_far ?_ GW585.out _) | exact HK.out)) (KeepBut.of_below hb g none) (.inl rfl)); have n4_ := Aside0.mk (below_step (by repeat (first | (with_reducible first | exact HB.out | apply below_alloc | apply pw_below_drewN | apply below_drew1 | refine below_set ?_ (IsS74.ge HI0.out) | refine below_set ?_ GE585.out) | exact HB.out)) hb); have n5_ := Aside0.mk (hbox); have n6_ := Aside0.mk ((by rw [hg]; exact (keep_size (w := w) (g := g) (row := none) (by repeat (first | (with_reducible first | exact HK.out | apply KeepBut.set_ | apply keep_drewN | apply keep_drew | apply keep_alloc | refine keep_far ?_ GW585.out _) | exact HK.out))) : w.heap.size ≤ gb591)); have n7_ := Aside0.mk ((Nat.le_trans HW0.out (by rw [hg]; exact (keep_size (w := w) (g := g) (row := none) (by repeat (first | (with_reducible first | exact HK.out | apply KeepBut.set_ | apply keep_drewN | apply keep_drew | apply keep_alloc | refine keep_far ?_ GW585.out _) | exact HK.out))) : w.heap.size ≤ gb591) : w0.heap.size ≤ gb591)); have n8_ := Aside0.mk ((by rw [hg]; exact Nat.ne_of_lt (blk_lt (g := gb585) (o := .cells #[.slice none 0 0] 27 (0, 0)) (be_ BK585.out)) : gb585 ≠ gb591)); have n9_ := Aside0.mk ((by rw [hg]; exact Nat.ne_of_gt (blk_lt (g := gb585) (o := .cells #[.slice none 0 0] 27 (0, 0)) (be_ BK585.out)) : gb591 ≠ gb585)); have n10_ := Aside0.mk ((by rw [hg]; exact Nat.ne_of_lt (IsS74.lt (show IsS74 w0 _ g s0_0 t589 t590 from by repeat (first | (with_reducible first | exact HI0.out | apply IsS74.alloc | apply IsS74.drewN | apply IsS74.drew | apply IsS74.set_1 | apply IsS74.set_2 | refine IsS74.far ?_ NB0_585.out _) | exact HI0.out))) : g ≠ gb591)); have n11_ := Aside0.mk ((by rw [hg]; exact Nat.ne_of_gt (IsS74.lt (show IsS74 w0 _ g s0_0 t589 t590 from by repeat (first | (with_reducible first | exact HI0.out | apply IsS74.alloc | apply IsS74.drewN | apply IsS74.drew | apply IsS74.set_1 | apply IsS74.set_2 | refine IsS74.far ?_ NB0_585.out _) | exact HI0.out))) : gb591 ≠ g)); clear HO588; clear HI0; clear BK585; clear HK; clear HB; have HO588 := n0_; have HI0 := n1_; have BK585 := n2_; have HK := n3_; have HB := n4_; have BK591 := n5_; have GW591 := n6_; have GE591 := n7_; have NB585_591 := n8_; have NB591_585 := n9_; have NB0_591 := n10_; have NB591_0 := n11_; clear n0_ n1_ n2_ n3_ n4_ n5_ n6_ n7_ n8_ n9_ n10_ n11_; clear hb hbox hg; obtain ⟨Ao10, co10, eo10⟩ := Kd.R_slice HO588.out; subst eo10; have hnb11 := NB591_585.out; have hnc11 := NB585_591.out; have hnb12 := NB591_0.out; have hnc12 := NB0_591.out; have hcz13_0 : w9.cell? ⟨gb591, 0, none⟩ = some (.slice none 0 0) := (blk_cell BK591.out 0).trans rfl; have hfz13_0 := blk_frozen BK591.out 0) | ((with_reducible refine gate_callee (f := 77) rfl ?_); refine goesL_ (some 7) rfl rfl Try.func77 (by kernel_rfl) rfl #[.pointer (some ⟨g, 0, none⟩), .int .i64 12] rfl (by (try simp only [List.map_toArray, List.map_cons, List.map_nil]); first | done | rfl | (simp only [List.length_drop, List.length_take]; rfl)) ?_; (with_reducible refine (spec_l1Below.calls g s0_0 t589 t590 12 t592 t593 t594 w0 _ ?side1 ?side2 A3.out).mono ?_); (case side1 => repeat (first | (with_reducible first | exact HI0.out | apply IsS74.alloc | apply IsS74.drewN | apply IsS74.drew | apply IsS74.set_1 | apply IsS74.set_2 | refine IsS74.far ?_ NB0_585.out _ | refine IsS74.far ?_ NB0_591.out _) | exact HI0.out)); (case side2 => repeat (first | (with_reducible first | exact HB.out | apply below_alloc | apply pw_below_drewN | apply below_drew1 | refine below_set ?_ (IsS74.ge HI0.out) | refine below_set ?_ GE585.out | refine below_set ?_ GE591.out) | exact HB.out)); rintro e w14 ⟨rfl, hi, hb, hk⟩; refine ⟨_, rfl, ?_⟩; have n0_ := Aside0.mk (KeepBut.blk hk (g' := gb585) (o := .cells #[.slice none 0 0] 27 (0, 0)) (by (with_reducible repeat (first | refine blk_drewN ?_ _ | refine blk_drew ?_ | refine blk_alloc ?_ _)); refine blk_far ?_ NB585_591.out _; (with_reducible repeat (first | refine blk_drewN ?_ _ | refine blk_drew ?_ | refine blk_alloc ?_ _)); exact BK585.out) NB585_0.out (by simp)); have n1_ := Aside0.mk (Kd.R_mono (Kd.R_keep (IsS74.apart (show IsS74 w0 _ g s0_0 t589 t590 from by repeat (first | (with_reducible first | exact HI0.out | apply IsS74.alloc | apply IsS74.drewN | apply IsS74.drew | apply IsS74.set_1 | apply IsS74.set_2 | refine IsS74.far ?_ NB0_585.out _ | refine IsS74.far ?_ NB0_591.out _) | exact HI0.out)) (by (with_reducible repeat (first | apply Kd.R_alloc | apply Kd.R_drewN | apply Kd.R_drew)); exact (Kd.R_mono (Kd.R_far (p := ⟨gb591, 0, none⟩) (Kd.R_types HO588.out BK591.out (by decide)) (fun _ hk => hk.2) (.slice Ao10 t586.length co10)) (fun _ h_ => h_.1))) (by decide)) hk (fun _ h => h.2)) (fun _ h => h.1)); have n2_ := Aside0.mk (KeepBut.blk hk (g' := gb591) (o := .cells #[.slice Ao10 t586.length co10] 27 (0, 0)) (by (with_reducible repeat (first | refine blk_drewN ?_ _ | refine blk_drew ?_ | refine blk_alloc ?_ _)); refine blk_put (cs := #[.slice none 0 0]) ?_ 0 _ rfl; (with_reducible repeat (first | refine blk_drewN ?_ _ | refine blk_drew ?_ | refine blk_alloc ?_ _)); exact BK591.out) NB591_0.out (by simp)); have n3_ := Aside0.mk (KeepBut.trans (by repeat (first | (with_reducible first | exact HK.out | apply KeepBut.set_ | apply keep_drewN | apply keep_drew | apply keep_alloc | refine keep_far ?_ GW585.out _ | refine keep_far ?_ GW591.out _) | exact HK.out)) hk (.inl rfl)); have n4_ := Aside0.mk (hb); have n5_ := Aside0.mk (hi); clear BK585; clear HO588; clear BK591; clear HK; clear HB; clear HI0; have BK585 := n0_; have HO588 := n1_; have BK591 := n2_; have HK := n3_; have HB := n4_; have HI0 := n5_; clear n0_ n1_ n2_ n3_ n4_ n5_; (try clear hb); (try clear hb2); (try clear hk); (try clear hi)))
     have n0_ := Aside0.mk (Kd.R_drew HO588.out)
     have n1_ := Aside0.mk (blk_drew BK585.out)
     have n2_ := Aside0.mk (blk_drew BK591.out)
     have n3_ := Aside0.mk (IsS74.drew HI0.out)
     have n4_ := Aside0.mk (keep_drew HK.out)
     have n5_ := Aside0.mk (below_drew1 HB.out)
     clear HO588
     clear BK585
     clear BK591
     clear HI0
     clear HK
     clear HB
     have HO588 := n0_
     have BK585 := n1_
     have BK591 := n2_
     have HI0 := n3_
     have HK := n4_
     have HB := n5_
     clear n0_ n1_ n2_ n3_ n4_ n5_
     refine start_ (n := 9) (S := fun w' => w'.cell? ⟨gb591, 0, none⟩ = some (.slice Ao10 t586.length co10)) (ds := [8]) (B_ 0 9) (by kernel_rfl) rfl rfl ((blk_cell BK591.out 0).trans rfl) (fun hHeld => ?_); refine with_tabW spec_l3Bent.tab4 spec_l3Bent.bits4 (fun HT_ HW_ => ?_)
     generalize w14.drew = w15 at HO588 BK585 BK591 HI0 HK HB hHeld ⊢
     refine pu_ HT_ 0 10 (B_ 1 9) ?_
     refine pu_ HT_ 2 12 (B_ 5 9) ?_
     refine tk1_ HT_ HW_ hHeld 1 11 (B_ 7 9) ?_
     refine one_ (i := 3) (N := some 13) (B_ 15 9) rfl rfl (one_of HT_.out (by kernel_rfl)) (by decide) (fun K hK => ?_)
     refine Kd.R_lit_step (Kd.int .i64) _ 3 ?hg (N := 13) ?hd (xs := ([0, 61, 12, (-3), 60] : List Int)) (inner := [.int .i64 0, .int .i64 61, .int .i64 12, .int .i64 (-3), .int .i64 60]) (ok := fun _ => True) (okp := fun _ => True) ?hr ?hp (fun _ hk => hk) trivial (Below.refl _ _) (Nat.le_refl _) (by simp) ?_; (case hd => rfl); (case hg => rfl); (case hr => first | (go_simp; done) | (go_simp; rfl)); (case hp => exact (Reps.one (show Kd.M (Kd.int .i64) _ _ _ 0 [.int .i64 0] from rfl) (Reps.one (show Kd.M (Kd.int .i64) _ _ _ 61 [.int .i64 61] from rfl) (Reps.one (show Kd.M (Kd.int .i64) _ _ _ 12 [.int .i64 12] from rfl) (Reps.one (show Kd.M (Kd.int .i64) _ _ _ (-3) [.int .i64 (-3)] from rfl) (Reps.one (show Kd.M (Kd.int .i64) _ _ _ 60 [.int .i64 60] from rfl) (Reps.none _ _)))))))
     intro v596 w16 ho17 hb hg_ hnew_
     clear hg_ hnew_
     (first | rw [← Ny595.out] at ho17 | (simp only [Int.reduceToNat] at ho17; rw [← Ny595.out] at ho17))
     have n0_ := Aside0.mk (Kd.R_elder' (re_ HO588.out) (Kd.R_base ho17) hb)
     have n1_ := Aside0.mk (Kd.R_lower (Kd.R_new' ho17 (Kd.R_lt (re_ HO588.out))) (keep_size (w := w) (g := g) (row := none) (by repeat (first | (with_reducible first | exact HK.out | apply KeepBut.set_ | apply keep_drewN | apply keep_drew | apply keep_alloc | refine keep_far ?_ GW585.out _ | refine keep_far ?_ GW591.out _) | exact HK.out))))
     have n2_ := Aside0.mk (IsS74.below (by repeat (first | (with_reducible first | exact HI0.out | apply IsS74.alloc | apply IsS74.drewN | apply IsS74.drew | apply IsS74.set_1 | apply IsS74.set_2 | refine IsS74.far ?_ NB0_585.out _ | refine IsS74.far ?_ NB0_591.out _) | exact HI0.out)) hb)
     have n3_ := Aside0.mk (blk_below (g := gb585) (o := .cells #[.slice none 0 0] 27 (0, 0)) (be_ BK585.out) hb)
     have n4_ := Aside0.mk (blk_below (g := gb591) (o := .cells #[.slice Ao10 t586.length co10] 27 (0, 0)) (be_ BK591.out) hb)
     have n5_ := Aside0.mk (KeepBut.trans (by repeat (first | (with_reducible first | exact HK.out | apply KeepBut.set_ | apply keep_drewN | apply keep_drew | apply keep_alloc | refine keep_far ?_ GW585.out _ | refine keep_far ?_ GW591.out _) | exact HK.out)) (KeepBut.of_below hb g none) (.inl rfl))
     have n6_ := Aside0.mk (below_step (by repeat (first | (with_reducible first | exact HB.out | apply below_alloc | apply pw_below_drewN | apply below_drew1 | refine below_set ?_ (IsS74.ge HI0.out) | refine below_set ?_ GE585.out | refine below_set ?_ GE591.out) | exact HB.out)) hb)
     clear HO588
     clear HI0
     clear BK585
     clear BK591
     clear HK
     clear HB
     have HO588 := n0_
     have HO597 := n1_
     have HI0 := n2_
     have BK585 := n3_
     have BK591 := n4_
     have HK := n5_
     have HB := n6_
     clear n0_ n1_ n2_ n3_ n4_ n5_ n6_
     clear hb ho17
     obtain ⟨Ao18, co18, eo18⟩ := Kd.R_slice HO597.out
     (first | subst eo18 | (injection eo18 with f1_ f2_ f3_; have f4_ := f1_.symm; have f5_ := f3_.symm; clear f1_ f2_ f3_; subst f4_; subst f5_))
     refine hK.out _ _ ((blk_cell BK591.out 0).trans rfl) (fun hHeld => ?_)
     clear hK K
     refine norm_ (a' := ?_) ?_ ?_
     rotate_left
     · show Act.put _ (some 13) _ = _
       simp only [Act.put, z1_, z2_, z3_, i64_w, i32_w]
       rfl
     refine one_ (i := 4) (N := some 14) (B_ 31 9) rfl rfl (one_of HT_.out (by kernel_rfl)) (by decide) (fun K hK => ?_)
     refine goes_ Try.func76 (by kernel_rfl) rfl #[.pointer (some ⟨g, 0, none⟩), .slice Ao18 y595.length co18] (by rfl) rfl rfl (by (try simp only [List.map_toArray, List.map_cons, List.map_nil]); first | done | rfl | (simp only [List.length_drop, List.length_take]; rfl)) ?_
     with_reducible refine (spec_l1PickInt.calls g s0_0 t593 t594 _ _ y595 t598 t599 t600 w0 _ ?side1 ?side2 ?side3 ?side4 ?side5 A5.out).mono ?_
     (case side1 => repeat (first | (with_reducible first | exact HI0.out | apply IsS74.alloc | apply IsS74.drewN | apply IsS74.drew | apply IsS74.set_1 | apply IsS74.set_2 | refine IsS74.far ?_ NB0_585.out _ | refine IsS74.far ?_ NB0_591.out _) | exact HI0.out))
     (case side2 => repeat (first | (with_reducible first | exact HB.out | apply below_alloc | apply pw_below_drewN | apply below_drew1 | refine below_set ?_ (IsS74.ge HI0.out) | refine below_set ?_ GE585.out | refine below_set ?_ GE591.out) | exact HB.out))
     (case side3 => exact ce_ ((Kd.R_reads' HO597.out).2.2))
     (case side4 => exact (Kd.R_reads' HO597.out).2.1)
     (case side5 => exact far_slice (IsS74.own_ne HI0.out HO597.out (by decide)))
     rintro e w19 ⟨rfl, hi, hb, hk⟩
     refine ⟨_, rfl, ?_⟩
     have n0_ := Aside0.mk (KeepBut.blk hk (g' := gb585) (o := .cells #[.slice none 0 0] 27 (0, 0)) (be_ BK585.out) NB585_0.out (by simp))
     have n1_ := Aside0.mk (Kd.R_mono (Kd.R_keep (IsS74.apart (show IsS74 w0 _ g s0_0 t593 t594 from by repeat (first | (with_reducible first | exact HI0.out | apply IsS74.alloc | apply IsS74.drewN | apply IsS74.drew | apply IsS74.set_1 | apply IsS74.set_2 | refine IsS74.far ?_ NB0_585.out _ | refine IsS74.far ?_ NB0_591.out _) | exact HI0.out)) (re_ HO588.out) (by decide)) hk (fun _ h => h.2)) (fun _ h => h.1))
     have n2_ := Aside0.mk (KeepBut.blk hk (g' := gb591) (o := .cells #[.slice Ao10 t586.length co10] 27 (0, 0)) (be_ BK591.out) NB591_0.out (by simp))
     have n3_ := Aside0.mk (Kd.R_mono (Kd.R_keep (IsS74.apart (show IsS74 w0 _ g s0_0 t593 t594 from by repeat (first | (with_reducible first | exact HI0.out | apply IsS74.alloc | apply IsS74.drewN | apply IsS74.drew | apply IsS74.set_1 | apply IsS74.set_2 | refine IsS74.far ?_ NB0_585.out _ | refine IsS74.far ?_ NB0_591.out _) | exact HI0.out)) (re_ HO597.out) (by decide)) hk (fun _ h => h.2)) (fun _ h => h.1))
     have n4_ := Aside0.mk (KeepBut.trans (by repeat (first | (with_reducible first | exact HK.out | apply KeepBut.set_ | apply keep_drewN | apply keep_drew | apply keep_alloc | refine keep_far ?_ GW585.out _ | refine keep_far ?_ GW591.out _) | exact HK.out)) hk (.inl rfl))
     have n5_ := Aside0.mk (hb)
     have n6_ := Aside0.mk (hi)
     clear BK585
     clear HO588
     clear BK591
     clear HO597
     clear HK
     clear HB
     clear HI0
     have BK585 := n0_
     have HO588 := n1_
     have BK591 := n2_
     have HO597 := n3_
     have HK := n4_
     have HB := n5_
     have HI0 := n6_
     clear n0_ n1_ n2_ n3_ n4_ n5_ n6_
     (try clear hb)
     (try clear hb2)
     (try clear hk)
     (try clear hi)
     refine hK.out _ _ ((blk_cell BK591.out 0).trans rfl) (fun hHeld => ?_)
     clear hK K
     refine norm_ (a' := ?_) ?_ ?_
     rotate_left
     · show Act.put _ (some 14) _ = _
       simp only [Act.put, z1_, z2_, z3_, i64_w, i32_w]
       rfl
     refine one_ (i := 5) (N := some 15) (B_ 63 9) rfl rfl (one_of HT_.out (by kernel_rfl)) (by decide) (fun K hK => ?_)
     refine value_ (w1 := ?_) (v := ?_) (by rfl) rfl ?_ ?_
     rotate_left 2
     · go_simp
       constructor
       · rfl
       · rfl
     refine hK.out _ _ ((blk_cell (blk_alloc BK591.out _) 0).trans rfl) (fun hHeld => ?_)
     clear hK K
     refine norm_ (a' := ?_) ?_ ?_
     rotate_left
     · show Act.put _ (some 15) _ = _
       simp only [Act.put, z1_, z2_, z3_, i64_w, i32_w]
       rfl
     refine one_ (i := 6) (N := some 16) (B_ 127 9) rfl rfl (one_of HT_.out (by kernel_rfl)) (by decide) (fun K hK => ?_)
     refine Kd.R_append_step (Kd.int .i64) w.heap.size (by rfl) (.tmp 11) (.tmp 15) 22 3 (.int .i64 0) 8 rfl Try.underlying22 info3 rfl (by decide) (by omega) (.slice Ao10 t586.length co10) t586 t598 [.int .i64 t598] (fun k_ => some k_ ≠ (.slice Ao18 y595.length co18 : Value).ownBlock) (fun _ => False) rfl rfl ?aP (fun _ hk => hk.elim) ?aF ?aO (Below.refl _ _) ?aS ?aL ?_
     (case aP => exact rfl)
     (case aF => exact (fun k_ hk => Kd.fresh' (Kd.R_lt (re_ HO597.out)) k_ hk))
     (case aO => exact (by (with_reducible repeat (first | apply Kd.R_alloc | apply Kd.R_drewN | apply Kd.R_drew)); exact Kd.R_mono HO588.out (fun _ hk => hk.2)))
     (case aS => exact (keep_size (w := w) (g := g) (row := none) (by repeat (first | (with_reducible first | exact HK.out | apply KeepBut.set_ | apply keep_drewN | apply keep_drew | apply keep_alloc | refine keep_far ?_ GW585.out _ | refine keep_far ?_ GW591.out _) | exact HK.out))))
     (case aL => have := LMc6.out; omega)
     intro v602 w20 ho hb hg hat
     rw [← Ny601.out] at ho
     have n0_ := Aside0.mk (IsS74.grown (by repeat (first | (with_reducible first | exact HI0.out | apply IsS74.alloc | apply IsS74.drewN | apply IsS74.drew | apply IsS74.set_1 | apply IsS74.set_2 | refine IsS74.far ?_ NB0_585.out _ | refine IsS74.far ?_ NB0_591.out _) | exact HI0.out)) hg (IsS74.own_ne HI0.out HO588.out (by decide)))
     have n1_ := Aside0.mk (blk_grown (g := gb585) (o := .cells #[.slice none 0 0] 27 (0, 0)) (be_ BK585.out) hg (Kd.R_ne HO588.out BK585.out (by decide)))
     have n2_ := Aside0.mk (blk_grown (g := gb591) (o := .cells #[.slice Ao10 t586.length co10] 27 (0, 0)) (be_ BK591.out) hg (Kd.R_ne HO588.out BK591.out (by decide)))
     have n3_ := Aside0.mk (Kd.R_after (ok := (fun _ => True)) (re_ HO597.out) hg hat)
     have n4_ := Aside0.mk (below_weaken (by repeat (first | (with_reducible first | exact HB.out | apply below_alloc | apply pw_below_drewN | apply below_drew1 | refine below_set ?_ (IsS74.ge HI0.out) | refine below_set ?_ GE585.out | refine below_set ?_ GE591.out) | exact HB.out)) HL.out hb)
     have n5_ := Aside0.mk (KeepBut.trans (by repeat (first | (with_reducible first | exact HK.out | apply KeepBut.set_ | apply keep_drewN | apply keep_drew | apply keep_alloc | refine keep_far ?_ GW585.out _ | refine keep_far ?_ GW591.out _) | exact HK.out)) (KeepBut.of_grown hg g) (Kd.R_base2 HO588.out))
     have n6_ := Aside0.mk (ho)
     clear HI0
     clear BK585
     clear BK591
     clear HO597
     clear HB
     clear HK
     clear HO588
     have HI0 := n0_
     have BK585 := n1_
     have BK591 := n2_
     have HO597 := n3_
     have HB := n4_
     have HK := n5_
     have HO603 := n6_
     clear n0_ n1_ n2_ n3_ n4_ n5_ n6_
     clear ho hb hg hat
     obtain ⟨Ao21, co21, eo21⟩ := Kd.R_slice HO603.out
     (first | subst eo21 | (injection eo21 with f1_ f2_ f3_; have f4_ := f1_.symm; have f5_ := f3_.symm; clear f1_ f2_ f3_; subst f4_; subst f5_))
     refine hK.out _ _ ((blk_cell BK591.out 0).trans rfl) (fun hHeld => ?_)
     clear hK K
     refine norm_ (a' := ?_) ?_ ?_
     rotate_left
     · show Act.put _ (some 16) _ = _
       simp only [Act.put, z1_, z2_, z3_, i64_w, i32_w]
       rfl
     refine pu_ HT_ 7 17 (B_ 255 9) ?_
     refine last_ (i := 8) (N := none) (B_ 511 9) rfl rfl (one_of HT_.out (by kernel_rfl)) (by decide) (fun K hK => ?_)
     have hs22 : w20.cell? ⟨gb591, 0, none⟩ = some (.slice Ao10 t586.length co10) := (blk_cell BK591.out 0).trans rfl
     have hfs22 := blk_frozen BK591.out 0
     have hns22_0 := NB585_591.out
     have hms22_0 := NB591_585.out
     refine skip_ (w1 := ?_) (by rfl) rfl ?_ ?_
     rotate_left
     · go_simp
       rfl
     refine hK.out _ _ ?_
     clear hK K
     refine done_ (done_of HT_.out (by kernel_rfl)) ?_
     have hcz23_0 : w20.cell? ⟨gb591, 0, none⟩ = some (.slice Ao10 t586.length co10) := (blk_cell BK591.out 0).trans rfl
     have hfz23_0 := blk_frozen BK591.out 0
     have hnb24 := NB585_0.out
     have hnc24 := NB0_585.out
     have hcz25_0 : w20.cell? ⟨gb585, 0, none⟩ = some (.slice none 0 0) := (blk_cell BK585.out 0).trans rfl
     have hfz25_0 := blk_frozen BK585.out 0
     try go_wp2
     refine bodyPost_ret (results_cell_row rfl _ _ gb585 27 #[.slice Ao21 y601.length co21] (0, 0) _ rfl (by (with_reducible repeat (first | refine blk_drewN ?_ _ | refine blk_drew ?_ | refine blk_alloc ?_ _)); refine blk_put (cs := #[.slice none 0 0]) ?_ 0 _ rfl; (with_reducible repeat (first | refine blk_drewN ?_ _ | refine blk_drew ?_ | refine blk_alloc ?_ _)); refine blk_far ?_ NB585_591.out _; (with_reducible repeat (first | refine blk_drewN ?_ _ | refine blk_drew ?_ | refine blk_alloc ?_ _)); exact BK585.out) Try.underlying27 rfl (by kernel_rfl)) rfl ?_
     exact ⟨_, by first | rfl | (simp [errW_none, errW_some] <;> rfl) | (simp [*, errW_none, errW_some] <;> rfl), Kd.Q_of_R (by (with_reducible repeat (first | apply Kd.R_alloc | apply Kd.R_drewN | apply Kd.R_drew)); exact Kd.R_mono (Kd.R_far (p := ⟨gb585, 0, none⟩) (Kd.R_far (p := ⟨gb591, 0, none⟩) (Kd.R_types (Kd.R_types HO603.out BK591.out (by decide)) BK585.out (by decide)) (fun _ hk => hk.1.2) (.slice Ao21 y601.length co21)) (fun _ hk => hk.2) (.slice Ao21 y601.length co21)) (fun _ hk => trivial)), by repeat (first | (with_reducible first | exact HI0.out | apply IsS74.alloc | apply IsS74.drewN | apply IsS74.drew | apply IsS74.set_1 | apply IsS74.set_2 | refine IsS74.far ?_ NB0_585.out _ | refine IsS74.far ?_ NB0_591.out _) | exact HI0.out), by repeat (first | (with_reducible first | exact HB.out | apply below_alloc | apply pw_below_drewN | apply below_drew1 | refine below_set ?_ (IsS74.ge HI0.out) | refine below_set ?_ GE585.out | refine below_set ?_ GE591.out) | exact HB.out), by repeat (first | (with_reducible first | exact HK.out | apply KeepBut.set_ | apply keep_drewN | apply keep_drew | apply keep_alloc | refine keep_far ?_ GW585.out _ | refine keep_far ?_ GW591.out _) | exact HK.out)⟩
   · rw [if_neg c6] at H
     exact absurd H (by simp)
 · rw [if_neg c4] at H
   have c4b0 : (t592 == 0) = false := beq_eq_false_iff_ne.mpr c4
   have c4b1 : (t592 != 0) = true := bne_iff_ne.mpr c4
   by_cases c26 : t592 = 1
   · rw [if_pos c26] at H
     have c26b0 : (t592 == 1) = true := beq_iff_eq.mpr c26
     have c26b1 : (t592 != 1) = false := bne_eq_false_iff_eq.mpr c26
     clear c26
     by_cases c27 : 1 ≤ (t586.length : Int)
     · rw [if_pos c27] at H
       have c27b0 := eq_true c27
       have c27b1 : decide (1 ≤ (t586.length : Int)) = true := decide_eq_true c27
       clear c27
       obtain ⟨y604, hy604⟩ : ∃ y_ : List Int, y_ = (t586.drop (1 : Int).toNat) := ⟨_, rfl⟩
       replace H : (some (y604, t593, t594)) = some (r1, r2, r3) := by first | (rw [hy604]; with_reducible exact H) | (have H2_ := (Option.bind_some _ _).symm.trans H; rw [hy604]; with_reducible exact H2_) | (have H2_ := (Option.bind_some _ _).symm.trans H; with_reducible exact H2_) | with_reducible exact H | (rw [hy604]; exact H) | exact H
       have Ny604 := Aside0.mk hy604
       clear hy604
       simp only [Option.some.injEq, Prod.mk.injEq] at H
       obtain ⟨rfl, rfl, rfl⟩ := H
       go_enter Try.func75, Try.ntmps75
       go_wp2_with (first | ((with_reducible refine gate_dst (N := 2) rfl ?_); refine box_event ?hg (N := 2) ?hd (cs := #[.slice none 0 0]) (t := 27) ?hr ?_; (case hd => rfl); (case hg => rfl); (case hr => first | (go_simp; done) | (go_simp; rfl)); intro gb585 hg w28 hbox hb; have n0_ := Aside0.mk (IsS74.below (by repeat (first | (with_reducible first | exact HI0.out | apply IsS74.alloc | apply IsS74.drewN | apply IsS74.drew | apply IsS74.set_1 | apply IsS74.set_2) | exact HI0.out)) hb); have n1_ := Aside0.mk (KeepBut.trans (by repeat (first | (with_reducible first | exact HK.out | apply KeepBut.set_ | apply keep_drewN | apply keep_drew | apply keep_alloc) | exact HK.out)) (KeepBut.of_below hb g none) (.inl rfl)); have n2_ := Aside0.mk (below_step (by repeat (first | (with_reducible first | exact HB.out | apply below_alloc | apply pw_below_drewN | apply below_drew1 | refine below_set ?_ (IsS74.ge HI0.out)) | exact HB.out)) hb); have n3_ := Aside0.mk (hbox); have n4_ := Aside0.mk ((by rw [hg]; exact (keep_size (w := w) (g := g) (row := none) (by repeat (first | (with_reducible first | exact HK.out | apply KeepBut.set_ | apply keep_drewN | apply keep_drew | apply keep_alloc) | exact HK.out))) : w.heap.size ≤ gb585)); have n5_ := Aside0.mk ((Nat.le_trans HW0.out (by rw [hg]; exact (keep_size (w := w) (g := g) (row := none) (by repeat (first | (with_reducible first | exact HK.out | apply KeepBut.set_ | apply keep_drewN | apply keep_drew | apply keep_alloc) | exact HK.out))) : w.heap.size ≤ gb585) : w0.heap.size ≤ gb585)); have n6_ := Aside0.mk ((by rw [hg]; exact Nat.ne_of_lt (IsS74.lt (show IsS74 w0 _ g s0_0 s0_1 s0_2 from by repeat (first | (with_reducible first | exact HI0.out | apply IsS74.alloc | apply IsS74.drewN | apply IsS74.drew | apply IsS74.set_1 | apply IsS74.set_2) | exact HI0.out))) : g ≠ gb585)); have n7_ := Aside0.mk ((by rw [hg]; exact Nat.ne_of_gt (IsS74.lt (show IsS74 w0 _ g s0_0 s0_1 s0_2 from by repeat (first | (with_reducible first | exact HI0.out | apply IsS74.alloc | apply IsS74.drewN | apply IsS74.drew | apply IsS74.set_1 | apply IsS74.set_2) | exact HI0.out))) : gb585 ≠ g)); clear HI0; clear HK; clear HB; have HI0 := n0_; have HK := n1_; have HB := n2_; have BK585 := n3_; have GW585 := n4_; have GE585 := n5_; have NB0_585 := n6_; have NB585_0 := n7_; clear n0_ n1_ n2_ n3_ n4_ n5_ n6_ n7_; clear hb hbox hg) | ((with_reducible refine gate_callee (f := 107) rfl ?_); refine goesL_ (some 5) rfl rfl Try.func107 (by kernel_rfl) rfl #[.pointer (some ⟨g, 0, none⟩)] rfl (by (try simp only [List.map_toArray, List.map_cons, List.map_nil]); first | done | rfl | (simp only [List.length_drop, List.length_take]; rfl)) ?_; (with_reducible refine (spec_l3Draw.calls k g s0_0 s0_1 s0_2 t586 t589 t590 w0 _ ?side1 ?side2 A2.out).mono ?_); (case side1 => repeat (first | (with_reducible first | exact HI0.out | apply IsS74.alloc | apply IsS74.drewN | apply IsS74.drew | apply IsS74.set_1 | apply IsS74.set_2 | refine IsS74.far ?_ NB0_585.out _) | exact HI0.out)); (case side2 => repeat (first | (with_reducible first | exact HB.out | apply below_alloc | apply pw_below_drewN | apply below_drew1 | refine below_set ?_ (IsS74.ge HI0.out) | refine below_set ?_ GE585.out) | exact HB.out)); rintro e w29 ⟨v587, rfl, ho0, hi, hb, hk⟩; refine ⟨_, rfl, ?_⟩; have n0_ := Aside0.mk (KeepBut.blk hk (g' := gb585) (o := .cells #[.slice none 0 0] 27 (0, 0)) (be_ BK585.out) NB585_0.out (by simp)); have n1_ := Aside0.mk (Kd.R_lower ho0 (keep_size (w := w) (g := g) (row := none) (by repeat (first | (with_reducible first | exact HK.out | apply KeepBut.set_ | apply keep_drewN | apply keep_drew | apply keep_alloc | refine keep_far ?_ GW585.out _) | exact HK.out)))); have n2_ := Aside0.mk (KeepBut.trans (by repeat (first | (with_reducible first | exact HK.out | apply KeepBut.set_ | apply keep_drewN | apply keep_drew | apply keep_alloc | refine keep_far ?_ GW585.out _) | exact HK.out)) hk (.inl rfl)); have n3_ := Aside0.mk (hb); have n4_ := Aside0.mk (hi); clear BK585; clear HK; clear HB; clear HI0; have BK585 := n0_; have HO588 := n1_; have HK := n2_; have HB := n3_; have HI0 := n4_; clear n0_ n1_ n2_ n3_ n4_; (try clear hb); (try clear hb2); (try clear hk); (try clear hi); (try clear ho0)) | ((with_reducible refine gate_dst (N := 3) rfl ?_); refine box_event ?hg (N := 3) ?hd (cs := #[.slice none 0 0]) (t := 27) ?hr ?_; (case hd => rfl); (case hg => rfl); (case hr => first | (go_simp; done) | (go_simp; rfl)); intro gb591 hg w30 hbox hb; have n0_ := Aside0.mk (Kd.R_below (re_ HO588.out) hb); have n1_ := Aside0.mk (IsS74.below (by repeat (first | (with_reducible first | exact HI0.out | apply IsS74.alloc | apply IsS74.drewN | apply IsS74.drew | apply IsS74.set_1 | apply IsS74.set_2 | refine IsS74.far ?_ NB0_585.out _) | exact HI0.out)) hb); have n2_ := Aside0.mk (blk_below (g := gb585) (o := .cells #[.slice none 0 0] 27 (0, 0)) (be_ BK585.out) hb); have n3_ := Aside0.mk (KeepBut.trans (by repeat (first | (with_reducible first | exact HK.out | apply KeepBut.set_ | apply keep_drewN | apply keep_drew | apply keep_alloc | refine keep_far ?_ GW585.out _) | exact HK.out)) (KeepBut.of_below hb g none) (.inl rfl)); have n4_ := Aside0.mk (below_step (by repeat (first | (with_reducible first | exact HB.out | apply below_alloc | apply pw_below_drewN | apply below_drew1 | refine below_set ?_ (IsS74.ge HI0.out) | refine below_set ?_ GE585.out) | exact HB.out)) hb); have n5_ := Aside0.mk (hbox); have n6_ := Aside0.mk ((by rw [hg]; exact (keep_size (w := w) (g := g) (row := none) (by repeat (first | (with_reducible first | exact HK.out | apply KeepBut.set_ | apply keep_drewN | apply keep_drew | apply keep_alloc | refine keep_far ?_ GW585.out _) | exact HK.out))) : w.heap.size ≤ gb591)); have n7_ := Aside0.mk ((Nat.le_trans HW0.out (by rw [hg]; exact (keep_size (w := w) (g := g) (row := none) (by repeat (first | (with_reducible first | exact HK.out | apply KeepBut.set_ | apply keep_drewN | apply keep_drew | apply keep_alloc | refine keep_far ?_ GW585.out _) | exact HK.out))) : w.heap.size ≤ gb591) : w0.heap.size ≤ gb591)); have n8_ := Aside0.mk ((by rw [hg]; exact Nat.ne_of_lt (blk_lt (g := gb585) (o := .cells #[.slice none 0 0] 27 (0, 0)) (be_ BK585.out)) : gb585 ≠ gb591)); have n9_ := Aside0.mk ((by rw [hg]; exact Nat.ne_of_gt (blk_lt (g := gb585) (o := .cells #[.slice none 0 0] 27 (0, 0)) (be_ BK585.out)) : gb591 ≠ gb585)); have n10_ := Aside0.mk ((by rw [hg]; exact Nat.ne_of_lt (IsS74.lt (show IsS74 w0 _ g s0_0 t589 t590 from by repeat (first | (with_reducible first | exact HI0.out | apply IsS74.alloc | apply IsS74.drewN | apply IsS74.drew | apply IsS74.set_1 | apply IsS74.set_2 | refine IsS74.far ?_ NB0_585.out _) | exact HI0.out))) : g ≠ gb591)); have n11_ := Aside0.mk ((by rw [hg]; exact Nat.ne_of_gt (IsS74.lt (show IsS74 w0 _ g s0_0 t589 t590 from by repeat (first | (with_reducible first | exact HI0.out | apply IsS74.alloc | apply IsS74.drewN | apply IsS74.drew | apply IsS74.set_1 | apply IsS74.set_2 | refine IsS74.far ?_ NB0_585.out _) | exact HI0.out))) : gb591 ≠ g)); clear HO588; clear HI0; clear BK585; clear HK; clear HB; have HO588 := n0_; have HI0 := n1_; have BK585 := n2_; have HK := n3_; have HB := n4_; have BK591 := n5_; have GW591 := n6_; have GE591 := n7_; have NB585_591 := n8_; have NB591_585 := n9_; have NB0_591 := n10_; have NB591_0 := n11_; clear n0_ n1_ n2_ n3_ n4_ n5_ n6_ n7_ n8_ n9_ n10_ n11_; clear hb hbox hg; obtain ⟨Ao31, co31, eo31⟩ := Kd.R_slice HO588.out; subst eo31; have hnb32 := NB591_585.out; have hnc32 := NB585_591.out; have hnb33 := NB591_0.out; have hnc33 := NB0_591.out; have hcz34_0 : w30.cell? ⟨gb591, 0, none⟩ = some (.slice none 0 0) := (blk_cell BK591.out 0).trans rfl; have hfz34_0 := blk_frozen BK591.out 0) | ((with_reducible refine gate_callee (f := 77) rfl ?_); refine goesL_ (some 7) rfl rfl Try.func77 (by kernel_rfl) rfl #[.pointer (some ⟨g, 0, none⟩), .int .i64 12] rfl (by (try simp only [List.map_toArray, List.map_cons, List.map_nil]); first | done | rfl | (simp only [List.length_drop, List.length_take]; rfl)) ?_; (with_reducible refine (spec_l1Below.calls g s0_0 t589 t590 12 t592 t593 t594 w0 _ ?side1 ?side2 A3.out).mono ?_); (case side1 => repeat (first | (with_reducible first | exact HI0.out | apply IsS74.alloc | apply IsS74.drewN | apply IsS74.drew | apply IsS74.set_1 | apply IsS74.set_2 | refine IsS74.far ?_ NB0_585.out _ | refine IsS74.far ?_ NB0_591.out _) | exact HI0.out)); (case side2 => repeat (first | (with_reducible first | exact HB.out | apply below_alloc | apply pw_below_drewN | apply below_drew1 | refine below_set ?_ (IsS74.ge HI0.out) | refine below_set ?_ GE585.out | refine below_set ?_ GE591.out) | exact HB.out)); rintro e w35 ⟨rfl, hi, hb, hk⟩; refine ⟨_, rfl, ?_⟩; have n0_ := Aside0.mk (KeepBut.blk hk (g' := gb585) (o := .cells #[.slice none 0 0] 27 (0, 0)) (by (with_reducible repeat (first | refine blk_drewN ?_ _ | refine blk_drew ?_ | refine blk_alloc ?_ _)); refine blk_far ?_ NB585_591.out _; (with_reducible repeat (first | refine blk_drewN ?_ _ | refine blk_drew ?_ | refine blk_alloc ?_ _)); exact BK585.out) NB585_0.out (by simp)); have n1_ := Aside0.mk (Kd.R_mono (Kd.R_keep (IsS74.apart (show IsS74 w0 _ g s0_0 t589 t590 from by repeat (first | (with_reducible first | exact HI0.out | apply IsS74.alloc | apply IsS74.drewN | apply IsS74.drew | apply IsS74.set_1 | apply IsS74.set_2 | refine IsS74.far ?_ NB0_585.out _ | refine IsS74.far ?_ NB0_591.out _) | exact HI0.out)) (by (with_reducible repeat (first | apply Kd.R_alloc | apply Kd.R_drewN | apply Kd.R_drew)); exact (Kd.R_mono (Kd.R_far (p := ⟨gb591, 0, none⟩) (Kd.R_types HO588.out BK591.out (by decide)) (fun _ hk => hk.2) (.slice Ao31 t586.length co31)) (fun _ h_ => h_.1))) (by decide)) hk (fun _ h => h.2)) (fun _ h => h.1)); have n2_ := Aside0.mk (KeepBut.blk hk (g' := gb591) (o := .cells #[.slice Ao31 t586.length co31] 27 (0, 0)) (by (with_reducible repeat (first | refine blk_drewN ?_ _ | refine blk_drew ?_ | refine blk_alloc ?_ _)); refine blk_put (cs := #[.slice none 0 0]) ?_ 0 _ rfl; (with_reducible repeat (first | refine blk_drewN ?_ _ | refine blk_drew ?_ | refine blk_alloc ?_ _)); exact BK591.out) NB591_0.out (by simp)); have n3_ := Aside0.mk (KeepBut.trans (by repeat (first | (with_reducible first | exact HK.out | apply KeepBut.set_ | apply keep_drewN | apply keep_drew | apply keep_alloc | refine keep_far ?_ GW585.out _ | refine keep_far ?_ GW591.out _) | exact HK.out)) hk (.inl rfl)); have n4_ := Aside0.mk (hb); have n5_ := Aside0.mk (hi); clear BK585; clear HO588; clear BK591; clear HK; clear HB; clear HI0; have BK585 := n0_; have HO588 := n1_; have BK591 := n2_; have HK := n3_; have HB := n4_; have HI0 := n5_; clear n0_ n1_ n2_ n3_ n4_ n5_; (try clear hb); (try clear hb2); (try clear hk); (try clear hi); have hcz36_0 : w35.cell? ⟨gb591, 0, none⟩ = some (.slice Ao31 t586.length co31) := (blk_cell BK591.out 0).trans rfl; have hfz36_0 := blk_frozen BK591.out 0; have q37 : (1 : Int) ≤ ((t586.length : Int) : Int) := of_decide_eq_true (by first | (with_reducible assumption) | assumption); obtain ⟨i037, hi037, _, hsz37, _⟩ := info_parts info3; have hcut37 := cut_from (P := Try.prog) 22 3 .i64 Try.underlying22 hi037 1 hsz37 Ao31 t586.length co31 1 (by omega) q37; have hr37 := Kd.Q_drop (k := (1 : Int).toNat) (Kd.Q_of_R HO588.out) (by omega); obtain ⟨A37, hA37⟩ : ∃ A1, A1 = (if co31 = (1 : Int).toNat then Ao31 else (Ao31 : Option Addr).map (·.add ((1 : Int).toNat * 1))) := ⟨_, rfl⟩; obtain ⟨c37, hc37⟩ : ∃ c1, c1 = co31 - (1 : Int).toNat := ⟨_, rfl⟩; have hy37 : y604.length = t586.length - (1 : Int).toNat := (by rw [Ny604.out, List.length_drop]); rw [← Ny604.out] at hr37; rw [← hy37, ← hA37, ← hc37] at hcut37; replace hr37 : Kd.Q (Kd.int .i64) 3 w35 w.heap.size (fun _ => True) (.slice A37 y604.length c37) y604 := (by rw [hA37, hc37, hy37]; exact hr37); have HE37 : Aside0 ((Value.slice A37 y604.length c37).ownBlock = (.slice Ao31 t586.length co31 : Value).ownBlock) := ⟨by rw [hA37]; split <;> (cases (Ao31 : Option Addr) <;> rfl)⟩; clear hy37 hi037 hsz37 HO588 hA37 hc37; have HO606 := Aside0.mk hr37; clear hr37; replace q37 := eq_true q37; have hnb38 := NB585_0.out; have hnc38 := NB0_585.out; have hcz39_0 : w35.cell? ⟨gb585, 0, none⟩ = some (.slice none 0 0) := (blk_cell BK585.out 0).trans rfl; have hfz39_0 := blk_frozen BK585.out 0))
       refine bodyPost_ret (results_cell_row rfl _ _ gb585 27 #[.slice A37 y604.length c37] (0, 0) _ rfl (by (with_reducible repeat (first | refine blk_drewN ?_ _ | refine blk_drew ?_ | refine blk_alloc ?_ _)); refine blk_put (cs := #[.slice none 0 0]) ?_ 0 _ rfl; (with_reducible repeat (first | refine blk_drewN ?_ _ | refine blk_drew ?_ | refine blk_alloc ?_ _)); refine blk_far ?_ NB585_591.out _; (with_reducible repeat (first | refine blk_drewN ?_ _ | refine blk_drew ?_ | refine blk_alloc ?_ _)); exact BK585.out) Try.underlying27 rfl (by kernel_rfl)) rfl ?_
       exact ⟨_, by first | rfl | (simp [errW_none, errW_some] <;> rfl) | (simp [*, errW_none, errW_some] <;> rfl), by (with_reducible repeat (first | apply Kd.Q_alloc | apply Kd.Q_drewN | apply Kd.Q_drew)); exact Kd.Q_mono (Kd.Q_far (p := ⟨gb585, 0, none⟩) (Kd.Q_far (p := ⟨gb591, 0, none⟩) (Kd.Q_types (Kd.Q_types HO606.out BK591.out (by decide)) BK585.out (by decide)) (fun _ hk => hk.1.2) (.slice A37 y604.length c37)) (fun _ hk => hk.2) (.slice A37 y604.length c37)) (fun _ hk => trivial), by repeat (first | (with_reducible first | exact HI0.out | apply IsS74.alloc | apply IsS74.drewN | apply IsS74.drew | apply IsS74.set_1 | apply IsS74.set_2 | refine IsS74.far ?_ NB0_585.out _ | refine IsS74.far ?_ NB0_591.out _) | exact HI0.out), by repeat (first | (with_reducible first | exact HB.out | apply below_alloc | apply pw_below_drewN | apply below_drew1 | refine below_set ?_ (IsS74.ge HI0.out) | refine below_set ?_ GE585.out | refine below_set ?_ GE591.out) | exact HB.out), by repeat (first | (with_reducible first | exact HK.out | apply KeepBut.set_ | apply keep_drewN | apply keep_drew | apply keep_alloc | refine keep_far ?_ GW585.out _ | refine keep_far ?_ GW591.out _) | exact HK.out)⟩
     · rw [if_neg c27] at H
       exact absurd H (by simp)
   · rw [if_neg c26] at H
     have c26b0 : (t592 == 1) = false := beq_eq_false_iff_ne.mpr c26
     have c26b1 : (t592 != 1) = true := bne_iff_ne.mpr c26
     by_cases c40 : t592 = 2
     · rw [if_pos c40] at H
       have c40b0 : (t592 == 2) = true := beq_iff_eq.mpr c40
       have c40b1 : (t592 != 2) = false := bne_eq_false_iff_eq.mpr c40
       clear c40
       obtain ⟨y607, hy607⟩ : ∃ y_ : List Int, y_ = (([0, 59, 4] : List Int)) := ⟨_, rfl⟩
       replace H : ((spec_l1PickInt.f s0_0 t593 t594 y607).bind fun bt610 => (some ((([bt610.1, 60] : List Int)), bt610.2.1, bt610.2.2))) = some (r1, r2, r3) := by first | (rw [hy607]; with_reducible exact H) | (have H2_ := (Option.bind_some _ _).symm.trans H; rw [hy607]; with_reducible exact H2_) | (have H2_ := (Option.bind_some _ _).symm.trans H; with_reducible exact H2_) | with_reducible exact H | (rw [hy607]; exact H) | exact H
       have Ny607 := Aside0.mk hy607
       clear hy607
       replace H := Option.bind_eq_some_iff.mp H
       obtain ⟨⟨t610, t611, t612⟩, A410, H⟩ := H
       replace H : (some ((([t610, 60] : List Int)), t611, t612)) = some (r1, r2, r3) := H
       have A41 := Aside0.mk A410
       clear A410
       obtain ⟨y613, hy613⟩ : ∃ y_ : List Int, y_ = (([t610, 60] : List Int)) := ⟨_, rfl⟩
       replace H : (some (y613, t611, t612)) = some (r1, r2, r3) := by first | (rw [hy613]; with_reducible exact H) | (have H2_ := (Option.bind_some _ _).symm.trans H; rw [hy613]; with_reducible exact H2_) | (have H2_ := (Option.bind_some _ _).symm.trans H; with_reducible exact H2_) | with_reducible exact H | (rw [hy613]; exact H) | exact H
       have Ny613 := Aside0.mk hy613
       clear hy613
       simp only [Option.some.injEq, Prod.mk.injEq] at H
       obtain ⟨rfl, rfl, rfl⟩ := H
       go_enter Try.func75, Try.ntmps75
       go_wp2_with (first | ((with_reducible refine gate_dst (N := 2) rfl ?_); refine box_event ?hg (N := 2) ?hd (cs := #[.slice none 0 0]) (t := 27) ?hr ?_; (case hd => rfl); (case hg => rfl); (case hr => first | (go_simp; done) | (go_simp; rfl)); intro gb585 hg w42 hbox hb; have n0_ := Aside0.mk (IsS74.below (by repeat (first | (with_reducible first | exact HI0.out | apply IsS74.alloc | apply IsS74.drewN | apply IsS74.drew | apply IsS74.set_1 | apply IsS74.set_2) | exact HI0.out)) hb); have n1_ := Aside0.mk (KeepBut.trans (by repeat (first | (with_reducible first | exact HK.out | apply KeepBut.set_ | apply keep_drewN | apply keep_drew | apply keep_alloc) | exact HK.out)) (KeepBut.of_below hb g none) (.inl rfl)); have n2_ := Aside0.mk (below_step (by repeat (first | (with_reducible first | exact HB.out | apply below_alloc | apply pw_below_drewN | apply below_drew1 | refine below_set ?_ (IsS74.ge HI0.out)) | exact HB.out)) hb); have n3_ := Aside0.mk (hbox); have n4_ := Aside0.mk ((by rw [hg]; exact (keep_size (w := w) (g := g) (row := none) (by repeat (first | (with_reducible first | exact HK.out | apply KeepBut.set_ | apply keep_drewN | apply keep_drew | apply keep_alloc) | exact HK.out))) : w.heap.size ≤ gb585)); have n5_ := Aside0.mk ((Nat.le_trans HW0.out (by rw [hg]; exact (keep_size (w := w) (g := g) (row := none) (by repeat (first | (with_reducible first | exact HK.out | apply KeepBut.set_ | apply keep_drewN | apply keep_drew | apply keep_alloc) | exact HK.out))) : w.heap.size ≤ gb585) : w0.heap.size ≤ gb585)); have n6_ := Aside0.mk ((by rw [hg]; exact Nat.ne_of_lt (IsS74.lt (show IsS74 w0 _ g s0_0 s0_1 s0_2 from by repeat (first | (with_reducible first | exact HI0.out | apply IsS74.alloc | apply IsS74.drewN | apply IsS74.drew | apply IsS74.set_1 | apply IsS74.set_2) | exact HI0.out))) : g ≠ gb585)); have n7_ := Aside0.mk ((by rw [hg]; exact Nat.ne_of_gt (IsS74.lt (show IsS74 w0 _ g s0_0 s0_1 s0_2 from by repeat (first | (with_reducible first | exact HI0.out | apply IsS74.alloc | apply IsS74.drewN | apply IsS74.drew | apply IsS74.set_1 | apply IsS74.set_2) | exact HI0.out))) : gb585 ≠ g)); clear HI0; clear HK; clear HB; have HI0 := n0_; have HK := n1_; have HB := n2_; have BK585 := n3_; have GW585 := n4_; have GE585 := n5_; have NB0_585 := n6_; have NB585_0 := n7_; clear n0_ n1_ n2_ n3_ n4_ n5_ n6_ n7_; clear hb hbox hg) | ((with_reducible refine gate_callee (f := 107) rfl ?_); refine goesL_ (some 5) rfl rfl Try.func107 (by kernel_rfl) rfl #[.pointer (some ⟨g, 0, none⟩)] rfl (by (try simp only [List.map_toArray, List.map_cons, List.map_nil]); first | done | rfl | (simp only [List.length_drop, List.length_take]; rfl)) ?_; (with_reducible refine (spec_l3Draw.calls k g s0_0 s0_1 s0_2 t586 t589 t590 w0 _ ?side1 ?side2 A2.out).mono ?_); (case side1 => repeat (first | (with_reducible first | exact HI0.out | apply IsS74.alloc | apply IsS74.drewN | apply IsS74.drew | apply IsS74.set_1 | apply IsS74.set_2 | refine IsS74.far ?_ NB0_585.out _) | exact HI0.out)); (case side2 => repeat (first | (with_reducible first | exact HB.out | apply below_alloc | apply pw_below_drewN | apply below_drew1 | refine below_set ?_ (IsS74.ge HI0.out) | refine below_set ?_ GE585.out) | exact HB.out)); rintro e w43 ⟨v587, rfl, ho0, hi, hb, hk⟩; refine ⟨_, rfl, ?_⟩; have n0_ := Aside0.mk (KeepBut.blk hk (g' := gb585) (o := .cells #[.slice none 0 0] 27 (0, 0)) (be_ BK585.out) NB585_0.out (by simp)); have n1_ := Aside0.mk (Kd.R_lower ho0 (keep_size (w := w) (g := g) (row := none) (by repeat (first | (with_reducible first | exact HK.out | apply KeepBut.set_ | apply keep_drewN | apply keep_drew | apply keep_alloc | refine keep_far ?_ GW585.out _) | exact HK.out)))); have n2_ := Aside0.mk (KeepBut.trans (by repeat (first | (with_reducible first | exact HK.out | apply KeepBut.set_ | apply keep_drewN | apply keep_drew | apply keep_alloc | refine keep_far ?_ GW585.out _) | exact HK.out)) hk (.inl rfl)); have n3_ := Aside0.mk (hb); have n4_ := Aside0.mk (hi); clear BK585; clear HK; clear HB; clear HI0; have BK585 := n0_; have HO588 := n1_; have HK := n2_; have HB := n3_; have HI0 := n4_; clear n0_ n1_ n2_ n3_ n4_; (try clear hb); (try clear hb2); (try clear hk); (try clear hi); (try clear ho0)) | ((with_reducible refine gate_dst (N := 3) rfl ?_); refine box_event ?hg (N := 3) ?hd (cs := #[.slice none 0 0]) (t := 27) ?hr ?_; (case hd => rfl); (case hg => rfl); (case hr => first | (go_simp; done) | (go_simp; rfl)); intro gb591 hg w44 hbox hb; have n0_ := Aside0.mk (Kd.R_below (re_ HO588.out) hb); have n1_ := Aside0.mk (IsS74.below (by repeat (first | (with_reducible first | exact HI0.out | apply IsS74.alloc | apply IsS74.drewN | apply IsS74.drew | apply IsS74.set_1 | apply IsS74.set_2 | refine IsS74.far ?_ NB0_585.out _) | exact HI0.out)) hb); have n2_ := Aside0.mk (blk_below (g := gb585) (o := .cells #[.slice none 0 0] 27 (0, 0)) (be_ BK585.out) hb); have n3_ := Aside0.mk (KeepBut.trans (by repeat (first | (with_reducible first | exact HK.out | apply KeepBut.set_ | apply keep_drewN | apply keep_drew | apply keep_alloc | refine keep_far ?_ GW585.out _) | exact HK.out)) (KeepBut.of_below hb g none) (.inl rfl)); have n4_ := Aside0.mk (below_step (by repeat (first | (with_reducible first | exact HB.out | apply below_alloc | apply pw_below_drewN | apply below_drew1 | refine below_set ?_ (IsS74.ge HI0.out) | refine below_set ?_ GE585.out) | exact HB.out)) hb); have n5_ := Aside0.mk (hbox); have n6_ := Aside0.mk ((by rw [hg]; exact (keep_size (w := w) (g := g) (row := none) (by repeat (first | (with_reducible first | exact HK.out | apply KeepBut.set_ | apply keep_drewN | apply keep_drew | apply keep_alloc | refine keep_far ?_ GW585.out _) | exact HK.out))) : w.heap.size ≤ gb591)); have n7_ := Aside0.mk ((Nat.le_trans HW0.out (by rw [hg]; exact (keep_size (w := w) (g := g) (row := none) (by repeat (first | (with_reducible first | exact HK.out | apply KeepBut.set_ | apply keep_drewN | apply keep_drew | apply keep_alloc | refine keep_far ?_ GW585.out _) | exact HK.out))) : w.heap.size ≤ gb591) : w0.heap.size ≤ gb591)); have n8_ := Aside0.mk ((by rw [hg]; exact Nat.ne_of_lt (blk_lt (g := gb585) (o := .cells #[.slice none 0 0] 27 (0, 0)) (be_ BK585.out)) : gb585 ≠ gb591)); have n9_ := Aside0.mk ((by rw [hg]; exact Nat.ne_of_gt (blk_lt (g := gb585) (o := .cells #[.slice none 0 0] 27 (0, 0)) (be_ BK585.out)) : gb591 ≠ gb585)); have n10_ := Aside0.mk ((by rw [hg]; exact Nat.ne_of_lt (IsS74.lt (show IsS74 w0 _ g s0_0 t589 t590 from by repeat (first | (with_reducible first | exact HI0.out | apply IsS74.alloc | apply IsS74.drewN | apply IsS74.drew | apply IsS74.set_1 | apply IsS74.set_2 | refine IsS74.far ?_ NB0_585.out _) | exact HI0.out))) : g ≠ gb591)); have n11_ := Aside0.mk ((by rw [hg]; exact Nat.ne_of_gt (IsS74.lt (show IsS74 w0 _ g s0_0 t589 t590 from by repeat (first | (with_reducible first | exact HI0.out | apply IsS74.alloc | apply IsS74.drewN | apply IsS74.drew | apply IsS74.set_1 | apply IsS74.set_2 | refine IsS74.far ?_ NB0_585.out _) | exact HI0.out))) : gb591 ≠ g)); clear HO588; clear HI0; clear BK585; clear HK; clear HB; have HO588 := n0_; have HI0 := n1_; have BK585 := n2_; have HK := n3_; have HB := n4_; have BK591 := n5_; have GW591 := n6_; have GE591 := n7_; have NB585_591 := n8_; have NB591_585 := n9_; have NB0_591 := n10_; have NB591_0 := n11_; clear n0_ n1_ n2_ n3_ n4_ n5_ n6_ n7_ n8_ n9_ n10_ n11_; clear hb hbox hg; obtain ⟨Ao45, co45, eo45⟩ := Kd.R_slice HO588.out; subst eo45; have hnb46 := NB591_585.out; have hnc46 := NB585_591.out; have hnb47 := NB591_0.out; have hnc47 := NB0_591.out; have hcz48_0 : w44.cell? ⟨gb591, 0, none⟩ = some (.slice none 0 0) := (blk_cell BK591.out 0).trans rfl; have hfz48_0 := blk_frozen BK591.out 0) | ((with_reducible refine gate_callee (f := 77) rfl ?_); refine goesL_ (some 7) rfl rfl Try.func77 (by kernel_rfl) rfl #[.pointer (some ⟨g, 0, none⟩), .int .i64 12] rfl (by (try simp only [List.map_toArray, List.map_cons, List.map_nil]); first | done | rfl | (simp only [List.length_drop, List.length_take]; rfl)) ?_; (with_reducible refine (spec_l1Below.calls g s0_0 t589 t590 12 t592 t593 t594 w0 _ ?side1 ?side2 A3.out).mono ?_); (case side1 => repeat (first | (with_reducible first | exact HI0.out | apply IsS74.alloc | apply IsS74.drewN | apply IsS74.drew | apply IsS74.set_1 | apply IsS74.set_2 | refine IsS74.far ?_ NB0_585.out _ | refine IsS74.far ?_ NB0_591.out _) | exact HI0.out)); (case side2 => repeat (first | (with_reducible first | exact HB.out | apply below_alloc | apply pw_below_drewN | apply below_drew1 | refine below_set ?_ (IsS74.ge HI0.out) | refine below_set ?_ GE585.out | refine below_set ?_ GE591.out) | exact HB.out)); rintro e w49 ⟨rfl, hi, hb, hk⟩; refine ⟨_, rfl, ?_⟩; have n0_ := Aside0.mk (KeepBut.blk hk (g' := gb585) (o := .cells #[.slice none 0 0] 27 (0, 0)) (by (with_reducible repeat (first | refine blk_drewN ?_ _ | refine blk_drew ?_ | refine blk_alloc ?_ _)); refine blk_far ?_ NB585_591.out _; (with_reducible repeat (first | refine blk_drewN ?_ _ | refine blk_drew ?_ | refine blk_alloc ?_ _)); exact BK585.out) NB585_0.out (by simp)); have n1_ := Aside0.mk (Kd.R_mono (Kd.R_keep (IsS74.apart (show IsS74 w0 _ g s0_0 t589 t590 from by repeat (first | (with_reducible first | exact HI0.out | apply IsS74.alloc | apply IsS74.drewN | apply IsS74.drew | apply IsS74.set_1 | apply IsS74.set_2 | refine IsS74.far ?_ NB0_585.out _ | refine IsS74.far ?_ NB0_591.out _) | exact HI0.out)) (by (with_reducible repeat (first | apply Kd.R_alloc | apply Kd.R_drewN | apply Kd.R_drew)); exact (Kd.R_mono (Kd.R_far (p := ⟨gb591, 0, none⟩) (Kd.R_types HO588.out BK591.out (by decide)) (fun _ hk => hk.2) (.slice Ao45 t586.length co45)) (fun _ h_ => h_.1))) (by decide)) hk (fun _ h => h.2)) (fun _ h => h.1)); have n2_ := Aside0.mk (KeepBut.blk hk (g' := gb591) (o := .cells #[.slice Ao45 t586.length co45] 27 (0, 0)) (by (with_reducible repeat (first | refine blk_drewN ?_ _ | refine blk_drew ?_ | refine blk_alloc ?_ _)); refine blk_put (cs := #[.slice none 0 0]) ?_ 0 _ rfl; (with_reducible repeat (first | refine blk_drewN ?_ _ | refine blk_drew ?_ | refine blk_alloc ?_ _)); exact BK591.out) NB591_0.out (by simp)); have n3_ := Aside0.mk (KeepBut.trans (by repeat (first | (with_reducible first | exact HK.out | apply KeepBut.set_ | apply keep_drewN | apply keep_drew | apply keep_alloc | refine keep_far ?_ GW585.out _ | refine keep_far ?_ GW591.out _) | exact HK.out)) hk (.inl rfl)); have n4_ := Aside0.mk (hb); have n5_ := Aside0.mk (hi); clear BK585; clear HO588; clear BK591; clear HK; clear HB; clear HI0; have BK585 := n0_; have HO588 := n1_; have BK591 := n2_; have HK := n3_; have HB := n4_; have HI0 := n5_; clear n0_ n1_ n2_ n3_ n4_ n5_; (try clear hb); (try clear hb2); (try clear hk); (try clear hi)) | ((with_reducible refine gate_dst (N := 27) rfl ?_); refine Kd.R_lit (Kd.int .i64) _ 3 ?hg (N := 27) ?hd (xs := ([0, 59, 4] : List Int)) (inner := [.int .i64 0, .int .i64 59, .int .i64 4]) (ok := fun _ => True) (okp := fun _ => True) ?hr ?hp (fun _ hk => hk) trivial (Below.refl _ _) (Nat.le_refl _) (by simp) ?_; (case hd => rfl); (case hg => rfl); (case hr => first | (go_simp; done) | (go_simp; rfl)); (case hp => exact (Reps.one (show Kd.M (Kd.int .i64) _ _ _ 0 [.int .i64 0] from rfl) (Reps.one (show Kd.M (Kd.int .i64) _ _ _ 59 [.int .i64 59] from rfl) (Reps.one (show Kd.M (Kd.int .i64) _ _ _ 4 [.int .i64 4] from rfl) (Reps.none _ _))))); intro v608 w50 ho51 hb hg_ hnew_; clear hg_ hnew_; (first | rw [← Ny607.out] at ho51 | (simp only [Int.reduceToNat] at ho51; rw [← Ny607.out] at ho51)); have n0_ := Aside0.mk (Kd.R_elder' (re_ HO588.out) (Kd.R_base ho51) hb); have n1_ := Aside0.mk (Kd.R_lower (Kd.R_new' ho51 (Kd.R_lt (re_ HO588.out))) (keep_size (w := w) (g := g) (row := none) (by repeat (first | (with_reducible first | exact HK.out | apply KeepBut.set_ | apply keep_drewN | apply keep_drew | apply keep_alloc | refine keep_far ?_ GW585.out _ | refine keep_far ?_ GW591.out _) | exact HK.out)))); have n2_ := Aside0.mk (IsS74.below (by repeat (first | (with_reducible first | exact HI0.out | apply IsS74.alloc | apply IsS74.drewN | apply IsS74.drew | apply IsS74.set_1 | apply IsS74.set_2 | refine IsS74.far ?_ NB0_585.out _ | refine IsS74.far ?_ NB0_591.out _) | exact HI0.out)) hb); have n3_ := Aside0.mk (blk_below (g := gb585) (o := .cells #[.slice none 0 0] 27 (0, 0)) (be_ BK585.out) hb); have n4_ := Aside0.mk (blk_below (g := gb591) (o := .cells #[.slice Ao45 t586.length co45] 27 (0, 0)) (be_ BK591.out) hb); have n5_ := Aside0.mk (KeepBut.trans (by repeat (first | (with_reducible first | exact HK.out | apply KeepBut.set_ | apply keep_drewN | apply keep_drew | apply keep_alloc | refine keep_far ?_ GW585.out _ | refine keep_far ?_ GW591.out _) | exact HK.out)) (KeepBut.of_below hb g none) (.inl rfl)); have n6_ := Aside0.mk (below_step (by repeat (first | (with_reducible first | exact HB.out | apply below_alloc | apply pw_below_drewN | apply below_drew1 | refine below_set ?_ (IsS74.ge HI0.out) | refine below_set ?_ GE585.out | refine below_set ?_ GE591.out) | exact HB.out)) hb); clear HO588; clear HI0; clear BK585; clear BK591; clear HK; clear HB; have HO588 := n0_; have HO609 := n1_; have HI0 := n2_; have BK585 := n3_; have BK591 := n4_; have HK := n5_; have HB := n6_; clear n0_ n1_ n2_ n3_ n4_ n5_ n6_; clear hb ho51; obtain ⟨Ao52, co52, eo52⟩ := Kd.R_slice HO609.out; subst eo52) | ((with_reducible refine gate_callee (f := 76) rfl ?_); refine goesL_ (some 28) rfl rfl Try.func76 (by kernel_rfl) rfl #[.pointer (some ⟨g, 0, none⟩), .slice Ao52 y607.length co52] rfl (by (try simp only [List.map_toArray, List.map_cons, List.map_nil]); first | done | rfl | (simp only [List.length_drop, List.length_take]; rfl)) ?_; (with_reducible refine (spec_l1PickInt.calls g s0_0 t593 t594 _ _ y607 t610 t611 t612 w0 _ ?side1 ?side2 ?side3 ?side4 ?side5 A41.out).mono ?_); (case side1 => repeat (first | (with_reducible first | exact HI0.out | apply IsS74.alloc | apply IsS74.drewN | apply IsS74.drew | apply IsS74.set_1 | apply IsS74.set_2 | refine IsS74.far ?_ NB0_585.out _ | refine IsS74.far ?_ NB0_591.out _) | exact HI0.out)); (case side2 => repeat (first | (with_reducible first | exact HB.out | apply below_alloc | apply pw_below_drewN | apply below_drew1 | refine below_set ?_ (IsS74.ge HI0.out) | refine below_set ?_ GE585.out | refine below_set ?_ GE591.out) | exact HB.out)); (case side3 => exact ce_ ((Kd.R_reads' HO609.out).2.2)); (case side4 => exact (Kd.R_reads' HO609.out).2.1); (case side5 => exact far_slice (IsS74.own_ne HI0.out HO609.out (by decide))); rintro e w53 ⟨rfl, hi, hb, hk⟩; refine ⟨_, rfl, ?_⟩; have n0_ := Aside0.mk (KeepBut.blk hk (g' := gb585) (o := .cells #[.slice none 0 0] 27 (0, 0)) (be_ BK585.out) NB585_0.out (by simp)); have n1_ := Aside0.mk (Kd.R_mono (Kd.R_keep (IsS74.apart (show IsS74 w0 _ g s0_0 t593 t594 from by repeat (first | (with_reducible first | exact HI0.out | apply IsS74.alloc | apply IsS74.drewN | apply IsS74.drew | apply IsS74.set_1 | apply IsS74.set_2 | refine IsS74.far ?_ NB0_585.out _ | refine IsS74.far ?_ NB0_591.out _) | exact HI0.out)) (re_ HO588.out) (by decide)) hk (fun _ h => h.2)) (fun _ h => h.1)); have n2_ := Aside0.mk (KeepBut.blk hk (g' := gb591) (o := .cells #[.slice Ao45 t586.length co45] 27 (0, 0)) (be_ BK591.out) NB591_0.out (by simp)); have n3_ := Aside0.mk (Kd.R_mono (Kd.R_keep (IsS74.apart (show IsS74 w0 _ g s0_0 t593 t594 from by repeat (first | (with_reducible first | exact HI0.out | apply IsS74.alloc | apply IsS74.drewN | apply IsS74.drew | apply IsS74.set_1 | apply IsS74.set_2 | refine IsS74.far ?_ NB0_585.out _ | refine IsS74.far ?_ NB0_591.out _) | exact HI0.out)) (re_ HO609.out) (by decide)) hk (fun _ h => h.2)) (fun _ h => h.1)); have n4_ := Aside0.mk (KeepBut.trans (by repeat (first | (with_reducible first | exact HK.out | apply KeepBut.set_ | apply keep_drewN | apply keep_drew | apply keep_alloc | refine keep_far ?_ GW585.out _ | refine keep_far ?_ GW591.out _) | exact HK.out)) hk (.inl rfl)); have n5_ := Aside0.mk (hb); have n6_ := Aside0.mk (hi); clear BK585; clear HO588; clear BK591; clear HO609; clear HK; clear HB; clear HI0; have BK585 := n0_; have HO588 := n1_; have BK591 := n2_; have HO609 := n3_; have HK := n4_; have HB := n5_; have HI0 := n6_; clear n0_ n1_ n2_ n3_ n4_ n5_ n6_; (try clear hb); (try clear hb2); (try clear hk); (try clear hi)) | ((with_reducible refine gate_dst (N := 29) rfl ?_); refine Kd.R_lit (Kd.int .i64) _ 3 ?hg (N := 29) ?hd (xs := ([t610, 60] : List Int)) (inner := [.int .i64 t610, .int .i64 60]) (ok := fun _ => True) (okp := fun _ => True) ?hr ?hp (fun _ hk => hk) trivial (Below.refl _ _) (Nat.le_refl _) (by simp) ?_; (case hd => rfl); (case hg => rfl); (case hr => first | (go_simp; done) | (go_simp; rfl)); (case hp => exact (Reps.one (show Kd.M (Kd.int .i64) _ _ _ t610 [.int .i64 t610] from rfl) (Reps.one (show Kd.M (Kd.int .i64) _ _ _ 60 [.int .i64 60] from rfl) (Reps.none _ _)))); intro v614 w54 ho55 hb hg_ hnew_; clear hg_ hnew_; (first | rw [← Ny613.out] at ho55 | (simp only [Int.reduceToNat] at ho55; rw [← Ny613.out] at ho55)); have n0_ := Aside0.mk (Kd.R_elder' (re_ HO588.out) (Kd.R_base ho55) hb); have n1_ := Aside0.mk (Kd.R_elder' (re_ HO609.out) (Kd.R_base ho55) hb); have n2_ := Aside0.mk (Kd.R_lower (Kd.R_new' (Kd.R_new' ho55 (Kd.R_lt (re_ HO588.out))) (Kd.R_lt (re_ HO609.out))) (keep_size (w := w) (g := g) (row := none) (by repeat (first | (with_reducible first | exact HK.out | apply KeepBut.set_ | apply keep_drewN | apply keep_drew | apply keep_alloc | refine keep_far ?_ GW585.out _ | refine keep_far ?_ GW591.out _) | exact HK.out)))); have n3_ := Aside0.mk (IsS74.below (by repeat (first | (with_reducible first | exact HI0.out | apply IsS74.alloc | apply IsS74.drewN | apply IsS74.drew | apply IsS74.set_1 | apply IsS74.set_2 | refine IsS74.far ?_ NB0_585.out _ | refine IsS74.far ?_ NB0_591.out _) | exact HI0.out)) hb); have n4_ := Aside0.mk (blk_below (g := gb585) (o := .cells #[.slice none 0 0] 27 (0, 0)) (be_ BK585.out) hb); have n5_ := Aside0.mk (blk_below (g := gb591) (o := .cells #[.slice Ao45 t586.length co45] 27 (0, 0)) (be_ BK591.out) hb); have n6_ := Aside0.mk (KeepBut.trans (by repeat (first | (with_reducible first | exact HK.out | apply KeepBut.set_ | apply keep_drewN | apply keep_drew | apply keep_alloc | refine keep_far ?_ GW585.out _ | refine keep_far ?_ GW591.out _) | exact HK.out)) (KeepBut.of_below hb g none) (.inl rfl)); have n7_ := Aside0.mk (below_step (by repeat (first | (with_reducible first | exact HB.out | apply below_alloc | apply pw_below_drewN | apply below_drew1 | refine below_set ?_ (IsS74.ge HI0.out) | refine below_set ?_ GE585.out | refine below_set ?_ GE591.out) | exact HB.out)) hb); clear HO588; clear HO609; clear HI0; clear BK585; clear BK591; clear HK; clear HB; have HO588 := n0_; have HO609 := n1_; have HO615 := n2_; have HI0 := n3_; have BK585 := n4_; have BK591 := n5_; have HK := n6_; have HB := n7_; clear n0_ n1_ n2_ n3_ n4_ n5_ n6_ n7_; clear hb ho55; obtain ⟨Ao56, co56, eo56⟩ := Kd.R_slice HO615.out; subst eo56; have hcz57_0 : w54.cell? ⟨gb591, 0, none⟩ = some (.slice Ao45 t586.length co45) := (blk_cell BK591.out 0).trans rfl; have hfz57_0 := blk_frozen BK591.out 0; have hnb58 := NB585_0.out; have hnc58 := NB0_585.out; have hcz59_0 : w54.cell? ⟨gb585, 0, none⟩ = some (.slice none 0 0) := (blk_cell BK585.out 0).trans rfl; have hfz59_0 := blk_frozen BK585.out 0))
       refine bodyPost_ret (results_cell_row rfl _ _ gb585 27 #[.slice Ao56 y613.length co56] (0, 0) _ rfl (by (with_reducible repeat (first | refine blk_drewN ?_ _ | refine blk_drew ?_ | refine blk_alloc ?_ _)); refine blk_put (cs := #[.slice none 0 0]) ?_ 0 _ rfl; (with_reducible repeat (first | refine blk_drewN ?_ _ | refine blk_drew ?_ | refine blk_alloc ?_ _)); refine blk_far ?_ NB585_591.out _; (with_reducible repeat (first | refine blk_drewN ?_ _ | refine blk_drew ?_ | refine blk_alloc ?_ _)); exact BK585.out) Try.underlying27 rfl (by kernel_rfl)) rfl ?_
       exact ⟨_, by first | rfl | (simp [errW_none, errW_some] <;> rfl) | (simp [*, errW_none, errW_some] <;> rfl), Kd.Q_of_R (by (with_reducible repeat (first | apply Kd.R_alloc | apply Kd.R_drewN | apply Kd.R_drew)); exact Kd.R_mono (Kd.R_far (p := ⟨gb585, 0, none⟩) (Kd.R_far (p := ⟨gb591, 0, none⟩) (Kd.R_types (Kd.R_types HO615.out BK591.out (by decide)) BK585.out (by decide)) (fun _ hk => hk.1.2) (.slice Ao56 y613.length co56)) (fun _ hk => hk.2) (.slice Ao56 y613.length co56)) (fun _ hk => trivial)), by repeat (first | (with_reducible first | exact HI0.out | apply IsS74.alloc | apply IsS74.drewN | apply IsS74.drew | apply IsS74.set_1 | apply IsS74.set_2 | refine IsS74.far ?_ NB0_585.out _ | refine IsS74.far ?_ NB0_591.out _) | exact HI0.out), by repeat (first | (with_reducible first | exact HB.out | apply below_alloc | apply pw_below_drewN | apply below_drew1 | refine below_set ?_ (IsS74.ge HI0.out) | refine below_set ?_ GE585.out | refine below_set ?_ GE591.out) | exact HB.out), by repeat (first | (with_reducible first | exact HK.out | apply KeepBut.set_ | apply keep_drewN | apply keep_drew | apply keep_alloc | refine keep_far ?_ GW585.out _ | refine keep_far ?_ GW591.out _) | exact HK.out)⟩
     · rw [if_neg c40] at H
       have c40b0 : (t592 == 2) = false := beq_eq_false_iff_ne.mpr c40
       have c40b1 : (t592 != 2) = true := bne_iff_ne.mpr c40
       simp only [Option.some.injEq, Prod.mk.injEq] at H
       obtain ⟨rfl, rfl, rfl⟩ := H
       go_enter Try.func75, Try.ntmps75
       go_wp2_with (first | ((with_reducible refine gate_dst (N := 2) rfl ?_); refine box_event ?hg (N := 2) ?hd (cs := #[.slice none 0 0]) (t := 27) ?hr ?_; (case hd => rfl); (case hg => rfl); (case hr => first | (go_simp; done) | (go_simp; rfl)); intro gb585 hg w60 hbox hb; have n0_ := Aside0.mk (IsS74.below (by repeat (first | (with_reducible first | exact HI0.out | apply IsS74.alloc | apply IsS74.drewN | apply IsS74.drew | apply IsS74.set_1 | apply IsS74.set_2) | exact HI0.out)) hb); have n1_ := Aside0.mk (KeepBut.trans (by repeat (first | (with_reducible first | exact HK.out | apply KeepBut.set_ | apply keep_drewN | apply keep_drew | apply keep_alloc) | exact HK.out)) (KeepBut.of_below hb g none) (.inl rfl)); have n2_ := Aside0.mk (below_step (by repeat (first | (with_reducible first | exact HB.out | apply below_alloc | apply pw_below_drewN | apply below_drew1 | refine below_set ?_ (IsS74.ge HI0.out)) | exact HB.out)) hb); have n3_ := Aside0.mk (hbox); have n4_ := Aside0.mk ((by rw [hg]; exact (keep_size (w := w) (g := g) (row := none) (by repeat (first | (with_reducible first | exact HK.out | apply KeepBut.set_ | apply keep_drewN | apply keep_drew | apply keep_alloc) | exact HK.out))) : w.heap.size ≤ gb585)); have n5_ := Aside0.mk ((Nat.le_trans HW0.out (by rw [hg]; exact (keep_size (w := w) (g := g) (row := none) (by repeat (first | (with_reducible first | exact HK.out | apply KeepBut.set_ | apply keep_drewN | apply keep_drew | apply keep_alloc) | exact HK.out))) : w.heap.size ≤ gb585) : w0.heap.size ≤ gb585)); have n6_ := Aside0.mk ((by rw [hg]; exact Nat.ne_of_lt (IsS74.lt (show IsS74 w0 _ g s0_0 s0_1 s0_2 from by repeat (first | (with_reducible first | exact HI0.out | apply IsS74.alloc | apply IsS74.drewN | apply IsS74.drew | apply IsS74.set_1 | apply IsS74.set_2) | exact HI0.out))) : g ≠ gb585)); have n7_ := Aside0.mk ((by rw [hg]; exact Nat.ne_of_gt (IsS74.lt (show IsS74 w0 _ g s0_0 s0_1 s0_2 from by repeat (first | (with_reducible first | exact HI0.out | apply IsS74.alloc | apply IsS74.drewN | apply IsS74.drew | apply IsS74.set_1 | apply IsS74.set_2) | exact HI0.out))) : gb585 ≠ g)); clear HI0; clear HK; clear HB; have HI0 := n0_; have HK := n1_; have HB := n2_; have BK585 := n3_; have GW585 := n4_; have GE585 := n5_; have NB0_585 := n6_; have NB585_0 := n7_; clear n0_ n1_ n2_ n3_ n4_ n5_ n6_ n7_; clear hb hbox hg) | ((with_reducible refine gate_callee (f := 107) rfl ?_); refine goesL_ (some 5) rfl rfl Try.func107 (by kernel_rfl) rfl #[.pointer (some ⟨g, 0, none⟩)] rfl (by (try simp only [List.map_toArray, List.map_cons, List.map_nil]); first | done | rfl | (simp only [List.length_drop, List.length_take]; rfl)) ?_; (with_reducible refine (spec_l3Draw.calls k g s0_0 s0_1 s0_2 t586 t589 t590 w0 _ ?side1 ?side2 A2.out).mono ?_); (case side1 => repeat (first | (with_reducible first | exact HI0.out | apply IsS74.alloc | apply IsS74.drewN | apply IsS74.drew | apply IsS74.set_1 | apply IsS74.set_2 | refine IsS74.far ?_ NB0_585.out _) | exact HI0.out)); (case side2 => repeat (first | (with_reducible first | exact HB.out | apply below_alloc | apply pw_below_drewN | apply below_drew1 | refine below_set ?_ (IsS74.ge HI0.out) | refine below_set ?_ GE585.out) | exact HB.out)); rintro e w61 ⟨v587, rfl, ho0, hi, hb, hk⟩; refine ⟨_, rfl, ?_⟩; have n0_ := Aside0.mk (KeepBut.blk hk (g' := gb585) (o := .cells #[.slice none 0 0] 27 (0, 0)) (be_ BK585.out) NB585_0.out (by simp)); have n1_ := Aside0.mk (Kd.R_lower ho0 (keep_size (w := w) (g := g) (row := none) (by repeat (first | (with_reducible first | exact HK.out | apply KeepBut.set_ | apply keep_drewN | apply keep_drew | apply keep_alloc | refine keep_far ?_ GW585.out _) | exact HK.out)))); have n2_ := Aside0.mk (KeepBut.trans (by repeat (first | (with_reducible first | exact HK.out | apply KeepBut.set_ | apply keep_drewN | apply keep_drew | apply keep_alloc | refine keep_far ?_ GW585.out _) | exact HK.out)) hk (.inl rfl)); have n3_ := Aside0.mk (hb); have n4_ := Aside0.mk (hi); clear BK585; clear HK; clear HB; clear HI0; have BK585 := n0_; have HO588 := n1_; have HK := n2_; have HB := n3_; have HI0 := n4_; clear n0_ n1_ n2_ n3_ n4_; (try clear hb); (try clear hb2); (try clear hk); (try clear hi); (try clear ho0)) | ((with_reducible refine gate_dst (N := 3) rfl ?_); refine box_event ?hg (N := 3) ?hd (cs := #[.slice none 0 0]) (t := 27) ?hr ?_; (case hd => rfl); (case hg => rfl); (case hr => first | (go_simp; done) | (go_simp; rfl)); intro gb591 hg w62 hbox hb; have n0_ := Aside0.mk (Kd.R_below (re_ HO588.out) hb); have n1_ := Aside0.mk (IsS74.below (by repeat (first | (with_reducible first | exact HI0.out | apply IsS74.alloc | apply IsS74.drewN | apply IsS74.drew | apply IsS74.set_1 | apply IsS74.set_2 | refine IsS74.far ?_ NB0_585.out _) | exact HI0.out)) hb); have n2_ := Aside0.mk (blk_below (g := gb585) (o := .cells #[.slice none 0 0] 27 (0, 0)) (be_ BK585.out) hb); have n3_ := Aside0.mk (KeepBut.trans (by repeat (first | (with_reducible first | exact HK.out | apply KeepBut.set_ | apply keep_drewN | apply keep_drew | apply keep_alloc | refine keep_far ?_ GW585.out _) | exact HK.out)) (KeepBut.of_below hb g none) (.inl rfl)); have n4_ := Aside0.mk (below_step (by repeat (first | (with_reducible first | exact HB.out | apply below_alloc | apply pw_below_drewN | apply below_drew1 | refine below_set ?_ (IsS74.ge HI0.out) | refine below_set ?_ GE585.out) | exact HB.out)) hb); have n5_ := Aside0.mk (hbox); have n6_ := Aside0.mk ((by rw [hg]; exact (keep_size (w := w) (g := g) (row := none) (by repeat (first | (with_reducible first | exact HK.out | apply KeepBut.set_ | apply keep_drewN | apply keep_drew | apply keep_alloc | refine keep_far ?_ GW585.out _) | exact HK.out))) : w.heap.size ≤ gb591)); have n7_ := Aside0.mk ((Nat.le_trans HW0.out (by rw [hg]; exact (keep_size (w := w) (g := g) (row := none) (by repeat (first | (with_reducible first | exact HK.out | apply KeepBut.set_ | apply keep_drewN | apply keep_drew | apply keep_alloc | refine keep_far ?_ GW585.out _) | exact HK.out))) : w.heap.size ≤ gb591) : w0.heap.size ≤ gb591)); have n8_ := Aside0.mk ((by rw [hg]; exact Nat.ne_of_lt (blk_lt (g := gb585) (o := .cells #[.slice none 0 0] 27 (0, 0)) (be_ BK585.out)) : gb585 ≠ gb591)); have n9_ := Aside0.mk ((by rw [hg]; exact Nat.ne_of_gt (blk_lt (g := gb585) (o := .cells #[.slice none 0 0] 27 (0, 0)) (be_ BK585.out)) : gb591 ≠ gb585)); have n10_ := Aside0.mk ((by rw [hg]; exact Nat.ne_of_lt (IsS74.lt (show IsS74 w0 _ g s0_0 t589 t590 from by repeat (first | (with_reducible first | exact HI0.out | apply IsS74.alloc | apply IsS74.drewN | apply IsS74.drew | apply IsS74.set_1 | apply IsS74.set_2 | refine IsS74.far ?_ NB0_585.out _) | exact HI0.out))) : g ≠ gb591)); have n11_ := Aside0.mk ((by rw [hg]; exact Nat.ne_of_gt (IsS74.lt (show IsS74 w0 _ g s0_0 t589 t590 from by repeat (first | (with_reducible first | exact HI0.out | apply IsS74.alloc | apply IsS74.drewN | apply IsS74.drew | apply IsS74.set_1 | apply IsS74.set_2 | refine IsS74.far ?_ NB0_585.out _) | exact HI0.out))) : gb591 ≠ g)); clear HO588; clear HI0; clear BK585; clear HK; clear HB; have HO588 := n0_; have HI0 := n1_; have BK585 := n2_; have HK := n3_; have HB := n4_; have BK591 := n5_; have GW591 := n6_; have GE591 := n7_; have NB585_591 := n8_; have NB591_585 := n9_; have NB0_591 := n10_; have NB591_0 := n11_; clear n0_ n1_ n2_ n3_ n4_ n5_ n6_ n7_ n8_ n9_ n10_ n11_; clear hb hbox hg; obtain ⟨Ao63, co63, eo63⟩ := Kd.R_slice HO588.out; subst eo63; have hnb64 := NB591_585.out; have hnc64 := NB585_591.out; have hnb65 := NB591_0.out; have hnc65 := NB0_591.out; have hcz66_0 : w62.cell? ⟨gb591, 0, none⟩ = some (.slice none 0 0) := (blk_cell BK591.out 0).trans rfl; have hfz66_0 := blk_frozen BK591.out 0) | ((with_reducible refine gate_callee (f := 77) rfl ?_); refine goesL_ (some 7) rfl rfl Try.func77 (by kernel_rfl) rfl #[.pointer (some ⟨g, 0, none⟩), .int .i64 12] rfl (by (try simp only [List.map_toArray, List.map_cons, List.map_nil]); first | done | rfl | (simp only [List.length_drop, List.length_take]; rfl)) ?_; (with_reducible refine (spec_l1Below.calls g s0_0 t589 t590 12 t592 t593 t594 w0 _ ?side1 ?side2 A3.out).mono ?_); (case side1 => repeat (first | (with_reducible first | exact HI0.out | apply IsS74.alloc | apply IsS74.drewN | apply IsS74.drew | apply IsS74.set_1 | apply IsS74.set_2 | refine IsS74.far ?_ NB0_585.out _ | refine IsS74.far ?_ NB0_591.out _) | exact HI0.out)); (case side2 => repeat (first | (with_reducible first | exact HB.out | apply below_alloc | apply pw_below_drewN | apply below_drew1 | refine below_set ?_ (IsS74.ge HI0.out) | refine below_set ?_ GE585.out | refine below_set ?_ GE591.out) | exact HB.out)); rintro e w67 ⟨rfl, hi, hb, hk⟩; refine ⟨_, rfl, ?_⟩; have n0_ := Aside0.mk (KeepBut.blk hk (g' := gb585) (o := .cells #[.slice none 0 0] 27 (0, 0)) (by (with_reducible repeat (first | refine blk_drewN ?_ _ | refine blk_drew ?_ | refine blk_alloc ?_ _)); refine blk_far ?_ NB585_591.out _; (with_reducible repeat (first | refine blk_drewN ?_ _ | refine blk_drew ?_ | refine blk_alloc ?_ _)); exact BK585.out) NB585_0.out (by simp)); have n1_ := Aside0.mk (Kd.R_mono (Kd.R_keep (IsS74.apart (show IsS74 w0 _ g s0_0 t589 t590 from by repeat (first | (with_reducible first | exact HI0.out | apply IsS74.alloc | apply IsS74.drewN | apply IsS74.drew | apply IsS74.set_1 | apply IsS74.set_2 | refine IsS74.far ?_ NB0_585.out _ | refine IsS74.far ?_ NB0_591.out _) | exact HI0.out)) (by (with_reducible repeat (first | apply Kd.R_alloc | apply Kd.R_drewN | apply Kd.R_drew)); exact (Kd.R_mono (Kd.R_far (p := ⟨gb591, 0, none⟩) (Kd.R_types HO588.out BK591.out (by decide)) (fun _ hk => hk.2) (.slice Ao63 t586.length co63)) (fun _ h_ => h_.1))) (by decide)) hk (fun _ h => h.2)) (fun _ h => h.1)); have n2_ := Aside0.mk (KeepBut.blk hk (g' := gb591) (o := .cells #[.slice Ao63 t586.length co63] 27 (0, 0)) (by (with_reducible repeat (first | refine blk_drewN ?_ _ | refine blk_drew ?_ | refine blk_alloc ?_ _)); refine blk_put (cs := #[.slice none 0 0]) ?_ 0 _ rfl; (with_reducible repeat (first | refine blk_drewN ?_ _ | refine blk_drew ?_ | refine blk_alloc ?_ _)); exact BK591.out) NB591_0.out (by simp)); have n3_ := Aside0.mk (KeepBut.trans (by repeat (first | (with_reducible first | exact HK.out | apply KeepBut.set_ | apply keep_drewN | apply keep_drew | apply keep_alloc | refine keep_far ?_ GW585.out _ | refine keep_far ?_ GW591.out _) | exact HK.out)) hk (.inl rfl)); have n4_ := Aside0.mk (hb); have n5_ := Aside0.mk (hi); clear BK585; clear HO588; clear BK591; clear HK; clear HB; clear HI0; have BK585 := n0_; have HO588 := n1_; have BK591 := n2_; have HK := n3_; have HB := n4_; have HI0 := n5_; clear n0_ n1_ n2_ n3_ n4_ n5_; (try clear hb); (try clear hb2); (try clear hk); (try clear hi); have hcz68_0 : w67.cell? ⟨gb591, 0, none⟩ = some (.slice Ao63 t586.length co63) := (blk_cell BK591.out 0).trans rfl; have hfz68_0 := blk_frozen BK591.out 0; have hnb69 := NB585_0.out; have hnc69 := NB0_585.out; have hcz70_0 : w67.cell? ⟨gb585, 0, none⟩ = some (.slice none 0 0) := (blk_cell BK585.out 0).trans rfl; have hfz70_0 := blk_frozen BK585.out 0))
       refine bodyPost_ret (results_cell_row rfl _ _ gb585 27 #[.slice Ao63 t586.length co63] (0, 0) _ rfl (by (with_reducible repeat (first | refine blk_drewN ?_ _ | refine blk_drew ?_ | refine blk_alloc ?_ _)); refine blk_put (cs := #[.slice none 0 0]) ?_ 0 _ rfl; (with_reducible repeat (first | refine blk_drewN ?_ _ | refine blk_drew ?_ | refine blk_alloc ?_ _)); exact BK585.out) Try.underlying27 rfl (by kernel_rfl)) rfl ?_
       exact ⟨_, by first | rfl | (simp [errW_none, errW_some] <;> rfl) | (simp [*, errW_none, errW_some] <;> rfl), Kd.Q_of_R (by (with_reducible repeat (first | apply Kd.R_alloc | apply Kd.R_drewN | apply Kd.R_drew)); exact Kd.R_mono (Kd.R_far (p := ⟨gb585, 0, none⟩) (Kd.R_types HO588.out BK585.out (by decide)) (fun _ hk => hk.2) (.slice Ao63 t586.length co63)) (fun _ hk => trivial)), by repeat (first | (with_reducible first | exact HI0.out | apply IsS74.alloc | apply IsS74.drewN | apply IsS74.drew | apply IsS74.set_1 | apply IsS74.set_2 | refine IsS74.far ?_ NB0_585.out _ | refine IsS74.far ?_ NB0_591.out _) | exact HI0.out), by repeat (first | (with_reducible first | exact HB.out | apply below_alloc | apply pw_below_drewN | apply below_drew1 | refine below_set ?_ (IsS74.ge HI0.out) | refine below_set ?_ GE585.out | refine below_set ?_ GE591.out) | exact HB.out), by repeat (first | (with_reducible first | exact HK.out | apply KeepBut.set_ | apply keep_drewN | apply keep_drew | apply keep_alloc | refine keep_far ?_ GW585.out _ | refine keep_far ?_ GW591.out _) | exact HK.out)⟩
def spec_DrawOrderBound.f (k : Nat) (l0 : List Int) : Option (List Int × Int) := (spec_l1New.f k l0).bind fun bt617 => ((spec_l3Bent.f k bt617.1 bt617.2.1 bt617.2.2).bind fun bt621 => ((spec_l1Below.f bt617.1 bt621.2.1 bt621.2.2 60).bind fun bt627 => ((spec_l1Below.f bt617.1 bt627.2.1 bt627.2.2 60).bind fun bt630 => ((spec_l1PickInt.f bt617.1 bt630.2.1 bt630.2.2 (([bt627.1, bt630.1, (-1), 501, 120] : List Int))).bind fun bt636 => (some (bt621.1, bt636.1))))))
def spec_DrawOrderBound.T3 : Bool × List (List Nat × List Nat) := (true, [([], []), ([], []), ([], []), ([2], [2]), ([], []), ([4, 3], [4]), ([3, 5], [3, 5]), ([1, 6, 5], [1, 6]), ([0, 7, 0], [0]), ([7, 8, 0, 1, 2, 3, 4, 5, 6, 7, 8], [7])])
def spec_DrawOrderBound.B3 : List Nat := [0, 0, 0, 4, 0, 28, 60, 126, 255, 511]
theorem spec_DrawOrderBound.tab3 : rtab .any (opsOf Try.f35 3) = spec_DrawOrderBound.T3 := by kernel_rfl
theorem spec_DrawOrderBound.bits3 : waitsOk spec_DrawOrderBound.T3.2 spec_DrawOrderBound.B3 = true := by kernel_rfl
set_option maxHeartbeats 8000000 in
set_option maxRecDepth 100000 in
theorem spec_DrawOrderBound.calls (k : Nat) (A0 : Option Addr) (c0 : Nat) (l0 : List Int) (r1 : List Int) (r2 : Int) (w : World) (hr0 : Kd.C (Kd.int .u8) w A0 l0.length l0) (hc0 : l0.length ≤ c0) (h : spec_DrawOrderBound.f k l0 = some (r1, r2)) :
 Calls Try.prog 35 #[.slice A0 l0.length c0] w fun e w' => ∃ v0_ : Value, e = .returned (.tuple #[.agg #[v0_], .int .i64 r2]) ∧ Kd.Q (Kd.int .i64) 3 w' w.heap.size (fun _ => True) v0_ r1 ∧ Below w.heap.size w w' := by
 have hu27 := Try.underlying27
 have HR0 := Aside0.mk hr0
 have HC0 := Aside0.mk hc0
 clear hr0 hc0
 have HB := Aside0.mk (Below.refl w.heap.size w)
 have H : ((spec_l1New.f k l0).bind fun bt617 => ((spec_l3Bent.f k bt617.1 bt617.2.1 bt617.2.2).bind fun bt621 => ((spec_l1Below.f bt617.1 bt621.2.1 bt621.2.2 60).bind fun bt627 => ((spec_l1Below.f bt617.1 bt627.2.1 bt627.2.2 60).bind fun bt630 => ((spec_l1PickInt.f bt617.1 bt630.2.1 bt630.2.2 (([bt627.1, bt630.1, (-1), 501, 120] : List Int))).bind fun bt636 => (some (bt621.1, bt636.1))))))) = some (r1, r2) := h
 clear h
 replace H := Option.bind_eq_some_iff.mp H
 obtain ⟨⟨t617, t618, t619⟩, A20, H⟩ := H
 replace H : ((spec_l3Bent.f k t617 t618 t619).bind fun bt621 => ((spec_l1Below.f t617 bt621.2.1 bt621.2.2 60).bind fun bt627 => ((spec_l1Below.f t617 bt627.2.1 bt627.2.2 60).bind fun bt630 => ((spec_l1PickInt.f t617 bt630.2.1 bt630.2.2 (([bt627.1, bt630.1, (-1), 501, 120] : List Int))).bind fun bt636 => (some (bt621.1, bt636.1)))))) = some (r1, r2) := H
 have A2 := Aside0.mk A20
 clear A20
 replace H := Option.bind_eq_some_iff.mp H
 obtain ⟨⟨t621, t624, t625⟩, A30, H⟩ := H
 replace H : ((spec_l1Below.f t617 t624 t625 60).bind fun bt627 => ((spec_l1Below.f t617 bt627.2.1 bt627.2.2 60).bind fun bt630 => ((spec_l1PickInt.f t617 bt630.2.1 bt630.2.2 (([bt627.1, bt630.1, (-1), 501, 120] : List Int))).bind fun bt636 => (some (t621, bt636.1))))) = some (r1, r2) := H
 have A3 := Aside0.mk A30
 clear A30
 replace H := Option.bind_eq_some_iff.mp H
 obtain ⟨⟨t627, t628, t629⟩, A40, H⟩ := H
 replace H : ((spec_l1Below.f t617 t628 t629 60).bind fun bt630 => ((spec_l1PickInt.f t617 bt630.2.1 bt630.2.2 (([t627, bt630.1, (-1), 501, 120] : List Int))).bind fun bt636 => (some (t621, bt636.1)))) = some (r1, r2) := H
 have A4 := Aside0.mk A40
 clear A40
 replace H := Option.bind_eq_some_iff.mp H
 obtain ⟨⟨t630, t631, t632⟩, A50, H⟩ := H
 replace H : ((spec_l1PickInt.f t617 t631 t632 (([t627, t630, (-1), 501, 120] : List Int))).bind fun bt636 => (some (t621, bt636.1))) = some (r1, r2) := H
 have A5 := Aside0.mk A50
 clear A50
 obtain ⟨y633, hy633⟩ : ∃ y_ : List Int, y_ = (([t627, t630, (-1), 501, 120] : List Int)) := ⟨_, rfl⟩
 replace H : ((spec_l1PickInt.f t617 t631 t632 y633).bind fun bt636 => (some (t621, bt636.1))) = some (r1, r2) := by first | (rw [hy633]; with_reducible exact H) | (have H2_ := (Option.bind_some _ _).symm.trans H; rw [hy633]; with_reducible exact H2_) | (have H2_ := (Option.bind_some _ _).symm.trans H; with_reducible exact H2_) | with_reducible exact H | (rw [hy633]; exact H) | exact H
 have Ny633 := Aside0.mk hy633
 clear hy633
 replace H := Option.bind_eq_some_iff.mp H
 obtain ⟨⟨t636, t637, t638⟩, A60, H⟩ := H
 replace H : (some (t621, t636)) = some (r1, r2) := H
 have A6 := Aside0.mk A60
 clear A60
 simp only [Option.some.injEq, Prod.mk.injEq] at H
 obtain ⟨rfl, rfl⟩ := H
 go_enter Try.func35, Try.ntmps35
 try go_wp2_with (first | ((with_reducible refine gate_dst (N := 2) rfl ?_); refine box_event ?hg (N := 2) ?hd (cs := #[.slice none 0 0]) (t := 27) ?hr ?_; (case hd => rfl); (case hg => rfl); (case hr => first | (go_simp; done) | (go_simp; rfl)); intro gb616 hg w7 hbox hb; have n0_ := Aside0.mk (below_step (bl_ HB.out) hb); have n1_ := Aside0.mk (hbox); have n2_ := Aside0.mk ((by rw [hg]; exact (below_size (bl_ HB.out)) : w.heap.size ≤ gb616)); have n3_ := Aside0.mk ((by rw [hg]; exact (below_size (bl_ HB.out)) : w.heap.size ≤ gb616)); clear HB; have HB := n0_; have BK616 := n1_; have GW616 := n2_; have GE616 := n3_; clear n0_ n1_ n2_ n3_; clear hb hbox hg) | ((with_reducible refine gate_callee (f := 74) rfl ?_); refine goesL_ (some 7) rfl rfl Try.func74 (by kernel_rfl) rfl #[.slice A0 l0.length c0] rfl (by (try simp only [List.map_toArray, List.map_cons, List.map_nil]); first | done | rfl | (simp only [List.length_drop, List.length_take]; rfl)) ?_; (with_reducible refine (spec_l1New.calls k _ _ l0 t617 t618 t619 w _ ?side1 ?side2 ?side3 A2.out).mono ?_); (case side1 => repeat (first | (with_reducible first | exact HB.out | apply below_alloc | apply pw_below_drewN | apply below_drew1 | refine below_set ?_ GE616.out) | exact HB.out)); (case side2 => exact HR0.out); (case side3 => exact HC0.out); rintro e w8 ⟨g620, rfl, hi, hb, hb2⟩; refine ⟨_, rfl, ?_⟩; have n0_ := Aside0.mk (blk_below (g := gb616) (o := .cells #[.slice none 0 0] 27 (0, 0)) (be_ BK616.out) hb2); have n1_ := Aside0.mk (hb); have n2_ := Aside0.mk (hi); have n3_ := Aside0.mk (IsS74.ne_blk hi (blk_below (g := gb616) (o := .cells #[.slice none 0 0] 27 (0, 0)) (be_ BK616.out) hb2) (by decide)); have n4_ := Aside0.mk (Ne.symm (IsS74.ne_blk hi (blk_below (g := gb616) (o := .cells #[.slice none 0 0] 27 (0, 0)) (be_ BK616.out) hb2) (by decide))); clear BK616; clear HB; have BK616 := n0_; have HB := n1_; have HI620 := n2_; have NB620_616 := n3_; have NB616_620 := n4_; clear n0_ n1_ n2_ n3_ n4_; (try clear hb); (try clear hb2); (try clear hk); (try clear hi)) | ((with_reducible refine gate_callee (f := 75) rfl ?_); refine goesL_ (some 9) rfl rfl Try.func75 (by kernel_rfl) rfl #[.pointer (some ⟨g620, 0, none⟩)] rfl (by (try simp only [List.map_toArray, List.map_cons, List.map_nil]); first | done | rfl | (simp only [List.length_drop, List.length_take]; rfl)) ?_; (with_reducible refine (spec_l3Bent.calls k g620 t617 t618 t619 t621 t624 t625 w _ ?side1 ?side2 A3.out).mono ?_); (case side1 => repeat (first | (with_reducible first | exact HI620.out | apply IsS74.alloc | apply IsS74.drewN | apply IsS74.drew | apply IsS74.set_1 | apply IsS74.set_2 | refine IsS74.far ?_ NB620_616.out _) | exact HI620.out)); (case side2 => repeat (first | (with_reducible first | exact HB.out | apply below_alloc | apply pw_below_drewN | apply below_drew1 | refine below_set ?_ (IsS74.ge HI620.out) | refine below_set ?_ GE616.out) | exact HB.out)); rintro e w9 ⟨v622, rfl, ho0, hi, hb, hk⟩; refine ⟨_, rfl, ?_⟩; have n0_ := Aside0.mk (KeepBut.blk hk (g' := gb616) (o := .cells #[.slice none 0 0] 27 (0, 0)) (be_ BK616.out) NB616_620.out (by simp)); have n1_ := Aside0.mk (Kd.Q_lower ho0 (below_size (by repeat (first | (with_reducible first | exact HB.out | apply below_alloc | apply pw_below_drewN | apply below_drew1 | refine below_set ?_ (IsS74.ge HI620.out) | refine below_set ?_ GE616.out) | exact HB.out)))); have n2_ := Aside0.mk (hb); have n3_ := Aside0.mk (hi); clear BK616; clear HB; clear HI620; have BK616 := n0_; have HO623 := n1_; have HB := n2_; have HI620 := n3_; clear n0_ n1_ n2_ n3_; (try clear hb); (try clear hb2); (try clear hk); (try clear hi); (try clear ho0)) | ((with_reducible refine gate_dst (N := 5) rfl ?_); refine box_event ?hg (N := 5) ?hd (cs := #[.slice none 0 0]) (t := 27) ?hr ?_; (case hd => rfl); (case hg => rfl); (case hr => first | (go_simp; done) | (go_simp; rfl)); intro gb626 hg w10 hbox hb; have n0_ := Aside0.mk (Kd.Q_below (by (with_reducible repeat (first | apply Kd.Q_alloc | apply Kd.Q_drewN | apply Kd.Q_drew)); exact HO623.out) hb); have n1_ := Aside0.mk (blk_below (g := gb616) (o := .cells #[.slice none 0 0] 27 (0, 0)) (be_ BK616.out) hb); have n2_ := Aside0.mk (IsS74.below (by repeat (first | (with_reducible first | exact HI620.out | apply IsS74.alloc | apply IsS74.drewN | apply IsS74.drew | apply IsS74.set_1 | apply IsS74.set_2 | refine IsS74.far ?_ NB620_616.out _) | exact HI620.out)) hb); have n3_ := Aside0.mk (below_step (by repeat (first | (with_reducible first | exact HB.out | apply below_alloc | apply pw_below_drewN | apply below_drew1 | refine below_set ?_ (IsS74.ge HI620.out) | refine below_set ?_ GE616.out) | exact HB.out)) hb); have n4_ := Aside0.mk (hbox); have n5_ := Aside0.mk ((by rw [hg]; exact (below_size (by repeat (first | (with_reducible first | exact HB.out | apply below_alloc | apply pw_below_drewN | apply below_drew1 | refine below_set ?_ (IsS74.ge HI620.out) | refine below_set ?_ GE616.out) | exact HB.out))) : w.heap.size ≤ gb626)); have n6_ := Aside0.mk ((by rw [hg]; exact (below_size (by repeat (first | (with_reducible first | exact HB.out | apply below_alloc | apply pw_below_drewN | apply below_drew1 | refine below_set ?_ (IsS74.ge HI620.out) | refine below_set ?_ GE616.out) | exact HB.out))) : w.heap.size ≤ gb626)); have n7_ := Aside0.mk ((by rw [hg]; exact Nat.ne_of_lt (blk_lt (g := gb616) (o := .cells #[.slice none 0 0] 27 (0, 0)) (be_ BK616.out)) : gb616 ≠ gb626)); have n8_ := Aside0.mk ((by rw [hg]; exact Nat.ne_of_gt (blk_lt (g := gb616) (o := .cells #[.slice none 0 0] 27 (0, 0)) (be_ BK616.out)) : gb626 ≠ gb616)); have n9_ := Aside0.mk ((by rw [hg]; exact Nat.ne_of_lt (IsS74.lt (show IsS74 w _ g620 t617 t624 t625 from by repeat (first | (with_reducible first | exact HI620.out | apply IsS74.alloc | apply IsS74.drewN | apply IsS74.drew | apply IsS74.set_1 | apply IsS74.set_2 | refine IsS74.far ?_ NB620_616.out _) | exact HI620.out))) : g620 ≠ gb626)); have n10_ := Aside0.mk ((by rw [hg]; exact Nat.ne_of_gt (IsS74.lt (show IsS74 w _ g620 t617 t624 t625 from by repeat (first | (with_reducible first | exact HI620.out | apply IsS74.alloc | apply IsS74.drewN | apply IsS74.drew | apply IsS74.set_1 | apply IsS74.set_2 | refine IsS74.far ?_ NB620_616.out _) | exact HI620.out))) : gb626 ≠ g620)); clear HO623; clear BK616; clear HI620; clear HB; have HO623 := n0_; have BK616 := n1_; have HI620 := n2_; have HB := n3_; have BK626 := n4_; have GW626 := n5_; have GE626 := n6_; have NB616_626 := n7_; have NB626_616 := n8_; have NB620_626 := n9_; have NB626_620 := n10_; clear n0_ n1_ n2_ n3_ n4_ n5_ n6_ n7_ n8_ n9_ n10_; clear hb hbox hg; obtain ⟨Ao11, co11, eo11, _⟩ := Kd.Q_slice HO623.out; subst eo11; have hnb12 := NB626_616.out; have hnc12 := NB616_626.out; have hnb13 := NB626_620.out; have hnc13 := NB620_626.out; have hcz14_0 : w10.cell? ⟨gb626, 0, none⟩ = some (.slice none 0 0) := (blk_cell BK626.out 0).trans rfl; have hfz14_0 := blk_frozen BK626.out 0))
 have n0_ : Aside0 (Kd.Q (Kd.int .i64) 3 (w10.setCell ⟨gb626, 0, none⟩ (.slice Ao11 t621.length co11)) w.heap.size (fun _ => True) (.slice Ao11 t621.length co11) t621) := ⟨by (with_reducible repeat (first | apply Kd.Q_alloc | apply Kd.Q_drewN | apply Kd.Q_drew)); exact Kd.Q_mono (Kd.Q_far (p := ⟨gb626, 0, none⟩) (Kd.Q_types HO623.out BK626.out (by decide)) (fun _ hk => hk.2) (.slice Ao11 t621.length co11)) (fun _ hk => trivial)⟩
 have n1_ : Aside0 ((w10.setCell ⟨gb626, 0, none⟩ (.slice Ao11 t621.length co11)).heap[gb616]? = some (.cells #[.slice none 0 0] 27 (0, 0))) := ⟨by (with_reducible repeat (first | refine blk_drewN ?_ _ | refine blk_drew ?_ | refine blk_alloc ?_ _)); refine blk_far ?_ NB616_626.out _; (with_reducible repeat (first | refine blk_drewN ?_ _ | refine blk_drew ?_ | refine blk_alloc ?_ _)); exact BK616.out⟩
 have n2_ : Aside0 ((w10.setCell ⟨gb626, 0, none⟩ (.slice Ao11 t621.length co11)).heap[gb626]? = some (.cells #[.slice Ao11 t621.length co11] 27 (0, 0))) := ⟨by (with_reducible repeat (first | refine blk_drewN ?_ _ | refine blk_drew ?_ | refine blk_alloc ?_ _)); refine blk_put (cs := #[.slice none 0 0]) ?_ 0 _ rfl; (with_reducible repeat (first | refine blk_drewN ?_ _ | refine blk_drew ?_ | refine blk_alloc ?_ _)); exact BK626.out⟩
 have n3_ : Aside0 (IsS74 w (w10.setCell ⟨gb626, 0, none⟩ (.slice Ao11 t621.length co11)) g620 t617 t624 t625) := ⟨by repeat (first | (with_reducible first | exact HI620.out | apply IsS74.alloc | apply IsS74.drewN | apply IsS74.drew | apply IsS74.set_1 | apply IsS74.set_2 | refine IsS74.far ?_ NB620_616.out _ | refine IsS74.far ?_ NB620_626.out _) | exact HI620.out)⟩
 have n4_ : Aside0 (Below w.heap.size w (w10.setCell ⟨gb626, 0, none⟩ (.slice Ao11 t621.length co11))) := ⟨by repeat (first | (with_reducible first | exact HB.out | apply below_alloc | apply pw_below_drewN | apply below_drew1 | refine below_set ?_ (IsS74.ge HI620.out) | refine below_set ?_ GE616.out | refine below_set ?_ GE626.out) | exact HB.out)⟩
 (try clear HO623)
 (try clear BK616)
 (try clear BK626)
 (try clear HI620)
 (try clear HB)
 generalize (w10.setCell ⟨gb626, 0, none⟩ (.slice Ao11 t621.length co11)) = w15 at n0_ n1_ n2_ n3_ n4_ ⊢
 have HO623 := n0_
 have BK616 := n1_
 have BK626 := n2_
 have HI620 := n3_
 have HB := n4_
 clear n0_ n1_ n2_ n3_ n4_
 have n0_ := Aside0.mk (Kd.Q_drew HO623.out)
 have n1_ := Aside0.mk (blk_drew BK616.out)
 have n2_ := Aside0.mk (blk_drew BK626.out)
 have n3_ := Aside0.mk (IsS74.drew HI620.out)
 have n4_ := Aside0.mk (below_drew1 HB.out)
 clear HO623
 clear BK616
 clear BK626
 clear HI620
 clear HB
 have HO623 := n0_
 have BK616 := n1_
 have BK626 := n2_
 have HI620 := n3_
 have HB := n4_
 clear n0_ n1_ n2_ n3_ n4_
 refine start_ (n := 10) (S := fun w' => w'.cell? ⟨gb626, 0, none⟩ = some (.slice Ao11 t621.length co11)) (ds := []) (B_ 0 10) (by kernel_rfl) rfl rfl ((blk_cell BK626.out 0).trans rfl) (fun hHeld => ?_); refine with_tabW spec_DrawOrderBound.tab3 spec_DrawOrderBound.bits3 (fun HT_ HW_ => ?_)
 generalize w15.drew = w16 at HO623 BK616 BK626 HI620 HB hHeld ⊢
 refine pu_ HT_ 1 11 (B_ 2 10) ?_
 refine pu_ HT_ 2 12 (B_ 6 10) ?_
 refine pu_ HT_ 4 14 (B_ 22 10) ?_
 refine tk1_ HT_ HW_ hHeld 0 10 (B_ 23 10) ?_
 refine one_ (i := 3) (N := some 13) (B_ 31 10) rfl rfl (one_of HT_.out (by kernel_rfl)) (by decide) (fun K hK => ?_)
 refine goes_ Try.func77 (by kernel_rfl) rfl #[.pointer (some ⟨g620, 0, none⟩), .int .i64 60] (by rfl) rfl rfl (by (try simp only [List.map_toArray, List.map_cons, List.map_nil]); first | done | rfl | (simp only [List.length_drop, List.length_take]; rfl)) ?_
 with_reducible refine (spec_l1Below.calls g620 t617 t624 t625 60 t627 t628 t629 w _ ?side1 ?side2 A4.out).mono ?_
 (case side1 => repeat (first | (with_reducible first | exact HI620.out | apply IsS74.alloc | apply IsS74.drewN | apply IsS74.drew | apply IsS74.set_1 | apply IsS74.set_2 | refine IsS74.far ?_ NB620_616.out _ | refine IsS74.far ?_ NB620_626.out _) | exact HI620.out))
 (case side2 => repeat (first | (with_reducible first | exact HB.out | apply below_alloc | apply pw_below_drewN | apply below_drew1 | refine below_set ?_ (IsS74.ge HI620.out) | refine below_set ?_ GE616.out | refine below_set ?_ GE626.out) | exact HB.out))
 rintro e w17 ⟨rfl, hi, hb, hk⟩
 refine ⟨_, rfl, ?_⟩
 have n0_ := Aside0.mk (KeepBut.blk hk (g' := gb616) (o := .cells #[.slice none 0 0] 27 (0, 0)) (be_ BK616.out) NB616_620.out (by simp))
 have n1_ := Aside0.mk (Kd.Q_mono (Kd.Q_keep (IsS74.apartQ (show IsS74 w _ g620 t617 t624 t625 from by repeat (first | (with_reducible first | exact HI620.out | apply IsS74.alloc | apply IsS74.drewN | apply IsS74.drew | apply IsS74.set_1 | apply IsS74.set_2 | refine IsS74.far ?_ NB620_616.out _ | refine IsS74.far ?_ NB620_626.out _) | exact HI620.out)) (by (with_reducible repeat (first | apply Kd.Q_alloc | apply Kd.Q_drewN | apply Kd.Q_drew)); exact HO623.out) (by decide)) hk (fun _ h => h.2)) (fun _ h => h.1))
 have n2_ := Aside0.mk (KeepBut.blk hk (g' := gb626) (o := .cells #[.slice Ao11 t621.length co11] 27 (0, 0)) (be_ BK626.out) NB626_620.out (by simp))
 have n3_ := Aside0.mk (hb)
 have n4_ := Aside0.mk (hi)
 clear BK616
 clear HO623
 clear BK626
 clear HB
 clear HI620
 have BK616 := n0_
 have HO623 := n1_
 have BK626 := n2_
 have HB := n3_
 have HI620 := n4_
 clear n0_ n1_ n2_ n3_ n4_
 (try clear hb)
 (try clear hb2)
 (try clear hk)
 (try clear hi)
 refine hK.out _ _ ((blk_cell BK626.out 0).trans rfl) (fun hHeld => ?_)
 clear hK K
 refine norm_ (a' := ?_) ?_ ?_
 rotate_left
 · show Act.put _ (some 13) _ = _
   simp only [Act.put, z1_, z2_, z3_, i64_w, i32_w]
   rfl
 refine one_ (i := 5) (N := some 15) (B_ 63 10) rfl rfl (one_of HT_.out (by kernel_rfl)) (by decide) (fun K hK => ?_)
 refine goes_ Try.func77 (by kernel_rfl) rfl #[.pointer (some ⟨g620, 0, none⟩), .int .i64 60] (by rfl) rfl rfl (by (try simp only [List.map_toArray, List.map_cons, List.map_nil]); first | done | rfl | (simp only [List.length_drop, List.length_take]; rfl)) ?_
 with_reducible refine (spec_l1Below.calls g620 t617 t628 t629 60 t630 t631 t632 w _ ?side1 ?side2 A5.out).mono ?_
 (case side1 => repeat (first | (with_reducible first | exact HI620.out | apply IsS74.alloc | apply IsS74.drewN | apply IsS74.drew | apply IsS74.set_1 | apply IsS74.set_2 | refine IsS74.far ?_ NB620_616.out _ | refine IsS74.far ?_ NB620_626.out _) | exact HI620.out))
 (case side2 => repeat (first | (with_reducible first | exact HB.out | apply below_alloc | apply pw_below_drewN | apply below_drew1 | refine below_set ?_ (IsS74.ge HI620.out) | refine below_set ?_ GE616.out | refine below_set ?_ GE626.out) | exact HB.out))
 rintro e w18 ⟨rfl, hi, hb, hk⟩
 refine ⟨_, rfl, ?_⟩
 have n0_ := Aside0.mk (KeepBut.blk hk (g' := gb616) (o := .cells #[.slice none 0 0] 27 (0, 0)) (be_ BK616.out) NB616_620.out (by simp))
 have n1_ := Aside0.mk (Kd.Q_mono (Kd.Q_keep (IsS74.apartQ (show IsS74 w _ g620 t617 t628 t629 from by repeat (first | (with_reducible first | exact HI620.out | apply IsS74.alloc | apply IsS74.drewN | apply IsS74.drew | apply IsS74.set_1 | apply IsS74.set_2 | refine IsS74.far ?_ NB620_616.out _ | refine IsS74.far ?_ NB620_626.out _) | exact HI620.out)) (by (with_reducible repeat (first | apply Kd.Q_alloc | apply Kd.Q_drewN | apply Kd.Q_drew)); exact HO623.out) (by decide)) hk (fun _ h => h.2)) (fun _ h => h.1))
 have n2_ := Aside0.mk (KeepBut.blk hk (g' := gb626) (o := .cells #[.slice Ao11 t621.length co11] 27 (0, 0)) (be_ BK626.out) NB626_620.out (by simp))
 have n3_ := Aside0.mk (hb)
 have n4_ := Aside0.mk (hi)
 clear BK616
 clear HO623
 clear BK626
 clear HB
 clear HI620
 have BK616 := n0_
 have HO623 := n1_
 have BK626 := n2_
 have HB := n3_
 have HI620 := n4_
 clear n0_ n1_ n2_ n3_ n4_
 (try clear hb)
 (try clear hb2)
 (try clear hk)
 (try clear hi)
 refine hK.out _ _ ((blk_cell BK626.out 0).trans rfl) (fun hHeld => ?_)
 clear hK K
 refine norm_ (a' := ?_) ?_ ?_
 rotate_left
 · show Act.put _ (some 15) _ = _
   simp only [Act.put, z1_, z2_, z3_, i64_w, i32_w]
   rfl
 refine one_ (i := 6) (N := some 16) (B_ 127 10) rfl rfl (one_of HT_.out (by kernel_rfl)) (by decide) (fun K hK => ?_)
 refine Kd.R_lit_step (Kd.int .i64) _ 3 ?hg (N := 16) ?hd (xs := ([t627, t630, (-1), 501, 120] : List Int)) (inner := [.int .i64 t627, .int .i64 t630, .int .i64 (-1), .int .i64 501, .int .i64 120]) (ok := fun _ => True) (okp := fun _ => True) ?hr ?hp (fun _ hk => hk) trivial (Below.refl _ _) (Nat.le_refl _) (by simp) ?_; (case hd => rfl); (case hg => rfl); (case hr => first | (go_simp; done) | (go_simp; rfl)); (case hp => exact (Reps.one (show Kd.M (Kd.int .i64) _ _ _ t627 [.int .i64 t627] from rfl) (Reps.one (show Kd.M (Kd.int .i64) _ _ _ t630 [.int .i64 t630] from rfl) (Reps.one (show Kd.M (Kd.int .i64) _ _ _ (-1) [.int .i64 (-1)] from rfl) (Reps.one (show Kd.M (Kd.int .i64) _ _ _ 501 [.int .i64 501] from rfl) (Reps.one (show Kd.M (Kd.int .i64) _ _ _ 120 [.int .i64 120] from rfl) (Reps.none _ _)))))))
 intro v634 w19 ho20 hb hg_ hnew_
 clear hg_ hnew_
 (first | rw [← Ny633.out] at ho20 | (simp only [Int.reduceToNat] at ho20; rw [← Ny633.out] at ho20))
 have n0_ := Aside0.mk (Kd.Q_elder' (by (with_reducible repeat (first | apply Kd.Q_alloc | apply Kd.Q_drewN | apply Kd.Q_drew)); exact HO623.out) (Kd.R_base ho20) hb)
 have n1_ := Aside0.mk (Kd.R_lower (Kd.R_new' ho20 (Kd.Q_lt (by (with_reducible repeat (first | apply Kd.Q_alloc | apply Kd.Q_drewN | apply Kd.Q_drew)); exact HO623.out))) (below_size (by repeat (first | (with_reducible first | exact HB.out | apply below_alloc | apply pw_below_drewN | apply below_drew1 | refine below_set ?_ (IsS74.ge HI620.out) | refine below_set ?_ GE616.out | refine below_set ?_ GE626.out) | exact HB.out))))
 have n2_ := Aside0.mk (blk_below (g := gb616) (o := .cells #[.slice none 0 0] 27 (0, 0)) (be_ BK616.out) hb)
 have n3_ := Aside0.mk (IsS74.below (by repeat (first | (with_reducible first | exact HI620.out | apply IsS74.alloc | apply IsS74.drewN | apply IsS74.drew | apply IsS74.set_1 | apply IsS74.set_2 | refine IsS74.far ?_ NB620_616.out _ | refine IsS74.far ?_ NB620_626.out _) | exact HI620.out)) hb)
 have n4_ := Aside0.mk (blk_below (g := gb626) (o := .cells #[.slice Ao11 t621.length co11] 27 (0, 0)) (be_ BK626.out) hb)
 have n5_ := Aside0.mk (below_step (by repeat (first | (with_reducible first | exact HB.out | apply below_alloc | apply pw_below_drewN | apply below_drew1 | refine below_set ?_ (IsS74.ge HI620.out) | refine below_set ?_ GE616.out | refine below_set ?_ GE626.out) | exact HB.out)) hb)
 clear HO623
 clear BK616
 clear HI620
 clear BK626
 clear HB
 have HO623 := n0_
 have HO635 := n1_
 have BK616 := n2_
 have HI620 := n3_
 have BK626 := n4_
 have HB := n5_
 clear n0_ n1_ n2_ n3_ n4_ n5_
 clear hb ho20
 obtain ⟨Ao21, co21, eo21⟩ := Kd.R_slice HO635.out
 (first | subst eo21 | (injection eo21 with f1_ f2_ f3_; have f4_ := f1_.symm; have f5_ := f3_.symm; clear f1_ f2_ f3_; subst f4_; subst f5_))
 refine hK.out _ _ ((blk_cell BK626.out 0).trans rfl) (fun hHeld => ?_)
 clear hK K
 refine norm_ (a' := ?_) ?_ ?_
 rotate_left
 · show Act.put _ (some 16) _ = _
   simp only [Act.put, z1_, z2_, z3_, i64_w, i32_w]
   rfl
 refine one_ (i := 7) (N := some 17) (B_ 255 10) rfl rfl (one_of HT_.out (by kernel_rfl)) (by decide) (fun K hK => ?_)
 refine goes_ Try.func76 (by kernel_rfl) rfl #[.pointer (some ⟨g620, 0, none⟩), .slice Ao21 y633.length co21] (by rfl) rfl rfl (by (try simp only [List.map_toArray, List.map_cons, List.map_nil]); first | done | rfl | (simp only [List.length_drop, List.length_take]; rfl)) ?_
 with_reducible refine (spec_l1PickInt.calls g620 t617 t631 t632 _ _ y633 t636 t637 t638 w _ ?side1 ?side2 ?side3 ?side4 ?side5 A6.out).mono ?_
 (case side1 => repeat (first | (with_reducible first | exact HI620.out | apply IsS74.alloc | apply IsS74.drewN | apply IsS74.drew | apply IsS74.set_1 | apply IsS74.set_2 | refine IsS74.far ?_ NB620_616.out _ | refine IsS74.far ?_ NB620_626.out _) | exact HI620.out))
 (case side2 => repeat (first | (with_reducible first | exact HB.out | apply below_alloc | apply pw_below_drewN | apply below_drew1 | refine below_set ?_ (IsS74.ge HI620.out) | refine below_set ?_ GE616.out | refine below_set ?_ GE626.out) | exact HB.out))
 (case side3 => exact ce_ ((Kd.R_reads' HO635.out).2.2))
 (case side4 => exact (Kd.R_reads' HO635.out).2.1)
 (case side5 => exact far_slice (IsS74.own_ne HI620.out HO635.out (by decide)))
 rintro e w22 ⟨rfl, hi, hb, hk⟩
 refine ⟨_, rfl, ?_⟩
 have n0_ := Aside0.mk (KeepBut.blk hk (g' := gb616) (o := .cells #[.slice none 0 0] 27 (0, 0)) (be_ BK616.out) NB616_620.out (by simp))
 have n1_ := Aside0.mk (Kd.Q_mono (Kd.Q_keep (IsS74.apartQ (show IsS74 w _ g620 t617 t631 t632 from by repeat (first | (with_reducible first | exact HI620.out | apply IsS74.alloc | apply IsS74.drewN | apply IsS74.drew | apply IsS74.set_1 | apply IsS74.set_2 | refine IsS74.far ?_ NB620_616.out _ | refine IsS74.far ?_ NB620_626.out _) | exact HI620.out)) (by (with_reducible repeat (first | apply Kd.Q_alloc | apply Kd.Q_drewN | apply Kd.Q_drew)); exact HO623.out) (by decide)) hk (fun _ h => h.2)) (fun _ h => h.1))
 have n2_ := Aside0.mk (KeepBut.blk hk (g' := gb626) (o := .cells #[.slice Ao11 t621.length co11] 27 (0, 0)) (be_ BK626.out) NB626_620.out (by simp))
 have n3_ := Aside0.mk (Kd.R_mono (Kd.R_keep (IsS74.apart (show IsS74 w _ g620 t617 t631 t632 from by repeat (first | (with_reducible first | exact HI620.out | apply IsS74.alloc | apply IsS74.drewN | apply IsS74.drew | apply IsS74.set_1 | apply IsS74.set_2 | refine IsS74.far ?_ NB620_616.out _ | refine IsS74.far ?_ NB620_626.out _) | exact HI620.out)) (re_ HO635.out) (by decide)) hk (fun _ h => h.2)) (fun _ h => h.1))
 have n4_ := Aside0.mk (hb)
 have n5_ := Aside0.mk (hi)
 clear BK616
 clear HO623
 clear BK626
 clear HO635
 clear HB
 clear HI620
 have BK616 := n0_
 have HO623 := n1_
 have BK626 := n2_
 have HO635 := n3_
 have HB := n4_
 have HI620 := n5_
 clear n0_ n1_ n2_ n3_ n4_ n5_
 (try clear hb)
 (try clear hb2)
 (try clear hk)
 (try clear hi)
 refine hK.out _ _ ((blk_cell BK626.out 0).trans rfl) (fun hHeld => ?_)
 clear hK K
 refine norm_ (a' := ?_) ?_ ?_
 rotate_left
 · show Act.put _ (some 17) _ = _
   simp only [Act.put, z1_, z2_, z3_, i64_w, i32_w]
   rfl
 refine one_ (i := 8) (N := none) (B_ 511 10) rfl rfl (one_of HT_.out (by kernel_rfl)) (by decide) (fun K hK => ?_)
 have hs23 : w22.cell? ⟨gb616, 0, none⟩ = some (.slice none 0 0) := (blk_cell BK616.out 0).trans rfl
 have hfs23 := blk_frozen BK616.out 0
 have hns23_1 := NB626_616.out
 have hms23_1 := NB616_626.out
 refine skip_ (w1 := ?_) (by rfl) rfl ?_ ?_
 rotate_left
 · go_simp
   rfl
 refine hK.out _ _ (((cell_far (p := ⟨gb616, _, none⟩) NB626_616.out _).trans (hHeld))) (fun hHeld => ?_)
 clear hK K
 refine pu_ HT_ 9 3 (B_ 1023 10) ?_
 refine done_ (done_of HT_.out (by kernel_rfl)) ?_
 try go_wp2
 refine bodyPost_ret (results_ct rfl _ _ gb616 27 #[.slice Ao11 t621.length co11] (0, 0) _ rfl (by (with_reducible repeat (first | refine blk_drewN ?_ _ | refine blk_drew ?_ | refine blk_alloc ?_ _)); refine blk_put (cs := #[.slice none 0 0]) ?_ 0 _ rfl; (with_reducible repeat (first | refine blk_drewN ?_ _ | refine blk_drew ?_ | refine blk_alloc ?_ _)); exact BK616.out) Try.underlying27 rfl (by kernel_rfl)) rfl ?_
 exact ⟨_, by first | rfl | (simp [errW_none, errW_some] <;> rfl) | (simp [*, errW_none, errW_some] <;> rfl), by (with_reducible repeat (first | apply Kd.Q_alloc | apply Kd.Q_drewN | apply Kd.Q_drew)); exact Kd.Q_mono (Kd.Q_far (p := ⟨gb616, 0, none⟩) (Kd.Q_types HO623.out BK616.out (by decide)) (fun _ hk => hk.2) (.slice Ao11 t621.length co11)) (fun _ hk => trivial), by repeat (first | (with_reducible first | exact HB.out | apply below_alloc | apply pw_below_drewN | apply below_drew1 | refine below_set ?_ (IsS74.ge HI620.out) | refine below_set ?_ GE616.out | refine below_set ?_ GE626.out) | exact HB.out)⟩
end Go.Proofs.Ytapdhljbhekcdaa.PB
end
