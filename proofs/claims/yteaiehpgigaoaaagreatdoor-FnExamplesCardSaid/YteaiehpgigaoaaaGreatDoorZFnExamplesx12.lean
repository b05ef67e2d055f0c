-- Bundled by shake.py from this session's printed and written texts; Lean checks it.
import Derived.Test.YteaiehpgigaoaaaGreatDoorZFnExamplesx1
import Derived.Test.YteaiehpgigaoaaaGreatDoorZFnExamplesx11
import Derived.Test.YteaiehpgigaoaaaGreatDoorZFnExamplesx4
import Derived.Test.YteaiehpgigaoaaaGreatDoorZFnExamplesx6
import Derived.Test.YteaiehpgigaoaaaGreatDoorZFnExamplesx8
import Derived.Test.YteaiehpgigaoaaaGreatDoorZFnExamplesx9
section
namespace Go.Proofs.YteaiehpgigaoaaaGreatDoor.PB
open Go.RowKit Go.Proofs.YteaiehpgigaoaaaGreatDoorW.PrintWords Go.Proofs.YteaiehpgigaoaaaGreatDoorW.PrintLast Go.Proofs.YteaiehpgigaoaaaGreatDoorW.PrintMore
attribute [local go_sem] max2_int min2_int max_two min_two max_three min_three max_four min_four
set_option linter.unusedVariables false
set_option linter.unusedSimpArgs false
set_option maxHeartbeats 8000000
set_option maxRecDepth 100000
mutual
def spec_l3Draw.l0 : Nat → Int → List Int → Int → Int → Option (List Int × Int × Int)
 | 0, _, _, _, _ => none
 | k + 1, x5, x1000, x1001, x1002 => if x5 < 4 then ((spec_l1Below.f x1000 x1001 x1002 8).bind fun bt817 => ((spec_l1Below.f x1000 bt817.2.1 bt817.2.2 4).bind fun bt823 => (spec_l3Draw.l1 k x5 (([wrap64 (2 + bt817.1)] : List Int)) (wrap64 (1 + bt823.1)) 0 x1000 bt823.2.1 bt823.2.2))) else ((spec_l3List.f x1000 x1001 x1002).bind fun bt807 => ((spec_FromGens.f k bt807.1).bind fun bt812 => (some (bt812.1, bt807.2.1, bt807.2.2))))
def spec_l3Draw.l1 : Nat → Int → List Int → Int → Int → List Int → Int → Int → Option (List Int × Int × Int)
 | 0, _, _, _, _, _, _, _ => none
 | k + 1, x5, x6, x7, x8, x1000, x1001, x1002 => if x8 < x7 then (if 0 < (x6.length : Int) then ((spec_l1Below.f x1000 x1001 x1002 12).bind fun bt827 => (if x6.length < 17592186044416 then (spec_l3Draw.l1 k x5 (x6 ++ [wrap64 ((wrap64 ((rd x6 0) + 1)) + bt827.1)]) x7 (wrap64 (x8 + 1)) x1000 bt827.2.1 bt827.2.2) else (none))) else (none)) else ((spec_FromGens.f k x6).bind fun bt833 => (if bt833.2 = true then (some (bt833.1, x1001, x1002)) else (spec_l3Draw.l0 k (wrap64 (x5 + 1)) x1000 x1001 x1002)))
end
def spec_l3Draw.f (k : Nat) (s0_0 : List Int) (s0_1 : Int) (s0_2 : Int) : Option (List Int × Int × Int) := (spec_l1Once.f s0_0 s0_1 s0_2 4).bind fun bt794 => (if bt794.1 = true then ((spec_l3List.f s0_0 bt794.2.1 bt794.2.2).bind fun bt797 => ((spec_FromGens.f k bt797.1).bind fun bt802 => (some (bt802.1, bt797.2.1, bt797.2.2)))) else (spec_l3Draw.l0 k 0 s0_0 bt794.2.1 bt794.2.2))
def spec_l3Draw.T12 : Bool × List (List Nat × List Nat) := (true, [([], []), ([], []), ([1], [1]), ([2], [2]), ([3], [3]), ([], []), ([5], [5]), ([4, 6], [4, 6]), ([7], [7]), ([0, 8, 6], [0, 8]), ([9, 9, 0, 1, 2, 3, 4, 5, 6, 7, 8, 9], [0, 1, 9])])
def spec_l3Draw.B12 : List Nat := [0, 0, 2, 6, 14, 0, 32, 126, 254, 511, 1023]
theorem spec_l3Draw.tab12 : rtab .any (opsOf Tryz.f48 12) = spec_l3Draw.T12 := by kernel_rfl
theorem spec_l3Draw.bits12 : waitsOk spec_l3Draw.T12.2 spec_l3Draw.B12 = true := by kernel_rfl
theorem spec_l3Draw.calls (k : Nat) (g : Nat) (s0_0 : List Int) (s0_1 : Int) (s0_2 : Int) (r1 : List Int) (r2 : Int) (r3 : Int) (w0 w : World) (hI : IsS51 w0 w g s0_0 s0_1 s0_2) (hB : Below w0.heap.size w0 w) (h : spec_l3Draw.f k s0_0 s0_1 s0_2 = some (r1, r2, r3)) :
 Calls Tryz.prog 48 #[.pointer (some ⟨g, 0, none⟩)] w fun e w' => ∃ v0_ : Value, e = .returned (.agg #[v0_]) ∧ Kd.R (Kd.int .i64) 3 w' w.heap.size (fun _ => True) v0_ r1 ∧ IsS51 w0 w' g s0_0 r2 r3 ∧ Below w0.heap.size w0 w' ∧ KeepBut w w' g none := by
 have hu29 := Tryz.underlying29
 have HI0 := Aside0.mk hI
 have HK := Aside0.mk (KeepBut.refl w g none)
 have HL := Aside0.mk hB.size
 clear hI
 have HW0 := Aside0.mk hB.size
 have HB := Aside0.mk hB
 clear hB
 have H := h
 clear h
 unfold spec_l3Draw.f at H
 obtain ⟨⟨t794, t795, t796⟩, A2, H⟩ := ob_ H
 (try dsimp only at H)
 by_cases c3 : t794 = true
 · subst c3
   rw [if_pos rfl] at H
   obtain ⟨⟨t797, t800, t801⟩, A4, H⟩ := ob_ H
   (try dsimp only at H)
   obtain ⟨⟨t802, t805⟩, A5, H⟩ := ob_ H
   (try dsimp only at H)
   simp only [Option.some.injEq, Prod.mk.injEq] at H
   obtain ⟨rfl, rfl, rfl⟩ := H
   go_enter Tryz.func48, Tryz.ntmps48
   go_wp2_with (first | ((with_reducible refine gate_dst (N := 2) rfl ?_); refine bx_ 2 #[.slice none 0 0] 29 ?_; intro gb793 hg w6 hbox hb; replace HB := Aside0.mk (below_step (bi_ HB (IsS51.ge HI0.out)) hb); have BK793 := Aside0.mk (hbox); have GW793 := Aside0.mk ((by rw [hg]; exact (keep_size (w := w) (g := g) (row := none) (kq_ HK)) : w.heap.size ≤ gb793)); have GE793 := Aside0.mk ((Nat.le_trans HW0.out (by rw [hg]; exact (keep_size (w := w) (g := g) (row := none) (kq_ HK)) : w.heap.size ≤ gb793) : w0.heap.size ≤ gb793)); replace HK := Aside0.mk (KeepBut.trans (kq_ HK) (KeepBut.of_below hb g none) (.inl rfl)); have NB0_793 := Aside0.mk ((by rw [hg]; exact Nat.ne_of_lt (IsS51.lt (show IsS51 w0 _ g s0_0 s0_1 s0_2 from IsS51.q_ HI0)) : g ≠ gb793)); have NB793_0 := Aside0.mk ((by rw [hg]; exact Nat.ne_of_gt (IsS51.lt (show IsS51 w0 _ g s0_0 s0_1 s0_2 from IsS51.q_ HI0)) : gb793 ≠ g)); replace HI0 := Aside0.mk (IsS51.below (IsS51.q_ HI0) hb); clear hb hbox hg) | ((with_reducible refine gate_callee (f := 88) rfl ?_); refine gL_ (some 14) Tryz.func88 #[.pointer (some ⟨g, 0, none⟩), .int .i64 4] ?_; (with_reducible refine (spec_l1Once.calls g s0_0 s0_1 s0_2 4 true t795 t796 w0 _ ?side1 ?side2 A2.out).mono ?_); (case side1 => exact IsS51.q_ HI0); (case side2 => exact bi_ HB (IsS51.ge HI0.out)); rintro e w7 ⟨rfl, hi, hb, hk⟩; refine ⟨_, rfl, ?_⟩; replace BK793 := Aside0.mk (KeepBut.blk hk (g' := gb793) (o := .cells #[.slice none 0 0] 29 (0, 0)) (be_ BK793.out) NB793_0.out (by simp)); replace HK := Aside0.mk (KeepBut.trans (kq_ HK) hk (.inl rfl)); replace HB := Aside0.mk (hb); replace HI0 := Aside0.mk (hi); (try clear hb); (try clear hk); (try clear hi)) | ((with_reducible refine gate_callee (f := 90) rfl ?_); refine gL_ (some 17) Tryz.func90 #[.pointer (some ⟨g, 0, none⟩)] ?_; (with_reducible refine (spec_l3List.calls g s0_0 t795 t796 t797 t800 t801 w0 _ ?side1 ?side2 A4.out).mono ?_); (case side1 => exact IsS51.q_ HI0); (case side2 => exact bi_ HB (IsS51.ge HI0.out)); rintro e w8 ⟨v798, rfl, ho0, hi, hb, hk⟩; refine ⟨_, rfl, ?_⟩; replace BK793 := Aside0.mk (KeepBut.blk hk (g' := gb793) (o := .cells #[.slice none 0 0] 29 (0, 0)) (be_ BK793.out) NB793_0.out (by simp)); have HO799 := Aside0.mk (Kd.R_lower ho0 (keep_size (w := w) (g := g) (row := none) (kq_ HK))); replace HK := Aside0.mk (KeepBut.trans (kq_ HK) hk (.inl rfl)); replace HB := Aside0.mk (hb); replace HI0 := Aside0.mk (hi); (try clear hb); (try clear hk); (try clear hi); (try clear ho0); obtain ⟨Ao9, co9, eo9⟩ := Kd.R_slice HO799.out; subst eo9) | ((with_reducible refine gate_callee (f := 89) rfl ?_); refine gL_ (some 18) Tryz.func89 #[.slice Ao9 t797.length co9] ?_; (with_reducible refine (spec_FromGens.calls k _ _ t797 t802 t805 _ ?side1 ?side2 A5.out).mono ?_); (case side1 => exact ce_ ((Kd.R_reads' HO799.out).2.2)); (case side2 => exact (Kd.R_reads' HO799.out).2.1); rintro e w10 ⟨v803, rfl, ho0, hb⟩; refine ⟨_, rfl, ?_⟩; have HO804 := Aside0.mk (Kd.R_lower (Kd.R_new' ho0 (Kd.R_lt (re_ HO799.out))) (keep_size (w := w) (g := g) (row := none) (kq_ HK))); replace HO799 := Aside0.mk (Kd.R_elder' (re_ HO799.out) (Kd.R_base ho0) hb); replace BK793 := bk_ BK793 hb; replace HK := Aside0.mk (KeepBut.trans (kq_ HK) (KeepBut.of_below hb g none) (.inl rfl)); replace HB := Aside0.mk (below_step (bi_ HB (IsS51.ge HI0.out)) hb); replace HI0 := Aside0.mk (IsS51.below (IsS51.q_ HI0) hb); (try clear hb); (try clear ho0)) | ((with_reducible refine gate_dst (N := 3) rfl ?_); refine bx_ 3 #[.slice none 0 0] 29 ?_; intro gb806 hg w11 hbox hb; replace HO799 := Aside0.mk (Kd.R_below (re_ HO799.out) hb); replace HO804 := Aside0.mk (Kd.R_below (re_ HO804.out) hb); replace HB := Aside0.mk (below_step (bi_ HB (IsS51.ge HI0.out)) hb); have BK806 := Aside0.mk (hbox); have GW806 := Aside0.mk ((by rw [hg]; exact (keep_size (w := w) (g := g) (row := none) (kq_ HK)) : w.heap.size ≤ gb806)); have GE806 := Aside0.mk ((Nat.le_trans HW0.out (by rw [hg]; exact (keep_size (w := w) (g := g) (row := none) (kq_ HK)) : w.heap.size ≤ gb806) : w0.heap.size ≤ gb806)); replace HK := Aside0.mk (KeepBut.trans (kq_ HK) (KeepBut.of_below hb g none) (.inl rfl)); have NB793_806 := nl_ hg BK793; have NB806_793 := ng_ hg BK793; replace BK793 := bk_ BK793 hb; have NB0_806 := Aside0.mk ((by rw [hg]; exact Nat.ne_of_lt (IsS51.lt (show IsS51 w0 _ g s0_0 t800 t801 from IsS51.q_ HI0)) : g ≠ gb806)); have NB806_0 := Aside0.mk ((by rw [hg]; exact Nat.ne_of_gt (IsS51.lt (show IsS51 w0 _ g s0_0 t800 t801 from IsS51.q_ HI0)) : gb806 ≠ g)); replace HI0 := Aside0.mk (IsS51.below (IsS51.q_ HI0) hb); clear hb hbox hg; obtain ⟨Ao12, co12, eo12⟩ := Kd.R_slice HO804.out; subst eo12; have hnb13 := NB806_793.out; have hnc13 := NB793_806.out; have hnb14 := NB806_0.out; have hnc14 := NB0_806.out; have hcz15_0 := cz_ BK806; have hfz15_0 := blk_frozen BK806.out 0; have hnb16 := NB793_0.out; have hnc16 := NB0_793.out; have hcz17_0 := cz_ BK793; have hfz17_0 := blk_frozen BK793.out 0))
   refine bodyPost_ret (results_cell_row rfl _ _ gb793 29 #[.slice Ao12 t802.length co12] (0, 0) _ rfl (by (with_reducible repeat (first | refine blk_drewN ?_ _ | refine blk_drew ?_ | refine blk_alloc ?_ _)); refine blk_put (cs := #[.slice none 0 0]) ?_ 0 _ rfl; (with_reducible repeat (first | refine blk_drewN ?_ _ | refine blk_drew ?_ | refine blk_alloc ?_ _)); refine blk_far ?_ NB793_806.out _; (with_reducible repeat (first | refine blk_drewN ?_ _ | refine blk_drew ?_ | refine blk_alloc ?_ _)); exact BK793.out) Tryz.underlying29 rfl (by kernel_rfl)) rfl ?_
   exact ⟨_, rf_, by (with_reducible repeat (first | apply Kd.R_alloc | apply Kd.R_drewN | apply Kd.R_drew)); exact Kd.R_mono (Kd.R_far (p := ⟨gb793, 0, none⟩) (Kd.R_far (p := ⟨gb806, 0, none⟩) (Kd.R_types (Kd.R_types HO804.out BK806.out (by decide)) BK793.out (by decide)) (fun _ hk => hk.1.2) (.slice Ao12 t802.length co12)) (fun _ hk => hk.2) (.slice Ao12 t802.length co12)) (fun _ hk => trivial), IsS51.q_ HI0, bi_ HB (IsS51.ge HI0.out), kq_ HK⟩
 · replace c3 := Bool.eq_false_iff.mpr c3
   subst c3
   rw [if_neg (show ¬ (false = true) by decide)] at H
   have H' := Aside0.mk H
   clear H
   go_enter Tryz.func48, Tryz.ntmps48
   go_wp2_with (first | ((with_reducible refine gate_dst (N := 2) rfl ?_); refine bx_ 2 #[.slice none 0 0] 29 ?_; intro gb793 hg w18 hbox hb; replace HB := Aside0.mk (below_step (bi_ HB (IsS51.ge HI0.out)) hb); have BK793 := Aside0.mk (hbox); have GW793 := Aside0.mk ((by rw [hg]; exact (keep_size (w := w) (g := g) (row := none) (kq_ HK)) : w.heap.size ≤ gb793)); have GE793 := Aside0.mk ((Nat.le_trans HW0.out (by rw [hg]; exact (keep_size (w := w) (g := g) (row := none) (kq_ HK)) : w.heap.size ≤ gb793) : w0.heap.size ≤ gb793)); replace HK := Aside0.mk (KeepBut.trans (kq_ HK) (KeepBut.of_below hb g none) (.inl rfl)); have NB0_793 := Aside0.mk ((by rw [hg]; exact Nat.ne_of_lt (IsS51.lt (show IsS51 w0 _ g s0_0 s0_1 s0_2 from IsS51.q_ HI0)) : g ≠ gb793)); have NB793_0 := Aside0.mk ((by rw [hg]; exact Nat.ne_of_gt (IsS51.lt (show IsS51 w0 _ g s0_0 s0_1 s0_2 from IsS51.q_ HI0)) : gb793 ≠ g)); replace HI0 := Aside0.mk (IsS51.below (IsS51.q_ HI0) hb); clear hb hbox hg) | ((with_reducible refine gate_callee (f := 88) rfl ?_); refine gL_ (some 14) Tryz.func88 #[.pointer (some ⟨g, 0, none⟩), .int .i64 4] ?_; (with_reducible refine (spec_l1Once.calls g s0_0 s0_1 s0_2 4 false t795 t796 w0 _ ?side1 ?side2 A2.out).mono ?_); (case side1 => exact IsS51.q_ HI0); (case side2 => exact bi_ HB (IsS51.ge HI0.out)); rintro e w19 ⟨rfl, hi, hb, hk⟩; refine ⟨_, rfl, ?_⟩; replace BK793 := Aside0.mk (KeepBut.blk hk (g' := gb793) (o := .cells #[.slice none 0 0] 29 (0, 0)) (be_ BK793.out) NB793_0.out (by simp)); replace HK := Aside0.mk (KeepBut.trans (kq_ HK) hk (.inl rfl)); replace HB := Aside0.mk (hb); replace HI0 := Aside0.mk (hi); (try clear hb); (try clear hk); (try clear hi)))
   go_loopg [5] k (fun kq v5 w' => ∃ (x5_1 : Int) (x1001_1 : Int) (x1002_1 : Int), v5 = .int .i64 x5_1 ∧ Aside0 (spec_l3Draw.l0 kq x5_1 s0_0 x1001_1 x1002_1 = some (r1, r2, r3)) ∧ Aside0 (kq ≤ k) ∧ Aside0 (w'.heap[gb793]? = some (.cells #[(.slice none 0 0)] 29 (0, 0))) ∧ Aside0 (IsS51 w0 w' g s0_0 x1001_1 x1002_1) ∧ Aside0 (KeepBut w w' g none) ∧ Aside0 (Below w0.heap.size w0 w'))
   case atStart => exact ⟨(0), (t795), (t796), rs_, H', ⟨Nat.le_refl _⟩, ⟨be_ BK793.out⟩, ⟨IsS51.q_ HI0⟩, ⟨kq_ HK⟩, ⟨bi_ HB (IsS51.ge HI0.out)⟩⟩
   case round =>
    clear H'
    try clear c1
    try clear p2
    try clear c3
    try clear c4
    try clear c8
    try clear c9
    try clear c13
    try clear c14
    try clear c16
    try clear hcz15_0
    try clear hcz17_0
    try clear hfz15_0
    try clear hfz17_0
    obtain ⟨x5_1, x1001_1, x1002_1, rfl, HA, HK1, BK793, HI0, HK, HB⟩ := hrel
    cases gk with
    | zero => exact absurd HA.out (by simp [spec_l3Draw.l0])
    | succ k1 =>
     have H := HA.out
     clear HA
     simp only [spec_l3Draw.l0] at H
     by_cases c20 : x5_1 < 4
     · rw [if_pos c20] at H
       have c20b0 : decide (x5_1 < 4) = true := decide_eq_true c20
       clear c20
       obtain ⟨⟨t817, t818, t819⟩, A21, H⟩ := ob_ H
       (try dsimp only at H)
       obtain ⟨y820, hy820⟩ : ∃ y_ : List Int, y_ = (([wrap64 (2 + t817)] : List Int)) := ⟨_, rfl⟩
       replace H : ((spec_l1Below.f s0_0 t818 t819 4).bind fun bt823 => (spec_l3Draw.l1 k1 x5_1 y820 (wrap64 (1 + bt823.1)) 0 s0_0 bt823.2.1 bt823.2.2)) = some (r1, r2, r3) := by subst hy820; exact H
       have Ny820 := Aside0.mk hy820
       clear hy820
       obtain ⟨⟨t823, t824, t825⟩, A22, H⟩ := ob_ H
       (try dsimp only at H)
       have H' := Aside0.mk H
       clear H
       go_wp2_with (first | ((with_reducible refine gate_callee (f := 16) rfl ?_); refine gL_ (some 27) Tryz.func16 #[.pointer (some ⟨g, 0, none⟩), .int .i64 8] ?_; (with_reducible refine (spec_l1Below.calls g s0_0 x1001_1 x1002_1 8 t817 t818 t819 w0 _ ?side1 ?side2 A21.out).mono ?_); (case side1 => exact IsS51.q_ HI0); (case side2 => exact bi_ HB (IsS51.ge HI0.out)); rintro e w23 ⟨rfl, hi, hb, hk⟩; refine ⟨_, rfl, ?_⟩; replace BK793 := Aside0.mk (KeepBut.blk hk (g' := gb793) (o := .cells #[.slice none 0 0] 29 (0, 0)) (be_ BK793.out) NB793_0.out (by simp)); replace HK := Aside0.mk (KeepBut.trans (kq_ HK) hk (.inl rfl)); replace HB := Aside0.mk (hb); replace HI0 := Aside0.mk (hi); (try clear hb); (try clear hk); (try clear hi)) | ((with_reducible refine gate_dst (N := 29) rfl ?_); refine Kd.R_lit (Kd.int .i64) _ 3 ?hg (N := 29) ?hd (xs := ([wrap64 (2 + t817)] : List Int)) (inner := [.int .i64 (wrap64 (2 + t817))]) (ok := fun _ => True) (okp := fun _ => True) ?hr ?hp (fun _ hk => hk) trivial (Below.refl _ _) (Nat.le_refl _) (by simp) ?_; (case hd => rfl); (case hg => rfl); (case hr => first | (go_simp; done) | (go_simp; rfl)); (case hp => exact (Reps.one (show Kd.M (Kd.int .i64) _ _ _ (wrap64 (2 + t817)) [.int .i64 (wrap64 (2 + t817))] from rfl) (Reps.none _ _))); intro v821 w24 ho25 hb hg_ hnew_; clear hg_ hnew_; (first | rw [← Ny820.out] at ho25 | (simp only [Int.reduceToNat] at ho25; rw [← Ny820.out] at ho25)); have HO822 := Aside0.mk (Kd.R_lower ho25 (keep_size (w := w) (g := g) (row := none) (kq_ HK))); replace BK793 := bk_ BK793 hb; replace HK := Aside0.mk (KeepBut.trans (kq_ HK) (KeepBut.of_below hb g none) (.inl rfl)); replace HB := Aside0.mk (below_step (bi_ HB (IsS51.ge HI0.out)) hb); replace HI0 := Aside0.mk (IsS51.below (IsS51.q_ HI0) hb); clear hb ho25) | ((with_reducible refine gate_callee (f := 16) rfl ?_); refine gL_ (some 31) Tryz.func16 #[.pointer (some ⟨g, 0, none⟩), .int .i64 4] ?_; (with_reducible refine (spec_l1Below.calls g s0_0 t818 t819 4 t823 t824 t825 w0 _ ?side1 ?side2 A22.out).mono ?_); (case side1 => exact IsS51.q_ HI0); (case side2 => exact bi_ HB (IsS51.ge HI0.out)); rintro e w26 ⟨rfl, hi, hb, hk⟩; refine ⟨_, rfl, ?_⟩; replace BK793 := Aside0.mk (KeepBut.blk hk (g' := gb793) (o := .cells #[.slice none 0 0] 29 (0, 0)) (be_ BK793.out) NB793_0.out (by simp)); replace HO822 := Aside0.mk (Kd.R_mono (Kd.R_keep (IsS51.apart (show IsS51 w0 _ g s0_0 t818 t819 from IsS51.q_ HI0) (re_ HO822.out) (by decide)) hk (fun _ h => h.2)) (fun _ h => h.1)); replace HK := Aside0.mk (KeepBut.trans (kq_ HK) hk (.inl rfl)); replace HB := Aside0.mk (hb); replace HI0 := Aside0.mk (hi); (try clear hb); (try clear hk); (try clear hi)))
       go_loopg [6, 8] k1 (fun kq v6 v8 w' => ∃ (x6_2 : List Int) (x8_2 : Int) (x1001_2 : Int) (x1002_2 : Int), v8 = .int .i64 x8_2 ∧ Aside0 (spec_l3Draw.l1 kq x5_1 x6_2 (wrap64 (1 + t823)) x8_2 s0_0 x1001_2 x1002_2 = some (r1, r2, r3)) ∧ Aside0 (kq ≤ k1) ∧ Aside0 (Kd.R (Kd.int .i64) 3 w' w.heap.size (fun _ => True) v6 x6_2) ∧ Aside0 (w'.heap[gb793]? = some (.cells #[(.slice none 0 0)] 29 (0, 0))) ∧ Aside0 (IsS51 w0 w' g s0_0 x1001_2 x1002_2) ∧ Aside0 (KeepBut w w' g none) ∧ Aside0 (Below w0.heap.size w0 w'))
       case atStart => exact ⟨(y820), (0), (t824), (t825), rs_, H', ⟨Nat.le_refl _⟩, ⟨re_ HO822.out⟩, ⟨be_ BK793.out⟩, ⟨IsS51.q_ HI0⟩, ⟨kq_ HK⟩, ⟨bi_ HB (IsS51.ge HI0.out)⟩⟩
       case round =>
        clear H'
        try clear c1
        try clear c2
        try clear p2
        try clear c3
        try clear c4
        try clear p6
        try clear c8
        try clear c9
        try clear c13
        try clear c14
        try clear c16
        try clear c20
        try clear c20b0
        try clear hcz15_0
        try clear hcz17_0
        try clear hfz15_0
        try clear hfz17_0
        try clear p2
        obtain ⟨x6_2, x8_2, x1001_2, x1002_2, rfl, HA, HK2, HO_6, BK793, HI0, HK, HB⟩ := hrel
        cases gk with
        | zero => exact absurd HA.out (by simp [spec_l3Draw.l1])
        | succ k2 =>
         have H := HA.out
         clear HA
         simp only [spec_l3Draw.l1] at H
         by_cases c27 : x8_2 < (wrap64 (1 + t823))
         · rw [if_pos c27] at H
           have c27b0 : decide (x8_2 < (wrap64 (1 + t823))) = true := decide_eq_true c27
           clear c27
           by_cases c28 : 0 < (x6_2.length : Int)
           · rw [if_pos c28] at H
             have c28b0 : decide (0 < (x6_2.length : Int)) = true := decide_eq_true c28
             have c28b1 : decide (0 < x6_2.length) = true := decide_eq_true (by omega)
             clear c28
             obtain ⟨⟨t827, t828, t829⟩, A29, H⟩ := ob_ H
             (try dsimp only at H)
             by_cases c30 : x6_2.length < 17592186044416
             · rw [if_pos c30] at H
               have LMc30 := Aside0.mk c30
               clear c30
               obtain ⟨y830, hy830⟩ : ∃ y_ : List Int, y_ = (x6_2 ++ [wrap64 ((wrap64 ((rd x6_2 0) + 1)) + t827)]) := ⟨_, rfl⟩
               replace H : (spec_l3Draw.l1 k2 x5_1 y830 (wrap64 (1 + t823)) (wrap64 (x8_2 + 1)) s0_0 t828 t829) = some (r1, r2, r3) := by subst hy830; exact H
               have Ny830 := Aside0.mk hy830
               clear hy830
               have H' := Aside0.mk H
               clear H
               try go_wp2
               replace HO_6 := Aside0.mk (Kd.R_drew HO_6.out)
               replace BK793 := Aside0.mk (blk_drew BK793.out)
               replace HI0 := Aside0.mk (IsS51.drew HI0.out)
               replace HK := Aside0.mk (keep_drew HK.out)
               replace HB := Aside0.mk (below_drew1 HB.out)
               obtain ⟨Ao32, co32, eo32⟩ := Kd.R_slice HO_6.out
               (first | subst eo32 | (injection eo32 with f1_ f2_ f3_; have f4_ := f1_.symm; have f5_ := f3_.symm; clear f1_ f2_ f3_; subst f4_; subst f5_))
               have p826 : 0 ≤ (0 : Int) := (by omega)
               have q826 : 0 < (x6_2.length : Int) := od_
               obtain ⟨ad826, e826, hx826_0⟩ := Kd.at_int (Kd.R_reads' HO_6.out).2.2 0 p826 q826
               cases e826
               have qi826 : (0 < x6_2.length) = True := eq_true (by omega)
               (try rw [show ((0 : Int)).toNat = 0 from rfl] at hx826_0)
               (try rw [Addr.add_zero'] at hx826_0)
               replace p826 := eq_true p826
               replace q826 := eq_true q826
               refine start_ (n := 11) (S := fun w' => w'.cell? ad826 = some (.int .i64 (rd x6_2 0))) (ds := [8, 9]) (B_ 0 11) (by kernel_rfl) rfl rfl (hx826_0) (fun hHeld => ?_); refine with_tabW spec_l3Draw.tab12 spec_l3Draw.bits12 (fun HT_ HW_ => ?_)
               generalize wr.drew = w31 at HO_6 BK793 HI0 HK HB hx826_0 hHeld ⊢
               refine pu_ HT_ 0 38 (B_ 1 11) ?_
               refine pu_ HT_ 1 39 (B_ 3 11) ?_
               refine pu_ HT_ 2 40 (B_ 7 11) ?_
               refine pu_ HT_ 5 43 (B_ 39 11) ?_
               refine tk1_ HT_ HW_ hHeld 3 41 (B_ 47 11) ?_
               refine pu_ HT_ 4 42 (B_ 63 11) ?_
               refine on_ HT_ 6 44 (B_ 127 11) (fun K hK => ?_)
               refine goes_ Tryz.func16 (by kernel_rfl) rfl #[.pointer (some ⟨g, 0, none⟩), .int .i64 12] (by rfl) rfl rfl (by (try simp only [List.map_toArray, List.map_cons, List.map_nil]); first | done | rfl | (simp only [List.length_drop, List.length_take]; rfl)) ?_
               with_reducible refine (spec_l1Below.calls g s0_0 x1001_2 x1002_2 12 t827 t828 t829 w0 _ ?side1 ?side2 A29.out).mono ?_
               (case side1 => exact IsS51.q_ HI0)
               (case side2 => exact bi_ HB (IsS51.ge HI0.out))
               rintro e w33 ⟨rfl, hi, hb, hk⟩
               have HS0_ := keep_cell hk (hHeld) (by first | (rw [add_block]; exact Kd.own_blk (IsS51.own_ne HI0.out HO_6.out (by decide))) | (show (Addr.add _ _).block ≠ _; rw [add_block]; exact Kd.own_blk (IsS51.own_ne HI0.out HO_6.out (by decide))) | exact Kd.own_blk (IsS51.own_ne HI0.out HO_6.out (by decide)))
               refine ⟨_, rfl, ?_⟩
               replace HO_6 := Aside0.mk (Kd.R_mono (Kd.R_keep (IsS51.apart (show IsS51 w0 _ g s0_0 x1001_2 x1002_2 from IsS51.q_ HI0) (re_ HO_6.out) (by decide)) hk (fun _ h => h.2)) (fun _ h => h.1))
               replace BK793 := Aside0.mk (KeepBut.blk hk (g' := gb793) (o := .cells #[.slice none 0 0] 29 (0, 0)) (be_ BK793.out) NB793_0.out (by simp))
               replace HK := Aside0.mk (KeepBut.trans (kq_ HK) hk (.inl rfl))
               replace HB := Aside0.mk (hb)
               replace HI0 := Aside0.mk (hi)
               (try clear hb)
               (try clear hk)
               (try clear hi)
               refine hK.out _ _ (HS0_) (fun hHeld => ?_)
               clear hK K
               refine norm_ (a' := ?_) ?_ ?_
               rotate_left
               · show Act.put _ (some 44) _ = _
                 simp only [Act.put, z1_, z2_, z3_, i64_w, i32_w]
                 rfl
               refine pu_ HT_ 7 45 (B_ 255 11) ?_
               refine last_ (i := 8) (N := some 46) (B_ 511 11) rfl rfl (one_of HT_.out (by kernel_rfl)) (by decide) (fun K hK => ?_)
               refine value_ (w1 := ?_) (v := ?_) (by rfl) rfl ?_ ?_
               rotate_left 2
               · go_simp
                 constructor
                 · rfl
                 · rfl
               refine hK.out _ _ ?_
               clear hK K
               refine norm_ (a' := ?_) ?_ ?_
               rotate_left
               · show Act.put _ (some 46) _ = _
                 simp only [Act.put, z1_, z2_, z3_, i64_w, i32_w]
                 rfl
               refine last_ (i := 9) (N := some 47) (B_ 1023 11) rfl rfl (one_of HT_.out (by kernel_rfl)) (by decide) (fun K hK => ?_)
               refine Kd.R_append_step (Kd.int .i64) w.heap.size (by rfl) (.tmp 38) (.tmp 46) 27 3 (.int .i64 0) 8 rfl Tryz.underlying27 info3 rfl (by decide) (by omega) (.slice (some ad826) x6_2.length co32) x6_2 (wrap64 ((wrap64 ((rd x6_2 0) + 1)) + t827)) [.int .i64 (wrap64 ((wrap64 ((rd x6_2 0) + 1)) + t827))] (fun _ => True) (fun _ => False) rfl rfl ?aP (fun _ hk => hk.elim) ?aF ?aO (Below.refl _ _) ?aS ?aL ?_
               (case aP => exact rfl)
               (case aF => exact (fun _ _ => trivial))
               (case aO => exact (re_ HO_6.out))
               (case aS => exact (keep_size (w := w) (g := g) (row := none) (kq_ HK)))
               (case aL => have := LMc30.out; omega)
               intro v831 w34 ho hb hg hat
               rw [← Ny830.out] at ho
               replace BK793 := Aside0.mk (blk_grown (be_ BK793.out) hg (Kd.R_ne HO_6.out BK793.out (by decide)))
               replace HB := Aside0.mk (below_weaken (bi_ HB (IsS51.ge HI0.out)) HL.out hb)
               replace HI0 := Aside0.mk (IsS51.grown (IsS51.q_ HI0) hg (IsS51.own_ne HI0.out HO_6.out (by decide)))
               replace HK := Aside0.mk (KeepBut.trans (kq_ HK) (KeepBut.of_grown hg g) (Kd.R_base2 HO_6.out))
               have HO832 := Aside0.mk (ho)
               clear HO_6
               clear ho hb hg hat
               refine hK.out _ _ ?_
               clear hK K
               refine norm_ (a' := ?_) ?_ ?_
               rotate_left
               · show Act.put _ (some 47) _ = _
                 simp only [Act.put, z1_, z2_, z3_, i64_w, i32_w]
                 rfl
               refine pu_ HT_ 10 6 (B_ 2047 11) ?_
               refine done_ (done_of HT_.out (by kernel_rfl)) ?_
               try go_wp2
               go_roundg k2
               case measure => have := HK1.out; have := HK2.out; omega
               case rel => exact ⟨(y830), (wrap64 (x8_2 + 1)), (t828), (t829), rs_, H', ⟨by have := HK1.out; have := HK2.out; omega⟩, ⟨re_ HO832.out⟩, ⟨be_ BK793.out⟩, ⟨IsS51.q_ HI0⟩, ⟨kq_ HK⟩, ⟨bi_ HB (IsS51.ge HI0.out)⟩⟩
             · rw [if_neg c30] at H
               cases H
           · rw [if_neg c28] at H
             cases H
         · rw [if_neg c27] at H
           have c27b0 : decide (x8_2 < (wrap64 (1 + t823))) = false := decide_eq_false c27
           clear c27
           obtain ⟨⟨t833, t836⟩, A35, H⟩ := ob_ H
           (try dsimp only at H)
           by_cases c36 : t836 = true
           · subst c36
             rw [if_pos rfl] at H
             simp only [Option.some.injEq, Prod.mk.injEq] at H
             obtain ⟨rfl, rfl, rfl⟩ := H
             obtain ⟨Ao37, co37, eo37⟩ := Kd.R_slice HO_6.out
             subst eo37
             go_wp2_with (first | ((with_reducible refine gate_callee (f := 89) rfl ?_); refine gL_ (some 50) Tryz.func89 #[.slice Ao37 x6_2.length co37] ?_; (with_reducible refine (spec_FromGens.calls k2 _ _ x6_2 t833 true _ ?side1 ?side2 A35.out).mono ?_); (case side1 => exact ce_ ((Kd.R_reads' HO_6.out).2.2)); (case side2 => exact (Kd.R_reads' HO_6.out).2.1); rintro e w38 ⟨v834, rfl, ho0, hb⟩; refine ⟨_, rfl, ?_⟩; have HO835 := Aside0.mk (Kd.R_lower (Kd.R_new' ho0 (Kd.R_lt (re_ HO_6.out))) (keep_size (w := w) (g := g) (row := none) (kq_ HK))); replace HO_6 := Aside0.mk (Kd.R_elder' (re_ HO_6.out) (Kd.R_base ho0) hb); replace BK793 := bk_ BK793 hb; replace HK := Aside0.mk (KeepBut.trans (kq_ HK) (KeepBut.of_below hb g none) (.inl rfl)); replace HB := Aside0.mk (below_step (bi_ HB (IsS51.ge HI0.out)) hb); replace HI0 := Aside0.mk (IsS51.below (IsS51.q_ HI0) hb); (try clear hb); (try clear ho0)) | ((with_reducible refine gate_dst (N := 9) rfl ?_); refine bx_ 9 #[.slice none 0 0] 29 ?_; intro gb837 hg w39 hbox hb; replace HO_6 := Aside0.mk (Kd.R_below (re_ HO_6.out) hb); replace HO835 := Aside0.mk (Kd.R_below (re_ HO835.out) hb); replace HB := Aside0.mk (below_step (bi_ HB (IsS51.ge HI0.out)) hb); have BK837 := Aside0.mk (hbox); have GW837 := Aside0.mk ((by rw [hg]; exact (keep_size (w := w) (g := g) (row := none) (kq_ HK)) : w.heap.size ≤ gb837)); have GE837 := Aside0.mk ((Nat.le_trans HW0.out (by rw [hg]; exact (keep_size (w := w) (g := g) (row := none) (kq_ HK)) : w.heap.size ≤ gb837) : w0.heap.size ≤ gb837)); replace HK := Aside0.mk (KeepBut.trans (kq_ HK) (KeepBut.of_below hb g none) (.inl rfl)); have NB793_837 := nl_ hg BK793; have NB837_793 := ng_ hg BK793; replace BK793 := bk_ BK793 hb; have NB0_837 := Aside0.mk ((by rw [hg]; exact Nat.ne_of_lt (IsS51.lt (show IsS51 w0 _ g s0_0 x1001_2 x1002_2 from IsS51.q_ HI0)) : g ≠ gb837)); have NB837_0 := Aside0.mk ((by rw [hg]; exact Nat.ne_of_gt (IsS51.lt (show IsS51 w0 _ g s0_0 x1001_2 x1002_2 from IsS51.q_ HI0)) : gb837 ≠ g)); replace HI0 := Aside0.mk (IsS51.below (IsS51.q_ HI0) hb); clear hb hbox hg; obtain ⟨Ao40, co40, eo40⟩ := Kd.R_slice HO835.out; subst eo40; have hnb41 := NB837_793.out; have hnc41 := NB793_837.out; have hnb42 := NB837_0.out; have hnc42 := NB0_837.out; have hcz43_0 := cz_ BK837; have hfz43_0 := blk_frozen BK837.out 0; have hnb44 := NB793_0.out; have hnc44 := NB0_793.out; have hcz45_0 := cz_ BK793; have hfz45_0 := blk_frozen BK793.out 0))
             refine bodyPost_ret (results_cell_row rfl _ _ gb793 29 #[.slice Ao40 t833.length co40] (0, 0) _ rfl (by (with_reducible repeat (first | refine blk_drewN ?_ _ | refine blk_drew ?_ | refine blk_alloc ?_ _)); refine blk_put (cs := #[.slice none 0 0]) ?_ 0 _ rfl; (with_reducible repeat (first | refine blk_drewN ?_ _ | refine blk_drew ?_ | refine blk_alloc ?_ _)); refine blk_far ?_ NB793_837.out _; (with_reducible repeat (first | refine blk_drewN ?_ _ | refine blk_drew ?_ | refine blk_alloc ?_ _)); exact BK793.out) Tryz.underlying29 rfl (by kernel_rfl)) rfl ?_
             exact ⟨_, rf_, by (with_reducible repeat (first | apply Kd.R_alloc | apply Kd.R_drewN | apply Kd.R_drew)); exact Kd.R_mono (Kd.R_far (p := ⟨gb793, 0, none⟩) (Kd.R_far (p := ⟨gb837, 0, none⟩) (Kd.R_types (Kd.R_types HO835.out BK837.out (by decide)) BK793.out (by decide)) (fun _ hk => hk.1.2) (.slice Ao40 t833.length co40)) (fun _ hk => hk.2) (.slice Ao40 t833.length co40)) (fun _ hk => trivial), IsS51.q_ HI0, bi_ HB (IsS51.ge HI0.out), kq_ HK⟩
           · replace c36 := Bool.eq_false_iff.mpr c36
             subst c36
             rw [if_neg (show ¬ (false = true) by decide)] at H
             have H' := Aside0.mk H
             clear H
             obtain ⟨Ao46, co46, eo46⟩ := Kd.R_slice HO_6.out
             subst eo46
             go_wp2_with (first | ((with_reducible refine gate_callee (f := 89) rfl ?_); refine gL_ (some 50) Tryz.func89 #[.slice Ao46 x6_2.length co46] ?_; (with_reducible refine (spec_FromGens.calls k2 _ _ x6_2 t833 false _ ?side1 ?side2 A35.out).mono ?_); (case side1 => exact ce_ ((Kd.R_reads' HO_6.out).2.2)); (case side2 => exact (Kd.R_reads' HO_6.out).2.1); rintro e w47 ⟨v834, rfl, ho0, hb⟩; refine ⟨_, rfl, ?_⟩; have HO835 := Aside0.mk (Kd.R_lower (Kd.R_new' ho0 (Kd.R_lt (re_ HO_6.out))) (keep_size (w := w) (g := g) (row := none) (kq_ HK))); replace HO_6 := Aside0.mk (Kd.R_elder' (re_ HO_6.out) (Kd.R_base ho0) hb); replace BK793 := bk_ BK793 hb; replace HK := Aside0.mk (KeepBut.trans (kq_ HK) (KeepBut.of_below hb g none) (.inl rfl)); replace HB := Aside0.mk (below_step (bi_ HB (IsS51.ge HI0.out)) hb); replace HI0 := Aside0.mk (IsS51.below (IsS51.q_ HI0) hb); (try clear hb); (try clear ho0)) | ((with_reducible refine gate_dst (N := 9) rfl ?_); refine bx_ 9 #[.slice none 0 0] 29 ?_; intro gb837 hg w48 hbox hb; replace HO_6 := Aside0.mk (Kd.R_below (re_ HO_6.out) hb); replace HO835 := Aside0.mk (Kd.R_below (re_ HO835.out) hb); replace HB := Aside0.mk (below_step (bi_ HB (IsS51.ge HI0.out)) hb); have BK837 := Aside0.mk (hbox); have GW837 := Aside0.mk ((by rw [hg]; exact (keep_size (w := w) (g := g) (row := none) (kq_ HK)) : w.heap.size ≤ gb837)); have GE837 := Aside0.mk ((Nat.le_trans HW0.out (by rw [hg]; exact (keep_size (w := w) (g := g) (row := none) (kq_ HK)) : w.heap.size ≤ gb837) : w0.heap.size ≤ gb837)); replace HK := Aside0.mk (KeepBut.trans (kq_ HK) (KeepBut.of_below hb g none) (.inl rfl)); have NB793_837 := nl_ hg BK793; have NB837_793 := ng_ hg BK793; replace BK793 := bk_ BK793 hb; have NB0_837 := Aside0.mk ((by rw [hg]; exact Nat.ne_of_lt (IsS51.lt (show IsS51 w0 _ g s0_0 x1001_2 x1002_2 from IsS51.q_ HI0)) : g ≠ gb837)); have NB837_0 := Aside0.mk ((by rw [hg]; exact Nat.ne_of_gt (IsS51.lt (show IsS51 w0 _ g s0_0 x1001_2 x1002_2 from IsS51.q_ HI0)) : gb837 ≠ g)); replace HI0 := Aside0.mk (IsS51.below (IsS51.q_ HI0) hb); clear hb hbox hg; obtain ⟨Ao49, co49, eo49⟩ := Kd.R_slice HO835.out; subst eo49; have hnb50 := NB837_793.out; have hnc50 := NB793_837.out; have hnb51 := NB837_0.out; have hnc51 := NB0_837.out; have hcz52_0 := cz_ BK837; have hfz52_0 := blk_frozen BK837.out 0))
             go_roundg k2
             case measure => have := HK1.out; have := HK2.out; omega
             case rel => exact ⟨(wrap64 (x5_1 + 1)), (x1001_2), (x1002_2), rs_, H', ⟨by have := HK1.out; have := HK2.out; omega⟩, ⟨by (with_reducible repeat (first | refine blk_drewN ?_ _ | refine blk_drew ?_ | refine blk_alloc ?_ _)); refine blk_far ?_ NB793_837.out _; (with_reducible repeat (first | refine blk_drewN ?_ _ | refine blk_drew ?_ | refine blk_alloc ?_ _)); exact BK793.out⟩, ⟨IsS51.q_ HI0⟩, ⟨kq_ HK⟩, ⟨bi_ HB (IsS51.ge HI0.out)⟩⟩
     · rw [if_neg c20] at H
       have c20b0 : decide (x5_1 < 4) = false := decide_eq_false c20
       clear c20
       obtain ⟨⟨t807, t810, t811⟩, A53, H⟩ := ob_ H
       (try dsimp only at H)
       obtain ⟨⟨t812, t815⟩, A54, H⟩ := ob_ H
       (try dsimp only at H)
       simp only [Option.some.injEq, Prod.mk.injEq] at H
       obtain ⟨rfl, rfl, rfl⟩ := H
       go_wp2_with (first | ((with_reducible refine gate_callee (f := 90) rfl ?_); refine gL_ (some 57) Tryz.func90 #[.pointer (some ⟨g, 0, none⟩)] ?_; (with_reducible refine (spec_l3List.calls g s0_0 x1001_1 x1002_1 t807 t810 t811 w0 _ ?side1 ?side2 A53.out).mono ?_); (case side1 => exact IsS51.q_ HI0); (case side2 => exact bi_ HB (IsS51.ge HI0.out)); rintro e w55 ⟨v808, rfl, ho0, hi, hb, hk⟩; refine ⟨_, rfl, ?_⟩; replace BK793 := Aside0.mk (KeepBut.blk hk (g' := gb793) (o := .cells #[.slice none 0 0] 29 (0, 0)) (be_ BK793.out) NB793_0.out (by simp)); have HO809 := Aside0.mk (Kd.R_lower ho0 (keep_size (w := w) (g := g) (row := none) (kq_ HK))); replace HK := Aside0.mk (KeepBut.trans (kq_ HK) hk (.inl rfl)); replace HB := Aside0.mk (hb); replace HI0 := Aside0.mk (hi); (try clear hb); (try clear hk); (try clear hi); (try clear ho0); obtain ⟨Ao56, co56, eo56⟩ := Kd.R_slice HO809.out; subst eo56) | ((with_reducible refine gate_callee (f := 89) rfl ?_); refine gL_ (some 58) Tryz.func89 #[.slice Ao56 t807.length co56] ?_; (with_reducible refine (spec_FromGens.calls k1 _ _ t807 t812 t815 _ ?side1 ?side2 A54.out).mono ?_); (case side1 => exact ce_ ((Kd.R_reads' HO809.out).2.2)); (case side2 => exact (Kd.R_reads' HO809.out).2.1); rintro e w57 ⟨v813, rfl, ho0, hb⟩; refine ⟨_, rfl, ?_⟩; have HO814 := Aside0.mk (Kd.R_lower (Kd.R_new' ho0 (Kd.R_lt (re_ HO809.out))) (keep_size (w := w) (g := g) (row := none) (kq_ HK))); replace HO809 := Aside0.mk (Kd.R_elder' (re_ HO809.out) (Kd.R_base ho0) hb); replace BK793 := bk_ BK793 hb; replace HK := Aside0.mk (KeepBut.trans (kq_ HK) (KeepBut.of_below hb g none) (.inl rfl)); replace HB := Aside0.mk (below_step (bi_ HB (IsS51.ge HI0.out)) hb); replace HI0 := Aside0.mk (IsS51.below (IsS51.q_ HI0) hb); (try clear hb); (try clear ho0)) | ((with_reducible refine gate_dst (N := 11) rfl ?_); refine bx_ 11 #[.slice none 0 0] 29 ?_; intro gb816 hg w58 hbox hb; replace HO809 := Aside0.mk (Kd.R_below (re_ HO809.out) hb); replace HO814 := Aside0.mk (Kd.R_below (re_ HO814.out) hb); replace HB := Aside0.mk (below_step (bi_ HB (IsS51.ge HI0.out)) hb); have BK816 := Aside0.mk (hbox); have GW816 := Aside0.mk ((by rw [hg]; exact (keep_size (w := w) (g := g) (row := none) (kq_ HK)) : w.heap.size ≤ gb816)); have GE816 := Aside0.mk ((Nat.le_trans HW0.out (by rw [hg]; exact (keep_size (w := w) (g := g) (row := none) (kq_ HK)) : w.heap.size ≤ gb816) : w0.heap.size ≤ gb816)); replace HK := Aside0.mk (KeepBut.trans (kq_ HK) (KeepBut.of_below hb g none) (.inl rfl)); have NB793_816 := nl_ hg BK793; have NB816_793 := ng_ hg BK793; replace BK793 := bk_ BK793 hb; have NB0_816 := Aside0.mk ((by rw [hg]; exact Nat.ne_of_lt (IsS51.lt (show IsS51 w0 _ g s0_0 t810 t811 from IsS51.q_ HI0)) : g ≠ gb816)); have NB816_0 := Aside0.mk ((by rw [hg]; exact Nat.ne_of_gt (IsS51.lt (show IsS51 w0 _ g s0_0 t810 t811 from IsS51.q_ HI0)) : gb816 ≠ g)); replace HI0 := Aside0.mk (IsS51.below (IsS51.q_ HI0) hb); clear hb hbox hg; obtain ⟨Ao59, co59, eo59⟩ := Kd.R_slice HO814.out; subst eo59; have hnb60 := NB816_793.out; have hnc60 := NB793_816.out; have hnb61 := NB816_0.out; have hnc61 := NB0_816.out; have hcz62_0 := cz_ BK816; have hfz62_0 := blk_frozen BK816.out 0; have hnb63 := NB793_0.out; have hnc63 := NB0_793.out; have hcz64_0 := cz_ BK793; have hfz64_0 := blk_frozen BK793.out 0))
       refine bodyPost_ret (results_cell_row rfl _ _ gb793 29 #[.slice Ao59 t812.length co59] (0, 0) _ rfl (by (with_reducible repeat (first | refine blk_drewN ?_ _ | refine blk_drew ?_ | refine blk_alloc ?_ _)); refine blk_put (cs := #[.slice none 0 0]) ?_ 0 _ rfl; (with_reducible repeat (first | refine blk_drewN ?_ _ | refine blk_drew ?_ | refine blk_alloc ?_ _)); refine blk_far ?_ NB793_816.out _; (with_reducible repeat (first | refine blk_drewN ?_ _ | refine blk_drew ?_ | refine blk_alloc ?_ _)); exact BK793.out) Tryz.underlying29 rfl (by kernel_rfl)) rfl ?_
       exact ⟨_, rf_, by (with_reducible repeat (first | apply Kd.R_alloc | apply Kd.R_drewN | apply Kd.R_drew)); exact Kd.R_mono (Kd.R_far (p := ⟨gb793, 0, none⟩) (Kd.R_far (p := ⟨gb816, 0, none⟩) (Kd.R_types (Kd.R_types HO814.out BK816.out (by decide)) BK793.out (by decide)) (fun _ hk => hk.1.2) (.slice Ao59 t812.length co59)) (fun _ hk => hk.2) (.slice Ao59 t812.length co59)) (fun _ hk => trivial), IsS51.q_ HI0, bi_ HB (IsS51.ge HI0.out), kq_ HK⟩
def spec_l1PickInt.f (s0_0 : List Int) (s0_1 : Int) (s0_2 : Int) (l1 : List Int) : Option (Int × Int × Int) := (spec_l1Below.f s0_0 s0_1 s0_2 (l1.length : Int)).bind fun bt838 => (if 0 ≤ bt838.1 then (if bt838.1 < (l1.length : Int) then (some (rd l1 bt838.1, bt838.2.1, bt838.2.2)) else (none)) else (none))
theorem spec_l1PickInt.calls (g : Nat) (s0_0 : List Int) (s0_1 : Int) (s0_2 : Int) (A1 : Option Addr) (c1 : Nat) (l1 : List Int) (r1 : Int) (r2 : Int) (r3 : Int) (w0 w : World) (hI : IsS51 w0 w g s0_0 s0_1 s0_2) (hB : Below w0.heap.size w0 w) (hr1 : Kd.C (Kd.int .i64) w A1 l1.length l1) (hc1 : l1.length ≤ c1) (hf1 : ∀ ad, A1 = some ad → 0 < l1.length → ad.block ≠ g) (h : spec_l1PickInt.f s0_0 s0_1 s0_2 l1 = some (r1, r2, r3)) :
 Calls Tryz.prog 49 #[.pointer (some ⟨g, 0, none⟩), .slice A1 l1.length c1] w fun e w' => e = .returned (.int .i64 r1) ∧ IsS51 w0 w' g s0_0 r2 r3 ∧ Below w0.heap.size w0 w' ∧ KeepBut w w' g none := by
 have HR1 := Aside0.mk hr1
 have HC1 := Aside0.mk hc1
 clear hr1 hc1
 have HI0 := Aside0.mk hI
 have HK := Aside0.mk (KeepBut.refl w g none)
 have HL := Aside0.mk hB.size
 clear hI
 have HW0 := Aside0.mk hB.size
 have HB := Aside0.mk hB
 clear hB
 have H := h
 clear h
 unfold spec_l1PickInt.f at H
 obtain ⟨⟨t838, t839, t840⟩, A3, H⟩ := ob_ H
 (try dsimp only at H)
 by_cases c4 : 0 ≤ t838
 · rw [if_pos c4] at H
   have c4b0 : decide (0 ≤ t838) = true := decide_eq_true c4
   clear c4
   by_cases c5 : t838 < (l1.length : Int)
   · rw [if_pos c5] at H
     have c5b0 : decide (t838 < (l1.length : Int)) = true := decide_eq_true c5
     clear c5
     simp only [Option.some.injEq, Prod.mk.injEq] at H
     obtain ⟨rfl, rfl, rfl⟩ := H
     go_enter Tryz.func49, Tryz.ntmps49
     go_wp2_with (first | ((with_reducible refine gate_callee (f := 16) rfl ?_); refine gL_ (some 9) Tryz.func16 #[.pointer (some ⟨g, 0, none⟩), .int .i64 (l1.length : Int)] ?_; (with_reducible refine (spec_l1Below.calls g s0_0 s0_1 s0_2 (l1.length : Int) t838 t839 t840 w0 _ ?side1 ?side2 A3.out).mono ?_); (case side1 => exact IsS51.q_ HI0); (case side2 => exact bi_ HB (IsS51.ge HI0.out)); rintro e w6 ⟨rfl, hi, hb, hk⟩; refine ⟨_, rfl, ?_⟩; replace HK := Aside0.mk (KeepBut.trans (kq_ HK) hk (.inl rfl)); replace HB := Aside0.mk (hb); replace HI0 := Aside0.mk (hi); (try clear hb); (try clear hk); (try clear hi); have p841 : 0 ≤ (t838 : Int) := od_; have q841 : t838 < (l1.length : Int) := od_; obtain ⟨ad841, e841, hx841_0⟩ := Kd.at_int HR1.out t838 p841 q841; cases e841; replace hx841_0 := keep_cell HK.out hx841_0 (by first | (rw [add_block]; exact hf1 _ rfl (by omega)) | exact hf1 _ rfl (by omega) | exact hf1 ad841 rfl (by omega)); replace p841 := eq_true p841; replace q841 := eq_true q841))
     go_ret
     exact ⟨rf_, IsS51.q_ HI0, bi_ HB (IsS51.ge HI0.out), kq_ HK⟩
   · rw [if_neg c5] at H
     cases H
 · rw [if_neg c4] at H
   cases H
def spec_l3Bent.f (k : Nat) (s0_0 : List Int) (s0_1 : Int) (s0_2 : Int) : Option (List Int × Int × Int) := (spec_l3Draw.f k s0_0 s0_1 s0_2).bind fun bt843 => ((spec_l1Below.f s0_0 bt843.2.1 bt843.2.2 12).bind fun bt849 => (if bt849.1 = 0 then ((spec_l1PickInt.f s0_0 bt849.2.1 bt849.2.2 (([0, 61, 12, (-3), 60] : List Int))).bind fun bt855 => (if bt843.1.length < 17592186044416 then (some ((bt843.1 ++ [bt855.1]), bt855.2.1, bt855.2.2)) else (none))) else (if bt849.1 = 1 then (if 1 ≤ (bt843.1.length : Int) then (some ((bt843.1.drop (1 : Int).toNat), bt849.2.1, bt849.2.2)) else (none)) else (if bt849.1 = 2 then ((spec_l1PickInt.f s0_0 bt849.2.1 bt849.2.2 (([0, 59, 4] : List Int))).bind fun bt867 => (some ((([bt867.1, 60] : List Int)), bt867.2.1, bt867.2.2))) else (some (bt843.1, bt849.2.1, bt849.2.2))))))
def spec_l3Bent.T4 : Bool × List (List Nat × List Nat) := (true, [([], []), ([0], [0]), ([], []), ([], []), ([2, 3], [2, 3]), ([4], [4]), ([1, 5, 4], [1, 5]), ([0, 1, 2, 3, 4, 5, 6], []), ([7, 6, 6, 0, 1, 2, 3, 4, 5, 6], [6, 7])])
def spec_l3Bent.B4 : List Nat := [0, 1, 0, 0, 12, 28, 63, 127, 255]
theorem spec_l3Bent.tab4 : rtab .any (opsOf Tryz.f18 4) = spec_l3Bent.T4 := by kernel_rfl
theorem spec_l3Bent.bits4 : waitsOk spec_l3Bent.T4.2 spec_l3Bent.B4 = true := by kernel_rfl
theorem spec_l3Bent.calls (k : Nat) (g : Nat) (s0_0 : List Int) (s0_1 : Int) (s0_2 : Int) (r1 : List Int) (r2 : Int) (r3 : Int) (w0 w : World) (hI : IsS51 w0 w g s0_0 s0_1 s0_2) (hB : Below w0.heap.size w0 w) (h : spec_l3Bent.f k s0_0 s0_1 s0_2 = some (r1, r2, r3)) :
 Calls Tryz.prog 18 #[.pointer (some ⟨g, 0, none⟩)] w fun e w' => ∃ v0_ : Value, e = .returned (.agg #[v0_]) ∧ Kd.Q (Kd.int .i64) 3 w' w.heap.size (fun _ => True) v0_ r1 ∧ IsS51 w0 w' g s0_0 r2 r3 ∧ Below w0.heap.size w0 w' ∧ KeepBut w w' g none := by
 have hu29 := Tryz.underlying29
 have HI0 := Aside0.mk hI
 have HK := Aside0.mk (KeepBut.refl w g none)
 have HL := Aside0.mk hB.size
 clear hI
 have HW0 := Aside0.mk hB.size
 have HB := Aside0.mk hB
 clear hB
 have H := h
 clear h
 unfold spec_l3Bent.f at H
 obtain ⟨⟨t843, t846, t847⟩, A2, H⟩ := ob_ H
 (try dsimp only at H)
 obtain ⟨⟨t849, t850, t851⟩, A3, H⟩ := ob_ H
 (try dsimp only at H)
 by_cases c4 : t849 = 0
 · rw [if_pos c4] at H
   have c4b0 : (t849 == 0) = true := beq_iff_eq.mpr c4
   have c4b1 : (t849 != 0) = false := bne_eq_false_iff_eq.mpr c4
   clear c4
   obtain ⟨y852, hy852⟩ : ∃ y_ : List Int, y_ = (([0, 61, 12, (-3), 60] : List Int)) := ⟨_, rfl⟩
   replace H : ((spec_l1PickInt.f s0_0 t850 t851 y852).bind fun bt855 => (if t843.length < 17592186044416 then (some ((t843 ++ [bt855.1]), bt855.2.1, bt855.2.2)) else (none))) = some (r1, r2, r3) := by subst hy852; exact H
   have Ny852 := Aside0.mk hy852
   clear hy852
   obtain ⟨⟨t855, t856, t857⟩, A5, H⟩ := ob_ H
   (try dsimp only at H)
   by_cases c6 : t843.length < 17592186044416
   · rw [if_pos c6] at H
     have LMc6 := Aside0.mk c6
     clear c6
     obtain ⟨y858, hy858⟩ : ∃ y_ : List Int, y_ = (t843 ++ [t855]) := ⟨_, rfl⟩
     replace H : (some (y858, t856, t857)) = some (r1, r2, r3) := by subst hy858; exact H
     have Ny858 := Aside0.mk hy858
     clear hy858
     simp only [Option.some.injEq, Prod.mk.injEq] at H
     obtain ⟨rfl, rfl, rfl⟩ := H
     go_enter Tryz.func18, Tryz.ntmps18
     try go_wp2_with (first | ((with_reducible refine gate_dst (N := 2) rfl ?_); refine bx_ 2 #[.slice none 0 0] 29 ?_; intro gb842 hg w7 hbox hb; replace HB := Aside0.mk (below_step (bi_ HB (IsS51.ge HI0.out)) hb); have BK842 := Aside0.mk (hbox); have GW842 := Aside0.mk ((by rw [hg]; exact (keep_size (w := w) (g := g) (row := none) (kq_ HK)) : w.heap.size ≤ gb842)); have GE842 := Aside0.mk ((Nat.le_trans HW0.out (by rw [hg]; exact (keep_size (w := w) (g := g) (row := none) (kq_ HK)) : w.heap.size ≤ gb842) : w0.heap.size ≤ gb842)); replace HK := Aside0.mk (KeepBut.trans (kq_ HK) (KeepBut.of_below hb g none) (.inl rfl)); have NB0_842 := Aside0.mk ((by rw [hg]; exact Nat.ne_of_lt (IsS51.lt (show IsS51 w0 _ g s0_0 s0_1 s0_2 from IsS51.q_ HI0)) : g ≠ gb842)); have NB842_0 := Aside0.mk ((by rw [hg]; exact Nat.ne_of_gt (IsS51.lt (show IsS51 w0 _ g s0_0 s0_1 s0_2 from IsS51.q_ HI0)) : gb842 ≠ g)); replace HI0 := Aside0.mk (IsS51.below (IsS51.q_ HI0) hb); clear hb hbox hg) | ((with_reducible refine gate_callee (f := 48) rfl ?_); refine gL_ (some 5) Tryz.func48 #[.pointer (some ⟨g, 0, none⟩)] ?_; (with_reducible refine (spec_l3Draw.calls k g s0_0 s0_1 s0_2 t843 t846 t847 w0 _ ?side1 ?side2 A2.out).mono ?_); (case side1 => exact IsS51.q_ HI0); (case side2 => exact bi_ HB (IsS51.ge HI0.out)); rintro e w8 ⟨v844, rfl, ho0, hi, hb, hk⟩; refine ⟨_, rfl, ?_⟩; replace BK842 := Aside0.mk (KeepBut.blk hk (g' := gb842) (o := .cells #[.slice none 0 0] 29 (0, 0)) (be_ BK842.out) NB842_0.out (by simp)); have HO845 := Aside0.mk (Kd.R_lower ho0 (keep_size (w := w) (g := g) (row := none) (kq_ HK))); replace HK := Aside0.mk (KeepBut.trans (kq_ HK) hk (.inl rfl)); replace HB := Aside0.mk (hb); replace HI0 := Aside0.mk (hi); (try clear hb); (try clear hk); (try clear hi); (try clear ho0)) | ((with_reducible refine gate_dst (N := 3) rfl ?_); refine bx_ 3 #[.slice none 0 0] 29 ?_; intro gb848 hg w9 hbox hb; replace HO845 := Aside0.mk (Kd.R_below (re_ HO845.out) hb); replace HB := Aside0.mk (below_step (bi_ HB (IsS51.ge HI0.out)) hb); have BK848 := Aside0.mk (hbox); have GW848 := Aside0.mk ((by rw [hg]; exact (keep_size (w := w) (g := g) (row := none) (kq_ HK)) : w.heap.size ≤ gb848)); have GE848 := Aside0.mk ((Nat.le_trans HW0.out (by rw [hg]; exact (keep_size (w := w) (g := g) (row := none) (kq_ HK)) : w.heap.size ≤ gb848) : w0.heap.size ≤ gb848)); replace HK := Aside0.mk (KeepBut.trans (kq_ HK) (KeepBut.of_below hb g none) (.inl rfl)); have NB842_848 := nl_ hg BK842; have NB848_842 := ng_ hg BK842; replace BK842 := bk_ BK842 hb; have NB0_848 := Aside0.mk ((by rw [hg]; exact Nat.ne_of_lt (IsS51.lt (show IsS51 w0 _ g s0_0 t846 t847 from IsS51.q_ HI0)) : g ≠ gb848)); have NB848_0 := Aside0.mk ((by rw [hg]; exact Nat.ne_of_gt (IsS51.lt (show IsS51 w0 _ g s0_0 t846 t847 from IsS51.q_ HI0)) : gb848 ≠ g)); replace HI0 := Aside0.mk (IsS51.below (IsS51.q_ HI0) hb); clear hb hbox hg; obtain ⟨Ao10, co10, eo10⟩ := Kd.R_slice HO845.out; subst eo10; have hnb11 := NB848_842.out; have hnc11 := NB842_848.out; have hnb12 := NB848_0.out; have hnc12 := NB0_848.out; have hcz13_0 := cz_ BK848; have hfz13_0 := blk_frozen BK848.out 0) | ((with_reducible refine gate_callee (f := 16) rfl ?_); refine gL_ (some 7) Tryz.func16 #[.pointer (some ⟨g, 0, none⟩), .int .i64 12] ?_; (with_reducible refine (spec_l1Below.calls g s0_0 t846 t847 12 t849 t850 t851 w0 _ ?side1 ?side2 A3.out).mono ?_); (case side1 => exact IsS51.q_ HI0); (case side2 => exact bi_ HB (IsS51.ge HI0.out)); rintro e w14 ⟨rfl, hi, hb, hk⟩; refine ⟨_, rfl, ?_⟩; replace BK842 := Aside0.mk (KeepBut.blk hk (g' := gb842) (o := .cells #[.slice none 0 0] 29 (0, 0)) (by (with_reducible repeat (first | refine blk_drewN ?_ _ | refine blk_drew ?_ | refine blk_alloc ?_ _)); refine blk_far ?_ NB842_848.out _; (with_reducible repeat (first | refine blk_drewN ?_ _ | refine blk_drew ?_ | refine blk_alloc ?_ _)); exact BK842.out) NB842_0.out (by simp)); replace HO845 := Aside0.mk (Kd.R_mono (Kd.R_keep (IsS51.apart (show IsS51 w0 _ g s0_0 t846 t847 from IsS51.q_ HI0) (by (with_reducible repeat (first | apply Kd.R_alloc | apply Kd.R_drewN | apply Kd.R_drew)); exact (Kd.R_mono (Kd.R_far (p := ⟨gb848, 0, none⟩) (Kd.R_types HO845.out BK848.out (by decide)) (fun _ hk => hk.2) (.slice Ao10 t843.length co10)) (fun _ h_ => h_.1))) (by decide)) hk (fun _ h => h.2)) (fun _ h => h.1)); replace BK848 := Aside0.mk (KeepBut.blk hk (g' := gb848) (o := .cells #[.slice Ao10 t843.length co10] 29 (0, 0)) (by (with_reducible repeat (first | refine blk_drewN ?_ _ | refine blk_drew ?_ | refine blk_alloc ?_ _)); refine blk_put (cs := #[.slice none 0 0]) ?_ 0 _ rfl; (with_reducible repeat (first | refine blk_drewN ?_ _ | refine blk_drew ?_ | refine blk_alloc ?_ _)); exact BK848.out) NB848_0.out (by simp)); replace HK := Aside0.mk (KeepBut.trans (kq_ HK) hk (.inl rfl)); replace HB := Aside0.mk (hb); replace HI0 := Aside0.mk (hi); (try clear hb); (try clear hk); (try clear hi)))
     replace HO845 := Aside0.mk (Kd.R_drew HO845.out)
     replace BK842 := Aside0.mk (blk_drew BK842.out)
     replace BK848 := Aside0.mk (blk_drew BK848.out)
     replace HI0 := Aside0.mk (IsS51.drew HI0.out)
     replace HK := Aside0.mk (keep_drew HK.out)
     replace HB := Aside0.mk (below_drew1 HB.out)
     refine start_ (n := 9) (S := fun w' => w'.cell? ⟨gb848, 0, none⟩ = some (.slice Ao10 t843.length co10)) (ds := [8]) (B_ 0 9) (by kernel_rfl) rfl rfl ((blk_cell BK848.out 0).trans rfl) (fun hHeld => ?_); refine with_tabW spec_l3Bent.tab4 spec_l3Bent.bits4 (fun HT_ HW_ => ?_)
     generalize w14.drew = w15 at HO845 BK842 BK848 HI0 HK HB hHeld ⊢
     refine pu_ HT_ 0 10 (B_ 1 9) ?_
     refine pu_ HT_ 2 12 (B_ 5 9) ?_
     refine tk1_ HT_ HW_ hHeld 1 11 (B_ 7 9) ?_
     refine on_ HT_ 3 13 (B_ 15 9) (fun K hK => ?_)
     refine Kd.R_lit_step (Kd.int .i64) _ 3 ?hg (N := 13) ?hd (xs := ([0, 61, 12, (-3), 60] : List Int)) (inner := [.int .i64 0, .int .i64 61, .int .i64 12, .int .i64 (-3), .int .i64 60]) (ok := fun _ => True) (okp := fun _ => True) ?hr ?hp (fun _ hk => hk) trivial (Below.refl _ _) (Nat.le_refl _) (by simp) ?_; (case hd => rfl); (case hg => rfl); (case hr => first | (go_simp; done) | (go_simp; rfl)); (case hp => exact (Reps.one (show Kd.M (Kd.int .i64) _ _ _ 0 [.int .i64 0] from rfl) (Reps.one (show Kd.M (Kd.int .i64) _ _ _ 61 [.int .i64 61] from rfl) (Reps.one (show Kd.M (Kd.int .i64) _ _ _ 12 [.int .i64 12] from rfl) (Reps.one (show Kd.M (Kd.int .i64) _ _ _ (-3) [.int .i64 (-3)] from rfl) (Reps.one (show Kd.M (Kd.int .i64) _ _ _ 60 [.int .i64 60] from rfl) (Reps.none _ _)))))))
     intro v853 w16 ho17 hb hg_ hnew_
     clear hg_ hnew_
     (first | rw [← Ny852.out] at ho17 | (simp only [Int.reduceToNat] at ho17; rw [← Ny852.out] at ho17))
     have HO854 := Aside0.mk (Kd.R_lower (Kd.R_new' ho17 (Kd.R_lt (re_ HO845.out))) (keep_size (w := w) (g := g) (row := none) (kq_ HK)))
     replace HO845 := Aside0.mk (Kd.R_elder' (re_ HO845.out) (Kd.R_base ho17) hb)
     replace BK842 := bk_ BK842 hb
     replace BK848 := bk_ BK848 hb
     replace HK := Aside0.mk (KeepBut.trans (kq_ HK) (KeepBut.of_below hb g none) (.inl rfl))
     replace HB := Aside0.mk (below_step (bi_ HB (IsS51.ge HI0.out)) hb)
     replace HI0 := Aside0.mk (IsS51.below (IsS51.q_ HI0) hb)
     clear hb ho17
     obtain ⟨Ao18, co18, eo18⟩ := Kd.R_slice HO854.out
     (first | subst eo18 | (injection eo18 with f1_ f2_ f3_; have f4_ := f1_.symm; have f5_ := f3_.symm; clear f1_ f2_ f3_; subst f4_; subst f5_))
     refine hK.out _ _ ((blk_cell BK848.out 0).trans rfl) (fun hHeld => ?_)
     clear hK K
     refine norm_ (a' := ?_) ?_ ?_
     rotate_left
     · show Act.put _ (some 13) _ = _
       simp only [Act.put, z1_, z2_, z3_, i64_w, i32_w]
       rfl
     refine on_ HT_ 4 14 (B_ 31 9) (fun K hK => ?_)
     refine goes_ Tryz.func49 (by kernel_rfl) rfl #[.pointer (some ⟨g, 0, none⟩), .slice Ao18 y852.length co18] (by rfl) rfl rfl (by (try simp only [List.map_toArray, List.map_cons, List.map_nil]); first | done | rfl | (simp only [List.length_drop, List.length_take]; rfl)) ?_
     with_reducible refine (spec_l1PickInt.calls g s0_0 t850 t851 _ _ y852 t855 t856 t857 w0 _ ?side1 ?side2 ?side3 ?side4 ?side5 A5.out).mono ?_
     (case side1 => exact IsS51.q_ HI0)
     (case side2 => exact bi_ HB (IsS51.ge HI0.out))
     (case side3 => exact ce_ ((Kd.R_reads' HO854.out).2.2))
     (case side4 => exact (Kd.R_reads' HO854.out).2.1)
     (case side5 => exact far_slice (IsS51.own_ne HI0.out HO854.out (by decide)))
     rintro e w19 ⟨rfl, hi, hb, hk⟩
     refine ⟨_, rfl, ?_⟩
     replace BK842 := Aside0.mk (KeepBut.blk hk (g' := gb842) (o := .cells #[.slice none 0 0] 29 (0, 0)) (be_ BK842.out) NB842_0.out (by simp))
     replace HO845 := Aside0.mk (Kd.R_mono (Kd.R_keep (IsS51.apart (show IsS51 w0 _ g s0_0 t850 t851 from IsS51.q_ HI0) (re_ HO845.out) (by decide)) hk (fun _ h => h.2)) (fun _ h => h.1))
     replace BK848 := Aside0.mk (KeepBut.blk hk (g' := gb848) (o := .cells #[.slice Ao10 t843.length co10] 29 (0, 0)) (be_ BK848.out) NB848_0.out (by simp))
     replace HO854 := Aside0.mk (Kd.R_mono (Kd.R_keep (IsS51.apart (show IsS51 w0 _ g s0_0 t850 t851 from IsS51.q_ HI0) (re_ HO854.out) (by decide)) hk (fun _ h => h.2)) (fun _ h => h.1))
     replace HK := Aside0.mk (KeepBut.trans (kq_ HK) hk (.inl rfl))
     replace HB := Aside0.mk (hb)
     replace HI0 := Aside0.mk (hi)
     (try clear hb)
     (try clear hk)
     (try clear hi)
     refine hK.out _ _ ((blk_cell BK848.out 0).trans rfl) (fun hHeld => ?_)
     clear hK K
     refine norm_ (a' := ?_) ?_ ?_
     rotate_left
     · show Act.put _ (some 14) _ = _
       simp only [Act.put, z1_, z2_, z3_, i64_w, i32_w]
       rfl
     refine on_ HT_ 5 15 (B_ 63 9) (fun K hK => ?_)
     refine value_ (w1 := ?_) (v := ?_) (by rfl) rfl ?_ ?_
     rotate_left 2
     · go_simp
       constructor
       · rfl
       · rfl
     refine hK.out _ _ ((blk_cell (blk_alloc BK848.out _) 0).trans rfl) (fun hHeld => ?_)
     clear hK K
     refine norm_ (a' := ?_) ?_ ?_
     rotate_left
     · show Act.put _ (some 15) _ = _
       simp only [Act.put, z1_, z2_, z3_, i64_w, i32_w]
       rfl
     refine on_ HT_ 6 16 (B_ 127 9) (fun K hK => ?_)
     refine Kd.R_append_step (Kd.int .i64) w.heap.size (by rfl) (.tmp 11) (.tmp 15) 27 3 (.int .i64 0) 8 rfl Tryz.underlying27 info3 rfl (by decide) (by omega) (.slice Ao10 t843.length co10) t843 t855 [.int .i64 t855] (fun k_ => some k_ ≠ (.slice Ao18 y852.length co18 : Value).ownBlock) (fun _ => False) rfl rfl ?aP (fun _ hk => hk.elim) ?aF ?aO (Below.refl _ _) ?aS ?aL ?_
     (case aP => exact rfl)
     (case aF => exact (fun k_ hk => Kd.fresh' (Kd.R_lt (re_ HO854.out)) k_ hk))
     (case aO => exact (by (with_reducible repeat (first | apply Kd.R_alloc | apply Kd.R_drewN | apply Kd.R_drew)); exact Kd.R_mono HO845.out (fun _ hk => hk.2)))
     (case aS => exact (keep_size (w := w) (g := g) (row := none) (kq_ HK)))
     (case aL => have := LMc6.out; omega)
     intro v859 w20 ho hb hg hat
     rw [← Ny858.out] at ho
     replace BK842 := Aside0.mk (blk_grown (be_ BK842.out) hg (Kd.R_ne HO845.out BK842.out (by decide)))
     replace BK848 := Aside0.mk (blk_grown (be_ BK848.out) hg (Kd.R_ne HO845.out BK848.out (by decide)))
     replace HO854 := Aside0.mk (Kd.R_after (ok := (fun _ => True)) (re_ HO854.out) hg hat)
     replace HB := Aside0.mk (below_weaken (bi_ HB (IsS51.ge HI0.out)) HL.out hb)
     replace HI0 := Aside0.mk (IsS51.grown (IsS51.q_ HI0) hg (IsS51.own_ne HI0.out HO845.out (by decide)))
     replace HK := Aside0.mk (KeepBut.trans (kq_ HK) (KeepBut.of_grown hg g) (Kd.R_base2 HO845.out))
     have HO860 := Aside0.mk (ho)
     clear HO845
     clear ho hb hg hat
     obtain ⟨Ao21, co21, eo21⟩ := Kd.R_slice HO860.out
     (first | subst eo21 | (injection eo21 with f1_ f2_ f3_; have f4_ := f1_.symm; have f5_ := f3_.symm; clear f1_ f2_ f3_; subst f4_; subst f5_))
     refine hK.out _ _ ((blk_cell BK848.out 0).trans rfl) (fun hHeld => ?_)
     clear hK K
     refine norm_ (a' := ?_) ?_ ?_
     rotate_left
     · show Act.put _ (some 16) _ = _
       simp only [Act.put, z1_, z2_, z3_, i64_w, i32_w]
       rfl
     refine pu_ HT_ 7 17 (B_ 255 9) ?_
     refine last_ (i := 8) (N := none) (B_ 511 9) rfl rfl (one_of HT_.out (by kernel_rfl)) (by decide) (fun K hK => ?_)
     have hs22 : w20.cell? ⟨gb848, 0, none⟩ = some (.slice Ao10 t843.length co10) := (blk_cell BK848.out 0).trans rfl
     have hfs22 := blk_frozen BK848.out 0
     have hns22_0 := NB842_848.out
     have hms22_0 := NB848_842.out
     refine skip_ (w1 := ?_) (by rfl) rfl ?_ ?_
     rotate_left
     · go_simp
       rfl
     refine hK.out _ _ ?_
     clear hK K
     refine done_ (done_of HT_.out (by kernel_rfl)) ?_
     have hcz23_0 := cz_ BK848
     have hfz23_0 := blk_frozen BK848.out 0
     have hnb24 := NB842_0.out
     have hnc24 := NB0_842.out
     have hcz25_0 := cz_ BK842
     have hfz25_0 := blk_frozen BK842.out 0
     try go_wp2
     refine bodyPost_ret (results_cell_row rfl _ _ gb842 29 #[.slice Ao21 y858.length co21] (0, 0) _ rfl (by (with_reducible repeat (first | refine blk_drewN ?_ _ | refine blk_drew ?_ | refine blk_alloc ?_ _)); refine blk_put (cs := #[.slice none 0 0]) ?_ 0 _ rfl; (with_reducible repeat (first | refine blk_drewN ?_ _ | refine blk_drew ?_ | refine blk_alloc ?_ _)); refine blk_far ?_ NB842_848.out _; (with_reducible repeat (first | refine blk_drewN ?_ _ | refine blk_drew ?_ | refine blk_alloc ?_ _)); exact BK842.out) Tryz.underlying29 rfl (by kernel_rfl)) rfl ?_
     exact ⟨_, rf_, Kd.Q_of_R (by (with_reducible repeat (first | apply Kd.R_alloc | apply Kd.R_drewN | apply Kd.R_drew)); exact Kd.R_mono (Kd.R_far (p := ⟨gb842, 0, none⟩) (Kd.R_far (p := ⟨gb848, 0, none⟩) (Kd.R_types (Kd.R_types HO860.out BK848.out (by decide)) BK842.out (by decide)) (fun _ hk => hk.1.2) (.slice Ao21 y858.length co21)) (fun _ hk => hk.2) (.slice Ao21 y858.length co21)) (fun _ hk => trivial)), IsS51.q_ HI0, bi_ HB (IsS51.ge HI0.out), kq_ HK⟩
   · rw [if_neg c6] at H
     cases H
 · rw [if_neg c4] at H
   have c4b0 : (t849 == 0) = false := beq_eq_false_iff_ne.mpr c4
   have c4b1 : (t849 != 0) = true := bne_iff_ne.mpr c4
   by_cases c26 : t849 = 1
   · rw [if_pos c26] at H
     have c26b0 : (t849 == 1) = true := beq_iff_eq.mpr c26
     have c26b1 : (t849 != 1) = false := bne_eq_false_iff_eq.mpr c26
     clear c26
     by_cases c27 : 1 ≤ (t843.length : Int)
     · rw [if_pos c27] at H
       have c27b0 := eq_true c27
       have c27b1 : decide (1 ≤ (t843.length : Int)) = true := decide_eq_true c27
       clear c27
       obtain ⟨y861, hy861⟩ : ∃ y_ : List Int, y_ = (t843.drop (1 : Int).toNat) := ⟨_, rfl⟩
       replace H : (some (y861, t850, t851)) = some (r1, r2, r3) := by subst hy861; exact H
       have Ny861 := Aside0.mk hy861
       clear hy861
       simp only [Option.some.injEq, Prod.mk.injEq] at H
       obtain ⟨rfl, rfl, rfl⟩ := H
       go_enter Tryz.func18, Tryz.ntmps18
       go_wp2_with (first | ((with_reducible refine gate_dst (N := 2) rfl ?_); refine bx_ 2 #[.slice none 0 0] 29 ?_; intro gb842 hg w28 hbox hb; replace HB := Aside0.mk (below_step (bi_ HB (IsS51.ge HI0.out)) hb); have BK842 := Aside0.mk (hbox); have GW842 := Aside0.mk ((by rw [hg]; exact (keep_size (w := w) (g := g) (row := none) (kq_ HK)) : w.heap.size ≤ gb842)); have GE842 := Aside0.mk ((Nat.le_trans HW0.out (by rw [hg]; exact (keep_size (w := w) (g := g) (row := none) (kq_ HK)) : w.heap.size ≤ gb842) : w0.heap.size ≤ gb842)); replace HK := Aside0.mk (KeepBut.trans (kq_ HK) (KeepBut.of_below hb g none) (.inl rfl)); have NB0_842 := Aside0.mk ((by rw [hg]; exact Nat.ne_of_lt (IsS51.lt (show IsS51 w0 _ g s0_0 s0_1 s0_2 from IsS51.q_ HI0)) : g ≠ gb842)); have NB842_0 := Aside0.mk ((by rw [hg]; exact Nat.ne_of_gt (IsS51.lt (show IsS51 w0 _ g s0_0 s0_1 s0_2 from IsS51.q_ HI0)) : gb842 ≠ g)); replace HI0 := Aside0.mk (IsS51.below (IsS51.q_ HI0) hb); clear hb hbox hg) | ((with_reducible refine gate_callee (f := 48) rfl ?_); refine gL_ (some 5) Tryz.func48 #[.pointer (some ⟨g, 0, none⟩)] ?_; (with_reducible refine (spec_l3Draw.calls k g s0_0 s0_1 s0_2 t843 t846 t847 w0 _ ?side1 ?side2 A2.out).mono ?_); (case side1 => exact IsS51.q_ HI0); (case side2 => exact bi_ HB (IsS51.ge HI0.out)); rintro e w29 ⟨v844, rfl, ho0, hi, hb, hk⟩; refine ⟨_, rfl, ?_⟩; replace BK842 := Aside0.mk (KeepBut.blk hk (g' := gb842) (o := .cells #[.slice none 0 0] 29 (0, 0)) (be_ BK842.out) NB842_0.out (by simp)); have HO845 := Aside0.mk (Kd.R_lower ho0 (keep_size (w := w) (g := g) (row := none) (kq_ HK))); replace HK := Aside0.mk (KeepBut.trans (kq_ HK) hk (.inl rfl)); replace HB := Aside0.mk (hb); replace HI0 := Aside0.mk (hi); (try clear hb); (try clear hk); (try clear hi); (try clear ho0)) | ((with_reducible refine gate_dst (N := 3) rfl ?_); refine bx_ 3 #[.slice none 0 0] 29 ?_; intro gb848 hg w30 hbox hb; replace HO845 := Aside0.mk (Kd.R_below (re_ HO845.out) hb); replace HB := Aside0.mk (below_step (bi_ HB (IsS51.ge HI0.out)) hb); have BK848 := Aside0.mk (hbox); have GW848 := Aside0.mk ((by rw [hg]; exact (keep_size (w := w) (g := g) (row := none) (kq_ HK)) : w.heap.size ≤ gb848)); have GE848 := Aside0.mk ((Nat.le_trans HW0.out (by rw [hg]; exact (keep_size (w := w) (g := g) (row := none) (kq_ HK)) : w.heap.size ≤ gb848) : w0.heap.size ≤ gb848)); replace HK := Aside0.mk (KeepBut.trans (kq_ HK) (KeepBut.of_below hb g none) (.inl rfl)); have NB842_848 := nl_ hg BK842; have NB848_842 := ng_ hg BK842; replace BK842 := bk_ BK842 hb; have NB0_848 := Aside0.mk ((by rw [hg]; exact Nat.ne_of_lt (IsS51.lt (show IsS51 w0 _ g s0_0 t846 t847 from IsS51.q_ HI0)) : g ≠ gb848)); have NB848_0 := Aside0.mk ((by rw [hg]; exact Nat.ne_of_gt (IsS51.lt (show IsS51 w0 _ g s0_0 t846 t847 from IsS51.q_ HI0)) : gb848 ≠ g)); replace HI0 := Aside0.mk (IsS51.below (IsS51.q_ HI0) hb); clear hb hbox hg; obtain ⟨Ao31, co31, eo31⟩ := Kd.R_slice HO845.out; subst eo31; have hnb32 := NB848_842.out; have hnc32 := NB842_848.out; have hnb33 := NB848_0.out; have hnc33 := NB0_848.out; have hcz34_0 := cz_ BK848; have hfz34_0 := blk_frozen BK848.out 0) | ((with_reducible refine gate_callee (f := 16) rfl ?_); refine gL_ (some 7) Tryz.func16 #[.pointer (some ⟨g, 0, none⟩), .int .i64 12] ?_; (with_reducible refine (spec_l1Below.calls g s0_0 t846 t847 12 t849 t850 t851 w0 _ ?side1 ?side2 A3.out).mono ?_); (case side1 => exact IsS51.q_ HI0); (case side2 => exact bi_ HB (IsS51.ge HI0.out)); rintro e w35 ⟨rfl, hi, hb, hk⟩; refine ⟨_, rfl, ?_⟩; replace BK842 := Aside0.mk (KeepBut.blk hk (g' := gb842) (o := .cells #[.slice none 0 0] 29 (0, 0)) (by (with_reducible repeat (first | refine blk_drewN ?_ _ | refine blk_drew ?_ | refine blk_alloc ?_ _)); refine blk_far ?_ NB842_848.out _; (with_reducible repeat (first | refine blk_drewN ?_ _ | refine blk_drew ?_ | refine blk_alloc ?_ _)); exact BK842.out) NB842_0.out (by simp)); replace HO845 := Aside0.mk (Kd.R_mono (Kd.R_keep (IsS51.apart (show IsS51 w0 _ g s0_0 t846 t847 from IsS51.q_ HI0) (by (with_reducible repeat (first | apply Kd.R_alloc | apply Kd.R_drewN | apply Kd.R_drew)); exact (Kd.R_mono (Kd.R_far (p := ⟨gb848, 0, none⟩) (Kd.R_types HO845.out BK848.out (by decide)) (fun _ hk => hk.2) (.slice Ao31 t843.length co31)) (fun _ h_ => h_.1))) (by decide)) hk (fun _ h => h.2)) (fun _ h => h.1)); replace BK848 := Aside0.mk (KeepBut.blk hk (g' := gb848) (o := .cells #[.slice Ao31 t843.length co31] 29 (0, 0)) (by (with_reducible repeat (first | refine blk_drewN ?_ _ | refine blk_drew ?_ | refine blk_alloc ?_ _)); refine blk_put (cs := #[.slice none 0 0]) ?_ 0 _ rfl; (with_reducible repeat (first | refine blk_drewN ?_ _ | refine blk_drew ?_ | refine blk_alloc ?_ _)); exact BK848.out) NB848_0.out (by simp)); replace HK := Aside0.mk (KeepBut.trans (kq_ HK) hk (.inl rfl)); replace HB := Aside0.mk (hb); replace HI0 := Aside0.mk (hi); (try clear hb); (try clear hk); (try clear hi); have hcz36_0 := cz_ BK848; have hfz36_0 := blk_frozen BK848.out 0; have q37 : (1 : Int) ≤ ((t843.length : Int) : Int) := od_; obtain ⟨i037, hi037, _, hsz37, _⟩ := info_parts info3; have hcut37 := cut_from (P := Tryz.prog) 27 3 .i64 Tryz.underlying27 hi037 1 hsz37 Ao31 t843.length co31 1 (by omega) q37; have hr37 := Kd.Q_drop (k := (1 : Int).toNat) (Kd.Q_of_R HO845.out) (by omega); obtain ⟨A37, hA37⟩ : ∃ A1, A1 = (if co31 = (1 : Int).toNat then Ao31 else (Ao31 : Option Addr).map (·.add ((1 : Int).toNat * 1))) := ⟨_, rfl⟩; obtain ⟨c37, hc37⟩ : ∃ c1, c1 = co31 - (1 : Int).toNat := ⟨_, rfl⟩; have hy37 : y861.length = t843.length - (1 : Int).toNat := (by rw [Ny861.out, List.length_drop]); rw [← Ny861.out] at hr37; rw [← hy37, ← hA37, ← hc37] at hcut37; replace hr37 : Kd.Q (Kd.int .i64) 3 w35 w.heap.size (fun _ => True) (.slice A37 y861.length c37) y861 := (by rw [hA37, hc37, hy37]; exact hr37); have HE37 : Aside0 ((Value.slice A37 y861.length c37).ownBlock = (.slice Ao31 t843.length co31 : Value).ownBlock) := ⟨by rw [hA37]; split <;> (cases (Ao31 : Option Addr) <;> rfl)⟩; clear hy37 hi037 hsz37 HO845 hA37 hc37; have HO863 := Aside0.mk hr37; clear hr37; replace q37 := eq_true q37; have hnb38 := NB842_0.out; have hnc38 := NB0_842.out; have hcz39_0 := cz_ BK842; have hfz39_0 := blk_frozen BK842.out 0))
       refine bodyPost_ret (results_cell_row rfl _ _ gb842 29 #[.slice A37 y861.length c37] (0, 0) _ rfl (by (with_reducible repeat (first | refine blk_drewN ?_ _ | refine blk_drew ?_ | refine blk_alloc ?_ _)); refine blk_put (cs := #[.slice none 0 0]) ?_ 0 _ rfl; (with_reducible repeat (first | refine blk_drewN ?_ _ | refine blk_drew ?_ | refine blk_alloc ?_ _)); refine blk_far ?_ NB842_848.out _; (with_reducible repeat (first | refine blk_drewN ?_ _ | refine blk_drew ?_ | refine blk_alloc ?_ _)); exact BK842.out) Tryz.underlying29 rfl (by kernel_rfl)) rfl ?_
       exact ⟨_, rf_, by (with_reducible repeat (first | apply Kd.Q_alloc | apply Kd.Q_drewN | apply Kd.Q_drew)); exact Kd.Q_mono (Kd.Q_far (p := ⟨gb842, 0, none⟩) (Kd.Q_far (p := ⟨gb848, 0, none⟩) (Kd.Q_types (Kd.Q_types HO863.out BK848.out (by decide)) BK842.out (by decide)) (fun _ hk => hk.1.2) (.slice A37 y861.length c37)) (fun _ hk => hk.2) (.slice A37 y861.length c37)) (fun _ hk => trivial), IsS51.q_ HI0, bi_ HB (IsS51.ge HI0.out), kq_ HK⟩
     · rw [if_neg c27] at H
       cases H
   · rw [if_neg c26] at H
     have c26b0 : (t849 == 1) = false := beq_eq_false_iff_ne.mpr c26
     have c26b1 : (t849 != 1) = true := bne_iff_ne.mpr c26
     by_cases c40 : t849 = 2
     · rw [if_pos c40] at H
       have c40b0 : (t849 == 2) = true := beq_iff_eq.mpr c40
       have c40b1 : (t849 != 2) = false := bne_eq_false_iff_eq.mpr c40
       clear c40
       obtain ⟨y864, hy864⟩ : ∃ y_ : List Int, y_ = (([0, 59, 4] : List Int)) := ⟨_, rfl⟩
       replace H : ((spec_l1PickInt.f s0_0 t850 t851 y864).bind fun bt867 => (some ((([bt867.1, 60] : List Int)), bt867.2.1, bt867.2.2))) = some (r1, r2, r3) := by subst hy864; exact H
       have Ny864 := Aside0.mk hy864
       clear hy864
       obtain ⟨⟨t867, t868, t869⟩, A41, H⟩ := ob_ H
       (try dsimp only at H)
       obtain ⟨y870, hy870⟩ : ∃ y_ : List Int, y_ = (([t867, 60] : List Int)) := ⟨_, rfl⟩
       replace H : (some (y870, t868, t869)) = some (r1, r2, r3) := by subst hy870; exact H
       have Ny870 := Aside0.mk hy870
       clear hy870
       simp only [Option.some.injEq, Prod.mk.injEq] at H
       obtain ⟨rfl, rfl, rfl⟩ := H
       go_enter Tryz.func18, Tryz.ntmps18
       go_wp2_with (first | ((with_reducible refine gate_dst (N := 2) rfl ?_); refine bx_ 2 #[.slice none 0 0] 29 ?_; intro gb842 hg w42 hbox hb; replace HB := Aside0.mk (below_step (bi_ HB (IsS51.ge HI0.out)) hb); have BK842 := Aside0.mk (hbox); have GW842 := Aside0.mk ((by rw [hg]; exact (keep_size (w := w) (g := g) (row := none) (kq_ HK)) : w.heap.size ≤ gb842)); have GE842 := Aside0.mk ((Nat.le_trans HW0.out (by rw [hg]; exact (keep_size (w := w) (g := g) (row := none) (kq_ HK)) : w.heap.size ≤ gb842) : w0.heap.size ≤ gb842)); replace HK := Aside0.mk (KeepBut.trans (kq_ HK) (KeepBut.of_below hb g none) (.inl rfl)); have NB0_842 := Aside0.mk ((by rw [hg]; exact Nat.ne_of_lt (IsS51.lt (show IsS51 w0 _ g s0_0 s0_1 s0_2 from IsS51.q_ HI0)) : g ≠ gb842)); have NB842_0 := Aside0.mk ((by rw [hg]; exact Nat.ne_of_gt (IsS51.lt (show IsS51 w0 _ g s0_0 s0_1 s0_2 from IsS51.q_ HI0)) : gb842 ≠ g)); replace HI0 := Aside0.mk (IsS51.below (IsS51.q_ HI0) hb); clear hb hbox hg) | ((with_reducible refine gate_callee (f := 48) rfl ?_); refine gL_ (some 5) Tryz.func48 #[.pointer (some ⟨g, 0, none⟩)] ?_; (with_reducible refine (spec_l3Draw.calls k g s0_0 s0_1 s0_2 t843 t846 t847 w0 _ ?side1 ?side2 A2.out).mono ?_); (case side1 => exact IsS51.q_ HI0); (case side2 => exact bi_ HB (IsS51.ge HI0.out)); rintro e w43 ⟨v844, rfl, ho0, hi, hb, hk⟩; refine ⟨_, rfl, ?_⟩; replace BK842 := Aside0.mk (KeepBut.blk hk (g' := gb842) (o := .cells #[.slice none 0 0] 29 (0, 0)) (be_ BK842.out) NB842_0.out (by simp)); have HO845 := Aside0.mk (Kd.R_lower ho0 (keep_size (w := w) (g := g) (row := none) (kq_ HK))); replace HK := Aside0.mk (KeepBut.trans (kq_ HK) hk (.inl rfl)); replace HB := Aside0.mk (hb); replace HI0 := Aside0.mk (hi); (try clear hb); (try clear hk); (try clear hi); (try clear ho0)) | ((with_reducible refine gate_dst (N := 3) rfl ?_); refine bx_ 3 #[.slice none 0 0] 29 ?_; intro gb848 hg w44 hbox hb; replace HO845 := Aside0.mk (Kd.R_below (re_ HO845.out) hb); replace HB := Aside0.mk (below_step (bi_ HB (IsS51.ge HI0.out)) hb); have BK848 := Aside0.mk (hbox); have GW848 := Aside0.mk ((by rw [hg]; exact (keep_size (w := w) (g := g) (row := none) (kq_ HK)) : w.heap.size ≤ gb848)); have GE848 := Aside0.mk ((Nat.le_trans HW0.out (by rw [hg]; exact (keep_size (w := w) (g := g) (row := none) (kq_ HK)) : w.heap.size ≤ gb848) : w0.heap.size ≤ gb848)); replace HK := Aside0.mk (KeepBut.trans (kq_ HK) (KeepBut.of_below hb g none) (.inl rfl)); have NB842_848 := nl_ hg BK842; have NB848_842 := ng_ hg BK842; replace BK842 := bk_ BK842 hb; have NB0_848 := Aside0.mk ((by rw [hg]; exact Nat.ne_of_lt (IsS51.lt (show IsS51 w0 _ g s0_0 t846 t847 from IsS51.q_ HI0)) : g ≠ gb848)); have NB848_0 := Aside0.mk ((by rw [hg]; exact Nat.ne_of_gt (IsS51.lt (show IsS51 w0 _ g s0_0 t846 t847 from IsS51.q_ HI0)) : gb848 ≠ g)); replace HI0 := Aside0.mk (IsS51.below (IsS51.q_ HI0) hb); clear hb hbox hg; obtain ⟨Ao45, co45, eo45⟩ := Kd.R_slice HO845.out; subst eo45; have hnb46 := NB848_842.out; have hnc46 := NB842_848.out; have hnb47 := NB848_0.out; have hnc47 := NB0_848.out; have hcz48_0 := cz_ BK848; have hfz48_0 := blk_frozen BK848.out 0) | ((with_reducible refine gate_callee (f := 16) rfl ?_); refine gL_ (some 7) Tryz.func16 #[.pointer (some ⟨g, 0, none⟩), .int .i64 12] ?_; (with_reducible refine (spec_l1Below.calls g s0_0 t846 t847 12 t849 t850 t851 w0 _ ?side1 ?side2 A3.out).mono ?_); (case side1 => exact IsS51.q_ HI0); (case side2 => exact bi_ HB (IsS51.ge HI0.out)); rintro e w49 ⟨rfl, hi, hb, hk⟩; refine ⟨_, rfl, ?_⟩; replace BK842 := Aside0.mk (KeepBut.blk hk (g' := gb842) (o := .cells #[.slice none 0 0] 29 (0, 0)) (by (with_reducible repeat (first | refine blk_drewN ?_ _ | refine blk_drew ?_ | refine blk_alloc ?_ _)); refine blk_far ?_ NB842_848.out _; (with_reducible repeat (first | refine blk_drewN ?_ _ | refine blk_drew ?_ | refine blk_alloc ?_ _)); exact BK842.out) NB842_0.out (by simp)); replace HO845 := Aside0.mk (Kd.R_mono (Kd.R_keep (IsS51.apart (show IsS51 w0 _ g s0_0 t846 t847 from IsS51.q_ HI0) (by (with_reducible repeat (first | apply Kd.R_alloc | apply Kd.R_drewN | apply Kd.R_drew)); exact (Kd.R_mono (Kd.R_far (p := ⟨gb848, 0, none⟩) (Kd.R_types HO845.out BK848.out (by decide)) (fun _ hk => hk.2) (.slice Ao45 t843.length co45)) (fun _ h_ => h_.1))) (by decide)) hk (fun _ h => h.2)) (fun _ h => h.1)); replace BK848 := Aside0.mk (KeepBut.blk hk (g' := gb848) (o := .cells #[.slice Ao45 t843.length co45] 29 (0, 0)) (by (with_reducible repeat (first | refine blk_drewN ?_ _ | refine blk_drew ?_ | refine blk_alloc ?_ _)); refine blk_put (cs := #[.slice none 0 0]) ?_ 0 _ rfl; (with_reducible repeat (first | refine blk_drewN ?_ _ | refine blk_drew ?_ | refine blk_alloc ?_ _)); exact BK848.out) NB848_0.out (by simp)); replace HK := Aside0.mk (KeepBut.trans (kq_ HK) hk (.inl rfl)); replace HB := Aside0.mk (hb); replace HI0 := Aside0.mk (hi); (try clear hb); (try clear hk); (try clear hi)) | ((with_reducible refine gate_dst (N := 27) rfl ?_); refine Kd.R_lit (Kd.int .i64) _ 3 ?hg (N := 27) ?hd (xs := ([0, 59, 4] : List Int)) (inner := [.int .i64 0, .int .i64 59, .int .i64 4]) (ok := fun _ => True) (okp := fun _ => True) ?hr ?hp (fun _ hk => hk) trivial (Below.refl _ _) (Nat.le_refl _) (by simp) ?_; (case hd => rfl); (case hg => rfl); (case hr => first | (go_simp; done) | (go_simp; rfl)); (case hp => exact (Reps.one (show Kd.M (Kd.int .i64) _ _ _ 0 [.int .i64 0] from rfl) (Reps.one (show Kd.M (Kd.int .i64) _ _ _ 59 [.int .i64 59] from rfl) (Reps.one (show Kd.M (Kd.int .i64) _ _ _ 4 [.int .i64 4] from rfl) (Reps.none _ _))))); intro v865 w50 ho51 hb hg_ hnew_; clear hg_ hnew_; (first | rw [← Ny864.out] at ho51 | (simp only [Int.reduceToNat] at ho51; rw [← Ny864.out] at ho51)); have HO866 := Aside0.mk (Kd.R_lower (Kd.R_new' ho51 (Kd.R_lt (re_ HO845.out))) (keep_size (w := w) (g := g) (row := none) (kq_ HK))); replace HO845 := Aside0.mk (Kd.R_elder' (re_ HO845.out) (Kd.R_base ho51) hb); replace BK842 := bk_ BK842 hb; replace BK848 := bk_ BK848 hb; replace HK := Aside0.mk (KeepBut.trans (kq_ HK) (KeepBut.of_below hb g none) (.inl rfl)); replace HB := Aside0.mk (below_step (bi_ HB (IsS51.ge HI0.out)) hb); replace HI0 := Aside0.mk (IsS51.below (IsS51.q_ HI0) hb); clear hb ho51; obtain ⟨Ao52, co52, eo52⟩ := Kd.R_slice HO866.out; subst eo52) | ((with_reducible refine gate_callee (f := 49) rfl ?_); refine gL_ (some 28) Tryz.func49 #[.pointer (some ⟨g, 0, none⟩), .slice Ao52 y864.length co52] ?_; (with_reducible refine (spec_l1PickInt.calls g s0_0 t850 t851 _ _ y864 t867 t868 t869 w0 _ ?side1 ?side2 ?side3 ?side4 ?side5 A41.out).mono ?_); (case side1 => exact IsS51.q_ HI0); (case side2 => exact bi_ HB (IsS51.ge HI0.out)); (case side3 => exact ce_ ((Kd.R_reads' HO866.out).2.2)); (case side4 => exact (Kd.R_reads' HO866.out).2.1); (case side5 => exact far_slice (IsS51.own_ne HI0.out HO866.out (by decide))); rintro e w53 ⟨rfl, hi, hb, hk⟩; refine ⟨_, rfl, ?_⟩; replace BK842 := Aside0.mk (KeepBut.blk hk (g' := gb842) (o := .cells #[.slice none 0 0] 29 (0, 0)) (be_ BK842.out) NB842_0.out (by simp)); replace HO845 := Aside0.mk (Kd.R_mono (Kd.R_keep (IsS51.apart (show IsS51 w0 _ g s0_0 t850 t851 from IsS51.q_ HI0) (re_ HO845.out) (by decide)) hk (fun _ h => h.2)) (fun _ h => h.1)); replace BK848 := Aside0.mk (KeepBut.blk hk (g' := gb848) (o := .cells #[.slice Ao45 t843.length co45] 29 (0, 0)) (be_ BK848.out) NB848_0.out (by simp)); replace HO866 := Aside0.mk (Kd.R_mono (Kd.R_keep (IsS51.apart (show IsS51 w0 _ g s0_0 t850 t851 from IsS51.q_ HI0) (re_ HO866.out) (by decide)) hk (fun _ h => h.2)) (fun _ h => h.1)); replace HK := Aside0.mk (KeepBut.trans (kq_ HK) hk (.inl rfl)); replace HB := Aside0.mk (hb); replace HI0 := Aside0.mk (hi); (try clear hb); (try clear hk); (try clear hi)) | ((with_reducible refine gate_dst (N := 29) rfl ?_); refine Kd.R_lit (Kd.int .i64) _ 3 ?hg (N := 29) ?hd (xs := ([t867, 60] : List Int)) (inner := [.int .i64 t867, .int .i64 60]) (ok := fun _ => True) (okp := fun _ => True) ?hr ?hp (fun _ hk => hk) trivial (Below.refl _ _) (Nat.le_refl _) (by simp) ?_; (case hd => rfl); (case hg => rfl); (case hr => first | (go_simp; done) | (go_simp; rfl)); (case hp => exact (Reps.one (show Kd.M (Kd.int .i64) _ _ _ t867 [.int .i64 t867] from rfl) (Reps.one (show Kd.M (Kd.int .i64) _ _ _ 60 [.int .i64 60] from rfl) (Reps.none _ _)))); intro v871 w54 ho55 hb hg_ hnew_; clear hg_ hnew_; (first | rw [← Ny870.out] at ho55 | (simp only [Int.reduceToNat] at ho55; rw [← Ny870.out] at ho55)); have HO872 := Aside0.mk (Kd.R_lower (Kd.R_new' (Kd.R_new' ho55 (Kd.R_lt (re_ HO845.out))) (Kd.R_lt (re_ HO866.out))) (keep_size (w := w) (g := g) (row := none) (kq_ HK))); replace HO845 := Aside0.mk (Kd.R_elder' (re_ HO845.out) (Kd.R_base ho55) hb); replace HO866 := Aside0.mk (Kd.R_elder' (re_ HO866.out) (Kd.R_base ho55) hb); replace BK842 := bk_ BK842 hb; replace BK848 := bk_ BK848 hb; replace HK := Aside0.mk (KeepBut.trans (kq_ HK) (KeepBut.of_below hb g none) (.inl rfl)); replace HB := Aside0.mk (below_step (bi_ HB (IsS51.ge HI0.out)) hb); replace HI0 := Aside0.mk (IsS51.below (IsS51.q_ HI0) hb); clear hb ho55; obtain ⟨Ao56, co56, eo56⟩ := Kd.R_slice HO872.out; subst eo56; have hcz57_0 := cz_ BK848; have hfz57_0 := blk_frozen BK848.out 0; have hnb58 := NB842_0.out; have hnc58 := NB0_842.out; have hcz59_0 := cz_ BK842; have hfz59_0 := blk_frozen BK842.out 0))
       refine bodyPost_ret (results_cell_row rfl _ _ gb842 29 #[.slice Ao56 y870.length co56] (0, 0) _ rfl (by (with_reducible repeat (first | refine blk_drewN ?_ _ | refine blk_drew ?_ | refine blk_alloc ?_ _)); refine blk_put (cs := #[.slice none 0 0]) ?_ 0 _ rfl; (with_reducible repeat (first | refine blk_drewN ?_ _ | refine blk_drew ?_ | refine blk_alloc ?_ _)); refine blk_far ?_ NB842_848.out _; (with_reducible repeat (first | refine blk_drewN ?_ _ | refine blk_drew ?_ | refine blk_alloc ?_ _)); exact BK842.out) Tryz.underlying29 rfl (by kernel_rfl)) rfl ?_
       exact ⟨_, rf_, Kd.Q_of_R (by (with_reducible repeat (first | apply Kd.R_alloc | apply Kd.R_drewN | apply Kd.R_drew)); exact Kd.R_mono (Kd.R_far (p := ⟨gb842, 0, none⟩) (Kd.R_far (p := ⟨gb848, 0, none⟩) (Kd.R_types (Kd.R_types HO872.out BK848.out (by decide)) BK842.out (by decide)) (fun _ hk => hk.1.2) (.slice Ao56 y870.length co56)) (fun _ hk => hk.2) (.slice Ao56 y870.length co56)) (fun _ hk => trivial)), IsS51.q_ HI0, bi_ HB (IsS51.ge HI0.out), kq_ HK⟩
     · rw [if_neg c40] at H
       have c40b0 : (t849 == 2) = false := beq_eq_false_iff_ne.mpr c40
       have c40b1 : (t849 != 2) = true := bne_iff_ne.mpr c40
       simp only [Option.some.injEq, Prod.mk.injEq] at H
       obtain ⟨rfl, rfl, rfl⟩ := H
       go_enter Tryz.func18, Tryz.ntmps18
       go_wp2_with (first | ((with_reducible refine gate_dst (N := 2) rfl ?_); refine bx_ 2 #[.slice none 0 0] 29 ?_; intro gb842 hg w60 hbox hb; replace HB := Aside0.mk (below_step (bi_ HB (IsS51.ge HI0.out)) hb); have BK842 := Aside0.mk (hbox); have GW842 := Aside0.mk ((by rw [hg]; exact (keep_size (w := w) (g := g) (row := none) (kq_ HK)) : w.heap.size ≤ gb842)); have GE842 := Aside0.mk ((Nat.le_trans HW0.out (by rw [hg]; exact (keep_size (w := w) (g := g) (row := none) (kq_ HK)) : w.heap.size ≤ gb842) : w0.heap.size ≤ gb842)); replace HK := Aside0.mk (KeepBut.trans (kq_ HK) (KeepBut.of_below hb g none) (.inl rfl)); have NB0_842 := Aside0.mk ((by rw [hg]; exact Nat.ne_of_lt (IsS51.lt (show IsS51 w0 _ g s0_0 s0_1 s0_2 from IsS51.q_ HI0)) : g ≠ gb842)); have NB842_0 := Aside0.mk ((by rw [hg]; exact Nat.ne_of_gt (IsS51.lt (show IsS51 w0 _ g s0_0 s0_1 s0_2 from IsS51.q_ HI0)) : gb842 ≠ g)); replace HI0 := Aside0.mk (IsS51.below (IsS51.q_ HI0) hb); clear hb hbox hg) | ((with_reducible refine gate_callee (f := 48) rfl ?_); refine gL_ (some 5) Tryz.func48 #[.pointer (some ⟨g, 0, none⟩)] ?_; (with_reducible refine (spec_l3Draw.calls k g s0_0 s0_1 s0_2 t843 t846 t847 w0 _ ?side1 ?side2 A2.out).mono ?_); (case side1 => exact IsS51.q_ HI0); (case side2 => exact bi_ HB (IsS51.ge HI0.out)); rintro e w61 ⟨v844, rfl, ho0, hi, hb, hk⟩; refine ⟨_, rfl, ?_⟩; replace BK842 := Aside0.mk (KeepBut.blk hk (g' := gb842) (o := .cells #[.slice none 0 0] 29 (0, 0)) (be_ BK842.out) NB842_0.out (by simp)); have HO845 := Aside0.mk (Kd.R_lower ho0 (keep_size (w := w) (g := g) (row := none) (kq_ HK))); replace HK := Aside0.mk (KeepBut.trans (kq_ HK) hk (.inl rfl)); replace HB := Aside0.mk (hb); replace HI0 := Aside0.mk (hi); (try clear hb); (try clear hk); (try clear hi); (try clear ho0)) | ((with_reducible refine gate_dst (N := 3) rfl ?_); refine bx_ 3 #[.slice none 0 0] 29 ?_; intro gb848 hg w62 hbox hb; replace HO845 := Aside0.mk (Kd.R_below (re_ HO845.out) hb); replace HB := Aside0.mk (below_step (bi_ HB (IsS51.ge HI0.out)) hb); have BK848 := Aside0.mk (hbox); have GW848 := Aside0.mk ((by rw [hg]; exact (keep_size (w := w) (g := g) (row := none) (kq_ HK)) : w.heap.size ≤ gb848)); have GE848 := Aside0.mk ((Nat.le_trans HW0.out (by rw [hg]; exact (keep_size (w := w) (g := g) (row := none) (kq_ HK)) : w.heap.size ≤ gb848) : w0.heap.size ≤ gb848)); replace HK := Aside0.mk (KeepBut.trans (kq_ HK) (KeepBut.of_below hb g none) (.inl rfl)); have NB842_848 := nl_ hg BK842; have NB848_842 := ng_ hg BK842; replace BK842 := bk_ BK842 hb; have NB0_848 := Aside0.mk ((by rw [hg]; exact Nat.ne_of_lt (IsS51.lt (show IsS51 w0 _ g s0_0 t846 t847 from IsS51.q_ HI0)) : g ≠ gb848)); have NB848_0 := Aside0.mk ((by rw [hg]; exact Nat.ne_of_gt (IsS51.lt (show IsS51 w0 _ g s0_0 t846 t847 from IsS51.q_ HI0)) : gb848 ≠ g)); replace HI0 := Aside0.mk (IsS51.below (IsS51.q_ HI0) hb); clear hb hbox hg; obtain ⟨Ao63, co63, eo63⟩ := Kd.R_slice HO845.out; subst eo63; have hnb64 := NB848_842.out; have hnc64 := NB842_848.out; have hnb65 := NB848_0.out; have hnc65 := NB0_848.out; have hcz66_0 := cz_ BK848; have hfz66_0 := blk_frozen BK848.out 0) | ((with_reducible refine gate_callee (f := 16) rfl ?_); refine gL_ (some 7) Tryz.func16 #[.pointer (some ⟨g, 0, none⟩), .int .i64 12] ?_; (with_reducible refine (spec_l1Below.calls g s0_0 t846 t847 12 t849 t850 t851 w0 _ ?side1 ?side2 A3.out).mono ?_); (case side1 => exact IsS51.q_ HI0); (case side2 => exact bi_ HB (IsS51.ge HI0.out)); rintro e w67 ⟨rfl, hi, hb, hk⟩; refine ⟨_, rfl, ?_⟩; replace BK842 := Aside0.mk (KeepBut.blk hk (g' := gb842) (o := .cells #[.slice none 0 0] 29 (0, 0)) (by (with_reducible repeat (first | refine blk_drewN ?_ _ | refine blk_drew ?_ | refine blk_alloc ?_ _)); refine blk_far ?_ NB842_848.out _; (with_reducible repeat (first | refine blk_drewN ?_ _ | refine blk_drew ?_ | refine blk_alloc ?_ _)); exact BK842.out) NB842_0.out (by simp)); replace HO845 := Aside0.mk (Kd.R_mono (Kd.R_keep (IsS51.apart (show IsS51 w0 _ g s0_0 t846 t847 from IsS51.q_ HI0) (by (with_reducible repeat (first | apply Kd.R_alloc | apply Kd.R_drewN | apply Kd.R_drew)); exact (Kd.R_mono (Kd.R_far (p := ⟨gb848, 0, none⟩) (Kd.R_types HO845.out BK848.out (by decide)) (fun _ hk => hk.2) (.slice Ao63 t843.length co63)) (fun _ h_ => h_.1))) (by decide)) hk (fun _ h => h.2)) (fun _ h => h.1)); replace BK848 := Aside0.mk (KeepBut.blk hk (g' := gb848) (o := .cells #[.slice Ao63 t843.length co63] 29 (0, 0)) (by (with_reducible repeat (first | refine blk_drewN ?_ _ | refine blk_drew ?_ | refine blk_alloc ?_ _)); refine blk_put (cs := #[.slice none 0 0]) ?_ 0 _ rfl; (with_reducible repeat (first | refine blk_drewN ?_ _ | refine blk_drew ?_ | refine blk_alloc ?_ _)); exact BK848.out) NB848_0.out (by simp)); replace HK := Aside0.mk (KeepBut.trans (kq_ HK) hk (.inl rfl)); replace HB := Aside0.mk (hb); replace HI0 := Aside0.mk (hi); (try clear hb); (try clear hk); (try clear hi); have hcz68_0 := cz_ BK848; have hfz68_0 := blk_frozen BK848.out 0; have hnb69 := NB842_0.out; have hnc69 := NB0_842.out; have hcz70_0 := cz_ BK842; have hfz70_0 := blk_frozen BK842.out 0))
       refine bodyPost_ret (results_cell_row rfl _ _ gb842 29 #[.slice Ao63 t843.length co63] (0, 0) _ rfl (by (with_reducible repeat (first | refine blk_drewN ?_ _ | refine blk_drew ?_ | refine blk_alloc ?_ _)); refine blk_put (cs := #[.slice none 0 0]) ?_ 0 _ rfl; (with_reducible repeat (first | refine blk_drewN ?_ _ | refine blk_drew ?_ | refine blk_alloc ?_ _)); exact BK842.out) Tryz.underlying29 rfl (by kernel_rfl)) rfl ?_
       exact ⟨_, rf_, Kd.Q_of_R (by (with_reducible repeat (first | apply Kd.R_alloc | apply Kd.R_drewN | apply Kd.R_drew)); exact Kd.R_mono (Kd.R_far (p := ⟨gb842, 0, none⟩) (Kd.R_types HO845.out BK842.out (by decide)) (fun _ hk => hk.2) (.slice Ao63 t843.length co63)) (fun _ hk => trivial)), IsS51.q_ HI0, bi_ HB (IsS51.ge HI0.out), kq_ HK⟩
def spec_DrawDescribeSemigroup.f (k : Nat) (l0 : List Int) : Option (List Int) := (spec_l1New.f k l0).bind fun bt874 => ((spec_l3Bent.f k bt874.1 bt874.2.1 bt874.2.2).bind fun bt878 => (some bt878.1))
theorem spec_DrawDescribeSemigroup.calls (k : Nat) (A0 : Option Addr) (c0 : Nat) (l0 : List Int) (r : List Int) (w : World) (hr0 : Kd.C (Kd.int .u8) w A0 l0.length l0) (hc0 : l0.length ≤ c0) (h : spec_DrawDescribeSemigroup.f k l0 = some r) :
 Calls Tryz.prog 9 #[.slice A0 l0.length c0] w fun e w' => ∃ v0_ : Value, e = .returned (.agg #[v0_]) ∧ Kd.Q (Kd.int .i64) 3 w' w.heap.size (fun _ => True) v0_ r ∧ Below w.heap.size w w' := by
 have hu29 := Tryz.underlying29
 have HR0 := Aside0.mk hr0
 have HC0 := Aside0.mk hc0
 clear hr0 hc0
 have HB := Aside0.mk (Below.refl w.heap.size w)
 have H := h
 clear h
 unfold spec_DrawDescribeSemigroup.f at H
 obtain ⟨⟨t874, t875, t876⟩, A2, H⟩ := ob_ H
 (try dsimp only at H)
 obtain ⟨⟨t878, t881, t882⟩, A3, H⟩ := ob_ H
 (try dsimp only at H)
 obtain rfl := Option.some.inj H
 go_enter Tryz.func9, Tryz.ntmps9
 go_wp2_with (first | ((with_reducible refine gate_dst (N := 2) rfl ?_); refine bx_ 2 #[.slice none 0 0] 29 ?_; intro gb873 hg w4 hbox hb; have BK873 := Aside0.mk (hbox); have GW873 := gw_ hg HB; have GE873 := gw_ hg HB; replace HB := bo_ HB hb; clear hb hbox hg) | ((with_reducible refine gate_callee (f := 17) rfl ?_); refine gL_ (some 4) Tryz.func17 #[.slice A0 l0.length c0] ?_; (with_reducible refine (spec_l1New.calls k _ _ l0 t874 t875 t876 w _ ?side1 ?side2 ?side3 A2.out).mono ?_); (case side1 => exact bq_ HB); (case side2 => exact HR0.out); (case side3 => exact HC0.out); rintro e w5 ⟨g877, rfl, hi, hb, hb2⟩; refine ⟨_, rfl, ?_⟩; replace HB := Aside0.mk (hb); have HI877 := Aside0.mk (hi); have NB877_873 := Aside0.mk (IsS51.ne_blk hi (blk_below (be_ BK873.out) hb2) (by decide)); have NB873_877 := Aside0.mk (Ne.symm (IsS51.ne_blk hi (blk_below (be_ BK873.out) hb2) (by decide))); replace BK873 := Aside0.mk (blk_below (be_ BK873.out) hb2); (try clear hb); (try clear hb2); (try clear hi)) | ((with_reducible refine gate_callee (f := 18) rfl ?_); refine gL_ (some 5) Tryz.func18 #[.pointer (some ⟨g877, 0, none⟩)] ?_; (with_reducible refine (spec_l3Bent.calls k g877 t874 t875 t876 t878 t881 t882 w _ ?side1 ?side2 A3.out).mono ?_); (case side1 => exact IsS51.q_ HI877); (case side2 => exact bi_ HB (IsS51.ge HI877.out)); rintro e w6 ⟨v879, rfl, ho0, hi, hb, hk⟩; refine ⟨_, rfl, ?_⟩; replace BK873 := Aside0.mk (KeepBut.blk hk (g' := gb873) (o := .cells #[.slice none 0 0] 29 (0, 0)) (be_ BK873.out) NB873_877.out (by simp)); have HO880 := Aside0.mk (Kd.Q_lower ho0 (below_size (bi_ HB (IsS51.ge HI877.out)))); replace HB := Aside0.mk (hb); replace HI877 := Aside0.mk (hi); (try clear hb); (try clear hk); (try clear hi); (try clear ho0); obtain ⟨Ao7, co7, eo7, _⟩ := Kd.Q_slice HO880.out; subst eo7; have hnb8 := NB873_877.out; have hnc8 := NB877_873.out; have hcz9_0 := cz_ BK873; have hfz9_0 := blk_frozen BK873.out 0))
 refine bodyPost_ret (results_cell_row rfl _ _ gb873 29 #[.slice Ao7 t878.length co7] (0, 0) _ rfl (by (with_reducible repeat (first | refine blk_drewN ?_ _ | refine blk_drew ?_ | refine blk_alloc ?_ _)); refine blk_put (cs := #[.slice none 0 0]) ?_ 0 _ rfl; (with_reducible repeat (first | refine blk_drewN ?_ _ | refine blk_drew ?_ | refine blk_alloc ?_ _)); exact BK873.out) Tryz.underlying29 rfl (by kernel_rfl)) rfl ?_
 exact ⟨_, rf_, by (with_reducible repeat (first | apply Kd.Q_alloc | apply Kd.Q_drewN | apply Kd.Q_drew)); exact Kd.Q_mono (Kd.Q_far (p := ⟨gb873, 0, none⟩) (Kd.Q_types HO880.out BK873.out (by decide)) (fun _ hk => hk.2) (.slice Ao7 t878.length co7)) (fun _ hk => trivial), bi_ HB (IsS51.ge HI877.out)⟩
theorem nil_ne_ (l : List UInt8) : (l != ([] : List UInt8)) = !l.isEmpty := by cases l <;> rfl
theorem nil_eq_ (l : List UInt8) : (l == ([] : List UInt8)) = l.isEmpty := by cases l <;> rfl
def laws_FnExamples.f (k : Nat) (l0 : List Int) : Option (Bool) := (laws_big.f l0).bind fun t883 => (if t883 = true then (some true) else ((spec_DrawDescribeExample.f k l0).bind fun t884 => ((spec_DrawDescribeSemigroup.f k l0).bind fun t885 => ((impl_DescribeExample.f k t884).bind fun t889 => ((impl_ExampleText.f t884).bind fun t890 => ((spec_ParseSemigroup.f k t890).bind fun bt891 => ((spec_DescribeExample.f k t884).bind fun t896 => (if t889.toList = t896.toList then ((impl_ExampleText.f t884).bind fun t897 => ((spec_ExampleText.f t884).bind fun t898 => (if t897.toList = t898.toList then ((impl_DescribeSemigroup.f k t885).bind fun t899 => ((spec_DescribeSemigroup.f k t885).bind fun t900 => (if t899.toList = t900.toList then ((impl_ExampleText.f t884).bind fun t901 => (if (bt891.2 == (t901.toList != ([] : List UInt8))) = true then ((impl_ExampleText.f t884).bind fun t902 => (if ((t889.toList == ([] : List UInt8)) == (t902.toList == ([] : List UInt8))) = true then ((impl_DescribeSemigroup.f k bt891.1).bind fun t903 => (some (t889.toList == t903.toList))) else (some false))) else (some false))) else (some false)))) else (some false)))) else (some false)))))))))
def laws_FnExamples.T7 : Bool × List (List Nat × List Nat) := (true, [([], []), ([], []), ([1], [1]), ([0, 2], [0, 2]), ([3, 2], [3]), ([4], [4]), ([5, 4, 4], [4, 5]), ([4], [4]), ([7, 6, 4], [4, 7]), ([6, 8, 4], [4, 6, 8]), ([4, 9], [4, 9]), ([10, 8], [10]), ([11], [11]), ([12, 11, 11], [11, 12]), ([11], [11]), ([14, 13, 11], [11, 14]), ([13, 15, 11], [11, 13, 15]), ([11, 16], [11, 16]), ([17, 15], [17]), ([18], [18]), ([18], [18]), ([20, 18, 18], [18, 20]), ([21, 18], [18, 21]), ([19, 22, 18], [18, 19, 22]), ([18, 23], [18, 23]), ([24, 21], [24]), ([25], [25]), ([26, 25], [25, 26]), ([25], [25]), ([28, 25, 25], [25, 28]), ([29, 25], [25, 29]), ([27, 30, 25], [25, 27, 30]), ([25, 31], [25, 31]), ([32, 29], [32]), ([33], [33]), ([33], [33]), ([35, 33, 33], [33, 35]), ([34, 36, 33], [33, 34, 36]), ([33, 37], [33, 37]), ([38, 36, 0, 1, 2, 3, 4, 5, 6, 7, 8, 9, 10, 11, 12, 13, 14, 15, 16, 17, 18, 19, 20, 21, 22, 23, 24, 25, 26, 27, 28, 29, 30, 31, 32, 33, 34, 35, 36, 37, 38], [38])])
def laws_FnExamples.B7 : List Nat := [0, 0, 2, 7, 15, 31, 63, 31, 255, 511, 1023, 2047, 4095, 8191, 4095, 32767, 65535, 131071, 262143, 524287, 524287, 1572863, 3670015, 8388607, 16777215, 33554431, 67108863, 134217727, 67108863, 335544319, 872415231, 2147483647, 4294967295, 8589934591, 17179869183, 17179869183, 51539607551, 137438953471, 274877906943, 549755813887]
theorem laws_FnExamples.tab7 : rtab .any (opsOf Tryz.f4 7) = laws_FnExamples.T7 := by kernel_rfl
theorem laws_FnExamples.bits7 : waitsOk laws_FnExamples.T7.2 laws_FnExamples.B7 = true := by kernel_rfl
theorem laws_FnExamples.calls (k : Nat) (A0 : Option Addr) (c0 : Nat) (l0 : List Int) (r : Bool) (w : World) (hr0 : Kd.C (Kd.int .u8) w A0 l0.length l0) (hc0 : l0.length ≤ c0) (hT : Tab_ w) (h : laws_FnExamples.f k l0 = some r) (hr_ : r = true := by rfl) :
 Calls Tryz.prog 4 #[.slice A0 l0.length c0] w fun e w' => e = .returned (.bool r) ∧ Below w.heap.size w w' := by
 have hr_ := Aside0.mk hr_
 have hTab := Aside0.mk hT
 clear hT
 have hu29 := Tryz.underlying29
 have HR0 := Aside0.mk hr0
 have HC0 := Aside0.mk hc0
 clear hr0 hc0
 have HB := Aside0.mk (Below.refl w.heap.size w)
 have H := h
 clear h
 unfold laws_FnExamples.f at H
 obtain ⟨t883, A2, H⟩ := ob_ H
 by_cases c3 : t883 = true
 · subst c3
   rw [if_pos rfl] at H
   obtain rfl := Option.some.inj H
   go_enter Tryz.func4, Tryz.ntmps4
   go_wp2_with (first | ((with_reducible refine gate_callee (f := 7) rfl ?_); refine gL_ (some 9) Tryz.func7 #[.slice A0 l0.length c0] ?_; (with_reducible refine (laws_big.calls _ _ l0 true _ ?side1 ?side2 A2.out).mono ?_); (case side1 => exact ce_ (HR0.out)); (case side2 => exact HC0.out); rintro e w' ⟨rfl, ⟨nd, rfl⟩⟩; refine ⟨_, rfl, ?_⟩))
   go_ret
   exact ⟨rf_, bl_ HB.out⟩
 · replace c3 := Bool.eq_false_iff.mpr c3
   subst c3
   rw [if_neg (show ¬ (false = true) by decide)] at H
   obtain ⟨t884, A4, H⟩ := ob_ H
   obtain ⟨t885, A5, H⟩ := ob_ H
   obtain ⟨t889, A6, H⟩ := ob_ H
   obtain ⟨t890, A7, H⟩ := ob_ H
   obtain ⟨⟨t891, t894⟩, A8, H⟩ := ob_ H
   (try dsimp only at H)
   obtain ⟨t896, A9, H⟩ := ob_ H
   by_cases c10 : t889.toList = t896.toList
   · rw [if_pos c10] at H
     have c10b0 : (t889.toList == t896.toList) = true := beq_iff_eq.mpr c10
     have c10b1 : (t889.toList != t896.toList) = false := bne_eq_false_iff_eq.mpr c10
     clear c10
     obtain ⟨t897, A11, H⟩ := ob_ H
     obtain ⟨t898, A12, H⟩ := ob_ H
     by_cases c13 : t897.toList = t898.toList
     · rw [if_pos c13] at H
       have c13b0 : (t897.toList == t898.toList) = true := beq_iff_eq.mpr c13
       have c13b1 : (t897.toList != t898.toList) = false := bne_eq_false_iff_eq.mpr c13
       clear c13
       obtain ⟨t899, A14, H⟩ := ob_ H
       obtain ⟨t900, A15, H⟩ := ob_ H
       by_cases c16 : t899.toList = t900.toList
       · rw [if_pos c16] at H
         have c16b0 : (t899.toList == t900.toList) = true := beq_iff_eq.mpr c16
         have c16b1 : (t899.toList != t900.toList) = false := bne_eq_false_iff_eq.mpr c16
         clear c16
         obtain ⟨t901, A17, H⟩ := ob_ H
         by_cases c18 : (t894 == (t901.toList != ([] : List UInt8))) = true
         · rw [if_pos c18] at H
           have c18b0 : (t894 == (t901.toList != ([] : List UInt8))) = true := c18
           have c18b0e : (t894 == (!t901.toList.isEmpty)) = true := (by have h_ := c18b0; simp only [nil_ne_, nil_eq_] at h_; exact h_)
           (try (have c18b1 : decide (t894 = (t901.toList != ([] : List UInt8))) = true := by simpa using c18))
           (try (have c18b2 : (t894 == (t901.toList != ([] : List UInt8))) = true := by simpa using c18))
           clear c18
           obtain ⟨t902, A19, H⟩ := ob_ H
           by_cases c20 : ((t889.toList == ([] : List UInt8)) == (t902.toList == ([] : List UInt8))) = true
           · rw [if_pos c20] at H
             have c20b0 : ((t889.toList == ([] : List UInt8)) == (t902.toList == ([] : List UInt8))) = true := c20
             have c20b0e : (t889.toList.isEmpty == t902.toList.isEmpty) = true := (by have h_ := c20b0; simp only [nil_ne_, nil_eq_] at h_; exact h_)
             (try (have c20b1 : decide ((t889.toList == ([] : List UInt8)) = (t902.toList == ([] : List UInt8))) = true := by simpa using c20))
             (try (have c20b2 : ((t889.toList == ([] : List UInt8)) == (t902.toList == ([] : List UInt8))) = true := by simpa using c20))
             clear c20
             obtain ⟨t903, A21, H⟩ := ob_ H
             obtain rfl := Option.some.inj H
             go_enter Tryz.func4, Tryz.ntmps4
             try go_wp2_with (first | ((with_reducible refine gate_callee (f := 7) rfl ?_); refine gL_ (some 9) Tryz.func7 #[.slice A0 l0.length c0] ?_; (with_reducible refine (laws_big.calls _ _ l0 false _ ?side1 ?side2 A2.out).mono ?_); (case side1 => exact ce_ (HR0.out)); (case side2 => exact HC0.out); rintro e w' ⟨rfl, ⟨nd, rfl⟩⟩; refine ⟨_, rfl, ?_⟩) | ((with_reducible refine gate_callee (f := 8) rfl ?_); refine gL_ (some 11) Tryz.func8 #[.slice A0 l0.length c0] ?_; (with_reducible refine (spec_DrawDescribeExample.calls k _ _ l0 t884 _ ?side1 ?side2 A4.out).mono ?_); (case side1 => exact ce_ (HR0.out)); (case side2 => exact HC0.out); rintro e w22 ⟨rfl, hb⟩; refine ⟨_, rfl, ?_⟩; replace HB := bo_ HB hb; (try clear hb)) | ((with_reducible refine gate_callee (f := 9) rfl ?_); refine gL_ (some 13) Tryz.func9 #[.slice A0 l0.length c0] ?_; (with_reducible refine (spec_DrawDescribeSemigroup.calls k _ _ l0 t885 _ ?side1 ?side2 A5.out).mono ?_); (case side1 => exact ch_ HR0 HB); (case side2 => exact HC0.out); rintro e w23 ⟨v886, rfl, ho0, hb⟩; refine ⟨_, rfl, ?_⟩; have HO887 := Aside0.mk (Kd.Q_lower ho0 (below_size (bl_ HB.out))); replace HB := bo_ HB hb; (try clear hb); (try clear ho0)) | ((with_reducible refine gate_dst (N := 4) rfl ?_); refine bx_ 4 #[.slice none 0 0] 29 ?_; intro gb888 hg w24 hbox hb; replace HO887 := Aside0.mk (Kd.Q_below (qe_ HO887.out) hb); have BK888 := Aside0.mk (hbox); have GW888 := gw_ hg HB; have GE888 := gw_ hg HB; replace HB := bo_ HB hb; clear hb hbox hg; obtain ⟨Ao25, co25, eo25, _⟩ := Kd.Q_slice HO887.out; subst eo25; have hcz26_0 := cz_ BK888; have hfz26_0 := blk_frozen BK888.out 0) | ((with_reducible refine gate_callee (f := 6) rfl ?_); refine gL_ (some 15) Tryz.func6 #[.int .i64 t884] ?_; (with_reducible refine (impl_DescribeExample.calls k t884 t889 _ ?sideT A6.out).mono ?_); (case sideT => exact hTab.out.below (bq_ HB)); rintro e w27 ⟨rfl, hb⟩; refine ⟨_, rfl, ?_⟩; replace HO887 := Aside0.mk (Kd.Q_below (by (with_reducible repeat (first | apply Kd.Q_alloc | apply Kd.Q_drewN | apply Kd.Q_drew)); exact (Kd.Q_mono (Kd.Q_far (p := ⟨gb888, 0, none⟩) (Kd.Q_types HO887.out BK888.out (by decide)) (fun _ hk => hk.2) (.slice Ao25 t885.length co25)) (fun _ h_ => h_.1))) hb); replace BK888 := Aside0.mk (blk_below (g := gb888) (o := .cells #[.slice Ao25 t885.length co25] 29 (0, 0)) (by (with_reducible repeat (first | refine blk_drewN ?_ _ | refine blk_drew ?_ | refine blk_alloc ?_ _)); refine blk_put (cs := #[.slice none 0 0]) ?_ 0 _ rfl; (with_reducible repeat (first | refine blk_drewN ?_ _ | refine blk_drew ?_ | refine blk_alloc ?_ _)); exact BK888.out) hb); replace HB := bp_ HB hb; (try clear hb)) | ((with_reducible refine gate_callee (f := 11) rfl ?_); refine gL_ (some 18) Tryz.func11 #[.int .i64 t884] ?_; (with_reducible refine (impl_ExampleText.calls t884 t890 _ A7.out).mono ?_); rintro e w28 ⟨rfl, hb⟩; refine ⟨_, rfl, ?_⟩; replace HO887 := Aside0.mk (Kd.Q_below (qe_ HO887.out) hb); replace BK888 := bk_ BK888 hb; replace HB := bp_ HB hb; (try clear hb)) | ((with_reducible refine gate_callee (f := 10) rfl ?_); refine gL_ (some 19) Tryz.func10 #[.string t890] ?_; (with_reducible refine (spec_ParseSemigroup.calls k t890 t891 t894 _ A8.out).mono ?_); rintro e w29 ⟨v892, rfl, ho0, hb⟩; refine ⟨_, rfl, ?_⟩; have HO893 := Aside0.mk (Kd.R_lower (Kd.R_new' ho0 (Kd.Q_lt (qe_ HO887.out))) (below_size (bq_ HB))); replace HO887 := Aside0.mk (Kd.Q_elder' (qe_ HO887.out) (Kd.R_base ho0) hb); replace BK888 := bk_ BK888 hb; replace HB := bp_ HB hb; (try clear hb); (try clear ho0)) | ((with_reducible refine gate_dst (N := 6) rfl ?_); refine bx_ 6 #[.slice none 0 0] 29 ?_; intro gb895 hg w30 hbox hb; replace HO887 := Aside0.mk (Kd.Q_below (qe_ HO887.out) hb); replace HO893 := Aside0.mk (Kd.R_below (re_ HO893.out) hb); have BK895 := Aside0.mk (hbox); have GW895 := gq_ hg (bq_ HB); have GE895 := gq_ hg (bq_ HB); replace HB := bp_ HB hb; have NB888_895 := nl_ hg BK888; have NB895_888 := ng_ hg BK888; replace BK888 := bk_ BK888 hb; clear hb hbox hg; obtain ⟨Ao31, co31, eo31⟩ := Kd.R_slice HO893.out; subst eo31; have hnb32 := NB895_888.out; have hnc32 := NB888_895.out; have hcz33_0 := cz_ BK895; have hfz33_0 := blk_frozen BK895.out 0))
             have n0_ : Aside0 (Kd.Q (Kd.int .i64) 3 (w30.setCell ⟨gb895, 0, none⟩ (.slice Ao31 t891.length co31)) w.heap.size (fun k_ => some k_ ≠ (.slice Ao31 t891.length co31 : Value).ownBlock) (.slice Ao25 t885.length co25) t885) := ⟨by (with_reducible repeat (first | apply Kd.Q_alloc | apply Kd.Q_drewN | apply Kd.Q_drew)); exact Kd.Q_mono (Kd.Q_far (p := ⟨gb895, 0, none⟩) (Kd.Q_types HO887.out BK895.out (by decide)) (fun _ hk => hk.2) (.slice Ao31 t891.length co31)) (fun _ hk => hk.1.2)⟩
             have n1_ : Aside0 (Kd.R (Kd.int .i64) 3 (w30.setCell ⟨gb895, 0, none⟩ (.slice Ao31 t891.length co31)) w.heap.size (fun k_ => some k_ ≠ (.slice Ao25 t885.length co25 : Value).ownBlock) (.slice Ao31 t891.length co31) t891) := ⟨by (with_reducible repeat (first | apply Kd.R_alloc | apply Kd.R_drewN | apply Kd.R_drew)); exact Kd.R_mono (Kd.R_far (p := ⟨gb895, 0, none⟩) (Kd.R_types HO893.out BK895.out (by decide)) (fun _ hk => hk.2) (.slice Ao31 t891.length co31)) (fun _ hk => hk.1.2)⟩
             have n2_ : Aside0 ((w30.setCell ⟨gb895, 0, none⟩ (.slice Ao31 t891.length co31)).heap[gb888]? = some (.cells #[.slice Ao25 t885.length co25] 29 (0, 0))) := ⟨by (with_reducible repeat (first | refine blk_drewN ?_ _ | refine blk_drew ?_ | refine blk_alloc ?_ _)); refine blk_far ?_ NB888_895.out _; (with_reducible repeat (first | refine blk_drewN ?_ _ | refine blk_drew ?_ | refine blk_alloc ?_ _)); exact BK888.out⟩
             have n3_ : Aside0 ((w30.setCell ⟨gb895, 0, none⟩ (.slice Ao31 t891.length co31)).heap[gb895]? = some (.cells #[.slice Ao31 t891.length co31] 29 (0, 0))) := ⟨by (with_reducible repeat (first | refine blk_drewN ?_ _ | refine blk_drew ?_ | refine blk_alloc ?_ _)); refine blk_put (cs := #[.slice none 0 0]) ?_ 0 _ rfl; (with_reducible repeat (first | refine blk_drewN ?_ _ | refine blk_drew ?_ | refine blk_alloc ?_ _)); exact BK895.out⟩
             have n4_ : Aside0 (Below w.heap.size w (w30.setCell ⟨gb895, 0, none⟩ (.slice Ao31 t891.length co31))) := ⟨bq_ HB⟩
             (try clear HO887)
             (try clear HO893)
             (try clear BK888)
             (try clear BK895)
             (try clear HB)
             generalize (w30.setCell ⟨gb895, 0, none⟩ (.slice Ao31 t891.length co31)) = w34 at n0_ n1_ n2_ n3_ n4_ ⊢
             have HO887 := n0_
             have HO893 := n1_
             have BK888 := n2_
             have BK895 := n3_
             have HB := n4_
             clear n0_ n1_ n2_ n3_ n4_
             replace HO887 := Aside0.mk (Kd.Q_drew HO887.out)
             replace HO893 := Aside0.mk (Kd.R_drew HO893.out)
             replace BK888 := Aside0.mk (blk_drew BK888.out)
             replace BK895 := Aside0.mk (blk_drew BK895.out)
             replace HB := Aside0.mk (below_drew1 HB.out)
             refine start_ (n := 40) (S := fun w' => w'.cell? ⟨gb888, 0, none⟩ = some (.slice Ao25 t885.length co25) ∧ w'.cell? ⟨gb895, 0, none⟩ = some (.slice Ao31 t891.length co31)) (ds := []) (B_ 0 40) (by kernel_rfl) rfl rfl ⟨(blk_cell BK888.out 0).trans rfl, (blk_cell BK895.out 0).trans rfl⟩ (fun hHeld => ?_); refine with_tabW laws_FnExamples.tab7 laws_FnExamples.bits7 (fun HT_ HW_ => ?_)
             generalize w34.drew = w35 at HO887 HO893 BK888 BK895 HB hHeld ⊢
             refine pu_ HT_ 0 22 (B_ 1 40) ?_
             refine pu_ HT_ 1 23 (B_ 3 40) ?_
             refine on_ HT_ 2 24 (B_ 7 40) (fun K hK => ?_)
             refine goes_ Tryz.func5 (by kernel_rfl) rfl #[.int .i64 t884] (by rfl) rfl rfl (by (try simp only [List.map_toArray, List.map_cons, List.map_nil]); first | done | rfl | (simp only [List.length_drop, List.length_take]; rfl)) ?_
             with_reducible refine (spec_DescribeExample.calls k t884 t896 _ A9.out).mono ?_
             rintro e w36 ⟨rfl, hb⟩
             refine ⟨_, rfl, ?_⟩
             replace HO887 := Aside0.mk (Kd.Q_below (qe_ HO887.out) hb)
             replace HO893 := Aside0.mk (Kd.R_below (re_ HO893.out) hb)
             replace BK888 := bk_ BK888 hb
             replace BK895 := bk_ BK895 hb
             replace HB := bp_ HB hb
             (try clear hb)
             refine hK.out _ _ ⟨(blk_cell BK888.out 0).trans rfl, (blk_cell BK895.out 0).trans rfl⟩ (fun hHeld => ?_)
             clear hK K
             refine norm_ (a' := ?_) ?_ ?_
             rotate_left
             · show Act.put _ (some 24) _ = _
               simp only [Act.put, z1_, z2_, z3_, i64_w, i32_w]
               rfl
             refine pu_ HT_ 3 25 (B_ 15 40) ?_
             refine pu_ HT_ 4 26 (B_ 31 40) ?_
             refine pu_ HT_ 5 27 (B_ 63 40) ?_
             refine pu_ HT_ 7 29 (B_ 191 40) ?_
             refine on_ HT_ 6 28 (B_ 255 40) (fun K hK => ?_)
             refine goes_ Tryz.func11 (by kernel_rfl) rfl #[.int .i64 t884] (by rfl) rfl rfl (by (try simp only [List.map_toArray, List.map_cons, List.map_nil]); first | done | rfl | (simp only [List.length_drop, List.length_take]; rfl)) ?_
             with_reducible refine (impl_ExampleText.calls t884 t897 _ A11.out).mono ?_
             rintro e w37 ⟨rfl, hb⟩
             refine ⟨_, rfl, ?_⟩
             replace HO887 := Aside0.mk (Kd.Q_below (qe_ HO887.out) hb)
             replace HO893 := Aside0.mk (Kd.R_below (re_ HO893.out) hb)
             replace BK888 := bk_ BK888 hb
             replace BK895 := bk_ BK895 hb
             replace HB := bp_ HB hb
             (try clear hb)
             refine hK.out _ _ ⟨(blk_cell BK888.out 0).trans rfl, (blk_cell BK895.out 0).trans rfl⟩ (fun hHeld => ?_)
             clear hK K
             refine norm_ (a' := ?_) ?_ ?_
             rotate_left
             · show Act.put _ (some 28) _ = _
               simp only [Act.put, z1_, z2_, z3_, i64_w, i32_w]
               rfl
             refine on_ HT_ 8 30 (B_ 511 40) (fun K hK => ?_)
             refine goes_ Tryz.func12 (by kernel_rfl) rfl #[.int .i64 t884] (by rfl) rfl rfl (by (try simp only [List.map_toArray, List.map_cons, List.map_nil]); first | done | rfl | (simp only [List.length_drop, List.length_take]; rfl)) ?_
             with_reducible refine (spec_ExampleText.calls t884 t898 _ A12.out).mono ?_
             rintro e w' ⟨rfl, ⟨nd, rfl⟩⟩
             refine ⟨_, rfl, ?_⟩
             refine hK.out _ _ ⟨(blk_cell BK888.out 0).trans rfl, (blk_cell BK895.out 0).trans rfl⟩ (fun hHeld => ?_)
             clear hK K
             refine norm_ (a' := ?_) ?_ ?_
             rotate_left
             · show Act.put _ (some 30) _ = _
               simp only [Act.put, z1_, z2_, z3_, i64_w, i32_w]
               rfl
             refine pu_ HT_ 9 31 (B_ 1023 40) ?_
             refine pu_ HT_ 10 32 (B_ 2047 40) ?_
             refine pu_ HT_ 11 33 (B_ 4095 40) ?_
             refine tk2_ HT_ HW_ hHeld 12 34 (B_ 8191 40) ?_
             refine tk2_ HT_ HW_ hHeld 14 36 (B_ 24575 40) ?_
             refine on_ HT_ 13 35 (B_ 32767 40) (fun K hK => ?_)
             refine goes_ Tryz.func13 (by kernel_rfl) rfl #[.agg #[.slice Ao25 t885.length co25]] (by rfl) rfl rfl (by (try simp only [List.map_toArray, List.map_cons, List.map_nil]); first | done | rfl | (simp only [List.length_drop, List.length_take]; rfl)) ?_
             with_reducible refine (impl_DescribeSemigroup.calls k _ _ t885 t899 _ ?side1 ?side2 ?sideT A14.out).mono ?_
             (case sideT => exact hTab.out.below (bq_ HB))
             (case side1 => exact ce_ ((Kd.Q_reads' HO887.out).2.2))
             (case side2 => exact (Kd.Q_reads' HO887.out).2.1)
             rintro e w38 ⟨rfl, hb⟩
             refine ⟨_, rfl, ?_⟩
             replace HO887 := Aside0.mk (Kd.Q_below (qe_ HO887.out) hb)
             replace HO893 := Aside0.mk (Kd.R_below (re_ HO893.out) hb)
             replace BK888 := bk_ BK888 hb
             replace BK895 := bk_ BK895 hb
             replace HB := bp_ HB hb
             (try clear hb)
             refine hK.out _ _ ⟨(blk_cell BK888.out 0).trans rfl, (blk_cell BK895.out 0).trans rfl⟩ (fun hHeld => ?_)
             clear hK K
             refine norm_ (a' := ?_) ?_ ?_
             rotate_left
             · show Act.put _ (some 35) _ = _
               simp only [Act.put, z1_, z2_, z3_, i64_w, i32_w]
               rfl
             refine on_ HT_ 15 37 (B_ 65535 40) (fun K hK => ?_)
             refine goes_ Tryz.func14 (by kernel_rfl) rfl #[.agg #[.slice Ao25 t885.length co25]] (by rfl) rfl rfl (by (try simp only [List.map_toArray, List.map_cons, List.map_nil]); first | done | rfl | (simp only [List.length_drop, List.length_take]; rfl)) ?_
             with_reducible refine (spec_DescribeSemigroup.calls k _ _ t885 t900 _ ?side1 ?side2 A15.out).mono ?_
             (case side1 => exact ce_ ((Kd.Q_reads' HO887.out).2.2))
             (case side2 => exact (Kd.Q_reads' HO887.out).2.1)
             rintro e w39 ⟨rfl, hb⟩
             refine ⟨_, rfl, ?_⟩
             replace HO887 := Aside0.mk (Kd.Q_below (qe_ HO887.out) hb)
             replace HO893 := Aside0.mk (Kd.R_below (re_ HO893.out) hb)
             replace BK888 := bk_ BK888 hb
             replace BK895 := bk_ BK895 hb
             replace HB := bp_ HB hb
             (try clear hb)
             refine hK.out _ _ ⟨(blk_cell BK888.out 0).trans rfl, (blk_cell BK895.out 0).trans rfl⟩ (fun hHeld => ?_)
             clear hK K
             refine norm_ (a' := ?_) ?_ ?_
             rotate_left
             · show Act.put _ (some 37) _ = _
               simp only [Act.put, z1_, z2_, z3_, i64_w, i32_w]
               rfl
             refine pu_ HT_ 16 38 (B_ 131071 40) ?_
             refine pu_ HT_ 17 39 (B_ 262143 40) ?_
             refine pu_ HT_ 18 40 (B_ 524287 40) ?_
             refine pu_ HT_ 19 41 (B_ 1048575 40) ?_
             refine pu_ HT_ 20 42 (B_ 2097151 40) ?_
             refine on_ HT_ 21 43 (B_ 4194303 40) (fun K hK => ?_)
             refine goes_ Tryz.func11 (by kernel_rfl) rfl #[.int .i64 t884] (by rfl) rfl rfl (by (try simp only [List.map_toArray, List.map_cons, List.map_nil]); first | done | rfl | (simp only [List.length_drop, List.length_take]; rfl)) ?_
             with_reducible refine (impl_ExampleText.calls t884 t901 _ A17.out).mono ?_
             rintro e w40 ⟨rfl, hb⟩
             refine ⟨_, rfl, ?_⟩
             replace HO887 := Aside0.mk (Kd.Q_below (qe_ HO887.out) hb)
             replace HO893 := Aside0.mk (Kd.R_below (re_ HO893.out) hb)
             replace BK888 := bk_ BK888 hb
             replace BK895 := bk_ BK895 hb
             replace HB := bp_ HB hb
             (try clear hb)
             refine hK.out _ _ ⟨(blk_cell BK888.out 0).trans rfl, (blk_cell BK895.out 0).trans rfl⟩ (fun hHeld => ?_)
             clear hK K
             refine norm_ (a' := ?_) ?_ ?_
             rotate_left
             · show Act.put _ (some 43) _ = _
               simp only [Act.put, z1_, z2_, z3_, i64_w, i32_w]
               rfl
             refine pu_ HT_ 22 44 (B_ 8388607 40) ?_
             refine pu_ HT_ 23 45 (B_ 16777215 40) ?_
             refine pu_ HT_ 24 46 (B_ 33554431 40) ?_
             refine pu_ HT_ 25 47 (B_ 67108863 40) ?_
             refine pu_ HT_ 26 48 (B_ 134217727 40) ?_
             refine pu_ HT_ 27 49 (B_ 268435455 40) ?_
             refine pu_ HT_ 28 50 (B_ 536870911 40) ?_
             refine on_ HT_ 29 51 (B_ 1073741823 40) (fun K hK => ?_)
             refine goes_ Tryz.func11 (by kernel_rfl) rfl #[.int .i64 t884] (by rfl) rfl rfl (by (try simp only [List.map_toArray, List.map_cons, List.map_nil]); first | done | rfl | (simp only [List.length_drop, List.length_take]; rfl)) ?_
             with_reducible refine (impl_ExampleText.calls t884 t902 _ A19.out).mono ?_
             rintro e w41 ⟨rfl, hb⟩
             refine ⟨_, rfl, ?_⟩
             replace HO887 := Aside0.mk (Kd.Q_below (qe_ HO887.out) hb)
             replace HO893 := Aside0.mk (Kd.R_below (re_ HO893.out) hb)
             replace BK888 := bk_ BK888 hb
             replace BK895 := bk_ BK895 hb
             replace HB := bp_ HB hb
             (try clear hb)
             refine hK.out _ _ ⟨(blk_cell BK888.out 0).trans rfl, (blk_cell BK895.out 0).trans rfl⟩ (fun hHeld => ?_)
             clear hK K
             refine norm_ (a' := ?_) ?_ ?_
             rotate_left
             · show Act.put _ (some 51) _ = _
               simp only [Act.put, z1_, z2_, z3_, i64_w, i32_w]
               rfl
             refine pu_ HT_ 30 52 (B_ 2147483647 40) ?_
             refine pu_ HT_ 31 53 (B_ 4294967295 40) ?_
             refine pu_ HT_ 32 54 (B_ 8589934591 40) ?_
             refine pu_ HT_ 33 55 (B_ 17179869183 40) ?_
             refine pu_ HT_ 34 56 (B_ 34359738367 40) ?_
             refine tk2_ HT_ HW_ hHeld 35 57 (B_ 68719476735 40) ?_
             refine on_ HT_ 36 58 (B_ 137438953471 40) (fun K hK => ?_)
             refine goes_ Tryz.func13 (by kernel_rfl) rfl #[.agg #[.slice Ao31 t891.length co31]] (by rfl) rfl rfl (by (try simp only [List.map_toArray, List.map_cons, List.map_nil]); first | done | rfl | (simp only [List.length_drop, List.length_take]; rfl)) ?_
             with_reducible refine (impl_DescribeSemigroup.calls k _ _ t891 t903 _ ?side1 ?side2 ?sideT A21.out).mono ?_
             (case sideT => exact hTab.out.below (bq_ HB))
             (case side1 => exact ce_ ((Kd.R_reads' HO893.out).2.2))
             (case side2 => exact (Kd.R_reads' HO893.out).2.1)
             rintro e w42 ⟨rfl, hb⟩
             refine ⟨_, rfl, ?_⟩
             replace HO887 := Aside0.mk (Kd.Q_below (qe_ HO887.out) hb)
             replace HO893 := Aside0.mk (Kd.R_below (re_ HO893.out) hb)
             replace BK888 := bk_ BK888 hb
             replace BK895 := bk_ BK895 hb
             replace HB := bp_ HB hb
             (try clear hb)
             refine hK.out _ _ ⟨(blk_cell BK888.out 0).trans rfl, (blk_cell BK895.out 0).trans rfl⟩ (fun hHeld => ?_)
             clear hK K
             refine norm_ (a' := ?_) ?_ ?_
             rotate_left
             · show Act.put _ (some 58) _ = _
               simp only [Act.put, z1_, z2_, z3_, i64_w, i32_w]
               rfl
             refine pu_ HT_ 37 59 (B_ 274877906943 40) ?_
             refine pu_ HT_ 38 60 (B_ 549755813887 40) ?_
             refine pu_ HT_ 39 2 (B_ 1099511627775 40) ?_
             refine done_ (done_of HT_.out (by kernel_rfl)) ?_
             try go_wp2
             go_ret
             exact ⟨rf_, bq_ HB⟩
           · rw [if_neg c20] at H
             exact absurd (H.trans (congrArg some hr_.out)) (by simp)
         · rw [if_neg c18] at H
           exact absurd (H.trans (congrArg some hr_.out)) (by simp)
       · rw [if_neg c16] at H
         exact absurd (H.trans (congrArg some hr_.out)) (by simp)
     · rw [if_neg c13] at H
       exact absurd (H.trans (congrArg some hr_.out)) (by simp)
   · rw [if_neg c10] at H
     exact absurd (H.trans (congrArg some hr_.out)) (by simp)
def laws_FnExamples.Pure : Prop := ∀ (l0 : List Int), l0.length ≤ maxLen → l0.length * 1 ≤ 140737488351232 → (∀ x ∈ l0, (Lit.int .u8 x).wf = true) → ∃ k, laws_FnExamples.f k l0 = some true
theorem laws_FnExamples.walk (P : laws_FnExamples.Pure) (a0 : Option Addr) (len0 cap0 : Nat) (z0 : List Int) (w : World) (hT : Tab_ w) (w0 : (a0 = none ∧ len0 = 0 ∧ cap0 = 0 ∧ z0 = []) ∨ ∃ x, a0 = some x ∧ len0 ≤ cap0 ∧ cap0 ≤ maxLen ∧ z0.length = cap0 ∧ (∀ i, i < z0.length → w.cell? (x.add i) = some (.int .u8 (z0.getD i 0))) ∧ ∀ n ∈ z0, (Lit.int .u8 n).wf = true) (y0 : len0 * 1 ≤ 140737488351232) :
 Calls Tryz.prog 4 #[.slice a0 len0 cap0] w fun e w' => e = .returned (.bool true) ∧ Below w.heap.size w w' := by
 obtain ⟨l0, rfl, hr0, hm0, hw0, hc0⟩ := ReadsInt.ofRowC w0
 obtain ⟨k, h⟩ := P l0 hm0 y0 hw0
 refine (laws_FnExamples.calls k _ _ l0 true w (Kd.C_of_reads (d := (0 : Int)) (h1 := fun _ => rfl) hr0) hc0 hT h).mono ?_
 rintro e w' ⟨rfl, hd⟩
 exact ⟨rfl, hd⟩
end Go.Proofs.YteaiehpgigaoaaaGreatDoor.PB
end
