-- Bundled by shake.py from this session's printed and written texts; Lean checks it.
import Derived.Test.YtapdhljbhekcdaaZFnExactArfClosurex1
import Derived.Test.YtapdhljbhekcdaaZFnExactArfClosurex8
import Derived.Test.YtapdhljbhekcdaaZFnExactArfClosurex9
section
namespace Go.Proofs.Ytapdhljbhekcdaa.PB
open Go.RowKit Go.Proofs.YtapdhljbhekcdaaW.PrintWords Go.Proofs.YtapdhljbhekcdaaW.PrintLast Go.Proofs.YtapdhljbhekcdaaW.PrintMore
set_option linter.unusedVariables false
set_option linter.unusedSimpArgs false
mutual
def impl_FromGaps.j0 : Nat → List Int → Bool → Option (List Int × Bool)
 | 0, _, _ => none
 | k + 1, x0, x23 => if x23 = true then (some (([] : List Int), false)) else (if 401 ≤ 281474976710656 then (impl_FromGaps.l0 k x0 (List.replicate 401 false) x0 (x0.length : Int) 0) else (none))
def impl_FromGaps.l0 : Nat → List Int → List Bool → List Int → Int → Int → Option (List Int × Bool)
 | 0, _, _, _, _, _ => none
 | k + 1, x0, x6, x26, x27, x28 => if x28 < x27 then (if 0 ≤ x28 then (if x28 < (x26.length : Int) then (if 0 ≤ (rd x26 x28) then (if (rd x26 x28) < (x6.length : Int) then (impl_FromGaps.l0 k x0 (x6.set ((rd x26 x28) : Int).toNat true) x26 x27 (wrap64 (x28 + 1))) else (none)) else (none)) else (none)) else (none)) else (impl_FromGaps.l1 k x0 x6 1 ([] : List Int))
def impl_FromGaps.l1 : Nat → List Int → List Bool → Int → List Int → Option (List Int × Bool)
 | 0, _, _, _, _ => none
 | k + 1, x0, x6, x10, x825000 => if x10 < (x6.length : Int) then (if 0 ≤ x10 then (impl_FromGaps.l2 k x0 x6 x10 (rdOf false x6 x10) 1 x825000) else (none)) else ((impl_IsSemigroup.f k x825000).bind fun t831 => (if t831 = true then ((impl_Gaps.f k x825000).bind fun t832 => ((slices_Equal_int_int.f k t832 x0).bind fun t835 => (if t835 = true then (some (x825000, true)) else (some (([] : List Int), false))))) else (some (([] : List Int), false))))
def impl_FromGaps.l2 : Nat → List Int → List Bool → Int → Bool → Int → List Int → Option (List Int × Bool)
 | 0, _, _, _, _, _, _ => none
 | k + 1, x0, x6, x10, x11, x12, x825000 => if (wrap64 (2 * x12)) ≤ x10 then (if x11 = true then (impl_FromGaps.l1 k x0 x6 (wrap64 (x10 + 1)) x825000) else (if 0 ≤ x12 then (if x12 < (x6.length : Int) then (if rdOf false x6 x12 = true then (impl_FromGaps.l2 k x0 x6 x10 false (wrap64 (x12 + 1)) x825000) else (if 0 ≤ (wrap64 (x10 - x12)) then (if (wrap64 (x10 - x12)) < (x6.length : Int) then (impl_FromGaps.l2 k x0 x6 x10 (!(rdOf false x6 (wrap64 (x10 - x12)))) (wrap64 (x12 + 1)) x825000) else (none)) else (none))) else (none)) else (none))) else (if x11 = true then (impl_FromGaps.l1 k x0 x6 (wrap64 (x10 + 1)) x825000) else (if x825000.length < 17592186044416 then (impl_FromGaps.l1 k x0 x6 (wrap64 (x10 + 1)) (x825000 ++ [x10])) else (none)))
end
def impl_FromGaps.f (k : Nat) (l0 : List Int) : Option (List Int × Bool) := (impl_GapClash.f k l0).bind fun bt814 => (if bt814.2.2 = true then (impl_FromGaps.j0 k l0 true) else ((impl_gapList.f k l0).bind fun t818 => (impl_FromGaps.j0 k l0 (!t818))))
set_option maxHeartbeats 8000000 in
set_option maxRecDepth 100000 in
theorem impl_FromGaps.calls (k : Nat) (A0 : Option Addr) (c0 : Nat) (l0 : List Int) (r1 : List Int) (r2 : Bool) (w : World) (hr0 : Kd.C (Kd.int .i64) w A0 l0.length l0) (hc0 : l0.length ≤ c0) (h : impl_FromGaps.f k l0 = some (r1, r2)) :
 Calls Try.prog 89 #[.slice A0 l0.length c0] w fun e w' => ∃ v0_ : Value, e = .returned (.tuple #[.agg #[v0_], .bool r2]) ∧ Kd.R (Kd.int .i64) 3 w' w.heap.size (fun _ => True) v0_ r1 ∧ Below w.heap.size w w' := by
 have hu27 := Try.underlying27
 have hu77 := Try.underlying77
 have HR0 := Aside0.mk hr0
 have HC0 := Aside0.mk hc0
 clear hr0 hc0
 have HB := Aside0.mk (Below.refl w.heap.size w)
 have H : ((impl_GapClash.f k l0).bind fun bt814 => (if bt814.2.2 = true then (impl_FromGaps.j0 k l0 true) else ((impl_gapList.f k l0).bind fun t818 => (impl_FromGaps.j0 k l0 (!t818))))) = some (r1, r2) := h
 clear h
 replace H := Option.bind_eq_some_iff.mp H
 obtain ⟨⟨t814, t815, t816⟩, A20, H⟩ := H
 replace H : (if t816 = true then (impl_FromGaps.j0 k l0 true) else ((impl_gapList.f k l0).bind fun t818 => (impl_FromGaps.j0 k l0 (!t818)))) = some (r1, r2) := H
 have A2 := Aside0.mk A20
 clear A20
 have HC3 := Aside0.mk H
 clear H
 go_enter Try.func89, Try.ntmps89
 go_upto_region 2 with (first | ((with_reducible refine gate_dst (N := 2) rfl ?_); refine box_event ?hg (N := 2) ?hd (cs := #[.slice none 0 0]) (t := 27) ?hr ?_; (case hd => rfl); (case hg => rfl); (case hr => first | (go_simp; done) | (go_simp; rfl)); intro gb813 hg w4 hbox hb; have n0_ := Aside0.mk (below_step (bl_ HB.out) hb); have n1_ := Aside0.mk (hbox); have n2_ := Aside0.mk ((by rw [hg]; exact (below_size (bl_ HB.out)) : w.heap.size ≤ gb813)); have n3_ := Aside0.mk ((by rw [hg]; exact (below_size (bl_ HB.out)) : w.heap.size ≤ gb813)); clear HB; have HB := n0_; have BK813 := n1_; have GW813 := n2_; have GE813 := n3_; clear n0_ n1_ n2_ n3_; clear hb hbox hg) | ((with_reducible refine gate_callee (f := 113) rfl ?_); refine goesL_ (some 15) rfl rfl Try.func113 (by kernel_rfl) rfl #[.slice A0 l0.length c0] rfl (by (try simp only [List.map_toArray, List.map_cons, List.map_nil]); first | done | rfl | (simp only [List.length_drop, List.length_take]; rfl)) ?_; (with_reducible refine (impl_GapClash.calls k _ _ l0 t814 t815 t816 _ ?side1 ?side2 A2.out).mono ?_); (case side1 => exact ce_ ((Kd.C_below HR0.out HB.out))); (case side2 => exact HC0.out); rintro e w5 ⟨rfl, hb⟩; refine ⟨_, rfl, ?_⟩; have n0_ := Aside0.mk (blk_below (g := gb813) (o := .cells #[.slice none 0 0] 27 (0, 0)) (be_ BK813.out) hb); have n1_ := Aside0.mk (below_step (by repeat (first | (with_reducible first | exact HB.out | apply below_alloc | apply pw_below_drewN | apply below_drew1 | refine below_set ?_ GE813.out) | exact HB.out)) hb); clear BK813; clear HB; have BK813 := n0_; have HB := n1_; clear n0_ n1_; (try clear hb); (try clear hb2); (try clear hk); (try clear hi)) | ((with_reducible refine gate_dst (N := 4) rfl ?_); refine box_event ?hg (N := 4) ?hd (cs := #[.int .i64 0, .int .i64 0]) (t := 77) ?hr ?_; (case hd => rfl); (case hg => rfl); (case hr => first | (go_simp; done) | (go_simp; rfl)); intro gb817 hg w6 hbox hb; have n0_ := Aside0.mk (blk_below (g := gb813) (o := .cells #[.slice none 0 0] 27 (0, 0)) (be_ BK813.out) hb); have n1_ := Aside0.mk (below_step (by repeat (first | (with_reducible first | exact HB.out | apply below_alloc | apply pw_below_drewN | apply below_drew1 | refine below_set ?_ GE813.out) | exact HB.out)) hb); have n2_ := Aside0.mk (hbox); have n3_ := Aside0.mk ((by rw [hg]; exact (below_size (by repeat (first | (with_reducible first | exact HB.out | apply below_alloc | apply pw_below_drewN | apply below_drew1 | refine below_set ?_ GE813.out) | exact HB.out))) : w.heap.size ≤ gb817)); have n4_ := Aside0.mk ((by rw [hg]; exact (below_size (by repeat (first | (with_reducible first | exact HB.out | apply below_alloc | apply pw_below_drewN | apply below_drew1 | refine below_set ?_ GE813.out) | exact HB.out))) : w.heap.size ≤ gb817)); have n5_ := Aside0.mk ((by rw [hg]; exact Nat.ne_of_lt (blk_lt (g := gb813) (o := .cells #[.slice none 0 0] 27 (0, 0)) (be_ BK813.out)) : gb813 ≠ gb817)); have n6_ := Aside0.mk ((by rw [hg]; exact Nat.ne_of_gt (blk_lt (g := gb813) (o := .cells #[.slice none 0 0] 27 (0, 0)) (be_ BK813.out)) : gb817 ≠ gb813)); clear BK813; clear HB; have BK813 := n0_; have HB := n1_; have BK817 := n2_; have GW817 := n3_; have GE817 := n4_; have NB813_817 := n5_; have NB817_813 := n6_; clear n0_ n1_ n2_ n3_ n4_ n5_ n6_; clear hb hbox hg; have hnb7 := NB817_813.out; have hnc7 := NB813_817.out; have hcz8_0 : w6.cell? ⟨gb817, 0, none⟩ = some (.int .i64 0) := (blk_cell BK817.out 0).trans rfl; have hcz8_1 : w6.cell? ⟨gb817, 1, none⟩ = some (.int .i64 0) := (blk_cell BK817.out 1).trans rfl; have hfz8_0 := blk_frozen BK817.out 0; have hfz8_1 := blk_frozen BK817.out 1))
 (try simp only [Act.put, z1_, z2_, z3_])
 go_cut [23] (fun v23 wc => ∃ (kq : Nat) (x23_2 : Bool), v23 = .bool x23_2 ∧ Aside0 (impl_FromGaps.j0 kq l0 x23_2 = some (r1, r2)) ∧ Aside0 (kq ≤ k) ∧ Aside0 (wc.heap[gb813]? = some (.cells #[(.slice none 0 0)] 27 (0, 0))) ∧ Aside0 (wc.heap[gb817]? = some (.cells #[.int .i64 t814, .int .i64 t815] 77 (0, 0))) ∧ Aside0 (Below w.heap.size w wc))
 case first =>
  have H := HC3.out
  clear HC3
  by_cases c9 : t816 = true
  · subst c9
    have H1 : (impl_FromGaps.j0 k l0 true) = some (r1, r2) := by rw [if_pos rfl] at H; exact H
    clear H
    have H := H1
    clear H1
    have H' := Aside0.mk H
    clear H
    go_wp2
    go_meet
    case rel => exact ⟨_, (true), (by first | rfl | (simp; done) | (simp [*]; done)), H', ⟨by first | omega | exact Nat.le_refl _⟩, ⟨by (with_reducible repeat (first | refine blk_drewN ?_ _ | refine blk_drew ?_ | refine blk_alloc ?_ _)); refine blk_far ?_ NB813_817.out _; (with_reducible repeat (first | refine blk_drewN ?_ _ | refine blk_drew ?_ | refine blk_alloc ?_ _)); refine blk_far ?_ NB813_817.out _; (with_reducible repeat (first | refine blk_drewN ?_ _ | refine blk_drew ?_ | refine blk_alloc ?_ _)); exact BK813.out⟩, ⟨by (with_reducible repeat (first | refine blk_drewN ?_ _ | refine blk_drew ?_ | refine blk_alloc ?_ _)); refine blk_put (cs := #[.int .i64 t814, .int .i64 0]) ?_ 1 _ rfl; (with_reducible repeat (first | refine blk_drewN ?_ _ | refine blk_drew ?_ | refine blk_alloc ?_ _)); refine blk_put (cs := #[.int .i64 0, .int .i64 0]) ?_ 0 _ rfl; (with_reducible repeat (first | refine blk_drewN ?_ _ | refine blk_drew ?_ | refine blk_alloc ?_ _)); exact BK817.out⟩, ⟨by repeat (first | (with_reducible first | exact HB.out | apply below_alloc | apply pw_below_drewN | apply below_drew1 | refine below_set ?_ GE813.out | refine below_set ?_ GE817.out) | exact HB.out)⟩⟩
  · replace c9 := Bool.eq_false_iff.mpr c9
    subst c9
    have H1 : ((impl_gapList.f k l0).bind fun t818 => (impl_FromGaps.j0 k l0 (!t818))) = some (r1, r2) := by rw [if_neg (show ¬ (false = true) by decide)] at H; exact H
    clear H
    have H := H1
    clear H1
    replace H := Option.bind_eq_some_iff.mp H
    obtain ⟨t818, A100, H⟩ := H
    replace H : (impl_FromGaps.j0 k l0 (!t818)) = some (r1, r2) := H
    have A10 := Aside0.mk A100
    clear A100
    have H' := Aside0.mk H
    clear H
    go_wp2_with (first | (go_at_call 114; (with_reducible refine (impl_gapList.calls k _ _ l0 t818 _ ?side1 ?side2 A10.out).mono ?_); (case side1 => exact Kd.C_below HR0.out (by repeat (first | (with_reducible first | exact HB.out | apply below_alloc | apply pw_below_drewN | apply below_drew1 | refine below_set ?_ GE813.out | refine below_set ?_ GE817.out) | exact HB.out))); (case side2 => exact HC0.out); rintro e w' ⟨rfl, ⟨nd, rfl⟩⟩))
    go_meet
    case rel => exact ⟨_, (!t818), (by first | rfl | (simp; done) | (simp [*]; done)), H', ⟨by first | omega | exact Nat.le_refl _⟩, ⟨by (with_reducible repeat (first | refine blk_drewN ?_ _ | refine blk_drew ?_ | refine blk_alloc ?_ _)); refine blk_far ?_ NB813_817.out _; (with_reducible repeat (first | refine blk_drewN ?_ _ | refine blk_drew ?_ | refine blk_alloc ?_ _)); refine blk_far ?_ NB813_817.out _; (with_reducible repeat (first | refine blk_drewN ?_ _ | refine blk_drew ?_ | refine blk_alloc ?_ _)); exact BK813.out⟩, ⟨by (with_reducible repeat (first | refine blk_drewN ?_ _ | refine blk_drew ?_ | refine blk_alloc ?_ _)); refine blk_put (cs := #[.int .i64 t814, .int .i64 0]) ?_ 1 _ rfl; (with_reducible repeat (first | refine blk_drewN ?_ _ | refine blk_drew ?_ | refine blk_alloc ?_ _)); refine blk_put (cs := #[.int .i64 0, .int .i64 0]) ?_ 0 _ rfl; (with_reducible repeat (first | refine blk_drewN ?_ _ | refine blk_drew ?_ | refine blk_alloc ?_ _)); exact BK817.out⟩, ⟨by repeat (first | (with_reducible first | exact HB.out | apply below_alloc | apply pw_below_drewN | apply below_drew1 | refine below_set ?_ GE813.out | refine below_set ?_ GE817.out) | exact HB.out)⟩⟩
 case rest =>
  clear HC3
  try clear c1
  try clear p2
  try clear c7
  try clear c8
  try clear c9
  try clear hcz8_0
  try clear hcz8_1
  try clear hfz8_0
  try clear hfz8_1
  obtain ⟨kq, x23_2, rfl, HA, HJ2, BK813, BK817, HB⟩ := hcut
  cases kq with
  | zero => exact absurd HA.out (by simp [impl_FromGaps.j0])
  | succ kj2 =>
   have H := HA.out
   clear HA
   simp only [impl_FromGaps.j0] at H
   by_cases c11 : x23_2 = true
   · subst c11
     have H1 : (some (([] : List Int), false)) = some (r1, r2) := by rw [if_pos rfl] at H; exact H
     clear H
     have H := H1
     clear H1
     simp only [Option.some.injEq, Prod.mk.injEq] at H
     obtain ⟨rfl, rfl⟩ := H
     have hnb12 := NB813_817.out
     have hnc12 := NB817_813.out
     have hcz13_0 : wc.cell? ⟨gb813, 0, none⟩ = some (.slice none 0 0) := (blk_cell BK813.out 0).trans rfl
     have hfz13_0 := blk_frozen BK813.out 0
     go_wp2
     refine bodyPost_ret (results_ct rfl _ _ gb813 27 #[.slice none 0 0] (0, 0) _ rfl (by (with_reducible repeat (first | refine blk_drewN ?_ _ | refine blk_drew ?_ | refine blk_alloc ?_ _)); refine blk_put (cs := #[.slice none 0 0]) ?_ 0 _ rfl; (with_reducible repeat (first | refine blk_drewN ?_ _ | refine blk_drew ?_ | refine blk_alloc ?_ _)); exact BK813.out) Try.underlying27 rfl (by kernel_rfl)) rfl ?_
     exact ⟨_, by first | rfl | (simp [errW_none, errW_some] <;> rfl) | (simp [*, errW_none, errW_some] <;> rfl), by first | exact Kd.R_nil _ _ _ _ _ | exact Kd.N_nil _ _ _ _ _ | exact Kd.V_nil _ _ _ _ _ | exact Kd.Q_nil _ _ _ _ _ | exact Kd.S_nil _ _ _ _ _, by repeat (first | (with_reducible first | exact HB.out | apply below_alloc | apply pw_below_drewN | apply below_drew1 | refine below_set ?_ GE813.out | refine below_set ?_ GE817.out) | exact HB.out)⟩
   · replace c11 := Bool.eq_false_iff.mpr c11
     subst c11
     have H1 : (if 401 ≤ 281474976710656 then (impl_FromGaps.l0 kj2 l0 (List.replicate 401 false) l0 (l0.length : Int) 0) else (none)) = some (r1, r2) := by rw [if_neg (show ¬ (false = true) by decide)] at H; exact H
     clear H
     have H := H1
     clear H1
     by_cases c14 : 401 ≤ 281474976710656
     · rw [if_pos c14] at H
       have c14b0 := eq_true c14
       have c14b1 : decide (401 ≤ 281474976710656) = true := decide_eq_true c14
       clear c14
       obtain ⟨y819, hy819⟩ : ∃ y_ : List Bool, y_ = (List.replicate 401 false) := ⟨_, rfl⟩
       replace H : (impl_FromGaps.l0 kj2 l0 y819 l0 (l0.length : Int) 0) = some (r1, r2) := by first | (rw [hy819]; with_reducible exact H) | (have H2_ := (Option.bind_some _ _).symm.trans H; rw [hy819]; with_reducible exact H2_) | (have H2_ := (Option.bind_some _ _).symm.trans H; with_reducible exact H2_) | with_reducible exact H | (rw [hy819]; exact H) | exact H
       have Ny819 := Aside0.mk hy819
       clear hy819
       have H' := Aside0.mk H
       clear H
       go_wp2_with (first | ((with_reducible refine gate_dst (N := 25) rfl ?_); refine Kd.R_make Kd.bool _ 4 rfl (N := 25) rfl 52 _ _ rfl 401 rfl rfl Try.underlying52 (.bool false) 1 info4 rfl (by decide) (by omega) false (ok := fun _ => True) (okp := fun _ => True) rfl (fun _ hk => hk) trivial (by omega) (by omega) (Below.refl _ _) (Nat.le_refl _) ?_; intro v820 w15 ho16 hb hg_ hnew_; clear hg_ hnew_; (first | rw [← Ny819.out] at ho16 | (simp only [Int.reduceToNat] at ho16; rw [← Ny819.out] at ho16)); have n0_ := Aside0.mk (Kd.R_lower ho16 (below_size (by repeat (first | (with_reducible first | exact HB.out | apply below_alloc | apply pw_below_drewN | apply below_drew1 | refine below_set ?_ GE813.out | refine below_set ?_ GE817.out) | exact HB.out)))); have n1_ := Aside0.mk (blk_below (g := gb813) (o := .cells #[.slice none 0 0] 27 (0, 0)) (be_ BK813.out) hb); have n2_ := Aside0.mk (blk_below (g := gb817) (o := .cells #[.int .i64 t814, .int .i64 t815] 77 (0, 0)) (be_ BK817.out) hb); have n3_ := Aside0.mk (below_step (by repeat (first | (with_reducible first | exact HB.out | apply below_alloc | apply pw_below_drewN | apply below_drew1 | refine below_set ?_ GE813.out | refine below_set ?_ GE817.out) | exact HB.out)) hb); clear BK813; clear BK817; clear HB; have HO821 := n0_; have BK813 := n1_; have BK817 := n2_; have HB := n3_; clear n0_ n1_ n2_ n3_; clear hb ho16))
       go_loopg [28] kj2 (fun kq v28 w' => ∃ (x6_2 : List Bool) (x28_2 : Int), v28 = .int .i64 x28_2 ∧ Aside0 (impl_FromGaps.l0 kq l0 x6_2 l0 (l0.length : Int) x28_2 = some (r1, r2)) ∧ Aside0 (kq ≤ kj2) ∧ Aside0 (Kd.R Kd.bool 4 w' w.heap.size (fun _ => True) v820 x6_2) ∧ Aside0 (w'.heap[gb813]? = some (.cells #[(.slice none 0 0)] 27 (0, 0))) ∧ Aside0 (w'.heap[gb817]? = some (.cells #[.int .i64 t814, .int .i64 t815] 77 (0, 0))) ∧ Aside0 (Below w.heap.size w w'))
       case atStart => exact ⟨(y819), (0), (by first | rfl | (simp; done) | (simp [*]; done)), H', ⟨Nat.le_refl _⟩, ⟨re_ HO821.out⟩, ⟨be_ BK813.out⟩, ⟨be_ BK817.out⟩, ⟨by repeat (first | (with_reducible first | exact HB.out | apply below_alloc | apply pw_below_drewN | apply below_drew1 | refine below_set ?_ GE813.out | refine below_set ?_ GE817.out) | exact HB.out)⟩⟩
       case round =>
        clear H'
        try clear c1
        try clear p2
        try clear c7
        try clear c8
        try clear c9
        try clear c11
        try clear c12
        try clear c14
        try clear c14b0
        try clear c14b1
        try clear hcz13_0
        try clear hcz8_0
        try clear hcz8_1
        try clear hfz13_0
        try clear hfz8_0
        try clear hfz8_1
        try clear p2
        obtain ⟨x6_2, x28_2, rfl, HA, HK2, HO_6, BK813, BK817, HB⟩ := hrel
        cases gk with
        | zero => exact absurd HA.out (by simp [impl_FromGaps.l0])
        | succ k2 =>
         have H := HA.out
         clear HA
         simp only [impl_FromGaps.l0] at H
         by_cases c17 : x28_2 < (l0.length : Int)
         · rw [if_pos c17] at H
           have c17b0 : decide (x28_2 < (l0.length : Int)) = true := decide_eq_true c17
           clear c17
           by_cases c18 : 0 ≤ x28_2
           · rw [if_pos c18] at H
             have c18b0 : decide (0 ≤ x28_2) = true := decide_eq_true c18
             clear c18
             by_cases c19 : x28_2 < (l0.length : Int)
             · rw [if_pos c19] at H
               have c19b0 : decide (x28_2 < (l0.length : Int)) = true := decide_eq_true c19
               clear c19
               by_cases c20 : 0 ≤ (rd l0 x28_2)
               · rw [if_pos c20] at H
                 have c20b0 : decide (0 ≤ (rd l0 x28_2)) = true := decide_eq_true c20
                 clear c20
                 by_cases c21 : (rd l0 x28_2) < (x6_2.length : Int)
                 · rw [if_pos c21] at H
                   have c21b0 : decide ((rd l0 x28_2) < (x6_2.length : Int)) = true := decide_eq_true c21
                   clear c21
                   obtain ⟨y823, hy823⟩ : ∃ y_ : List Bool, y_ = (x6_2.set ((rd l0 x28_2) : Int).toNat true) := ⟨_, rfl⟩
                   replace H : (impl_FromGaps.l0 k2 l0 y823 l0 (l0.length : Int) (wrap64 (x28_2 + 1))) = some (r1, r2) := by first | (rw [hy823]; with_reducible exact H) | (have H2_ := (Option.bind_some _ _).symm.trans H; rw [hy823]; with_reducible exact H2_) | (have H2_ := (Option.bind_some _ _).symm.trans H; with_reducible exact H2_) | with_reducible exact H | (rw [hy823]; exact H) | exact H
                   have Ny823 := Aside0.mk hy823
                   clear hy823
                   have H' := Aside0.mk H
                   clear H
                   have p822 : 0 ≤ (x28_2 : Int) := of_decide_eq_true (by first | (with_reducible assumption) | assumption)
                   have q822 : x28_2 < (l0.length : Int) := of_decide_eq_true (by first | (with_reducible assumption) | assumption)
                   obtain ⟨ad822, e822, hx822_0⟩ := Kd.at_int HR0.out x28_2 p822 q822
                   cases e822
                   (try replace hx822_0 := (HB.out.cell (World.block_lt_of_cell? w _ hx822_0)).trans hx822_0)
                   replace p822 := eq_true p822
                   replace q822 := eq_true q822
                   have p22 : 0 ≤ ((rd l0 x28_2) : Int) := of_decide_eq_true (by first | (with_reducible assumption) | assumption)
                   have q22 : ((rd l0 x28_2) : Int) < ((x6_2.length : Int) : Int) := of_decide_eq_true (by first | (with_reducible assumption) | assumption)
                   obtain ⟨go22, co22, eo22, gb22, gl22, cl22, HG22⟩ := Kd.R_form HO_6.out (by omega)
                   (first | cases eo22 | (injection eo22 with ea_ en_ ec_; (first | subst ea_ | (injection ea_ with ea_; subst ea_)); subst ec_; clear en_))
                   have GB22 := Aside0.mk gb22
                   have GG22 := Aside0.mk HG22
                   clear gb22 gl22 HG22
                   obtain ⟨hx22_0, hf22_0⟩ := Kd.R_celln false HO_6.out ((rd l0 x28_2) : Int) p22 q22
                   replace p22 := eq_true p22
                   replace q22 := eq_true q22
                   have HP23 := Kd.R_putg HO_6.out ((rd l0 x28_2) : Int) true
                   go_wp2_with (first | ((with_reducible refine gate_store (t := 4) (p := 34) rfl ?_); refine store_event (t := 4) (p := 34) (v := ?vo_w24) (w1 := (wr.setCell ⟨go22, ((rd l0 x28_2) : Int).toNat, none⟩ (.bool true))) ?hg ?ho ?hn ?hr ?_; (case ho => rfl); (case hg => rfl); (case hn => rfl); (case hr => first | (go_simp; done) | (go_simp; rfl)); intro w24 hw; have hg : wr.grownBy w24 (some go22) := (by rw [hw]; exact HP23.2); have hp_ : Kd.R Kd.bool 4 w24 w.heap.size (fun _ => True) (.slice (some ⟨go22, 0, none⟩) x6_2.length co22) y823 := (by rw [hw, Ny823.out]; exact HP23.1); clear HP23; have n0_ := Aside0.mk (hp_); have n1_ := Aside0.mk (blk_grown (g := gb813) (o := .cells #[.slice none 0 0] 27 (0, 0)) (be_ BK813.out) hg (Kd.R_ne HO_6.out BK813.out (by decide))); have n2_ := Aside0.mk (blk_grown (g := gb817) (o := .cells #[.int .i64 t814, .int .i64 t815] 77 (0, 0)) (be_ BK817.out) hg (Kd.R_ne HO_6.out BK817.out (by decide))); have n3_ := Aside0.mk ((by rw [hw]; exact below_set (HB.out) GB22.out : Below w.heap.size w w24)); clear HO_6; clear BK813; clear BK817; clear HB; have HO_6 := n0_; have BK813 := n1_; have BK817 := n2_; have HB := n3_; clear n0_ n1_ n2_ n3_; clear hg hw hp_))
                   go_roundg k2
                   case measure => have := HJ2.out; have := HK2.out; omega
                   case rel => exact ⟨(y823), (wrap64 (x28_2 + 1)), (by first | rfl | (simp; done) | (simp [*]; done)), H', ⟨by have := HJ2.out; have := HK2.out; omega⟩, ⟨re_ HO_6.out⟩, ⟨be_ BK813.out⟩, ⟨be_ BK817.out⟩, ⟨by repeat (first | (with_reducible first | exact HB.out | apply below_alloc | apply pw_below_drewN | apply below_drew1 | refine below_set ?_ GE813.out | refine below_set ?_ GE817.out) | exact HB.out)⟩⟩
                 · rw [if_neg c21] at H
                   exact absurd H (by simp)
               · rw [if_neg c20] at H
                 exact absurd H (by simp)
             · rw [if_neg c19] at H
               exact absurd H (by simp)
           · rw [if_neg c18] at H
             exact absurd H (by simp)
         · rw [if_neg c17] at H
           have c17b0 : decide (x28_2 < (l0.length : Int)) = false := decide_eq_false c17
           clear c17
           have H' := Aside0.mk H
           clear H
           go_wp2_with (first | ((with_reducible refine gate_dst (N := 9) rfl ?_); refine box_event ?hg (N := 9) ?hd (cs := #[.slice none 0 0]) (t := 27) ?hr ?_; (case hd => rfl); (case hg => rfl); (case hr => first | (go_simp; done) | (go_simp; rfl)); intro gb824 hg w25 hbox hb; have n0_ := Aside0.mk (Kd.R_below (re_ HO_6.out) hb); have n1_ := Aside0.mk (blk_below (g := gb813) (o := .cells #[.slice none 0 0] 27 (0, 0)) (be_ BK813.out) hb); have n2_ := Aside0.mk (blk_below (g := gb817) (o := .cells #[.int .i64 t814, .int .i64 t815] 77 (0, 0)) (be_ BK817.out) hb); have n3_ := Aside0.mk (below_step (by repeat (first | (with_reducible first | exact HB.out | apply below_alloc | apply pw_below_drewN | apply below_drew1 | refine below_set ?_ GE813.out | refine below_set ?_ GE817.out) | exact HB.out)) hb); have n4_ := Aside0.mk (hbox); have n5_ := Aside0.mk ((by rw [hg]; exact (below_size (by repeat (first | (with_reducible first | exact HB.out | apply below_alloc | apply pw_below_drewN | apply below_drew1 | refine below_set ?_ GE813.out | refine below_set ?_ GE817.out) | exact HB.out))) : w.heap.size ≤ gb824)); have n6_ := Aside0.mk ((by rw [hg]; exact (below_size (by repeat (first | (with_reducible first | exact HB.out | apply below_alloc | apply pw_below_drewN | apply below_drew1 | refine below_set ?_ GE813.out | refine below_set ?_ GE817.out) | exact HB.out))) : w.heap.size ≤ gb824)); have n7_ := Aside0.mk ((by rw [hg]; exact Nat.ne_of_lt (blk_lt (g := gb813) (o := .cells #[.slice none 0 0] 27 (0, 0)) (be_ BK813.out)) : gb813 ≠ gb824)); have n8_ := Aside0.mk ((by rw [hg]; exact Nat.ne_of_gt (blk_lt (g := gb813) (o := .cells #[.slice none 0 0] 27 (0, 0)) (be_ BK813.out)) : gb824 ≠ gb813)); have n9_ := Aside0.mk ((by rw [hg]; exact Nat.ne_of_lt (blk_lt (g := gb817) (o := .cells #[.int .i64 t814, .int .i64 t815] 77 (0, 0)) (be_ BK817.out)) : gb817 ≠ gb824)); have n10_ := Aside0.mk ((by rw [hg]; exact Nat.ne_of_gt (blk_lt (g := gb817) (o := .cells #[.int .i64 t814, .int .i64 t815] 77 (0, 0)) (be_ BK817.out)) : gb824 ≠ gb817)); clear HO_6; clear BK813; clear BK817; clear HB; have HO_6 := n0_; have BK813 := n1_; have BK817 := n2_; have HB := n3_; have BK824 := n4_; have GW824 := n5_; have GE824 := n6_; have NB813_824 := n7_; have NB824_813 := n8_; have NB817_824 := n9_; have NB824_817 := n10_; clear n0_ n1_ n2_ n3_ n4_ n5_ n6_ n7_ n8_ n9_ n10_; clear hb hbox hg; have hnb26 := NB824_813.out; have hnc26 := NB813_824.out; have hnb27 := NB824_817.out; have hnc27 := NB817_824.out; have hcz28_0 : w25.cell? ⟨gb824, 0, none⟩ = some (.slice none 0 0) := (blk_cell BK824.out 0).trans rfl; have hfz28_0 := blk_frozen BK824.out 0))
           go_loopg [10] k2 (fun kq v10 w' => ∃ (x10_3 : Int) (x825000_3 : List Int) (u825000 : Value), v10 = .int .i64 x10_3 ∧ Aside0 (impl_FromGaps.l1 kq l0 x6_2 x10_3 x825000_3 = some (r1, r2)) ∧ Aside0 (kq ≤ k2) ∧ Aside0 (Kd.R Kd.bool 4 w' w.heap.size (fun _ => True) v820 x6_2) ∧ Aside0 (Kd.R (Kd.int .i64) 3 w' w.heap.size (fun _ => True) u825000 x825000_3) ∧ Aside0 (w'.heap[gb813]? = some (.cells #[(.slice none 0 0)] 27 (0, 0))) ∧ Aside0 (w'.heap[gb817]? = some (.cells #[.int .i64 t814, .int .i64 t815] 77 (0, 0))) ∧ Aside0 (w'.heap[gb824]? = some (.cells #[u825000] 27 (0, 0))) ∧ Aside0 (Below w.heap.size w w'))
           case atStart => exact ⟨(1), (([] : List Int)), (.slice none 0 0), (by first | rfl | (simp; done) | (simp [*]; done)), H', ⟨Nat.le_refl _⟩, ⟨by (with_reducible repeat (first | apply Kd.R_alloc | apply Kd.R_drewN | apply Kd.R_drew)); exact Kd.R_mono (Kd.R_far (p := ⟨gb824, 0, none⟩) (Kd.R_types HO_6.out BK824.out (by decide)) (fun _ hk => hk.2) (.slice none 0 0)) (fun _ hk => trivial)⟩, ⟨by first | exact Kd.R_nil _ _ _ _ _ | exact Kd.N_nil _ _ _ _ _ | exact Kd.V_nil _ _ _ _ _ | exact Kd.Q_nil _ _ _ _ _ | exact Kd.S_nil _ _ _ _ _⟩, ⟨by (with_reducible repeat (first | refine blk_drewN ?_ _ | refine blk_drew ?_ | refine blk_alloc ?_ _)); refine blk_far ?_ NB813_824.out _; (with_reducible repeat (first | refine blk_drewN ?_ _ | refine blk_drew ?_ | refine blk_alloc ?_ _)); exact BK813.out⟩, ⟨by (with_reducible repeat (first | refine blk_drewN ?_ _ | refine blk_drew ?_ | refine blk_alloc ?_ _)); refine blk_far ?_ NB817_824.out _; (with_reducible repeat (first | refine blk_drewN ?_ _ | refine blk_drew ?_ | refine blk_alloc ?_ _)); exact BK817.out⟩, ⟨by (with_reducible repeat (first | refine blk_drewN ?_ _ | refine blk_drew ?_ | refine blk_alloc ?_ _)); refine blk_put (cs := #[.slice none 0 0]) ?_ 0 _ rfl; (with_reducible repeat (first | refine blk_drewN ?_ _ | refine blk_drew ?_ | refine blk_alloc ?_ _)); exact BK824.out⟩, ⟨by repeat (first | (with_reducible first | exact HB.out | apply below_alloc | apply pw_below_drewN | apply below_drew1 | refine below_set ?_ GE813.out | refine below_set ?_ GE817.out | refine below_set ?_ GE824.out) | exact HB.out)⟩⟩
           case round =>
            clear H'
            try clear c1
            try clear c2
            try clear p2
            try clear q2
            try clear hx2
            try clear hf2
            try clear p6
            try clear c7
            try clear c8
            try clear p8
            try clear q8
            try clear hx8
            try clear c9
            try clear c11
            try clear c12
            try clear c14
            try clear c14b0
            try clear c14b1
            try clear c17
            try clear c17b0
            try clear c18
            try clear c18b0
            try clear c19
            try clear c19b0
            try clear c20
            try clear c20b0
            try clear c21
            try clear c21b0
            try clear p22
            try clear q22
            try clear hx22
            try clear hf22
            try clear c26
            try clear c27
            try clear hcz13_0
            try clear hcz28_0
            try clear hcz8_0
            try clear hcz8_1
            try clear hfz13_0
            try clear hfz28_0
            try clear hfz8_0
            try clear hfz8_1
            try clear hx22_0
            try clear hx822_0
            try clear p2
            try clear p22
            try clear p822
            try clear q22
            try clear q822
            obtain ⟨x10_3, x825000_3, u825000, rfl, HA, HK3, HO_6, HO_825000, BK813, BK817, BK824, HB⟩ := hrel
            cases gk with
            | zero => exact absurd HA.out (by simp [impl_FromGaps.l1])
            | succ k3 =>
             have H := HA.out
             clear HA
             simp only [impl_FromGaps.l1] at H
             by_cases c29 : x10_3 < (x6_2.length : Int)
             · rw [if_pos c29] at H
               have c29b0 : decide (x10_3 < (x6_2.length : Int)) = true := decide_eq_true c29
               clear c29
               by_cases c30 : 0 ≤ x10_3
               · rw [if_pos c30] at H
                 have c30b0 : decide (0 ≤ x10_3) = true := decide_eq_true c30
                 clear c30
                 have H' := Aside0.mk H
                 clear H
                 obtain ⟨Ao31, co31, eo31⟩ := Kd.R_slice HO_6.out
                 subst eo31
                 have p825 : 0 ≤ (x10_3 : Int) := of_decide_eq_true (by first | (with_reducible assumption) | assumption)
                 have q825 : x10_3 < (x6_2.length : Int) := of_decide_eq_true (by first | (with_reducible assumption) | assumption)
                 obtain ⟨ad825, e825, hx825_0⟩ := Kd.at_bool (Kd.R_reads' HO_6.out).2.2 x10_3 p825 q825
                 cases e825
                 replace p825 := eq_true p825
                 replace q825 := eq_true q825
                 go_wp2
                 go_loopg [11, 12] k3 (fun kq v11 v12 w' => ∃ (x11_4 : Bool) (x12_4 : Int), v11 = .bool x11_4 ∧ v12 = .int .i64 x12_4 ∧ Aside0 (impl_FromGaps.l2 kq l0 x6_2 x10_3 x11_4 x12_4 x825000_3 = some (r1, r2)) ∧ Aside0 (kq ≤ k3) ∧ Aside0 (Kd.R Kd.bool 4 w' w.heap.size (fun _ => True) (.slice (some ad825) x6_2.length co31) x6_2) ∧ Aside0 (Kd.R (Kd.int .i64) 3 w' w.heap.size (fun _ => True) u825000 x825000_3) ∧ Aside0 (w'.heap[gb813]? = some (.cells #[(.slice none 0 0)] 27 (0, 0))) ∧ Aside0 (w'.heap[gb817]? = some (.cells #[.int .i64 t814, .int .i64 t815] 77 (0, 0))) ∧ Aside0 (w'.heap[gb824]? = some (.cells #[u825000] 27 (0, 0))) ∧ Aside0 (Below w.heap.size w w'))
                 case atStart => exact ⟨(rdOf false x6_2 x10_3), (1), (by first | rfl | (simp; done) | (simp [*]; done)), (by first | rfl | (simp; done) | (simp [*]; done)), H', ⟨Nat.le_refl _⟩, ⟨re_ HO_6.out⟩, ⟨re_ HO_825000.out⟩, ⟨be_ BK813.out⟩, ⟨be_ BK817.out⟩, ⟨be_ BK824.out⟩, ⟨by repeat (first | (with_reducible first | exact HB.out | apply below_alloc | apply pw_below_drewN | apply below_drew1 | refine below_set ?_ GE813.out | refine below_set ?_ GE817.out | refine below_set ?_ GE824.out) | exact HB.out)⟩⟩
                 case round =>
                  clear H'
                  try clear c1
                  try clear c2
                  try clear p2
                  try clear q2
                  try clear hx2
                  try clear hf2
                  try clear c3
                  try clear p6
                  try clear c7
                  try clear c8
                  try clear p8
                  try clear q8
                  try clear hx8
                  try clear c9
                  try clear c11
                  try clear c12
                  try clear c14
                  try clear c14b0
                  try clear c14b1
                  try clear c17
                  try clear c17b0
                  try clear c18
                  try clear c18b0
                  try clear c19
                  try clear c19b0
                  try clear c20
                  try clear c20b0
                  try clear c21
                  try clear c21b0
                  try clear p22
                  try clear q22
                  try clear hx22
                  try clear hf22
                  try clear c26
                  try clear c27
                  try clear c29
                  try clear c29b0
                  try clear c30
                  try clear c30b0
                  try clear hcz13_0
                  try clear hcz28_0
                  try clear hcz8_0
                  try clear hcz8_1
                  try clear hfz13_0
                  try clear hfz28_0
                  try clear hfz8_0
                  try clear hfz8_1
                  try clear hx22_0
                  try clear hx822_0
                  try clear hx825_0
                  try clear p2
                  try clear p22
                  try clear p6
                  try clear p8
                  try clear p822
                  try clear p825
                  try clear q2
                  try clear q22
                  try clear q8
                  try clear q822
                  try clear q825
                  obtain ⟨x11_4, x12_4, rfl, rfl, HA, HK4, HO_6, HO_825000, BK813, BK817, BK824, HB⟩ := hrel
                  cases gk with
                  | zero => exact absurd HA.out (by simp [impl_FromGaps.l2])
                  | succ k4 =>
                   have H := HA.out
                   clear HA
                   simp only [impl_FromGaps.l2] at H
                   by_cases c32 : (wrap64 (2 * x12_4)) ≤ x10_3
                   · rw [if_pos c32] at H
                     have c32b0 : decide ((wrap64 (2 * x12_4)) ≤ x10_3) = true := decide_eq_true c32
                     clear c32
                     by_cases c33 : x11_4 = true
                     · subst c33
                       have H1 : (impl_FromGaps.l1 k4 l0 x6_2 (wrap64 (x10_3 + 1)) x825000_3) = some (r1, r2) := by rw [if_pos rfl] at H; exact H
                       clear H
                       have H := H1
                       clear H1
                       have H' := Aside0.mk H
                       clear H
                       go_wp2
                       go_roundg k4
                       case measure => have := HJ2.out; have := HK2.out; have := HK3.out; have := HK4.out; omega
                       case rel => exact ⟨(wrap64 (x10_3 + 1)), (x825000_3), (u825000), (by first | rfl | (simp; done) | (simp [*]; done)), H', ⟨by have := HJ2.out; have := HK2.out; have := HK3.out; have := HK4.out; omega⟩, ⟨re_ HO_6.out⟩, ⟨re_ HO_825000.out⟩, ⟨be_ BK813.out⟩, ⟨be_ BK817.out⟩, ⟨be_ BK824.out⟩, ⟨by repeat (first | (with_reducible first | exact HB.out | apply below_alloc | apply pw_below_drewN | apply below_drew1 | refine below_set ?_ GE813.out | refine below_set ?_ GE817.out | refine below_set ?_ GE824.out) | exact HB.out)⟩⟩
                     · replace c33 := Bool.eq_false_iff.mpr c33
                       subst c33
                       have H1 : (if 0 ≤ x12_4 then (if x12_4 < (x6_2.length : Int) then (if rdOf false x6_2 x12_4 = true then (impl_FromGaps.l2 k4 l0 x6_2 x10_3 false (wrap64 (x12_4 + 1)) x825000_3) else (if 0 ≤ (wrap64 (x10_3 - x12_4)) then (if (wrap64 (x10_3 - x12_4)) < (x6_2.length : Int) then (impl_FromGaps.l2 k4 l0 x6_2 x10_3 (!(rdOf false x6_2 (wrap64 (x10_3 - x12_4)))) (wrap64 (x12_4 + 1)) x825000_3) else (none)) else (none))) else (none)) else (none)) = some (r1, r2) := by rw [if_neg (show ¬ (false = true) by decide)] at H; exact H
                       clear H
                       have H := H1
                       clear H1
                       by_cases c34 : 0 ≤ x12_4
                       · rw [if_pos c34] at H
                         have c34b0 : decide (0 ≤ x12_4) = true := decide_eq_true c34
                         clear c34
                         by_cases c35 : x12_4 < (x6_2.length : Int)
                         · rw [if_pos c35] at H
                           have c35b0 : decide (x12_4 < (x6_2.length : Int)) = true := decide_eq_true c35
                           clear c35
                           obtain ⟨bq36, hbq36⟩ : ∃ b_ : Bool, b_ = (rdOf false x6_2 x12_4) := ⟨_, rfl⟩
                           replace H : (if bq36 = true then (impl_FromGaps.l2 k4 l0 x6_2 x10_3 false (wrap64 (x12_4 + 1)) x825000_3) else (if 0 ≤ (wrap64 (x10_3 - x12_4)) then (if (wrap64 (x10_3 - x12_4)) < (x6_2.length : Int) then (impl_FromGaps.l2 k4 l0 x6_2 x10_3 (!(rdOf false x6_2 (wrap64 (x10_3 - x12_4)))) (wrap64 (x12_4 + 1)) x825000_3) else (none)) else (none))) = some (r1, r2) := by rw [← hbq36] at H; exact H
                           have Nbq36 := Aside0.mk hbq36
                           clear hbq36
                           by_cases c37 : bq36 = true
                           · subst c37
                             have H1 : (impl_FromGaps.l2 k4 l0 x6_2 x10_3 false (wrap64 (x12_4 + 1)) x825000_3) = some (r1, r2) := by rw [if_pos rfl] at H; exact H
                             clear H
                             have H := H1
                             clear H1
                             have H' := Aside0.mk H
                             clear H
                             have p826 : 0 ≤ (x12_4 : Int) := of_decide_eq_true (by first | (with_reducible assumption) | assumption)
                             have q826 : x12_4 < (x6_2.length : Int) := of_decide_eq_true (by first | (with_reducible assumption) | assumption)
                             obtain ⟨ad826, e826, hx826_0⟩ := Kd.at_bool (Kd.R_reads' HO_6.out).2.2 x12_4 p826 q826
                             (try rw [← Nbq36.out] at hx826_0)
                             obtain rfl : ad825 = ad826 := (by injection e826)
                             replace p826 := eq_true p826
                             replace q826 := eq_true q826
                             go_wp2
                             go_roundg k4
                             case measure => have := HJ2.out; have := HK2.out; have := HK3.out; have := HK4.out; omega
                             case rel => exact ⟨(false), (wrap64 (x12_4 + 1)), (by first | rfl | (simp; done) | (simp [*]; done)), (by first | rfl | (simp; done) | (simp [*]; done)), H', ⟨by have := HJ2.out; have := HK2.out; have := HK3.out; have := HK4.out; omega⟩, ⟨re_ HO_6.out⟩, ⟨re_ HO_825000.out⟩, ⟨be_ BK813.out⟩, ⟨be_ BK817.out⟩, ⟨be_ BK824.out⟩, ⟨by repeat (first | (with_reducible first | exact HB.out | apply below_alloc | apply pw_below_drewN | apply below_drew1 | refine below_set ?_ GE813.out | refine below_set ?_ GE817.out | refine below_set ?_ GE824.out) | exact HB.out)⟩⟩
                           · replace c37 := Bool.eq_false_iff.mpr c37
                             subst c37
                             have H1 : (if 0 ≤ (wrap64 (x10_3 - x12_4)) then (if (wrap64 (x10_3 - x12_4)) < (x6_2.length : Int) then (impl_FromGaps.l2 k4 l0 x6_2 x10_3 (!(rdOf false x6_2 (wrap64 (x10_3 - x12_4)))) (wrap64 (x12_4 + 1)) x825000_3) else (none)) else (none)) = some (r1, r2) := by rw [if_neg (show ¬ (false = true) by decide)] at H; exact H
                             clear H
                             have H := H1
                             clear H1
                             obtain ⟨ji38, hji38⟩ : ∃ j_ : Int, (wrap64 (x10_3 - x12_4)) = j_ := ⟨_, rfl⟩
                             replace H : (if 0 ≤ (ji38) then (if (ji38) < (x6_2.length : Int) then (impl_FromGaps.l2 k4 l0 x6_2 x10_3 (!(rdOf false x6_2 (ji38))) (wrap64 (x12_4 + 1)) x825000_3) else (none)) else (none)) = some (r1, r2) := by first | (rw [hji38] at H; exact H) | (simp only [hji38] at H ⊢; exact H)
                             have hji38w : (IntKind.i64.wrap (x10_3 - x12_4)) = ji38 := (i64_w _).trans hji38
                             by_cases c39 : 0 ≤ (ji38)
                             · rw [if_pos c39] at H
                               have c39b0 : decide (0 ≤ (ji38)) = true := decide_eq_true c39
                               clear c39
                               by_cases c40 : (ji38) < (x6_2.length : Int)
                               · rw [if_pos c40] at H
                                 have c40b0 : decide ((ji38) < (x6_2.length : Int)) = true := decide_eq_true c40
                                 clear c40
                                 have H' := Aside0.mk H
                                 clear H
                                 have p826 : 0 ≤ (x12_4 : Int) := of_decide_eq_true (by first | (with_reducible assumption) | assumption)
                                 have q826 : x12_4 < (x6_2.length : Int) := of_decide_eq_true (by first | (with_reducible assumption) | assumption)
                                 obtain ⟨ad826, e826, hx826_0⟩ := Kd.at_bool (Kd.R_reads' HO_6.out).2.2 x12_4 p826 q826
                                 (try rw [← Nbq36.out] at hx826_0)
                                 obtain rfl : ad825 = ad826 := (by injection e826)
                                 replace p826 := eq_true p826
                                 replace q826 := eq_true q826
                                 have p827 : 0 ≤ ((ji38) : Int) := of_decide_eq_true (by first | (with_reducible assumption) | assumption)
                                 have q827 : (ji38) < (x6_2.length : Int) := of_decide_eq_true (by first | (with_reducible assumption) | assumption)
                                 obtain ⟨ad827, e827, hx827_0⟩ := Kd.at_bool (Kd.R_reads' HO_6.out).2.2 (ji38) p827 q827
                                 (try rw [← Nbq36.out] at hx827_0)
                                 obtain rfl : ad825 = ad827 := (by injection e827)
                                 replace p827 := eq_true p827
                                 replace q827 := eq_true q827
                                 go_wp2
                                 go_roundg k4
                                 case measure => have := HJ2.out; have := HK2.out; have := HK3.out; have := HK4.out; omega
                                 case rel => exact ⟨(!(rdOf false x6_2 (ji38))), (wrap64 (x12_4 + 1)), (by first | rfl | (simp; done) | (simp only [← hji38] <;> (first | rfl | simp)) | (simp [*]; done)), (by first | rfl | (simp; done) | (simp [*]; done)), H', ⟨by have := HJ2.out; have := HK2.out; have := HK3.out; have := HK4.out; omega⟩, ⟨re_ HO_6.out⟩, ⟨re_ HO_825000.out⟩, ⟨be_ BK813.out⟩, ⟨be_ BK817.out⟩, ⟨be_ BK824.out⟩, ⟨by repeat (first | (with_reducible first | exact HB.out | apply below_alloc | apply pw_below_drewN | apply below_drew1 | refine below_set ?_ GE813.out | refine below_set ?_ GE817.out | refine below_set ?_ GE824.out) | exact HB.out)⟩⟩
                               · rw [if_neg c40] at H
                                 exact absurd H (by simp)
                             · rw [if_neg c39] at H
                               exact absurd H (by simp)
                         · rw [if_neg c35] at H
                           exact absurd H (by simp)
                       · rw [if_neg c34] at H
                         exact absurd H (by simp)
                   · rw [if_neg c32] at H
                     have c32b0 : decide ((wrap64 (2 * x12_4)) ≤ x10_3) = false := decide_eq_false c32
                     clear c32
                     by_cases c41 : x11_4 = true
                     · subst c41
                       have H1 : (impl_FromGaps.l1 k4 l0 x6_2 (wrap64 (x10_3 + 1)) x825000_3) = some (r1, r2) := by rw [if_pos rfl] at H; exact H
                       clear H
                       have H := H1
                       clear H1
                       have H' := Aside0.mk H
                       clear H
                       go_wp2
                       go_roundg k4
                       case measure => have := HJ2.out; have := HK2.out; have := HK3.out; have := HK4.out; omega
                       case rel => exact ⟨(wrap64 (x10_3 + 1)), (x825000_3), (u825000), (by first | rfl | (simp; done) | (simp [*]; done)), H', ⟨by have := HJ2.out; have := HK2.out; have := HK3.out; have := HK4.out; omega⟩, ⟨re_ HO_6.out⟩, ⟨re_ HO_825000.out⟩, ⟨be_ BK813.out⟩, ⟨be_ BK817.out⟩, ⟨be_ BK824.out⟩, ⟨by repeat (first | (with_reducible first | exact HB.out | apply below_alloc | apply pw_below_drewN | apply below_drew1 | refine below_set ?_ GE813.out | refine below_set ?_ GE817.out | refine below_set ?_ GE824.out) | exact HB.out)⟩⟩
                     · replace c41 := Bool.eq_false_iff.mpr c41
                       subst c41
                       have H1 : (if x825000_3.length < 17592186044416 then (impl_FromGaps.l1 k4 l0 x6_2 (wrap64 (x10_3 + 1)) (x825000_3 ++ [x10_3])) else (none)) = some (r1, r2) := by rw [if_neg (show ¬ (false = true) by decide)] at H; exact H
                       clear H
                       have H := H1
                       clear H1
                       by_cases c42 : x825000_3.length < 17592186044416
                       · rw [if_pos c42] at H
                         have LMc42 := Aside0.mk c42
                         clear c42
                         obtain ⟨y828, hy828⟩ : ∃ y_ : List Int, y_ = (x825000_3 ++ [x10_3]) := ⟨_, rfl⟩
                         replace H : (impl_FromGaps.l1 k4 l0 x6_2 (wrap64 (x10_3 + 1)) y828) = some (r1, r2) := by first | (rw [hy828]; with_reducible exact H) | (have H2_ := (Option.bind_some _ _).symm.trans H; rw [hy828]; with_reducible exact H2_) | (have H2_ := (Option.bind_some _ _).symm.trans H; with_reducible exact H2_) | with_reducible exact H | (rw [hy828]; exact H) | exact H
                         have Ny828 := Aside0.mk hy828
                         clear hy828
                         have H' := Aside0.mk H
                         clear H
                         have hnb43 := NB824_813.out
                         have hnc43 := NB813_824.out
                         have hnb44 := NB824_817.out
                         have hnc44 := NB817_824.out
                         have hcz45_0 : wr.cell? ⟨gb824, 0, none⟩ = some (u825000) := (blk_cell BK824.out 0).trans rfl
                         have hfz45_0 := blk_frozen BK824.out 0
                         go_wp2_with (first | ((with_reducible refine gate_builtin (b := .append) (xs := #[.tmp 74, .tmp 76]) rfl ?_); at_builtin; refine Kd.R_append (Kd.int .i64) (w0 := w) w.heap.size rfl (.tmp 74) (.tmp 76) 22 3 (.int .i64 0) 8 rfl Try.underlying22 info3 rfl (by decide) (by omega) u825000 x825000_3 x10_3 [.int .i64 x10_3] (fun _ => True) (fun _ => False) rfl rfl ?aP (fun _ hk => hk.elim) ?aF ?aO ?aB ?aS ?aL ?_; (case aP => exact rfl); (case aB => exact (by repeat (first | (with_reducible first | exact HB.out | apply below_alloc | apply pw_below_drewN | apply below_drew1 | refine below_set ?_ GE813.out | refine below_set ?_ GE817.out | refine below_set ?_ GE824.out) | exact HB.out))); (case aF => exact (fun _ _ => trivial)); (case aO => exact (re_ HO_825000.out)); (case aS => exact (below_size (by repeat (first | (with_reducible first | exact HB.out | apply below_alloc | apply pw_below_drewN | apply below_drew1 | refine below_set ?_ GE813.out | refine below_set ?_ GE817.out | refine below_set ?_ GE824.out) | exact HB.out)))); (case aL => have := LMc42.out; omega); intro v829 w46 ho hb hg hat; rw [← Ny828.out] at ho; have n0_ := Aside0.mk (Kd.R_over' (re_ HO_6.out) (Kd.R_typed (re_ HO_825000.out)) (by decide) hg); have n1_ := Aside0.mk (blk_grown (g := gb813) (o := .cells #[.slice none 0 0] 27 (0, 0)) (be_ BK813.out) hg (Kd.R_ne HO_825000.out BK813.out (by decide))); have n2_ := Aside0.mk (blk_grown (g := gb817) (o := .cells #[.int .i64 t814, .int .i64 t815] 77 (0, 0)) (be_ BK817.out) hg (Kd.R_ne HO_825000.out BK817.out (by decide))); have n3_ := Aside0.mk (blk_grown (g := gb824) (o := .cells #[u825000] 27 (0, 0)) (be_ BK824.out) hg (Kd.R_ne HO_825000.out BK824.out (by decide))); have n4_ := Aside0.mk (hb); have n5_ := Aside0.mk (ho); clear HO_6; clear BK813; clear BK817; clear BK824; clear HB; clear HO_825000; have HO_6 := n0_; have BK813 := n1_; have BK817 := n2_; have BK824 := n3_; have HB := n4_; have HO830 := n5_; clear n0_ n1_ n2_ n3_ n4_ n5_; clear ho hb hg hat; obtain ⟨Ao47, co47, eo47⟩ := Kd.R_slice HO830.out; subst eo47; have hcz48_0 : w46.cell? ⟨gb824, 0, none⟩ = some (u825000) := (blk_cell BK824.out 0).trans rfl; have hfz48_0 := blk_frozen BK824.out 0))
                         go_roundg k4
                         case measure => have := HJ2.out; have := HK2.out; have := HK3.out; have := HK4.out; omega
                         case rel => exact ⟨(wrap64 (x10_3 + 1)), (y828), (.slice Ao47 y828.length co47), (by first | rfl | (simp; done) | (simp [*]; done)), H', ⟨by have := HJ2.out; have := HK2.out; have := HK3.out; have := HK4.out; omega⟩, ⟨by (with_reducible repeat (first | apply Kd.R_alloc | apply Kd.R_drewN | apply Kd.R_drew)); exact Kd.R_mono (Kd.R_far (p := ⟨gb824, 0, none⟩) (Kd.R_types HO_6.out BK824.out (by decide)) (fun _ hk => hk.2) (.slice Ao47 y828.length co47)) (fun _ hk => trivial)⟩, ⟨by (with_reducible repeat (first | apply Kd.R_alloc | apply Kd.R_drewN | apply Kd.R_drew)); exact Kd.R_mono (Kd.R_far (p := ⟨gb824, 0, none⟩) (Kd.R_types HO830.out BK824.out (by decide)) (fun _ hk => hk.2) (.slice Ao47 y828.length co47)) (fun _ hk => trivial)⟩, ⟨by (with_reducible repeat (first | refine blk_drewN ?_ _ | refine blk_drew ?_ | refine blk_alloc ?_ _)); refine blk_far ?_ NB813_824.out _; (with_reducible repeat (first | refine blk_drewN ?_ _ | refine blk_drew ?_ | refine blk_alloc ?_ _)); exact BK813.out⟩, ⟨by (with_reducible repeat (first | refine blk_drewN ?_ _ | refine blk_drew ?_ | refine blk_alloc ?_ _)); refine blk_far ?_ NB817_824.out _; (with_reducible repeat (first | refine blk_drewN ?_ _ | refine blk_drew ?_ | refine blk_alloc ?_ _)); exact BK817.out⟩, ⟨by (with_reducible repeat (first | refine blk_drewN ?_ _ | refine blk_drew ?_ | refine blk_alloc ?_ _)); refine blk_put (cs := #[u825000]) ?_ 0 _ rfl; (with_reducible repeat (first | refine blk_drewN ?_ _ | refine blk_drew ?_ | refine blk_alloc ?_ _)); exact BK824.out⟩, ⟨by repeat (first | (with_reducible first | exact HB.out | apply below_alloc | apply pw_below_drewN | apply below_drew1 | refine below_set ?_ GE813.out | refine below_set ?_ GE817.out | refine below_set ?_ GE824.out) | exact HB.out)⟩⟩
                       · rw [if_neg c42] at H
                         exact absurd H (by simp)
               · rw [if_neg c30] at H
                 exact absurd H (by simp)
             · rw [if_neg c29] at H
               have c29b0 : decide (x10_3 < (x6_2.length : Int)) = false := decide_eq_false c29
               clear c29
               replace H := Option.bind_eq_some_iff.mp H
               obtain ⟨t831, A490, H⟩ := H
               replace H : (if t831 = true then ((impl_Gaps.f k3 x825000_3).bind fun t832 => ((slices_Equal_int_int.f k3 t832 l0).bind fun t835 => (if t835 = true then (some (x825000_3, true)) else (some (([] : List Int), false))))) else (some (([] : List Int), false))) = some (r1, r2) := H
               have A49 := Aside0.mk A490
               clear A490
               by_cases c50 : t831 = true
               · subst c50
                 have H1 : ((impl_Gaps.f k3 x825000_3).bind fun t832 => ((slices_Equal_int_int.f k3 t832 l0).bind fun t835 => (if t835 = true then (some (x825000_3, true)) else (some (([] : List Int), false))))) = some (r1, r2) := by rw [if_pos rfl] at H; exact H
                 clear H
                 have H := H1
                 clear H1
                 replace H := Option.bind_eq_some_iff.mp H
                 obtain ⟨t832, A510, H⟩ := H
                 replace H : ((slices_Equal_int_int.f k3 t832 l0).bind fun t835 => (if t835 = true then (some (x825000_3, true)) else (some (([] : List Int), false)))) = some (r1, r2) := H
                 have A51 := Aside0.mk A510
                 clear A510
                 replace H := Option.bind_eq_some_iff.mp H
                 obtain ⟨t835, A520, H⟩ := H
                 replace H : (if t835 = true then (some (x825000_3, true)) else (some (([] : List Int), false))) = some (r1, r2) := H
                 have A52 := Aside0.mk A520
                 clear A520
                 by_cases c53 : t835 = true
                 · subst c53
                   have H1 : (some (x825000_3, true)) = some (r1, r2) := by rw [if_pos rfl] at H; exact H
                   clear H
                   have H := H1
                   clear H1
                   simp only [Option.some.injEq, Prod.mk.injEq] at H
                   obtain ⟨rfl, rfl⟩ := H
                   obtain ⟨Ao54, co54, eo54⟩ := Kd.R_slice HO_6.out
                   subst eo54
                   have hnb55 := NB824_813.out
                   have hnc55 := NB813_824.out
                   have hnb56 := NB824_817.out
                   have hnc56 := NB817_824.out
                   have hcz57_0 : wr.cell? ⟨gb824, 0, none⟩ = some (u825000) := (blk_cell BK824.out 0).trans rfl
                   have hfz57_0 := blk_frozen BK824.out 0
                   obtain ⟨Ao58, co58, eo58⟩ := Kd.R_slice HO_825000.out
                   subst eo58
                   go_wp2_with (first | ((with_reducible refine gate_callee (f := 56) rfl ?_); refine goesL_ (some 80) rfl rfl Try.func56 (by kernel_rfl) rfl #[.agg #[.slice Ao58 x825000_3.length co58]] rfl (by (try simp only [List.map_toArray, List.map_cons, List.map_nil]); first | done | rfl | (simp only [List.length_drop, List.length_take]; rfl)) ?_; (with_reducible refine (impl_IsSemigroup.calls k3 _ _ x825000_3 true _ ?side1 ?side2 A49.out).mono ?_); (case side1 => exact ce_ ((Kd.R_reads' HO_825000.out).2.2)); (case side2 => exact (Kd.R_reads' HO_825000.out).2.1); rintro e w59 ⟨rfl, hb⟩; refine ⟨_, rfl, ?_⟩; have n0_ := Aside0.mk (Kd.R_below (re_ HO_6.out) hb); have n1_ := Aside0.mk (Kd.R_below (re_ HO_825000.out) hb); have n2_ := Aside0.mk (blk_below (g := gb813) (o := .cells #[.slice none 0 0] 27 (0, 0)) (be_ BK813.out) hb); have n3_ := Aside0.mk (blk_below (g := gb817) (o := .cells #[.int .i64 t814, .int .i64 t815] 77 (0, 0)) (be_ BK817.out) hb); have n4_ := Aside0.mk (blk_below (g := gb824) (o := .cells #[.slice Ao58 x825000_3.length co58] 27 (0, 0)) (be_ BK824.out) hb); have n5_ := Aside0.mk (below_step (by repeat (first | (with_reducible first | exact HB.out | apply below_alloc | apply pw_below_drewN | apply below_drew1 | refine below_set ?_ GE813.out | refine below_set ?_ GE817.out | refine below_set ?_ GE824.out) | exact HB.out)) hb); clear HO_6; clear HO_825000; clear BK813; clear BK817; clear BK824; clear HB; have HO_6 := n0_; have HO_825000 := n1_; have BK813 := n2_; have BK817 := n3_; have BK824 := n4_; have HB := n5_; clear n0_ n1_ n2_ n3_ n4_ n5_; (try clear hb); (try clear hb2); (try clear hk); (try clear hi); have hcz60_0 : w59.cell? ⟨gb824, 0, none⟩ = some (.slice Ao58 x825000_3.length co58) := (blk_cell BK824.out 0).trans rfl; have hfz60_0 := blk_frozen BK824.out 0) | (go_at_call 105; (with_reducible refine (impl_Gaps.calls k3 _ _ x825000_3 t832 _ ?side1 ?side2 A51.out).mono ?_); (case side1 => exact ce_ ((Kd.R_reads' HO_825000.out).2.2)); (case side2 => exact (Kd.R_reads' HO_825000.out).2.1); rintro e w61 ⟨v833, rfl, ho0, hb⟩; have n0_ := Aside0.mk (Kd.R_below (re_ HO_6.out) hb); have n1_ := Aside0.mk (Kd.R_elder' (re_ HO_825000.out) (Kd.R_base ho0) hb); have n2_ := Aside0.mk (Kd.R_lower (Kd.R_new' ho0 (Kd.R_lt (re_ HO_825000.out))) (below_size (by repeat (first | (with_reducible first | exact HB.out | apply below_alloc | apply pw_below_drewN | apply below_drew1 | refine below_set ?_ GE813.out | refine below_set ?_ GE817.out | refine below_set ?_ GE824.out) | exact HB.out)))); have n3_ := Aside0.mk (blk_below (g := gb813) (o := .cells #[.slice none 0 0] 27 (0, 0)) (be_ BK813.out) hb); have n4_ := Aside0.mk (blk_below (g := gb817) (o := .cells #[.int .i64 t814, .int .i64 t815] 77 (0, 0)) (be_ BK817.out) hb); have n5_ := Aside0.mk (blk_below (g := gb824) (o := .cells #[.slice Ao58 x825000_3.length co58] 27 (0, 0)) (be_ BK824.out) hb); have n6_ := Aside0.mk (below_step (by repeat (first | (with_reducible first | exact HB.out | apply below_alloc | apply pw_below_drewN | apply below_drew1 | refine below_set ?_ GE813.out | refine below_set ?_ GE817.out | refine below_set ?_ GE824.out) | exact HB.out)) hb); clear HO_6; clear HO_825000; clear BK813; clear BK817; clear BK824; clear HB; have HO_6 := n0_; have HO_825000 := n1_; have HO834 := n2_; have BK813 := n3_; have BK817 := n4_; have BK824 := n5_; have HB := n6_; clear n0_ n1_ n2_ n3_ n4_ n5_ n6_; (try clear hb); (try clear hb2); (try clear hk); (try clear hi); (try clear ho0); obtain ⟨Ao62, co62, eo62⟩ := Kd.R_slice HO834.out; subst eo62) | (go_at_call 115; (with_reducible refine (slices_Equal_int_int.calls k3 _ _ t832 _ _ l0 true _ ?side1 ?side2 ?side3 ?side4 A52.out).mono ?_); (case side1 => exact ce_ ((Kd.R_reads' HO834.out).2.2)); (case side2 => exact (Kd.R_reads' HO834.out).2.1); (case side3 => exact ce_ ((Kd.C_below HR0.out HB.out))); (case side4 => exact HC0.out); rintro e w' ⟨rfl, ⟨nd, rfl⟩⟩; (try (rw [drewN_self w61]; generalize hq_ : World.drewN w61 _ = w61; have n0_ : Aside0 (Kd.R (Kd.int .i64) 3 w61 w.heap.size (fun k_ => some k_ ≠ (.slice Ao58 x825000_3.length co58 : Value).ownBlock) (.slice Ao62 t832.length co62) t832) := ⟨by rw [← hq_]; exact (by (with_reducible repeat (first | apply Kd.R_alloc | apply Kd.R_drewN | apply Kd.R_drew)); exact Kd.R_mono HO834.out (fun _ hk => hk.2))⟩; have n1_ : Aside0 (Kd.R Kd.bool 4 w61 w.heap.size (fun _ => True) (.slice Ao54 x6_2.length co54) x6_2) := ⟨by rw [← hq_]; exact (re_ HO_6.out)⟩; have n2_ : Aside0 (Kd.R (Kd.int .i64) 3 w61 w.heap.size (fun k_ => some k_ ≠ (.slice Ao62 t832.length co62 : Value).ownBlock) (.slice Ao58 x825000_3.length co58) x825000_3) := ⟨by rw [← hq_]; exact (by (with_reducible repeat (first | apply Kd.R_alloc | apply Kd.R_drewN | apply Kd.R_drew)); exact Kd.R_mono HO_825000.out (fun _ hk => hk.2))⟩; have n3_ : Aside0 (w61.heap[gb813]? = some (.cells #[.slice none 0 0] 27 (0, 0))) := ⟨by rw [← hq_]; exact (be_ BK813.out)⟩; have n4_ : Aside0 (w61.heap[gb817]? = some (.cells #[.int .i64 t814, .int .i64 t815] 77 (0, 0))) := ⟨by rw [← hq_]; exact (be_ BK817.out)⟩; have n5_ : Aside0 (w61.heap[gb824]? = some (.cells #[.slice Ao58 x825000_3.length co58] 27 (0, 0))) := ⟨by rw [← hq_]; exact (be_ BK824.out)⟩; have n6_ : Aside0 (Below w.heap.size w w61) := ⟨by rw [← hq_]; exact (by repeat (first | (with_reducible first | exact HB.out | apply below_alloc | apply pw_below_drewN | apply below_drew1 | refine below_set ?_ GE813.out | refine below_set ?_ GE817.out | refine below_set ?_ GE824.out) | exact HB.out))⟩; clear HO834 HO_6 HO_825000 BK813 BK817 BK824 HB hq_; have HO834 := n0_; have HO_6 := n1_; have HO_825000 := n2_; have BK813 := n3_; have BK817 := n4_; have BK824 := n5_; have HB := n6_; clear n0_ n1_ n2_ n3_ n4_ n5_ n6_)); have hcz63_0 : w61.cell? ⟨gb824, 0, none⟩ = some (.slice Ao58 x825000_3.length co58) := (blk_cell BK824.out 0).trans rfl; have hfz63_0 := blk_frozen BK824.out 0; have hnb64 := NB813_817.out; have hnc64 := NB817_813.out; have hcz65_0 : w61.cell? ⟨gb813, 0, none⟩ = some (.slice none 0 0) := (blk_cell BK813.out 0).trans rfl; have hfz65_0 := blk_frozen BK813.out 0))
                   refine bodyPost_ret (results_ct rfl _ _ gb813 27 #[.slice Ao58 x825000_3.length co58] (0, 0) _ rfl (by (with_reducible repeat (first | refine blk_drewN ?_ _ | refine blk_drew ?_ | refine blk_alloc ?_ _)); refine blk_put (cs := #[.slice none 0 0]) ?_ 0 _ rfl; (with_reducible repeat (first | refine blk_drewN ?_ _ | refine blk_drew ?_ | refine blk_alloc ?_ _)); exact BK813.out) Try.underlying27 rfl (by kernel_rfl)) rfl ?_
                   exact ⟨_, by first | rfl | (simp [errW_none, errW_some] <;> rfl) | (simp [*, errW_none, errW_some] <;> rfl), by (with_reducible repeat (first | apply Kd.R_alloc | apply Kd.R_drewN | apply Kd.R_drew)); exact Kd.R_mono (Kd.R_far (p := ⟨gb813, 0, none⟩) (Kd.R_types HO_825000.out BK813.out (by decide)) (fun _ hk => hk.2) (.slice Ao58 x825000_3.length co58)) (fun _ hk => trivial), by repeat (first | (with_reducible first | exact HB.out | apply below_alloc | apply pw_below_drewN | apply below_drew1 | refine below_set ?_ GE813.out | refine below_set ?_ GE817.out | refine below_set ?_ GE824.out) | exact HB.out)⟩
                 · replace c53 := Bool.eq_false_iff.mpr c53
                   subst c53
                   have H1 : (some (([] : List Int), false)) = some (r1, r2) := by rw [if_neg (show ¬ (false = true) by decide)] at H; exact H
                   clear H
                   have H := H1
                   clear H1
                   simp only [Option.some.injEq, Prod.mk.injEq] at H
                   obtain ⟨rfl, rfl⟩ := H
                   obtain ⟨Ao66, co66, eo66⟩ := Kd.R_slice HO_6.out
                   subst eo66
                   have hnb67 := NB824_813.out
                   have hnc67 := NB813_824.out
                   have hnb68 := NB824_817.out
                   have hnc68 := NB817_824.out
                   have hcz69_0 : wr.cell? ⟨gb824, 0, none⟩ = some (u825000) := (blk_cell BK824.out 0).trans rfl
                   have hfz69_0 := blk_frozen BK824.out 0
                   obtain ⟨Ao70, co70, eo70⟩ := Kd.R_slice HO_825000.out
                   subst eo70
                   go_wp2_with (first | ((with_reducible refine gate_callee (f := 56) rfl ?_); refine goesL_ (some 80) rfl rfl Try.func56 (by kernel_rfl) rfl #[.agg #[.slice Ao70 x825000_3.length co70]] rfl (by (try simp only [List.map_toArray, List.map_cons, List.map_nil]); first | done | rfl | (simp only [List.length_drop, List.length_take]; rfl)) ?_; (with_reducible refine (impl_IsSemigroup.calls k3 _ _ x825000_3 true _ ?side1 ?side2 A49.out).mono ?_); (case side1 => exact ce_ ((Kd.R_reads' HO_825000.out).2.2)); (case side2 => exact (Kd.R_reads' HO_825000.out).2.1); rintro e w71 ⟨rfl, hb⟩; refine ⟨_, rfl, ?_⟩; have n0_ := Aside0.mk (Kd.R_below (re_ HO_6.out) hb); have n1_ := Aside0.mk (Kd.R_below (re_ HO_825000.out) hb); have n2_ := Aside0.mk (blk_below (g := gb813) (o := .cells #[.slice none 0 0] 27 (0, 0)) (be_ BK813.out) hb); have n3_ := Aside0.mk (blk_below (g := gb817) (o := .cells #[.int .i64 t814, .int .i64 t815] 77 (0, 0)) (be_ BK817.out) hb); have n4_ := Aside0.mk (blk_below (g := gb824) (o := .cells #[.slice Ao70 x825000_3.length co70] 27 (0, 0)) (be_ BK824.out) hb); have n5_ := Aside0.mk (below_step (by repeat (first | (with_reducible first | exact HB.out | apply below_alloc | apply pw_below_drewN | apply below_drew1 | refine below_set ?_ GE813.out | refine below_set ?_ GE817.out | refine below_set ?_ GE824.out) | exact HB.out)) hb); clear HO_6; clear HO_825000; clear BK813; clear BK817; clear BK824; clear HB; have HO_6 := n0_; have HO_825000 := n1_; have BK813 := n2_; have BK817 := n3_; have BK824 := n4_; have HB := n5_; clear n0_ n1_ n2_ n3_ n4_ n5_; (try clear hb); (try clear hb2); (try clear hk); (try clear hi); have hcz72_0 : w71.cell? ⟨gb824, 0, none⟩ = some (.slice Ao70 x825000_3.length co70) := (blk_cell BK824.out 0).trans rfl; have hfz72_0 := blk_frozen BK824.out 0) | (go_at_call 105; (with_reducible refine (impl_Gaps.calls k3 _ _ x825000_3 t832 _ ?side1 ?side2 A51.out).mono ?_); (case side1 => exact ce_ ((Kd.R_reads' HO_825000.out).2.2)); (case side2 => exact (Kd.R_reads' HO_825000.out).2.1); rintro e w73 ⟨v833, rfl, ho0, hb⟩; have n0_ := Aside0.mk (Kd.R_below (re_ HO_6.out) hb); have n1_ := Aside0.mk (Kd.R_elder' (re_ HO_825000.out) (Kd.R_base ho0) hb); have n2_ := Aside0.mk (Kd.R_lower (Kd.R_new' ho0 (Kd.R_lt (re_ HO_825000.out))) (below_size (by repeat (first | (with_reducible first | exact HB.out | apply below_alloc | apply pw_below_drewN | apply below_drew1 | refine below_set ?_ GE813.out | refine below_set ?_ GE817.out | refine below_set ?_ GE824.out) | exact HB.out)))); have n3_ := Aside0.mk (blk_below (g := gb813) (o := .cells #[.slice none 0 0] 27 (0, 0)) (be_ BK813.out) hb); have n4_ := Aside0.mk (blk_below (g := gb817) (o := .cells #[.int .i64 t814, .int .i64 t815] 77 (0, 0)) (be_ BK817.out) hb); have n5_ := Aside0.mk (blk_below (g := gb824) (o := .cells #[.slice Ao70 x825000_3.length co70] 27 (0, 0)) (be_ BK824.out) hb); have n6_ := Aside0.mk (below_step (by repeat (first | (with_reducible first | exact HB.out | apply below_alloc | apply pw_below_drewN | apply below_drew1 | refine below_set ?_ GE813.out | refine below_set ?_ GE817.out | refine below_set ?_ GE824.out) | exact HB.out)) hb); clear HO_6; clear HO_825000; clear BK813; clear BK817; clear BK824; clear HB; have HO_6 := n0_; have HO_825000 := n1_; have HO834 := n2_; have BK813 := n3_; have BK817 := n4_; have BK824 := n5_; have HB := n6_; clear n0_ n1_ n2_ n3_ n4_ n5_ n6_; (try clear hb); (try clear hb2); (try clear hk); (try clear hi); (try clear ho0); obtain ⟨Ao74, co74, eo74⟩ := Kd.R_slice HO834.out; subst eo74) | (go_at_call 115; (with_reducible refine (slices_Equal_int_int.calls k3 _ _ t832 _ _ l0 false _ ?side1 ?side2 ?side3 ?side4 A52.out).mono ?_); (case side1 => exact ce_ ((Kd.R_reads' HO834.out).2.2)); (case side2 => exact (Kd.R_reads' HO834.out).2.1); (case side3 => exact ce_ ((Kd.C_below HR0.out HB.out))); (case side4 => exact HC0.out); rintro e w' ⟨rfl, ⟨nd, rfl⟩⟩; (try (rw [drewN_self w73]; generalize hq_ : World.drewN w73 _ = w73; have n0_ : Aside0 (Kd.R (Kd.int .i64) 3 w73 w.heap.size (fun k_ => some k_ ≠ (.slice Ao70 x825000_3.length co70 : Value).ownBlock) (.slice Ao74 t832.length co74) t832) := ⟨by rw [← hq_]; exact (by (with_reducible repeat (first | apply Kd.R_alloc | apply Kd.R_drewN | apply Kd.R_drew)); exact Kd.R_mono HO834.out (fun _ hk => hk.2))⟩; have n1_ : Aside0 (Kd.R Kd.bool 4 w73 w.heap.size (fun _ => True) (.slice Ao66 x6_2.length co66) x6_2) := ⟨by rw [← hq_]; exact (re_ HO_6.out)⟩; have n2_ : Aside0 (Kd.R (Kd.int .i64) 3 w73 w.heap.size (fun k_ => some k_ ≠ (.slice Ao74 t832.length co74 : Value).ownBlock) (.slice Ao70 x825000_3.length co70) x825000_3) := ⟨by rw [← hq_]; exact (by (with_reducible repeat (first | apply Kd.R_alloc | apply Kd.R_drewN | apply Kd.R_drew)); exact Kd.R_mono HO_825000.out (fun _ hk => hk.2))⟩; have n3_ : Aside0 (w73.heap[gb813]? = some (.cells #[.slice none 0 0] 27 (0, 0))) := ⟨by rw [← hq_]; exact (be_ BK813.out)⟩; have n4_ : Aside0 (w73.heap[gb817]? = some (.cells #[.int .i64 t814, .int .i64 t815] 77 (0, 0))) := ⟨by rw [← hq_]; exact (be_ BK817.out)⟩; have n5_ : Aside0 (w73.heap[gb824]? = some (.cells #[.slice Ao70 x825000_3.length co70] 27 (0, 0))) := ⟨by rw [← hq_]; exact (be_ BK824.out)⟩; have n6_ : Aside0 (Below w.heap.size w w73) := ⟨by rw [← hq_]; exact (by repeat (first | (with_reducible first | exact HB.out | apply below_alloc | apply pw_below_drewN | apply below_drew1 | refine below_set ?_ GE813.out | refine below_set ?_ GE817.out | refine below_set ?_ GE824.out) | exact HB.out))⟩; clear HO834 HO_6 HO_825000 BK813 BK817 BK824 HB hq_; have HO834 := n0_; have HO_6 := n1_; have HO_825000 := n2_; have BK813 := n3_; have BK817 := n4_; have BK824 := n5_; have HB := n6_; clear n0_ n1_ n2_ n3_ n4_ n5_ n6_)); have hnb75 := NB813_817.out; have hnc75 := NB817_813.out; have hcz76_0 : w73.cell? ⟨gb813, 0, none⟩ = some (.slice none 0 0) := (blk_cell BK813.out 0).trans rfl; have hfz76_0 := blk_frozen BK813.out 0))
                   refine bodyPost_ret (results_ct rfl _ _ gb813 27 #[.slice none 0 0] (0, 0) _ rfl (by (with_reducible repeat (first | refine blk_drewN ?_ _ | refine blk_drew ?_ | refine blk_alloc ?_ _)); refine blk_put (cs := #[.slice none 0 0]) ?_ 0 _ rfl; (with_reducible repeat (first | refine blk_drewN ?_ _ | refine blk_drew ?_ | refine blk_alloc ?_ _)); exact BK813.out) Try.underlying27 rfl (by kernel_rfl)) rfl ?_
                   exact ⟨_, by first | rfl | (simp [errW_none, errW_some] <;> rfl) | (simp [*, errW_none, errW_some] <;> rfl), by first | exact Kd.R_nil _ _ _ _ _ | exact Kd.N_nil _ _ _ _ _ | exact Kd.V_nil _ _ _ _ _ | exact Kd.Q_nil _ _ _ _ _ | exact Kd.S_nil _ _ _ _ _, by repeat (first | (with_reducible first | exact HB.out | apply below_alloc | apply pw_below_drewN | apply below_drew1 | refine below_set ?_ GE813.out | refine below_set ?_ GE817.out | refine below_set ?_ GE824.out) | exact HB.out)⟩
               · replace c50 := Bool.eq_false_iff.mpr c50
                 subst c50
                 have H1 : (some (([] : List Int), false)) = some (r1, r2) := by rw [if_neg (show ¬ (false = true) by decide)] at H; exact H
                 clear H
                 have H := H1
                 clear H1
                 simp only [Option.some.injEq, Prod.mk.injEq] at H
                 obtain ⟨rfl, rfl⟩ := H
                 obtain ⟨Ao77, co77, eo77⟩ := Kd.R_slice HO_6.out
                 subst eo77
                 have hnb78 := NB824_813.out
                 have hnc78 := NB813_824.out
                 have hnb79 := NB824_817.out
                 have hnc79 := NB817_824.out
                 have hcz80_0 : wr.cell? ⟨gb824, 0, none⟩ = some (u825000) := (blk_cell BK824.out 0).trans rfl
                 have hfz80_0 := blk_frozen BK824.out 0
                 obtain ⟨Ao81, co81, eo81⟩ := Kd.R_slice HO_825000.out
                 subst eo81
                 go_wp2_with (first | ((with_reducible refine gate_callee (f := 56) rfl ?_); refine goesL_ (some 80) rfl rfl Try.func56 (by kernel_rfl) rfl #[.agg #[.slice Ao81 x825000_3.length co81]] rfl (by (try simp only [List.map_toArray, List.map_cons, List.map_nil]); first | done | rfl | (simp only [List.length_drop, List.length_take]; rfl)) ?_; (with_reducible refine (impl_IsSemigroup.calls k3 _ _ x825000_3 false _ ?side1 ?side2 A49.out).mono ?_); (case side1 => exact ce_ ((Kd.R_reads' HO_825000.out).2.2)); (case side2 => exact (Kd.R_reads' HO_825000.out).2.1); rintro e w82 ⟨rfl, hb⟩; refine ⟨_, rfl, ?_⟩; have n0_ := Aside0.mk (Kd.R_below (re_ HO_6.out) hb); have n1_ := Aside0.mk (Kd.R_below (re_ HO_825000.out) hb); have n2_ := Aside0.mk (blk_below (g := gb813) (o := .cells #[.slice none 0 0] 27 (0, 0)) (be_ BK813.out) hb); have n3_ := Aside0.mk (blk_below (g := gb817) (o := .cells #[.int .i64 t814, .int .i64 t815] 77 (0, 0)) (be_ BK817.out) hb); have n4_ := Aside0.mk (blk_below (g := gb824) (o := .cells #[.slice Ao81 x825000_3.length co81] 27 (0, 0)) (be_ BK824.out) hb); have n5_ := Aside0.mk (below_step (by repeat (first | (with_reducible first | exact HB.out | apply below_alloc | apply pw_below_drewN | apply below_drew1 | refine below_set ?_ GE813.out | refine below_set ?_ GE817.out | refine below_set ?_ GE824.out) | exact HB.out)) hb); clear HO_6; clear HO_825000; clear BK813; clear BK817; clear BK824; clear HB; have HO_6 := n0_; have HO_825000 := n1_; have BK813 := n2_; have BK817 := n3_; have BK824 := n4_; have HB := n5_; clear n0_ n1_ n2_ n3_ n4_ n5_; (try clear hb); (try clear hb2); (try clear hk); (try clear hi); have hnb83 := NB813_817.out; have hnc83 := NB817_813.out; have hcz84_0 : w82.cell? ⟨gb813, 0, none⟩ = some (.slice none 0 0) := (blk_cell BK813.out 0).trans rfl; have hfz84_0 := blk_frozen BK813.out 0))
                 refine bodyPost_ret (results_ct rfl _ _ gb813 27 #[.slice none 0 0] (0, 0) _ rfl (by (with_reducible repeat (first | refine blk_drewN ?_ _ | refine blk_drew ?_ | refine blk_alloc ?_ _)); refine blk_put (cs := #[.slice none 0 0]) ?_ 0 _ rfl; (with_reducible repeat (first | refine blk_drewN ?_ _ | refine blk_drew ?_ | refine blk_alloc ?_ _)); exact BK813.out) Try.underlying27 rfl (by kernel_rfl)) rfl ?_
                 exact ⟨_, by first | rfl | (simp [errW_none, errW_some] <;> rfl) | (simp [*, errW_none, errW_some] <;> rfl), by first | exact Kd.R_nil _ _ _ _ _ | exact Kd.N_nil _ _ _ _ _ | exact Kd.V_nil _ _ _ _ _ | exact Kd.Q_nil _ _ _ _ _ | exact Kd.S_nil _ _ _ _ _, by repeat (first | (with_reducible first | exact HB.out | apply below_alloc | apply pw_below_drewN | apply below_drew1 | refine below_set ?_ GE813.out | refine below_set ?_ GE817.out | refine below_set ?_ GE824.out) | exact HB.out)⟩
     · rw [if_neg c14] at H
       exact absurd H (by simp)
end Go.Proofs.Ytapdhljbhekcdaa.PB
end
