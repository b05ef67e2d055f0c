-- Bundled by shake.py from this session's printed and written texts; Lean checks it.
import Derived.Test.YtapdhljbhekcdaaZFnExactBlowUpx1
import Derived.Test.YtapdhljbhekcdaaZFnExactBlowUpx6
import Derived.Test.YtapdhljbhekcdaaZFnExactBlowUpx7
section
namespace Go.Proofs.Ytapdhljbhekcdaa.PC
open Go.RowKit Go.Proofs.YtapdhljbhekcdaaW.PrintWords Go.Proofs.YtapdhljbhekcdaaW.PrintLast Go.Proofs.YtapdhljbhekcdaaW.PrintMore
set_option linter.unusedVariables false
set_option linter.unusedSimpArgs false
def impl_FromGens.l0 : Nat → List Int → Int → Int → List Int → Option (List Int × Bool)
 | 0, _, _, _, _ => none
 | k + 1, x13, x14, x15, x486000 => if x15 < x14 then (if 0 ≤ x15 then (if x15 < (x13.length : Int) then (if (x486000.length : Int) = 0 then (if x486000.length < 17592186044416 then (impl_FromGens.l0 k x13 x14 (wrap64 (x15 + 1)) (x486000 ++ [rd x13 x15])) else (none)) else ((impl_Generates.f k x486000 (rd x13 x15)).bind fun t493 => (if t493 = true then (impl_FromGens.l0 k x13 x14 (wrap64 (x15 + 1)) x486000) else (if x486000.length < 17592186044416 then (impl_FromGens.l0 k x13 x14 (wrap64 (x15 + 1)) (x486000 ++ [rd x13 x15])) else (none))))) else (none)) else (none)) else ((impl_IsSemigroup.f k x486000).bind fun t497 => (if t497 = true then (some (x486000, true)) else (some (([] : List Int), false))))
def impl_FromGens.f (k : Nat) (l0 : List Int) : Option (List Int × Bool) := (impl_usable.f k l0).bind fun t484 => (if t484 = true then ((impl_SortList.f k l0).bind fun t486 => (impl_FromGens.l0 k t486 (t486.length : Int) 0 ([] : List Int))) else (some (([] : List Int), false)))
set_option maxHeartbeats 8000000 in
set_option maxRecDepth 100000 in
theorem impl_FromGens.calls (k : Nat) (A0 : Option Addr) (c0 : Nat) (l0 : List Int) (r1 : List Int) (r2 : Bool) (w : World) (hr0 : Kd.C (Kd.int .i64) w A0 l0.length l0) (hc0 : l0.length ≤ c0) (h : impl_FromGens.f k l0 = some (r1, r2)) :
 Calls Try.prog 93 #[.slice A0 l0.length c0] w fun e w' => ∃ v0_ : Value, e = .returned (.tuple #[.agg #[v0_], .bool r2]) ∧ Kd.R (Kd.int .i64) 3 w' w.heap.size (fun _ => True) v0_ r1 ∧ Below w.heap.size w w' := by
 have hu27 := Try.underlying27
 have HR0 := Aside0.mk hr0
 have HC0 := Aside0.mk hc0
 clear hr0 hc0
 have HB := Aside0.mk (Below.refl w.heap.size w)
 have H : ((impl_usable.f k l0).bind fun t484 => (if t484 = true then ((impl_SortList.f k l0).bind fun t486 => (impl_FromGens.l0 k t486 (t486.length : Int) 0 ([] : List Int))) else (some (([] : List Int), false)))) = some (r1, r2) := h
 clear h
 replace H := Option.bind_eq_some_iff.mp H
 obtain ⟨t484, A20, H⟩ := H
 replace H : (if t484 = true then ((impl_SortList.f k l0).bind fun t486 => (impl_FromGens.l0 k t486 (t486.length : Int) 0 ([] : List Int))) else (some (([] : List Int), false))) = some (r1, r2) := H
 have A2 := Aside0.mk A20
 clear A20
 by_cases c3 : t484 = true
 · subst c3
   have H1 : ((impl_SortList.f k l0).bind fun t486 => (impl_FromGens.l0 k t486 (t486.length : Int) 0 ([] : List Int))) = some (r1, r2) := by rw [if_pos rfl] at H; exact H
   clear H
   have H := H1
   clear H1
   replace H := Option.bind_eq_some_iff.mp H
   obtain ⟨t486, A40, H⟩ := H
   replace H : (impl_FromGens.l0 k t486 (t486.length : Int) 0 ([] : List Int)) = some (r1, r2) := H
   have A4 := Aside0.mk A40
   clear A40
   have H' := Aside0.mk H
   clear H
   go_enter Try.func93, Try.ntmps93
   go_wp2_with (first | ((with_reducible refine gate_dst (N := 2) rfl ?_); refine box_event ?hg (N := 2) ?hd (cs := #[.slice none 0 0]) (t := 27) ?hr ?_; (case hd => rfl); (case hg => rfl); (case hr => first | (go_simp; done) | (go_simp; rfl)); intro gb483 hg w5 hbox hb; have n0_ := Aside0.mk (below_step (bl_ HB.out) hb); have n1_ := Aside0.mk (hbox); have n2_ := Aside0.mk ((by rw [hg]; exact (below_size (bl_ HB.out)) : w.heap.size ≤ gb483)); have n3_ := Aside0.mk ((by rw [hg]; exact (below_size (bl_ HB.out)) : w.heap.size ≤ gb483)); clear HB; have HB := n0_; have BK483 := n1_; have GW483 := n2_; have GE483 := n3_; clear n0_ n1_ n2_ n3_; clear hb hbox hg) | ((with_reducible refine gate_callee (f := 116) rfl ?_); refine goesL_ (some 8) rfl rfl Try.func116 (by kernel_rfl) rfl #[.slice A0 l0.length c0] rfl (by (try simp only [List.map_toArray, List.map_cons, List.map_nil]); first | done | rfl | (simp only [List.length_drop, List.length_take]; rfl)) ?_; (with_reducible refine (impl_usable.calls k _ _ l0 true _ ?side1 ?side2 A2.out).mono ?_); (case side1 => exact ce_ ((Kd.C_below HR0.out HB.out))); (case side2 => exact HC0.out); rintro e w' ⟨rfl, ⟨nd, rfl⟩⟩; refine ⟨_, rfl, ?_⟩; (try (rw [drewN_self w5]; generalize hq_ : World.drewN w5 _ = w5; have n0_ : Aside0 (w5.heap[gb483]? = some (.cells #[.slice none 0 0] 27 (0, 0))) := ⟨by rw [← hq_]; exact (be_ BK483.out)⟩; have n1_ : Aside0 (Below w.heap.size w w5) := ⟨by rw [← hq_]; exact (by repeat (first | (with_reducible first | exact HB.out | apply below_alloc | apply pw_below_drewN | apply below_drew1 | refine below_set ?_ GE483.out) | exact HB.out))⟩; clear BK483 HB hq_; have BK483 := n0_; have HB := n1_; clear n0_ n1_))) | ((with_reducible refine gate_dst (N := 4) rfl ?_); refine box_event ?hg (N := 4) ?hd (cs := #[.slice none 0 0]) (t := 27) ?hr ?_; (case hd => rfl); (case hg => rfl); (case hr => first | (go_simp; done) | (go_simp; rfl)); intro gb485 hg w6 hbox hb; have n0_ := Aside0.mk (blk_below (g := gb483) (o := .cells #[.slice none 0 0] 27 (0, 0)) (be_ BK483.out) hb); have n1_ := Aside0.mk (below_step (by repeat (first | (with_reducible first | exact HB.out | apply below_alloc | apply pw_below_drewN | apply below_drew1 | refine below_set ?_ GE483.out) | exact HB.out)) hb); have n2_ := Aside0.mk (hbox); have n3_ := Aside0.mk ((by rw [hg]; exact (below_size (by repeat (first | (with_reducible first | exact HB.out | apply below_alloc | apply pw_below_drewN | apply below_drew1 | refine below_set ?_ GE483.out) | exact HB.out))) : w.heap.size ≤ gb485)); have n4_ := Aside0.mk ((by rw [hg]; exact (below_size (by repeat (first | (with_reducible first | exact HB.out | apply below_alloc | apply pw_below_drewN | apply below_drew1 | refine below_set ?_ GE483.out) | exact HB.out))) : w.heap.size ≤ gb485)); have n5_ := Aside0.mk ((by rw [hg]; exact Nat.ne_of_lt (blk_lt (g := gb483) (o := .cells #[.slice none 0 0] 27 (0, 0)) (be_ BK483.out)) : gb483 ≠ gb485)); have n6_ := Aside0.mk ((by rw [hg]; exact Nat.ne_of_gt (blk_lt (g := gb483) (o := .cells #[.slice none 0 0] 27 (0, 0)) (be_ BK483.out)) : gb485 ≠ gb483)); clear BK483; clear HB; have BK483 := n0_; have HB := n1_; have BK485 := n2_; have GW485 := n3_; have GE485 := n4_; have NB483_485 := n5_; have NB485_483 := n6_; clear n0_ n1_ n2_ n3_ n4_ n5_ n6_; clear hb hbox hg; have hnb7 := NB485_483.out; have hnc7 := NB483_485.out; have hcz8_0 : w6.cell? ⟨gb485, 0, none⟩ = some (.slice none 0 0) := (blk_cell BK485.out 0).trans rfl; have hfz8_0 := blk_frozen BK485.out 0) | ((with_reducible refine gate_callee (f := 117) rfl ?_); refine goesL_ (some 13) rfl rfl Try.func117 (by kernel_rfl) rfl #[.slice A0 l0.length c0] rfl (by (try simp only [List.map_toArray, List.map_cons, List.map_nil]); first | done | rfl | (simp only [List.length_drop, List.length_take]; rfl)) ?_; (with_reducible refine (impl_SortList.calls k _ _ l0 t486 _ ?side1 ?side2 A4.out).mono ?_); (case side1 => exact Kd.C_below HR0.out (by repeat (first | (with_reducible first | exact HB.out | apply below_alloc | apply pw_below_drewN | apply below_drew1 | refine below_set ?_ GE483.out | refine below_set ?_ GE485.out) | exact HB.out))); (case side2 => exact HC0.out); rintro e w9 ⟨v487, rfl, ho0, hb⟩; refine ⟨_, rfl, ?_⟩; have n0_ := Aside0.mk (Kd.R_lower ho0 (below_size (by repeat (first | (with_reducible first | exact HB.out | apply below_alloc | apply pw_below_drewN | apply below_drew1 | refine below_set ?_ GE483.out | refine below_set ?_ GE485.out) | exact HB.out)))); have n1_ := Aside0.mk (blk_below (g := gb483) (o := .cells #[.slice none 0 0] 27 (0, 0)) (by (with_reducible repeat (first | refine blk_drewN ?_ _ | refine blk_drew ?_ | refine blk_alloc ?_ _)); refine blk_far ?_ NB483_485.out _; (with_reducible repeat (first | refine blk_drewN ?_ _ | refine blk_drew ?_ | refine blk_alloc ?_ _)); exact BK483.out) hb); have n2_ := Aside0.mk (blk_below (g := gb485) (o := .cells #[.slice none 0 0] 27 (0, 0)) (by (with_reducible repeat (first | refine blk_drewN ?_ _ | refine blk_drew ?_ | refine blk_alloc ?_ _)); refine blk_put (cs := #[.slice none 0 0]) ?_ 0 _ rfl; (with_reducible repeat (first | refine blk_drewN ?_ _ | refine blk_drew ?_ | refine blk_alloc ?_ _)); exact BK485.out) hb); have n3_ := Aside0.mk (below_step (by repeat (first | (with_reducible first | exact HB.out | apply below_alloc | apply pw_below_drewN | apply below_drew1 | refine below_set ?_ GE483.out | refine below_set ?_ GE485.out) | exact HB.out)) hb); clear BK483; clear BK485; clear HB; have HO488 := n0_; have BK483 := n1_; have BK485 := n2_; have HB := n3_; clear n0_ n1_ n2_ n3_; (try clear hb); (try clear hb2); (try clear hk); (try clear hi); (try clear ho0); obtain ⟨Ao10, co10, eo10⟩ := Kd.R_slice HO488.out; subst eo10))
   go_loopg [15] k (fun kq v15 w' => ∃ (x15_1 : Int) (x486000_1 : List Int) (u486000 : Value), v15 = .int .i64 x15_1 ∧ Aside0 (impl_FromGens.l0 kq t486 (t486.length : Int) x15_1 x486000_1 = some (r1, r2)) ∧ Aside0 (kq ≤ k) ∧ Aside0 (Kd.R (Kd.int .i64) 3 w' w.heap.size (fun k_ => some k_ ≠ (u486000 : Value).ownBlock) (.slice Ao10 t486.length co10) t486) ∧ Aside0 (Kd.R (Kd.int .i64) 3 w' w.heap.size (fun k_ => some k_ ≠ ((.slice Ao10 t486.length co10) : Value).ownBlock) u486000 x486000_1) ∧ Aside0 (w'.heap[gb483]? = some (.cells #[(.slice none 0 0)] 27 (0, 0))) ∧ Aside0 (w'.heap[gb485]? = some (.cells #[u486000] 27 (0, 0))) ∧ Aside0 (Below w.heap.size w w'))
   case atStart => exact ⟨(0), (([] : List Int)), (.slice none 0 0), (by first | rfl | (simp; done) | (simp [*]; done)), H', ⟨Nat.le_refl _⟩, ⟨by (with_reducible repeat (first | apply Kd.R_alloc | apply Kd.R_drewN | apply Kd.R_drew)); exact Kd.R_mono HO488.out (fun _ hk => (by simp [Value.ownBlock]))⟩, ⟨by first | exact Kd.R_nil _ _ _ _ _ | exact Kd.N_nil _ _ _ _ _ | exact Kd.V_nil _ _ _ _ _ | exact Kd.Q_nil _ _ _ _ _ | exact Kd.S_nil _ _ _ _ _⟩, ⟨be_ BK483.out⟩, ⟨be_ BK485.out⟩, ⟨by repeat (first | (with_reducible first | exact HB.out | apply below_alloc | apply pw_below_drewN | apply below_drew1 | refine below_set ?_ GE483.out | refine below_set ?_ GE485.out) | exact HB.out)⟩⟩
   case round =>
    clear H'
    try clear c1
    try clear p2
    try clear c3
    try clear c7
    try clear c9
    try clear hcz8_0
    try clear hfz8_0
    obtain ⟨x15_1, x486000_1, u486000, rfl, HA, HK1, HO_13, HO_486000, BK483, BK485, HB⟩ := hrel
    cases gk with
    | zero => exact absurd HA.out (by simp [impl_FromGens.l0])
    | succ k1 =>
     have H := HA.out
     clear HA
     simp only [impl_FromGens.l0] at H
     by_cases c11 : x15_1 < (t486.length : Int)
     · rw [if_pos c11] at H
       have c11b0 : decide (x15_1 < (t486.length : Int)) = true := decide_eq_true c11
       clear c11
       by_cases c12 : 0 ≤ x15_1
       · rw [if_pos c12] at H
         have c12b0 : decide (0 ≤ x15_1) = true := decide_eq_true c12
         clear c12
         by_cases c13 : x15_1 < (t486.length : Int)
         · rw [if_pos c13] at H
           have c13b0 : decide (x15_1 < (t486.length : Int)) = true := decide_eq_true c13
           clear c13
           by_cases c14 : (x486000_1.length : Int) = 0
           · rw [if_pos c14] at H
             have c14b0 : ((x486000_1.length : Int) == 0) = true := beq_iff_eq.mpr c14
             have c14b1 : ((x486000_1.length : Int) != 0) = false := bne_eq_false_iff_eq.mpr c14
             clear c14
             by_cases c15 : x486000_1.length < 17592186044416
             · rw [if_pos c15] at H
               have LMc15 := Aside0.mk c15
               clear c15
               obtain ⟨y490, hy490⟩ : ∃ y_ : List Int, y_ = (x486000_1 ++ [rd t486 x15_1]) := ⟨_, rfl⟩
               replace H : (impl_FromGens.l0 k1 t486 (t486.length : Int) (wrap64 (x15_1 + 1)) y490) = some (r1, r2) := by first | (rw [hy490]; with_reducible exact H) | (have H2_ := (Option.bind_some _ _).symm.trans H; rw [hy490]; with_reducible exact H2_) | (have H2_ := (Option.bind_some _ _).symm.trans H; with_reducible exact H2_) | with_reducible exact H | (rw [hy490]; exact H) | exact H
               have Ny490 := Aside0.mk hy490
               clear hy490
               as_aux_lemma =>
                have H' := Aside0.mk H
                clear H
                have p489 : 0 ≤ (x15_1 : Int) := of_decide_eq_true (by first | (with_reducible assumption) | assumption)
                have q489 : x15_1 < (t486.length : Int) := of_decide_eq_true (by first | (with_reducible assumption) | assumption)
                obtain ⟨ad489, e489, hx489_0⟩ := Kd.at_int (Kd.R_reads' HO_13.out).2.2 x15_1 p489 q489
                cases e489
                replace p489 := eq_true p489
                replace q489 := eq_true q489
                have hnb16 := NB485_483.out
                have hnc16 := NB483_485.out
                have hcz17_0 : wr.cell? ⟨gb485, 0, none⟩ = some (u486000) := (blk_cell BK485.out 0).trans rfl
                have hfz17_0 := blk_frozen BK485.out 0
                obtain ⟨Ao18, co18, eo18⟩ := Kd.R_slice HO_486000.out
                subst eo18
                go_wp2_with (first | ((with_reducible refine gate_builtin (b := .append) (xs := #[.tmp 31, .tmp 33]) rfl ?_); at_builtin; refine Kd.R_append (Kd.int .i64) (w0 := w) w.heap.size rfl (.tmp 31) (.tmp 33) 22 3 (.int .i64 0) 8 rfl Try.underlying22 info3 rfl (by decide) (by omega) (.slice Ao18 x486000_1.length co18) x486000_1 (rd t486 x15_1) [.int .i64 (rd t486 x15_1)] (fun k_ => some k_ ≠ (.slice (some ad489) t486.length co10 : Value).ownBlock) (fun _ => False) rfl rfl ?aP (fun _ hk => hk.elim) ?aF ?aO ?aB ?aS ?aL ?_; (case aP => exact rfl); (case aB => exact (by repeat (first | (with_reducible first | exact HB.out | apply below_alloc | apply pw_below_drewN | apply below_drew1 | refine below_set ?_ GE483.out | refine below_set ?_ GE485.out) | exact HB.out))); (case aF => exact (fun k_ hk => Kd.fresh' (Kd.R_lt (re_ HO_13.out)) k_ hk)); (case aO => exact (re_ HO_486000.out)); (case aS => exact (below_size (by repeat (first | (with_reducible first | exact HB.out | apply below_alloc | apply pw_below_drewN | apply below_drew1 | refine below_set ?_ GE483.out | refine below_set ?_ GE485.out) | exact HB.out)))); (case aL => have := LMc15.out; omega); intro v491 w19 ho hb hg hat; rw [← Ny490.out] at ho; have n0_ := Aside0.mk (Kd.R_after (ok := (fun _ => True)) (by (with_reducible repeat (first | apply Kd.R_alloc | apply Kd.R_drewN | apply Kd.R_drew)); exact Kd.R_mono HO_13.out (fun _ hk => ⟨trivial, hk⟩)) hg hat); have n1_ := Aside0.mk (blk_grown (g := gb483) (o := .cells #[.slice none 0 0] 27 (0, 0)) (be_ BK483.out) hg (Kd.R_ne HO_486000.out BK483.out (by decide))); have n2_ := Aside0.mk (blk_grown (g := gb485) (o := .cells #[.slice Ao18 x486000_1.length co18] 27 (0, 0)) (be_ BK485.out) hg (Kd.R_ne HO_486000.out BK485.out (by decide))); have n3_ := Aside0.mk (hb); have n4_ := Aside0.mk (ho); clear HO_13; clear BK483; clear BK485; clear HB; clear HO_486000; have HO_13 := n0_; have BK483 := n1_; have BK485 := n2_; have HB := n3_; have HO492 := n4_; clear n0_ n1_ n2_ n3_ n4_; clear ho hb hg hat; obtain ⟨Ao20, co20, eo20⟩ := Kd.R_slice HO492.out; subst eo20; have hcz21_0 : w19.cell? ⟨gb485, 0, none⟩ = some (.slice Ao18 x486000_1.length co18) := (blk_cell BK485.out 0).trans rfl; have hfz21_0 := blk_frozen BK485.out 0))
                go_roundg k1
                case measure => have := HK1.out; omega
                case rel => exact ⟨(wrap64 (x15_1 + 1)), (y490), (.slice Ao20 y490.length co20), (by first | rfl | (simp; done) | (simp [*]; done)), H', ⟨by have := HK1.out; omega⟩, ⟨by (with_reducible repeat (first | apply Kd.R_alloc | apply Kd.R_drewN | apply Kd.R_drew)); exact Kd.R_mono (Kd.R_far (p := ⟨gb485, 0, none⟩) (Kd.R_types HO_13.out BK485.out (by decide)) (fun _ hk => hk.2) (.slice Ao20 y490.length co20)) (fun _ hk => hk.1.2)⟩, ⟨by (with_reducible repeat (first | apply Kd.R_alloc | apply Kd.R_drewN | apply Kd.R_drew)); exact Kd.R_mono (Kd.R_far (p := ⟨gb485, 0, none⟩) (Kd.R_types HO492.out BK485.out (by decide)) (fun _ hk => hk.2) (.slice Ao20 y490.length co20)) (fun _ hk => hk.1)⟩, ⟨by (with_reducible repeat (first | refine blk_drewN ?_ _ | refine blk_drew ?_ | refine blk_alloc ?_ _)); refine blk_far ?_ NB483_485.out _; (with_reducible repeat (first | refine blk_drewN ?_ _ | refine blk_drew ?_ | refine blk_alloc ?_ _)); exact BK483.out⟩, ⟨by (with_reducible repeat (first | refine blk_drewN ?_ _ | refine blk_drew ?_ | refine blk_alloc ?_ _)); refine blk_put (cs := #[.slice Ao18 x486000_1.length co18]) ?_ 0 _ rfl; (with_reducible repeat (first | refine blk_drewN ?_ _ | refine blk_drew ?_ | refine blk_alloc ?_ _)); exact BK485.out⟩, ⟨by repeat (first | (with_reducible first | exact HB.out | apply below_alloc | apply pw_below_drewN | apply below_drew1 | refine below_set ?_ GE483.out | refine below_set ?_ GE485.out) | exact HB.out)⟩⟩
             · rw [if_neg c15] at H
               exact absurd H (by simp)
           · rw [if_neg c14] at H
             have c14b0 : ((x486000_1.length : Int) == 0) = false := beq_eq_false_iff_ne.mpr c14
             have c14b1 : ((x486000_1.length : Int) != 0) = true := bne_iff_ne.mpr c14
             have c14b2 : ¬ (x486000_1 = []) := fun h_ => c14 (by rw [h_]; rfl)
             replace H := Option.bind_eq_some_iff.mp H
             obtain ⟨t493, A220, H⟩ := H
             replace H : (if t493 = true then (impl_FromGens.l0 k1 t486 (t486.length : Int) (wrap64 (x15_1 + 1)) x486000_1) else (if x486000_1.length < 17592186044416 then (impl_FromGens.l0 k1 t486 (t486.length : Int) (wrap64 (x15_1 + 1)) (x486000_1 ++ [rd t486 x15_1])) else (none))) = some (r1, r2) := H
             have A22 := Aside0.mk A220
             clear A220
             by_cases c23 : t493 = true
             · subst c23
               have H1 : (impl_FromGens.l0 k1 t486 (t486.length : Int) (wrap64 (x15_1 + 1)) x486000_1) = some (r1, r2) := by rw [if_pos rfl] at H; exact H
               clear H
               have H := H1
               clear H1
               as_aux_lemma =>
                have H' := Aside0.mk H
                clear H
                have p489 : 0 ≤ (x15_1 : Int) := of_decide_eq_true (by first | (with_reducible assumption) | assumption)
                have q489 : x15_1 < (t486.length : Int) := of_decide_eq_true (by first | (with_reducible assumption) | assumption)
                obtain ⟨ad489, e489, hx489_0⟩ := Kd.at_int (Kd.R_reads' HO_13.out).2.2 x15_1 p489 q489
                cases e489
                replace p489 := eq_true p489
                replace q489 := eq_true q489
                have hnb24 := NB485_483.out
                have hnc24 := NB483_485.out
                have hcz25_0 : wr.cell? ⟨gb485, 0, none⟩ = some (u486000) := (blk_cell BK485.out 0).trans rfl
                have hfz25_0 := blk_frozen BK485.out 0
                obtain ⟨Ao26, co26, eo26⟩ := Kd.R_slice HO_486000.out
                subst eo26
                go_wp2_with (first | (go_at_call 97; (with_reducible refine (impl_Generates.calls k1 _ _ x486000_1 (rd t486 x15_1) true _ ?side1 ?side2 A22.out).mono ?_); (case side1 => exact ce_ ((Kd.R_reads' HO_486000.out).2.2)); (case side2 => exact (Kd.R_reads' HO_486000.out).2.1); rintro e w27 ⟨rfl, hb⟩; have n0_ := Aside0.mk (Kd.R_below (re_ HO_13.out) hb); have n1_ := Aside0.mk (Kd.R_below (re_ HO_486000.out) hb); have n2_ := Aside0.mk (blk_below (g := gb483) (o := .cells #[.slice none 0 0] 27 (0, 0)) (be_ BK483.out) hb); have n3_ := Aside0.mk (blk_below (g := gb485) (o := .cells #[.slice Ao26 x486000_1.length co26] 27 (0, 0)) (be_ BK485.out) hb); have n4_ := Aside0.mk (below_step (by repeat (first | (with_reducible first | exact HB.out | apply below_alloc | apply pw_below_drewN | apply below_drew1 | refine below_set ?_ GE483.out | refine below_set ?_ GE485.out) | exact HB.out)) hb); clear HO_13; clear HO_486000; clear BK483; clear BK485; clear HB; have HO_13 := n0_; have HO_486000 := n1_; have BK483 := n2_; have BK485 := n3_; have HB := n4_; clear n0_ n1_ n2_ n3_ n4_; (try clear hb); (try clear hb2); (try clear hk); (try clear hi)))
                go_roundg k1
                case measure => have := HK1.out; omega
                case rel => exact ⟨(wrap64 (x15_1 + 1)), (x486000_1), (.slice Ao26 x486000_1.length co26), (by first | rfl | (simp; done) | (simp [*]; done)), H', ⟨by have := HK1.out; omega⟩, ⟨re_ HO_13.out⟩, ⟨re_ HO_486000.out⟩, ⟨be_ BK483.out⟩, ⟨be_ BK485.out⟩, ⟨by repeat (first | (with_reducible first | exact HB.out | apply below_alloc | apply pw_below_drewN | apply below_drew1 | refine below_set ?_ GE483.out | refine below_set ?_ GE485.out) | exact HB.out)⟩⟩
             · replace c23 := Bool.eq_false_iff.mpr c23
               subst c23
               have H1 : (if x486000_1.length < 17592186044416 then (impl_FromGens.l0 k1 t486 (t486.length : Int) (wrap64 (x15_1 + 1)) (x486000_1 ++ [rd t486 x15_1])) else (none)) = some (r1, r2) := by rw [if_neg (show ¬ (false = true) by decide)] at H; exact H
               clear H
               have H := H1
               clear H1
               by_cases c28 : x486000_1.length < 17592186044416
               · rw [if_pos c28] at H
                 have LMc28 := Aside0.mk c28
                 clear c28
                 obtain ⟨y494, hy494⟩ : ∃ y_ : List Int, y_ = (x486000_1 ++ [rd t486 x15_1]) := ⟨_, rfl⟩
                 replace H : (impl_FromGens.l0 k1 t486 (t486.length : Int) (wrap64 (x15_1 + 1)) y494) = some (r1, r2) := by first | (rw [hy494]; with_reducible exact H) | (have H2_ := (Option.bind_some _ _).symm.trans H; rw [hy494]; with_reducible exact H2_) | (have H2_ := (Option.bind_some _ _).symm.trans H; with_reducible exact H2_) | with_reducible exact H | (rw [hy494]; exact H) | exact H
                 have Ny494 := Aside0.mk hy494
                 clear hy494
                 as_aux_lemma =>
                  have H' := Aside0.mk H
                  clear H
                  have p489 : 0 ≤ (x15_1 : Int) := of_decide_eq_true (by first | (with_reducible assumption) | assumption)
                  have q489 : x15_1 < (t486.length : Int) := of_decide_eq_true (by first | (with_reducible assumption) | assumption)
                  obtain ⟨ad489, e489, hx489_0⟩ := Kd.at_int (Kd.R_reads' HO_13.out).2.2 x15_1 p489 q489
                  cases e489
                  replace p489 := eq_true p489
                  replace q489 := eq_true q489
                  have hnb29 := NB485_483.out
                  have hnc29 := NB483_485.out
                  have hcz30_0 : wr.cell? ⟨gb485, 0, none⟩ = some (u486000) := (blk_cell BK485.out 0).trans rfl
                  have hfz30_0 := blk_frozen BK485.out 0
                  obtain ⟨Ao31, co31, eo31⟩ := Kd.R_slice HO_486000.out
                  subst eo31
                  go_wp2_with (first | (go_at_call 97; (with_reducible refine (impl_Generates.calls k1 _ _ x486000_1 (rd t486 x15_1) false _ ?side1 ?side2 A22.out).mono ?_); (case side1 => exact ce_ ((Kd.R_reads' HO_486000.out).2.2)); (case side2 => exact (Kd.R_reads' HO_486000.out).2.1); rintro e w32 ⟨rfl, hb⟩; have n0_ := Aside0.mk (Kd.R_below (re_ HO_13.out) hb); have n1_ := Aside0.mk (Kd.R_below (re_ HO_486000.out) hb); have n2_ := Aside0.mk (blk_below (g := gb483) (o := .cells #[.slice none 0 0] 27 (0, 0)) (be_ BK483.out) hb); have n3_ := Aside0.mk (blk_below (g := gb485) (o := .cells #[.slice Ao31 x486000_1.length co31] 27 (0, 0)) (be_ BK485.out) hb); have n4_ := Aside0.mk (below_step (by repeat (first | (with_reducible first | exact HB.out | apply below_alloc | apply pw_below_drewN | apply below_drew1 | refine below_set ?_ GE483.out | refine below_set ?_ GE485.out) | exact HB.out)) hb); clear HO_13; clear HO_486000; clear BK483; clear BK485; clear HB; have HO_13 := n0_; have HO_486000 := n1_; have BK483 := n2_; have BK485 := n3_; have HB := n4_; clear n0_ n1_ n2_ n3_ n4_; (try clear hb); (try clear hb2); (try clear hk); (try clear hi); have hcz33_0 : w32.cell? ⟨gb485, 0, none⟩ = some (.slice Ao31 x486000_1.length co31) := (blk_cell BK485.out 0).trans rfl; have hfz33_0 := blk_frozen BK485.out 0) | ((with_reducible refine gate_builtin (b := .append) (xs := #[.tmp 31, .tmp 33]) rfl ?_); at_builtin; refine Kd.R_append (Kd.int .i64) (w0 := w) w.heap.size rfl (.tmp 31) (.tmp 33) 22 3 (.int .i64 0) 8 rfl Try.underlying22 info3 rfl (by decide) (by omega) (.slice Ao31 x486000_1.length co31) x486000_1 (rd t486 x15_1) [.int .i64 (rd t486 x15_1)] (fun k_ => some k_ ≠ (.slice (some ad489) t486.length co10 : Value).ownBlock) (fun _ => False) rfl rfl ?aP (fun _ hk => hk.elim) ?aF ?aO ?aB ?aS ?aL ?_; (case aP => exact rfl); (case aB => exact (by repeat (first | (with_reducible first | exact HB.out | apply below_alloc | apply pw_below_drewN | apply below_drew1 | refine below_set ?_ GE483.out | refine below_set ?_ GE485.out) | exact HB.out))); (case aF => exact (fun k_ hk => Kd.fresh' (Kd.R_lt (re_ HO_13.out)) k_ hk)); (case aO => exact (re_ HO_486000.out)); (case aS => exact (below_size (by repeat (first | (with_reducible first | exact HB.out | apply below_alloc | apply pw_below_drewN | apply below_drew1 | refine below_set ?_ GE483.out | refine below_set ?_ GE485.out) | exact HB.out)))); (case aL => have := LMc28.out; omega); intro v495 w34 ho hb hg hat; rw [← Ny494.out] at ho; have n0_ := Aside0.mk (Kd.R_after (ok := (fun _ => True)) (by (with_reducible repeat (first | apply Kd.R_alloc | apply Kd.R_drewN | apply Kd.R_drew)); exact Kd.R_mono HO_13.out (fun _ hk => ⟨trivial, hk⟩)) hg hat); have n1_ := Aside0.mk (blk_grown (g := gb483) (o := .cells #[.slice none 0 0] 27 (0, 0)) (be_ BK483.out) hg (Kd.R_ne HO_486000.out BK483.out (by decide))); have n2_ := Aside0.mk (blk_grown (g := gb485) (o := .cells #[.slice Ao31 x486000_1.length co31] 27 (0, 0)) (be_ BK485.out) hg (Kd.R_ne HO_486000.out BK485.out (by decide))); have n3_ := Aside0.mk (hb); have n4_ := Aside0.mk (ho); clear HO_13; clear BK483; clear BK485; clear HB; clear HO_486000; have HO_13 := n0_; have BK483 := n1_; have BK485 := n2_; have HB := n3_; have HO496 := n4_; clear n0_ n1_ n2_ n3_ n4_; clear ho hb hg hat; obtain ⟨Ao35, co35, eo35⟩ := Kd.R_slice HO496.out; subst eo35; have hcz36_0 : w34.cell? ⟨gb485, 0, none⟩ = some (.slice Ao31 x486000_1.length co31) := (blk_cell BK485.out 0).trans rfl; have hfz36_0 := blk_frozen BK485.out 0))
                  go_roundg k1
                  case measure => have := HK1.out; omega
                  case rel => exact ⟨(wrap64 (x15_1 + 1)), (y494), (.slice Ao35 y494.length co35), (by first | rfl | (simp; done) | (simp [*]; done)), H', ⟨by have := HK1.out; omega⟩, ⟨by (with_reducible repeat (first | apply Kd.R_alloc | apply Kd.R_drewN | apply Kd.R_drew)); exact Kd.R_mono (Kd.R_far (p := ⟨gb485, 0, none⟩) (Kd.R_types HO_13.out BK485.out (by decide)) (fun _ hk => hk.2) (.slice Ao35 y494.length co35)) (fun _ hk => hk.1.2)⟩, ⟨by (with_reducible repeat (first | apply Kd.R_alloc | apply Kd.R_drewN | apply Kd.R_drew)); exact Kd.R_mono (Kd.R_far (p := ⟨gb485, 0, none⟩) (Kd.R_types HO496.out BK485.out (by decide)) (fun _ hk => hk.2) (.slice Ao35 y494.length co35)) (fun _ hk => hk.1)⟩, ⟨by (with_reducible repeat (first | refine blk_drewN ?_ _ | refine blk_drew ?_ | refine blk_alloc ?_ _)); refine blk_far ?_ NB483_485.out _; (with_reducible repeat (first | refine blk_drewN ?_ _ | refine blk_drew ?_ | refine blk_alloc ?_ _)); exact BK483.out⟩, ⟨by (with_reducible repeat (first | refine blk_drewN ?_ _ | refine blk_drew ?_ | refine blk_alloc ?_ _)); refine blk_put (cs := #[.slice Ao31 x486000_1.length co31]) ?_ 0 _ rfl; (with_reducible repeat (first | refine blk_drewN ?_ _ | refine blk_drew ?_ | refine blk_alloc ?_ _)); exact BK485.out⟩, ⟨by repeat (first | (with_reducible first | exact HB.out | apply below_alloc | apply pw_below_drewN | apply below_drew1 | refine below_set ?_ GE483.out | refine below_set ?_ GE485.out) | exact HB.out)⟩⟩
               · rw [if_neg c28] at H
                 exact absurd H (by simp)
         · rw [if_neg c13] at H
           exact absurd H (by simp)
       · rw [if_neg c12] at H
         exact absurd H (by simp)
     · rw [if_neg c11] at H
       have c11b0 : decide (x15_1 < (t486.length : Int)) = false := decide_eq_false c11
       clear c11
       replace H := Option.bind_eq_some_iff.mp H
       obtain ⟨t497, A370, H⟩ := H
       replace H : (if t497 = true then (some (x486000_1, true)) else (some (([] : List Int), false))) = some (r1, r2) := H
       have A37 := Aside0.mk A370
       clear A370
       by_cases c38 : t497 = true
       · subst c38
         have H1 : (some (x486000_1, true)) = some (r1, r2) := by rw [if_pos rfl] at H; exact H
         clear H
         have H := H1
         clear H1
         as_aux_lemma =>
          simp only [Option.some.injEq, Prod.mk.injEq] at H
          obtain ⟨rfl, rfl⟩ := H
          have hnb39 := NB485_483.out
          have hnc39 := NB483_485.out
          have hcz40_0 : wr.cell? ⟨gb485, 0, none⟩ = some (u486000) := (blk_cell BK485.out 0).trans rfl
          have hfz40_0 := blk_frozen BK485.out 0
          obtain ⟨Ao41, co41, eo41⟩ := Kd.R_slice HO_486000.out
          subst eo41
          go_wp2_with (first | ((with_reducible refine gate_callee (f := 56) rfl ?_); refine goesL_ (some 38) rfl rfl Try.func56 (by kernel_rfl) rfl #[.agg #[.slice Ao41 x486000_1.length co41]] rfl (by (try simp only [List.map_toArray, List.map_cons, List.map_nil]); first | done | rfl | (simp only [List.length_drop, List.length_take]; rfl)) ?_; (with_reducible refine (impl_IsSemigroup.calls k1 _ _ x486000_1 true _ ?side1 ?side2 A37.out).mono ?_); (case side1 => exact ce_ ((Kd.R_reads' HO_486000.out).2.2)); (case side2 => exact (Kd.R_reads' HO_486000.out).2.1); rintro e w42 ⟨rfl, hb⟩; refine ⟨_, rfl, ?_⟩; have n0_ := Aside0.mk (Kd.R_below (re_ HO_13.out) hb); have n1_ := Aside0.mk (Kd.R_below (re_ HO_486000.out) hb); have n2_ := Aside0.mk (blk_below (g := gb483) (o := .cells #[.slice none 0 0] 27 (0, 0)) (be_ BK483.out) hb); have n3_ := Aside0.mk (blk_below (g := gb485) (o := .cells #[.slice Ao41 x486000_1.length co41] 27 (0, 0)) (be_ BK485.out) hb); have n4_ := Aside0.mk (below_step (by repeat (first | (with_reducible first | exact HB.out | apply below_alloc | apply pw_below_drewN | apply below_drew1 | refine below_set ?_ GE483.out | refine below_set ?_ GE485.out) | exact HB.out)) hb); clear HO_13; clear HO_486000; clear BK483; clear BK485; clear HB; have HO_13 := n0_; have HO_486000 := n1_; have BK483 := n2_; have BK485 := n3_; have HB := n4_; clear n0_ n1_ n2_ n3_ n4_; (try clear hb); (try clear hb2); (try clear hk); (try clear hi); have hcz43_0 : w42.cell? ⟨gb485, 0, none⟩ = some (.slice Ao41 x486000_1.length co41) := (blk_cell BK485.out 0).trans rfl; have hfz43_0 := blk_frozen BK485.out 0; have hcz44_0 : w42.cell? ⟨gb483, 0, none⟩ = some (.slice none 0 0) := (blk_cell BK483.out 0).trans rfl; have hfz44_0 := blk_frozen BK483.out 0))
          refine bodyPost_ret (results_ct rfl _ _ gb483 27 #[.slice Ao41 x486000_1.length co41] (0, 0) _ rfl (by (with_reducible repeat (first | refine blk_drewN ?_ _ | refine blk_drew ?_ | refine blk_alloc ?_ _)); refine blk_put (cs := #[.slice none 0 0]) ?_ 0 _ rfl; (with_reducible repeat (first | refine blk_drewN ?_ _ | refine blk_drew ?_ | refine blk_alloc ?_ _)); exact BK483.out) Try.underlying27 rfl (by kernel_rfl)) rfl ?_
          exact ⟨_, by first | rfl | (simp [errW_none, errW_some] <;> rfl) | (simp [*, errW_none, errW_some] <;> rfl), by (with_reducible repeat (first | apply Kd.R_alloc | apply Kd.R_drewN | apply Kd.R_drew)); exact Kd.R_mono (Kd.R_far (p := ⟨gb483, 0, none⟩) (Kd.R_types HO_486000.out BK483.out (by decide)) (fun _ hk => hk.2) (.slice Ao41 x486000_1.length co41)) (fun _ hk => trivial), by repeat (first | (with_reducible first | exact HB.out | apply below_alloc | apply pw_below_drewN | apply below_drew1 | refine below_set ?_ GE483.out | refine below_set ?_ GE485.out) | exact HB.out)⟩
       · replace c38 := Bool.eq_false_iff.mpr c38
         subst c38
         have H1 : (some (([] : List Int), false)) = some (r1, r2) := by rw [if_neg (show ¬ (false = true) by decide)] at H; exact H
         clear H
         have H := H1
         clear H1
         as_aux_lemma =>
          simp only [Option.some.injEq, Prod.mk.injEq] at H
          obtain ⟨rfl, rfl⟩ := H
          have hnb45 := NB485_483.out
          have hnc45 := NB483_485.out
          have hcz46_0 : wr.cell? ⟨gb485, 0, none⟩ = some (u486000) := (blk_cell BK485.out 0).trans rfl
          have hfz46_0 := blk_frozen BK485.out 0
          obtain ⟨Ao47, co47, eo47⟩ := Kd.R_slice HO_486000.out
          subst eo47
          go_wp2_with (first | ((with_reducible refine gate_callee (f := 56) rfl ?_); refine goesL_ (some 38) rfl rfl Try.func56 (by kernel_rfl) rfl #[.agg #[.slice Ao47 x486000_1.length co47]] rfl (by (try simp only [List.map_toArray, List.map_cons, List.map_nil]); first | done | rfl | (simp only [List.length_drop, List.length_take]; rfl)) ?_; (with_reducible refine (impl_IsSemigroup.calls k1 _ _ x486000_1 false _ ?side1 ?side2 A37.out).mono ?_); (case side1 => exact ce_ ((Kd.R_reads' HO_486000.out).2.2)); (case side2 => exact (Kd.R_reads' HO_486000.out).2.1); rintro e w48 ⟨rfl, hb⟩; refine ⟨_, rfl, ?_⟩; have n0_ := Aside0.mk (Kd.R_below (re_ HO_13.out) hb); have n1_ := Aside0.mk (Kd.R_below (re_ HO_486000.out) hb); have n2_ := Aside0.mk (blk_below (g := gb483) (o := .cells #[.slice none 0 0] 27 (0, 0)) (be_ BK483.out) hb); have n3_ := Aside0.mk (blk_below (g := gb485) (o := .cells #[.slice Ao47 x486000_1.length co47] 27 (0, 0)) (be_ BK485.out) hb); have n4_ := Aside0.mk (below_step (by repeat (first | (with_reducible first | exact HB.out | apply below_alloc | apply pw_below_drewN | apply below_drew1 | refine below_set ?_ GE483.out | refine below_set ?_ GE485.out) | exact HB.out)) hb); clear HO_13; clear HO_486000; clear BK483; clear BK485; clear HB; have HO_13 := n0_; have HO_486000 := n1_; have BK483 := n2_; have BK485 := n3_; have HB := n4_; clear n0_ n1_ n2_ n3_ n4_; (try clear hb); (try clear hb2); (try clear hk); (try clear hi); have hcz49_0 : w48.cell? ⟨gb483, 0, none⟩ = some (.slice none 0 0) := (blk_cell BK483.out 0).trans rfl; have hfz49_0 := blk_frozen BK483.out 0))
          refine bodyPost_ret (results_ct rfl _ _ gb483 27 #[.slice none 0 0] (0, 0) _ rfl (by (with_reducible repeat (first | refine blk_drewN ?_ _ | refine blk_drew ?_ | refine blk_alloc ?_ _)); refine blk_put (cs := #[.slice none 0 0]) ?_ 0 _ rfl; (with_reducible repeat (first | refine blk_drewN ?_ _ | refine blk_drew ?_ | refine blk_alloc ?_ _)); exact BK483.out) Try.underlying27 rfl (by kernel_rfl)) rfl ?_
          exact ⟨_, by first | rfl | (simp [errW_none, errW_some] <;> rfl) | (simp [*, errW_none, errW_some] <;> rfl), by first | exact Kd.R_nil _ _ _ _ _ | exact Kd.N_nil _ _ _ _ _ | exact Kd.V_nil _ _ _ _ _ | exact Kd.Q_nil _ _ _ _ _ | exact Kd.S_nil _ _ _ _ _, by repeat (first | (with_reducible first | exact HB.out | apply below_alloc | apply pw_below_drewN | apply below_drew1 | refine below_set ?_ GE483.out | refine below_set ?_ GE485.out) | exact HB.out)⟩
 · replace c3 := Bool.eq_false_iff.mpr c3
   subst c3
   have H1 : (some (([] : List Int), false)) = some (r1, r2) := by rw [if_neg (show ¬ (false = true) by decide)] at H; exact H
   clear H
   have H := H1
   clear H1
   as_aux_lemma =>
    simp only [Option.some.injEq, Prod.mk.injEq] at H
    obtain ⟨rfl, rfl⟩ := H
    go_enter Try.func93, Try.ntmps93
    go_wp2_with (first | ((with_reducible refine gate_dst (N := 2) rfl ?_); refine box_event ?hg (N := 2) ?hd (cs := #[.slice none 0 0]) (t := 27) ?hr ?_; (case hd => rfl); (case hg => rfl); (case hr => first | (go_simp; done) | (go_simp; rfl)); intro gb483 hg w50 hbox hb; have n0_ := Aside0.mk (below_step (bl_ HB.out) hb); have n1_ := Aside0.mk (hbox); have n2_ := Aside0.mk ((by rw [hg]; exact (below_size (bl_ HB.out)) : w.heap.size ≤ gb483)); have n3_ := Aside0.mk ((by rw [hg]; exact (below_size (bl_ HB.out)) : w.heap.size ≤ gb483)); clear HB; have HB := n0_; have BK483 := n1_; have GW483 := n2_; have GE483 := n3_; clear n0_ n1_ n2_ n3_; clear hb hbox hg) | ((with_reducible refine gate_callee (f := 116) rfl ?_); refine goesL_ (some 8) rfl rfl Try.func116 (by kernel_rfl) rfl #[.slice A0 l0.length c0] rfl (by (try simp only [List.map_toArray, List.map_cons, List.map_nil]); first | done | rfl | (simp only [List.length_drop, List.length_take]; rfl)) ?_; (with_reducible refine (impl_usable.calls k _ _ l0 false _ ?side1 ?side2 A2.out).mono ?_); (case side1 => exact ce_ ((Kd.C_below HR0.out HB.out))); (case side2 => exact HC0.out); rintro e w' ⟨rfl, ⟨nd, rfl⟩⟩; refine ⟨_, rfl, ?_⟩; (try (rw [drewN_self w50]; generalize hq_ : World.drewN w50 _ = w50; have n0_ : Aside0 (w50.heap[gb483]? = some (.cells #[.slice none 0 0] 27 (0, 0))) := ⟨by rw [← hq_]; exact (be_ BK483.out)⟩; have n1_ : Aside0 (Below w.heap.size w w50) := ⟨by rw [← hq_]; exact (by repeat (first | (with_reducible first | exact HB.out | apply below_alloc | apply pw_below_drewN | apply below_drew1 | refine below_set ?_ GE483.out) | exact HB.out))⟩; clear BK483 HB hq_; have BK483 := n0_; have HB := n1_; clear n0_ n1_)); have hcz51_0 : w50.cell? ⟨gb483, 0, none⟩ = some (.slice none 0 0) := (blk_cell BK483.out 0).trans rfl; have hfz51_0 := blk_frozen BK483.out 0))
    refine bodyPost_ret (results_ct rfl _ _ gb483 27 #[.slice none 0 0] (0, 0) _ rfl (by (with_reducible repeat (first | refine blk_drewN ?_ _ | refine blk_drew ?_ | refine blk_alloc ?_ _)); refine blk_put (cs := #[.slice none 0 0]) ?_ 0 _ rfl; (with_reducible repeat (first | refine blk_drewN ?_ _ | refine blk_drew ?_ | refine blk_alloc ?_ _)); exact BK483.out) Try.underlying27 rfl (by kernel_rfl)) rfl ?_
    exact ⟨_, by first | rfl | (simp [errW_none, errW_some] <;> rfl) | (simp [*, errW_none, errW_some] <;> rfl), by first | exact Kd.R_nil _ _ _ _ _ | exact Kd.N_nil _ _ _ _ _ | exact Kd.V_nil _ _ _ _ _ | exact Kd.Q_nil _ _ _ _ _ | exact Kd.S_nil _ _ _ _ _, by repeat (first | (with_reducible first | exact HB.out | apply below_alloc | apply pw_below_drewN | apply below_drew1 | refine below_set ?_ GE483.out) | exact HB.out)⟩
def impl_BlowUp.l0 : Nat → List Int → List Int → Int → Int → List Int → Option (List Int × Bool)
 | 0, _, _, _, _, _ => none
 | k + 1, x4, x18, x19, x20, x499000 => if x20 < x19 then (if 0 ≤ x20 then (if x20 < (x18.length : Int) then (if 0 < (x499000.length : Int) then (if x4.length < 17592186044416 then (impl_BlowUp.l0 k (x4 ++ [wrap64 ((rd x18 x20) - (rd x499000 0))]) x18 x19 (wrap64 (x20 + 1)) x499000) else (none)) else (none)) else (none)) else (none)) else ((impl_FromGens.f k x4).bind fun bt511 => (some (bt511.1, bt511.2)))
def impl_BlowUp.f (k : Nat) (l0_0 : List Int) : Option (List Int × Bool) := (impl_IsSemigroup.f k l0_0).bind fun t500 => (if t500 = true then (if 0 < (l0_0.length : Int) then (if 1 ≤ (l0_0.length : Int) then (impl_BlowUp.l0 k (([rd l0_0 0] : List Int)) (l0_0.drop 1) ((l0_0.drop 1).length : Int) 0 l0_0) else (none)) else (none)) else (some (([] : List Int), false)))
set_option maxHeartbeats 8000000 in
set_option maxRecDepth 100000 in
theorem impl_BlowUp.calls (k : Nat) (A0_0 : Option Addr) (c0_0 : Nat) (l0_0 : List Int) (r1 : List Int) (r2 : Bool) (w : World) (hr0_0 : Kd.C (Kd.int .i64) w A0_0 l0_0.length l0_0) (hc0_0 : l0_0.length ≤ c0_0) (h : impl_BlowUp.f k l0_0 = some (r1, r2)) :
 Calls Try.prog 53 #[.agg #[.slice A0_0 l0_0.length c0_0]] w fun e w' => ∃ v0_ : Value, e = .returned (.tuple #[.agg #[v0_], .bool r2]) ∧ Kd.R (Kd.int .i64) 3 w' w.heap.size (fun _ => True) v0_ r1 ∧ Below w.heap.size w w' := by
 have hu27 := Try.underlying27
 have HR0_0 := Aside0.mk hr0_0
 have HC0_0 := Aside0.mk hc0_0
 clear hr0_0 hc0_0
 have HB := Aside0.mk (Below.refl w.heap.size w)
 have H : ((impl_IsSemigroup.f k l0_0).bind fun t500 => (if t500 = true then (if 0 < (l0_0.length : Int) then (if 1 ≤ (l0_0.length : Int) then (impl_BlowUp.l0 k (([rd l0_0 0] : List Int)) (l0_0.drop 1) ((l0_0.drop 1).length : Int) 0 l0_0) else (none)) else (none)) else (some (([] : List Int), false)))) = some (r1, r2) := h
 clear h
 replace H := Option.bind_eq_some_iff.mp H
 obtain ⟨t500, A20, H⟩ := H
 replace H : (if t500 = true then (if 0 < (l0_0.length : Int) then (if 1 ≤ (l0_0.length : Int) then (impl_BlowUp.l0 k (([rd l0_0 0] : List Int)) (l0_0.drop 1) ((l0_0.drop 1).length : Int) 0 l0_0) else (none)) else (none)) else (some (([] : List Int), false))) = some (r1, r2) := H
 have A2 := Aside0.mk A20
 clear A20
 by_cases c3 : t500 = true
 · subst c3
   have H1 : (if 0 < (l0_0.length : Int) then (if 1 ≤ (l0_0.length : Int) then (impl_BlowUp.l0 k (([rd l0_0 0] : List Int)) (l0_0.drop 1) ((l0_0.drop 1).length : Int) 0 l0_0) else (none)) else (none)) = some (r1, r2) := by rw [if_pos rfl] at H; exact H
   clear H
   have H := H1
   clear H1
   by_cases c4 : 0 < (l0_0.length : Int)
   · rw [if_pos c4] at H
     have c4b0 : decide (0 < (l0_0.length : Int)) = true := decide_eq_true c4
     have c4b1 : decide (0 < l0_0.length) = true := decide_eq_true (by omega)
     clear c4
     obtain ⟨y502, hy502⟩ : ∃ y_ : List Int, y_ = (([rd l0_0 0] : List Int)) := ⟨_, rfl⟩
     replace H : (if 1 ≤ (l0_0.length : Int) then (impl_BlowUp.l0 k y502 (l0_0.drop 1) ((l0_0.drop 1).length : Int) 0 l0_0) else (none)) = some (r1, r2) := by first | (rw [hy502]; with_reducible exact H) | (have H2_ := (Option.bind_some _ _).symm.trans H; rw [hy502]; with_reducible exact H2_) | (have H2_ := (Option.bind_some _ _).symm.trans H; with_reducible exact H2_) | with_reducible exact H | (rw [hy502]; exact H) | exact H
     have Ny502 := Aside0.mk hy502
     clear hy502
     by_cases c5 : 1 ≤ (l0_0.length : Int)
     · rw [if_pos c5] at H
       have c5b0 := eq_true c5
       have c5b1 : decide (1 ≤ (l0_0.length : Int)) = true := decide_eq_true c5
       clear c5
       obtain ⟨yd505, hyd505⟩ : ∃ y_ : List Int, y_ = (l0_0.drop 1) := ⟨_, rfl⟩
       rw [← hyd505] at H
       have Hyd505 := Aside0.mk hyd505
       clear hyd505
       have H' := Aside0.mk H
       clear H
       go_enter Try.func53, Try.ntmps53
       go_wp2_with (first | ((with_reducible refine gate_dst (N := 1) rfl ?_); refine box_event ?hg (N := 1) ?hd (cs := #[.slice A0_0 l0_0.length c0_0]) (t := 27) ?hr ?_; (case hd => rfl); (case hg => rfl); (case hr => first | (go_simp; done) | (go_simp; rfl)); intro gb498 hg w6 hbox hb; have n0_ := Aside0.mk (below_step (bl_ HB.out) hb); have n1_ := Aside0.mk (hbox); have n2_ := Aside0.mk ((by rw [hg]; exact (below_size (bl_ HB.out)) : w.heap.size ≤ gb498)); have n3_ := Aside0.mk ((by rw [hg]; exact (below_size (bl_ HB.out)) : w.heap.size ≤ gb498)); clear HB; have HB := n0_; have BK498 := n1_; have GW498 := n2_; have GE498 := n3_; clear n0_ n1_ n2_ n3_; clear hb hbox hg) | ((with_reducible refine gate_dst (N := 2) rfl ?_); refine box_event ?hg (N := 2) ?hd (cs := #[.slice none 0 0]) (t := 27) ?hr ?_; (case hd => rfl); (case hg => rfl); (case hr => first | (go_simp; done) | (go_simp; rfl)); intro gb499 hg w7 hbox hb; have n0_ := Aside0.mk (blk_below (g := gb498) (o := .cells #[.slice A0_0 l0_0.length c0_0] 27 (0, 0)) (be_ BK498.out) hb); have n1_ := Aside0.mk (below_step (by repeat (first | (with_reducible first | exact HB.out | apply below_alloc | apply pw_below_drewN | apply below_drew1 | refine below_set ?_ GE498.out) | exact HB.out)) hb); have n2_ := Aside0.mk (hbox); have n3_ := Aside0.mk ((by rw [hg]; exact (below_size (by repeat (first | (with_reducible first | exact HB.out | apply below_alloc | apply pw_below_drewN | apply below_drew1 | refine below_set ?_ GE498.out) | exact HB.out))) : w.heap.size ≤ gb499)); have n4_ := Aside0.mk ((by rw [hg]; exact (below_size (by repeat (first | (with_reducible first | exact HB.out | apply below_alloc | apply pw_below_drewN | apply below_drew1 | refine below_set ?_ GE498.out) | exact HB.out))) : w.heap.size ≤ gb499)); have n5_ := Aside0.mk ((by rw [hg]; exact Nat.ne_of_lt (blk_lt (g := gb498) (o := .cells #[.slice A0_0 l0_0.length c0_0] 27 (0, 0)) (be_ BK498.out)) : gb498 ≠ gb499)); have n6_ := Aside0.mk ((by rw [hg]; exact Nat.ne_of_gt (blk_lt (g := gb498) (o := .cells #[.slice A0_0 l0_0.length c0_0] 27 (0, 0)) (be_ BK498.out)) : gb499 ≠ gb498)); clear BK498; clear HB; have BK498 := n0_; have HB := n1_; have BK499 := n2_; have GW499 := n3_; have GE499 := n4_; have NB498_499 := n5_; have NB499_498 := n6_; clear n0_ n1_ n2_ n3_ n4_ n5_ n6_; clear hb hbox hg; have hnb8 := NB498_499.out; have hnc8 := NB499_498.out; have hcz9_0 : w7.cell? ⟨gb498, 0, none⟩ = some (.slice A0_0 l0_0.length c0_0) := (blk_cell BK498.out 0).trans rfl; have hfz9_0 := blk_frozen BK498.out 0) | ((with_reducible refine gate_callee (f := 56) rfl ?_); refine goesL_ (some 8) rfl rfl Try.func56 (by kernel_rfl) rfl #[.agg #[.slice A0_0 l0_0.length c0_0]] rfl (by (try simp only [List.map_toArray, List.map_cons, List.map_nil]); first | done | rfl | (simp only [List.length_drop, List.length_take]; rfl)) ?_; (with_reducible refine (impl_IsSemigroup.calls k _ _ l0_0 true _ ?side1 ?side2 A2.out).mono ?_); (case side1 => exact ce_ ((Kd.C_below HR0_0.out HB.out))); (case side2 => exact HC0_0.out); rintro e w10 ⟨rfl, hb⟩; refine ⟨_, rfl, ?_⟩; have n0_ := Aside0.mk (blk_below (g := gb498) (o := .cells #[.slice A0_0 l0_0.length c0_0] 27 (0, 0)) (be_ BK498.out) hb); have n1_ := Aside0.mk (blk_below (g := gb499) (o := .cells #[.slice none 0 0] 27 (0, 0)) (be_ BK499.out) hb); have n2_ := Aside0.mk (below_step (by repeat (first | (with_reducible first | exact HB.out | apply below_alloc | apply pw_below_drewN | apply below_drew1 | refine below_set ?_ GE498.out | refine below_set ?_ GE499.out) | exact HB.out)) hb); clear BK498; clear BK499; clear HB; have BK498 := n0_; have BK499 := n1_; have HB := n2_; clear n0_ n1_ n2_; (try clear hb); (try clear hb2); (try clear hk); (try clear hi); have hcz11_0 : w10.cell? ⟨gb498, 0, none⟩ = some (.slice A0_0 l0_0.length c0_0) := (blk_cell BK498.out 0).trans rfl; have hfz11_0 := blk_frozen BK498.out 0; have p501 : 0 ≤ (0 : Int) := (by omega); have q501 : 0 < (l0_0.length : Int) := of_decide_eq_true (by first | (with_reducible assumption) | assumption); obtain ⟨ad501, e501, hx501_0⟩ := Kd.at_int HR0_0.out 0 p501 q501; cases e501; have qi501 : (0 < l0_0.length) = True := eq_true (by omega); (try rw [show ((0 : Int)).toNat = 0 from rfl] at hx501_0); (try rw [Addr.add_zero'] at hx501_0); (try replace hx501_0 := (HB.out.cell (World.block_lt_of_cell? w _ hx501_0)).trans hx501_0); replace p501 := eq_true p501; replace q501 := eq_true q501) | ((with_reducible refine gate_dst (N := 15) rfl ?_); refine Kd.R_lit (Kd.int .i64) _ 3 ?hg (N := 15) ?hd (xs := ([rd l0_0 0] : List Int)) (inner := [.int .i64 (rd l0_0 0)]) (ok := fun _ => True) (okp := fun _ => True) ?hr ?hp (fun _ hk => hk) trivial (Below.refl _ _) (Nat.le_refl _) (by simp) ?_; (case hd => rfl); (case hg => rfl); (case hr => first | (go_simp; done) | (go_simp; rfl)); (case hp => exact (Reps.one (show Kd.M (Kd.int .i64) _ _ _ (rd l0_0 0) [.int .i64 (rd l0_0 0)] from rfl) (Reps.none _ _))); intro v503 w12 ho13 hb hg_ hnew_; clear hg_ hnew_; (first | rw [← Ny502.out] at ho13 | (simp only [Int.reduceToNat] at ho13; rw [← Ny502.out] at ho13)); have n0_ := Aside0.mk (Kd.R_lower ho13 (below_size (by repeat (first | (with_reducible first | exact HB.out | apply below_alloc | apply pw_below_drewN | apply below_drew1 | refine below_set ?_ GE498.out | refine below_set ?_ GE499.out) | exact HB.out)))); have n1_ := Aside0.mk (blk_below (g := gb498) (o := .cells #[.slice (some ad501) l0_0.length c0_0] 27 (0, 0)) (be_ BK498.out) hb); have n2_ := Aside0.mk (blk_below (g := gb499) (o := .cells #[.slice none 0 0] 27 (0, 0)) (be_ BK499.out) hb); have n3_ := Aside0.mk (below_step (by repeat (first | (with_reducible first | exact HB.out | apply below_alloc | apply pw_below_drewN | apply below_drew1 | refine below_set ?_ GE498.out | refine below_set ?_ GE499.out) | exact HB.out)) hb); clear BK498; clear BK499; clear HB; have HO504 := n0_; have BK498 := n1_; have BK499 := n2_; have HB := n3_; clear n0_ n1_ n2_ n3_; clear hb ho13; have hcz14_0 : w12.cell? ⟨gb498, 0, none⟩ = some (.slice (some ad501) l0_0.length c0_0) := (blk_cell BK498.out 0).trans rfl; have hfz14_0 := blk_frozen BK498.out 0; obtain ⟨i015, hi015, _, hsz15, _⟩ := info_parts info3; obtain ⟨A15, hcut15, hA15, hC15⟩ := print_drop_of (P := Try.prog) (Value.int .i64) 0 22 3 .i64 Try.underlying22 hi015 hsz15 (some ad501) c0_0 l0_0 1 (by omega) (of_decide_eq_true (by first | (with_reducible assumption) | assumption)) HC0_0.out; have ed_ : l0_0.drop (1 : Int).toNat = yd505 := Hyd505.out.symm; rw [ed_] at hcut15 hA15 hC15; clear ed_; have HR505 := Aside0.mk (Kd.C_of_reads (h1 := fun _ => rfl) (hA15 _ (Kd.reads_of_C HR0_0.out))); have HC505 := Aside0.mk hC15; clear hA15 hC15 hi015 hsz15))
       go_loopg [4, 20] k (fun kq v4 v20 w' => ∃ (x4_1 : List Int) (x20_1 : Int), v20 = .int .i64 x20_1 ∧ Aside0 (impl_BlowUp.l0 kq x4_1 yd505 (yd505.length : Int) x20_1 l0_0 = some (r1, r2)) ∧ Aside0 (kq ≤ k) ∧ Aside0 (Kd.R (Kd.int .i64) 3 w' w.heap.size (fun _ => True) v4 x4_1) ∧ Aside0 (w'.heap[gb498]? = some (.cells #[(.slice (some ad501) l0_0.length c0_0)] 27 (0, 0))) ∧ Aside0 (w'.heap[gb499]? = some (.cells #[(.slice none 0 0)] 27 (0, 0))) ∧ Aside0 (Below w.heap.size w w'))
       case atStart => exact ⟨(y502), (0), (by first | rfl | (simp; done) | (simp [*]; done)), H', ⟨Nat.le_refl _⟩, ⟨re_ HO504.out⟩, ⟨be_ BK498.out⟩, ⟨be_ BK499.out⟩, ⟨by repeat (first | (with_reducible first | exact HB.out | apply below_alloc | apply pw_below_drewN | apply below_drew1 | refine below_set ?_ GE498.out | refine below_set ?_ GE499.out) | exact HB.out)⟩⟩
       case round =>
        clear H'
        try clear p2
        try clear c3
        try clear c4
        try clear c4b0
        try clear c4b1
        try clear c5
        try clear c5b0
        try clear c5b1
        try clear p5
        try clear q5
        try clear hx5
        try clear qi5
        try clear c8
        try clear hcz11_0
        try clear hcz14_0
        try clear hcz9_0
        try clear hfz11_0
        try clear hfz14_0
        try clear hfz9_0
        try clear hx501_0
        try clear p501
        try clear q501
        obtain ⟨x4_1, x20_1, rfl, HA, HK1, HO_4, BK498, BK499, HB⟩ := hrel
        cases gk with
        | zero => exact absurd HA.out (by simp [impl_BlowUp.l0])
        | succ k1 =>
         have H := HA.out
         clear HA
         simp only [impl_BlowUp.l0] at H
         by_cases c16 : x20_1 < (yd505.length : Int)
         · rw [if_pos c16] at H
           have c16b0 : decide (x20_1 < (yd505.length : Int)) = true := decide_eq_true c16
           clear c16
           by_cases c17 : 0 ≤ x20_1
           · rw [if_pos c17] at H
             have c17b0 : decide (0 ≤ x20_1) = true := decide_eq_true c17
             clear c17
             by_cases c18 : x20_1 < (yd505.length : Int)
             · rw [if_pos c18] at H
               have c18b0 : decide (x20_1 < (yd505.length : Int)) = true := decide_eq_true c18
               clear c18
               by_cases c19 : 0 < (l0_0.length : Int)
               · rw [if_pos c19] at H
                 have c19b0 : decide (0 < (l0_0.length : Int)) = true := decide_eq_true c19
                 have c19b1 : decide (0 < l0_0.length) = true := decide_eq_true (by omega)
                 clear c19
                 by_cases c20 : x4_1.length < 17592186044416
                 · rw [if_pos c20] at H
                   have LMc20 := Aside0.mk c20
                   clear c20
                   obtain ⟨y508, hy508⟩ : ∃ y_ : List Int, y_ = (x4_1 ++ [wrap64 ((rd yd505 x20_1) - (rd l0_0 0))]) := ⟨_, rfl⟩
                   replace H : (impl_BlowUp.l0 k1 y508 yd505 (yd505.length : Int) (wrap64 (x20_1 + 1)) l0_0) = some (r1, r2) := by first | (rw [hy508]; with_reducible exact H) | (have H2_ := (Option.bind_some _ _).symm.trans H; rw [hy508]; with_reducible exact H2_) | (have H2_ := (Option.bind_some _ _).symm.trans H; with_reducible exact H2_) | with_reducible exact H | (rw [hy508]; exact H) | exact H
                   have Ny508 := Aside0.mk hy508
                   clear hy508
                   as_aux_lemma =>
                    have H' := Aside0.mk H
                    clear H
                    have p506 : 0 ≤ (x20_1 : Int) := of_decide_eq_true (by first | (with_reducible assumption) | assumption)
                    have q506 : x20_1 < (yd505.length : Int) := of_decide_eq_true (by first | (with_reducible assumption) | assumption)
                    obtain ⟨ad506, e506, hx506_0⟩ := Kd.at_int HR505.out x20_1 p506 q506
                    cases e506
                    (try replace hx506_0 := (HB.out.cell (World.block_lt_of_cell? w _ hx506_0)).trans hx506_0)
                    replace p506 := eq_true p506
                    replace q506 := eq_true q506
                    have hnb21 := NB498_499.out
                    have hnc21 := NB499_498.out
                    have hcz22_0 : wr.cell? ⟨gb498, 0, none⟩ = some (.slice (some ad501) l0_0.length c0_0) := (blk_cell BK498.out 0).trans rfl
                    have hfz22_0 := blk_frozen BK498.out 0
                    have p507 : 0 ≤ (0 : Int) := (by omega)
                    have q507 : 0 < (l0_0.length : Int) := of_decide_eq_true (by first | (with_reducible assumption) | assumption)
                    obtain ⟨ad507, e507, hx507_0⟩ := Kd.at_int HR0_0.out 0 p507 q507
                    obtain rfl : ad501 = ad507 := (by injection e507)
                    have qi507 : (0 < l0_0.length) = True := eq_true (by omega)
                    (try rw [show ((0 : Int)).toNat = 0 from rfl] at hx507_0)
                    (try rw [Addr.add_zero'] at hx507_0)
                    (try replace hx507_0 := (HB.out.cell (World.block_lt_of_cell? w _ hx507_0)).trans hx507_0)
                    replace p507 := eq_true p507
                    replace q507 := eq_true q507
                    go_wp2_with (first | ((with_reducible refine gate_builtin (b := .append) (xs := #[.tmp 24, .tmp 31]) rfl ?_); at_builtin; refine Kd.R_append (Kd.int .i64) (w0 := w) w.heap.size rfl (.tmp 24) (.tmp 31) 22 3 (.int .i64 0) 8 rfl Try.underlying22 info3 rfl (by decide) (by omega) u4 x4_1 (wrap64 ((rd yd505 x20_1) - (rd l0_0 0))) [.int .i64 (wrap64 ((rd yd505 x20_1) - (rd l0_0 0)))] (fun _ => True) (fun _ => False) rfl rfl ?aP (fun _ hk => hk.elim) ?aF ?aO ?aB ?aS ?aL ?_; (case aP => exact rfl); (case aB => exact (by repeat (first | (with_reducible first | exact HB.out | apply below_alloc | apply pw_below_drewN | apply below_drew1 | refine below_set ?_ GE498.out | refine below_set ?_ GE499.out) | exact HB.out))); (case aF => exact (fun _ _ => trivial)); (case aO => exact (re_ HO_4.out)); (case aS => exact (below_size (by repeat (first | (with_reducible first | exact HB.out | apply below_alloc | apply pw_below_drewN | apply below_drew1 | refine below_set ?_ GE498.out | refine below_set ?_ GE499.out) | exact HB.out)))); (case aL => have := LMc20.out; omega); intro v509 w23 ho hb hg hat; rw [← Ny508.out] at ho; have n0_ := Aside0.mk (blk_grown (g := gb498) (o := .cells #[.slice (some ad501) l0_0.length c0_0] 27 (0, 0)) (be_ BK498.out) hg (Kd.R_ne HO_4.out BK498.out (by decide))); have n1_ := Aside0.mk (blk_grown (g := gb499) (o := .cells #[.slice none 0 0] 27 (0, 0)) (be_ BK499.out) hg (Kd.R_ne HO_4.out BK499.out (by decide))); have n2_ := Aside0.mk (hb); have n3_ := Aside0.mk (ho); clear BK498; clear BK499; clear HB; clear HO_4; have BK498 := n0_; have BK499 := n1_; have HB := n2_; have HO510 := n3_; clear n0_ n1_ n2_ n3_; clear ho hb hg hat))
                    go_roundg k1
                    case measure => have := HK1.out; omega
                    case rel => exact ⟨(y508), (wrap64 (x20_1 + 1)), (by first | rfl | (simp; done) | (simp [*]; done)), H', ⟨by have := HK1.out; omega⟩, ⟨re_ HO510.out⟩, ⟨be_ BK498.out⟩, ⟨be_ BK499.out⟩, ⟨by repeat (first | (with_reducible first | exact HB.out | apply below_alloc | apply pw_below_drewN | apply below_drew1 | refine below_set ?_ GE498.out | refine below_set ?_ GE499.out) | exact HB.out)⟩⟩
                 · rw [if_neg c20] at H
                   exact absurd H (by simp)
               · rw [if_neg c19] at H
                 exact absurd H (by simp)
             · rw [if_neg c18] at H
               exact absurd H (by simp)
           · rw [if_neg c17] at H
             exact absurd H (by simp)
         · rw [if_neg c16] at H
           have c16b0 : decide (x20_1 < (yd505.length : Int)) = false := decide_eq_false c16
           clear c16
           replace H := Option.bind_eq_some_iff.mp H
           obtain ⟨⟨t511, t514⟩, A240, H⟩ := H
           replace H : (some (t511, t514)) = some (r1, r2) := H
           have A24 := Aside0.mk A240
           clear A240
           as_aux_lemma =>
            simp only [Option.some.injEq, Prod.mk.injEq] at H
            obtain ⟨rfl, rfl⟩ := H
            obtain ⟨Ao25, co25, eo25⟩ := Kd.R_slice HO_4.out
            subst eo25
            go_wp2_with (first | ((with_reducible refine gate_callee (f := 93) rfl ?_); refine goesL_ (some 35) rfl rfl Try.func93 (by kernel_rfl) rfl #[.slice Ao25 x4_1.length co25] rfl (by (try simp only [List.map_toArray, List.map_cons, List.map_nil]); first | done | rfl | (simp only [List.length_drop, List.length_take]; rfl)) ?_; (with_reducible refine (impl_FromGens.calls k1 _ _ x4_1 t511 t514 _ ?side1 ?side2 A24.out).mono ?_); (case side1 => exact ce_ ((Kd.R_reads' HO_4.out).2.2)); (case side2 => exact (Kd.R_reads' HO_4.out).2.1); rintro e w26 ⟨v512, rfl, ho0, hb⟩; refine ⟨_, rfl, ?_⟩; have n0_ := Aside0.mk (Kd.R_elder' (re_ HO_4.out) (Kd.R_base ho0) hb); have n1_ := Aside0.mk (Kd.R_lower (Kd.R_new' ho0 (Kd.R_lt (re_ HO_4.out))) (below_size (by repeat (first | (with_reducible first | exact HB.out | apply below_alloc | apply pw_below_drewN | apply below_drew1 | refine below_set ?_ GE498.out | refine below_set ?_ GE499.out) | exact HB.out)))); have n2_ := Aside0.mk (blk_below (g := gb498) (o := .cells #[.slice (some ad501) l0_0.length c0_0] 27 (0, 0)) (be_ BK498.out) hb); have n3_ := Aside0.mk (blk_below (g := gb499) (o := .cells #[.slice none 0 0] 27 (0, 0)) (be_ BK499.out) hb); have n4_ := Aside0.mk (below_step (by repeat (first | (with_reducible first | exact HB.out | apply below_alloc | apply pw_below_drewN | apply below_drew1 | refine below_set ?_ GE498.out | refine below_set ?_ GE499.out) | exact HB.out)) hb); clear HO_4; clear BK498; clear BK499; clear HB; have HO_4 := n0_; have HO513 := n1_; have BK498 := n2_; have BK499 := n3_; have HB := n4_; clear n0_ n1_ n2_ n3_ n4_; (try clear hb); (try clear hb2); (try clear hk); (try clear hi); (try clear ho0); obtain ⟨Ao27, co27, eo27⟩ := Kd.R_slice HO513.out; subst eo27; have hnb28 := NB499_498.out; have hnc28 := NB498_499.out; have hcz29_0 : w26.cell? ⟨gb499, 0, none⟩ = some (.slice none 0 0) := (blk_cell BK499.out 0).trans rfl; have hfz29_0 := blk_frozen BK499.out 0))
            refine bodyPost_ret (results_ct rfl _ _ gb499 27 #[.slice Ao27 t511.length co27] (0, 0) _ rfl (by (with_reducible repeat (first | refine blk_drewN ?_ _ | refine blk_drew ?_ | refine blk_alloc ?_ _)); refine blk_put (cs := #[.slice none 0 0]) ?_ 0 _ rfl; (with_reducible repeat (first | refine blk_drewN ?_ _ | refine blk_drew ?_ | refine blk_alloc ?_ _)); exact BK499.out) Try.underlying27 rfl (by kernel_rfl)) rfl ?_
            exact ⟨_, by first | rfl | (simp [errW_none, errW_some] <;> rfl) | (simp [*, errW_none, errW_some] <;> rfl), by (with_reducible repeat (first | apply Kd.R_alloc | apply Kd.R_drewN | apply Kd.R_drew)); exact Kd.R_mono (Kd.R_far (p := ⟨gb499, 0, none⟩) (Kd.R_types HO513.out BK499.out (by decide)) (fun _ hk => hk.2) (.slice Ao27 t511.length co27)) (fun _ hk => trivial), by repeat (first | (with_reducible first | exact HB.out | apply below_alloc | apply pw_below_drewN | apply below_drew1 | refine below_set ?_ GE498.out | refine below_set ?_ GE499.out) | exact HB.out)⟩
     · rw [if_neg c5] at H
       exact absurd H (by simp)
   · rw [if_neg c4] at H
     exact absurd H (by simp)
 · replace c3 := Bool.eq_false_iff.mpr c3
   subst c3
   have H1 : (some (([] : List Int), false)) = some (r1, r2) := by rw [if_neg (show ¬ (false = true) by decide)] at H; exact H
   clear H
   have H := H1
   clear H1
   as_aux_lemma =>
    simp only [Option.some.injEq, Prod.mk.injEq] at H
    obtain ⟨rfl, rfl⟩ := H
    go_enter Try.func53, Try.ntmps53
    go_wp2_with (first | ((with_reducible refine gate_dst (N := 1) rfl ?_); refine box_event ?hg (N := 1) ?hd (cs := #[.slice A0_0 l0_0.length c0_0]) (t := 27) ?hr ?_; (case hd => rfl); (case hg => rfl); (case hr => first | (go_simp; done) | (go_simp; rfl)); intro gb498 hg w30 hbox hb; have n0_ := Aside0.mk (below_step (bl_ HB.out) hb); have n1_ := Aside0.mk (hbox); have n2_ := Aside0.mk ((by rw [hg]; exact (below_size (bl_ HB.out)) : w.heap.size ≤ gb498)); have n3_ := Aside0.mk ((by rw [hg]; exact (below_size (bl_ HB.out)) : w.heap.size ≤ gb498)); clear HB; have HB := n0_; have BK498 := n1_; have GW498 := n2_; have GE498 := n3_; clear n0_ n1_ n2_ n3_; clear hb hbox hg) | ((with_reducible refine gate_dst (N := 2) rfl ?_); refine box_event ?hg (N := 2) ?hd (cs := #[.slice none 0 0]) (t := 27) ?hr ?_; (case hd => rfl); (case hg => rfl); (case hr => first | (go_simp; done) | (go_simp; rfl)); intro gb499 hg w31 hbox hb; have n0_ := Aside0.mk (blk_below (g := gb498) (o := .cells #[.slice A0_0 l0_0.length c0_0] 27 (0, 0)) (be_ BK498.out) hb); have n1_ := Aside0.mk (below_step (by repeat (first | (with_reducible first | exact HB.out | apply below_alloc | apply pw_below_drewN | apply below_drew1 | refine below_set ?_ GE498.out) | exact HB.out)) hb); have n2_ := Aside0.mk (hbox); have n3_ := Aside0.mk ((by rw [hg]; exact (below_size (by repeat (first | (with_reducible first | exact HB.out | apply below_alloc | apply pw_below_drewN | apply below_drew1 | refine below_set ?_ GE498.out) | exact HB.out))) : w.heap.size ≤ gb499)); have n4_ := Aside0.mk ((by rw [hg]; exact (below_size (by repeat (first | (with_reducible first | exact HB.out | apply below_alloc | apply pw_below_drewN | apply below_drew1 | refine below_set ?_ GE498.out) | exact HB.out))) : w.heap.size ≤ gb499)); have n5_ := Aside0.mk ((by rw [hg]; exact Nat.ne_of_lt (blk_lt (g := gb498) (o := .cells #[.slice A0_0 l0_0.length c0_0] 27 (0, 0)) (be_ BK498.out)) : gb498 ≠ gb499)); have n6_ := Aside0.mk ((by rw [hg]; exact Nat.ne_of_gt (blk_lt (g := gb498) (o := .cells #[.slice A0_0 l0_0.length c0_0] 27 (0, 0)) (be_ BK498.out)) : gb499 ≠ gb498)); clear BK498; clear HB; have BK498 := n0_; have HB := n1_; have BK499 := n2_; have GW499 := n3_; have GE499 := n4_; have NB498_499 := n5_; have NB499_498 := n6_; clear n0_ n1_ n2_ n3_ n4_ n5_ n6_; clear hb hbox hg; have hnb32 := NB498_499.out; have hnc32 := NB499_498.out; have hcz33_0 : w31.cell? ⟨gb498, 0, none⟩ = some (.slice A0_0 l0_0.length c0_0) := (blk_cell BK498.out 0).trans rfl; have hfz33_0 := blk_frozen BK498.out 0) | ((with_reducible refine gate_callee (f := 56) rfl ?_); refine goesL_ (some 8) rfl rfl Try.func56 (by kernel_rfl) rfl #[.agg #[.slice A0_0 l0_0.length c0_0]] rfl (by (try simp only [List.map_toArray, List.map_cons, List.map_nil]); first | done | rfl | (simp only [List.length_drop, List.length_take]; rfl)) ?_; (with_reducible refine (impl_IsSemigroup.calls k _ _ l0_0 false _ ?side1 ?side2 A2.out).mono ?_); (case side1 => exact ce_ ((Kd.C_below HR0_0.out HB.out))); (case side2 => exact HC0_0.out); rintro e w34 ⟨rfl, hb⟩; refine ⟨_, rfl, ?_⟩; have n0_ := Aside0.mk (blk_below (g := gb498) (o := .cells #[.slice A0_0 l0_0.length c0_0] 27 (0, 0)) (be_ BK498.out) hb); have n1_ := Aside0.mk (blk_below (g := gb499) (o := .cells #[.slice none 0 0] 27 (0, 0)) (be_ BK499.out) hb); have n2_ := Aside0.mk (below_step (by repeat (first | (with_reducible first | exact HB.out | apply below_alloc | apply pw_below_drewN | apply below_drew1 | refine below_set ?_ GE498.out | refine below_set ?_ GE499.out) | exact HB.out)) hb); clear BK498; clear BK499; clear HB; have BK498 := n0_; have BK499 := n1_; have HB := n2_; clear n0_ n1_ n2_; (try clear hb); (try clear hb2); (try clear hk); (try clear hi); have hcz35_0 : w34.cell? ⟨gb499, 0, none⟩ = some (.slice none 0 0) := (blk_cell BK499.out 0).trans rfl; have hfz35_0 := blk_frozen BK499.out 0))
    refine bodyPost_ret (results_ct rfl _ _ gb499 27 #[.slice none 0 0] (0, 0) _ rfl (by (with_reducible repeat (first | refine blk_drewN ?_ _ | refine blk_drew ?_ | refine blk_alloc ?_ _)); refine blk_put (cs := #[.slice none 0 0]) ?_ 0 _ rfl; (with_reducible repeat (first | refine blk_drewN ?_ _ | refine blk_drew ?_ | refine blk_alloc ?_ _)); exact BK499.out) Try.underlying27 rfl (by kernel_rfl)) rfl ?_
    exact ⟨_, by first | rfl | (simp [errW_none, errW_some] <;> rfl) | (simp [*, errW_none, errW_some] <;> rfl), by first | exact Kd.R_nil _ _ _ _ _ | exact Kd.N_nil _ _ _ _ _ | exact Kd.V_nil _ _ _ _ _ | exact Kd.Q_nil _ _ _ _ _ | exact Kd.S_nil _ _ _ _ _, by repeat (first | (with_reducible first | exact HB.out | apply below_alloc | apply pw_below_drewN | apply below_drew1 | refine below_set ?_ GE498.out | refine below_set ?_ GE499.out) | exact HB.out)⟩
end Go.Proofs.Ytapdhljbhekcdaa.PC
end
