-- Bundled by shake.py from this session's printed and written texts; Lean checks it.
import Derived.Test.YtjjajcldmkmgkaaDoorZFnExactDescribeSemigroupx1
import Derived.Test.YtjjajcldmkmgkaaDoorZFnExactDescribeSemigroupx2
import Derived.Test.YtjjajcldmkmgkaaDoorZFnExactDescribeSemigroupx3
import Derived.Test.YtjjajcldmkmgkaaDoorZFnExactDescribeSemigroupx4
import Derived.Test.YtjjajcldmkmgkaaDoorZFnExactDescribeSemigroupx5
section
namespace Go.Proofs.YtjjajcldmkmgkaaDoor.PA
open Go.RowKit Go.Proofs.YtjjajcldmkmgkaaDoorW.PrintWords Go.Proofs.YtjjajcldmkmgkaaDoorW.PrintLast Go.Proofs.YtjjajcldmkmgkaaDoorW.PrintMore
attribute [local go_sem] max2_int min2_int max_two min_two max_three min_three max_four min_four
set_option linter.unusedVariables false
set_option linter.unusedSimpArgs false
def spec_l4Small.l0 : Nat → Int → List Int → List Bool → Int → Option (List Int)
 | 0, _, _, _, _ => none
 | k + 1, x1, x5, x6, x7 => if x7 < x1 then (if 0 ≤ x7 then (if x7 < (x6.length : Int) then (if rdOf false x6 x7 = true then (if x5.length < 17592186044416 then (spec_l4Small.l0 k x1 (x5 ++ [x7]) x6 (wrap64 (x7 + 1))) else (none)) else (spec_l4Small.l0 k x1 x5 x6 (wrap64 (x7 + 1)))) else (none)) else (none)) else (some x5)
def spec_l4Small.f (k : Nat) (l0_0 : List Int) (a1 : Int) : Option (List Int) := (some (([] : List Int) : List Int)).bind fun y342 => (if a1 < 1 then (some y342) else ((spec_l3Table.f k l0_0 a1).bind fun t345 => (spec_l4Small.l0 k a1 y342 t345 0)))
set_option maxHeartbeats 8000000 in
set_option maxRecDepth 100000 in
theorem spec_l4Small.calls (k : Nat) (A0_0 : Option Addr) (c0_0 : Nat) (l0_0 : List Int) (a1 : Int) (r : List Int) (w : World) (hr0_0 : Kd.C (Kd.int .i64) w A0_0 l0_0.length l0_0) (hc0_0 : l0_0.length ≤ c0_0) (h : spec_l4Small.f k l0_0 a1 = some r) :
 Calls Tryd.prog 82 #[.agg #[.slice A0_0 l0_0.length c0_0], .int .i64 a1] w fun e w' => ∃ v0_ : Value, e = .returned (v0_) ∧ Kd.R (Kd.int .i64) 3 w' w.heap.size (fun _ => True) v0_ r ∧ Below w.heap.size w w' := by
 have hu27 := Tryd.underlying27
 have HR0_0 := Aside0.mk hr0_0
 have HC0_0 := Aside0.mk hc0_0
 clear hr0_0 hc0_0
 have HB := Aside0.mk (Below.refl w.heap.size w)
 have H : ((some (([] : List Int) : List Int)).bind fun y342 => (if a1 < 1 then (some y342) else ((spec_l3Table.f k l0_0 a1).bind fun t345 => (spec_l4Small.l0 k a1 y342 t345 0)))) = some r := h
 clear h
 obtain ⟨y342, hy342⟩ : ∃ y_ : List Int, y_ = (([] : List Int)) := ⟨_, rfl⟩
 replace H : (if a1 < 1 then (some y342) else ((spec_l3Table.f k l0_0 a1).bind fun t345 => (spec_l4Small.l0 k a1 y342 t345 0))) = some r := by subst hy342; exact H
 have Ny342 := Aside0.mk hy342
 clear hy342
 by_cases c3 : a1 < 1
 · rw [if_pos c3] at H
   have c3b0 : decide (a1 < 1) = true := decide_eq_true c3
   clear c3
   obtain rfl := Option.some.inj H
   go_enter Tryd.func82, Tryd.ntmps82
   go_wp2_with (first | ((with_reducible refine gate_dst (N := 2) rfl ?_); refine box_event ?hg (N := 2) ?hd (cs := #[.slice A0_0 l0_0.length c0_0]) (t := 27) ?hr ?_; (case hd => rfl); (case hg => rfl); (case hr => first | (go_simp; done) | (go_simp; rfl)); intro gb341 hg w4 hbox hb; have BK341 := Aside0.mk (hbox); have GW341 := Aside0.mk ((by rw [hg]; exact (below_size (bl_ HB.out)) : w.heap.size ≤ gb341)); have GE341 := Aside0.mk ((by rw [hg]; exact (below_size (bl_ HB.out)) : w.heap.size ≤ gb341)); replace HB := Aside0.mk (below_step (bl_ HB.out) hb); clear hb hbox hg) | ((with_reducible refine gate_dst (N := 8) rfl ?_); refine Kd.R_lit (Kd.int .i64) _ 3 ?hg (N := 8) ?hd (xs := ([] : List Int)) (inner := []) (ok := fun _ => True) (okp := fun _ => True) ?hr ?hp (fun _ hk => hk) trivial (Below.refl _ _) (Nat.le_refl _) (by simp) ?_; (case hd => rfl); (case hg => rfl); (case hr => first | (go_simp; done) | (go_simp; rfl)); (case hp => exact (Reps.none _ _)); intro v343 w5 ho6 hb hg_ hnew_; clear hg_ hnew_; (first | rw [← Ny342.out] at ho6 | (simp only [Int.reduceToNat] at ho6; rw [← Ny342.out] at ho6)); have HO344 := Aside0.mk (Kd.R_lower ho6 (below_size (by repeat (first | (with_reducible first | exact HB.out | apply below_alloc | apply pw_below_drewN | apply below_drew1 | refine below_set ?_ GE341.out) | exact HB.out)))); replace BK341 := Aside0.mk (blk_below (be_ BK341.out) hb); replace HB := Aside0.mk (below_step (by repeat (first | (with_reducible first | exact HB.out | apply below_alloc | apply pw_below_drewN | apply below_drew1 | refine below_set ?_ GE341.out) | exact HB.out)) hb); clear hb ho6))
   go_ret
   exact ⟨_, by first | rfl | (simp [errW_none, errW_some] <;> rfl) | (simp [*, errW_none, errW_some] <;> rfl), re_ HO344.out, by repeat (first | (with_reducible first | exact HB.out | apply below_alloc | apply pw_below_drewN | apply below_drew1 | refine below_set ?_ GE341.out) | exact HB.out)⟩
 · rw [if_neg c3] at H
   have c3b0 : decide (a1 < 1) = false := decide_eq_false c3
   clear c3
   replace H := Option.bind_eq_some_iff.mp H
   obtain ⟨t345, A70, H⟩ := H
   have A7 := Aside0.mk A70
   clear A70
   have H' := Aside0.mk H
   clear H
   go_enter Tryd.func82, Tryd.ntmps82
   go_wp2_with (first | ((with_reducible refine gate_dst (N := 2) rfl ?_); refine box_event ?hg (N := 2) ?hd (cs := #[.slice A0_0 l0_0.length c0_0]) (t := 27) ?hr ?_; (case hd => rfl); (case hg => rfl); (case hr => first | (go_simp; done) | (go_simp; rfl)); intro gb341 hg w8 hbox hb; have BK341 := Aside0.mk (hbox); have GW341 := Aside0.mk ((by rw [hg]; exact (below_size (bl_ HB.out)) : w.heap.size ≤ gb341)); have GE341 := Aside0.mk ((by rw [hg]; exact (below_size (bl_ HB.out)) : w.heap.size ≤ gb341)); replace HB := Aside0.mk (below_step (bl_ HB.out) hb); clear hb hbox hg) | ((with_reducible refine gate_dst (N := 8) rfl ?_); refine Kd.R_lit (Kd.int .i64) _ 3 ?hg (N := 8) ?hd (xs := ([] : List Int)) (inner := []) (ok := fun _ => True) (okp := fun _ => True) ?hr ?hp (fun _ hk => hk) trivial (Below.refl _ _) (Nat.le_refl _) (by simp) ?_; (case hd => rfl); (case hg => rfl); (case hr => first | (go_simp; done) | (go_simp; rfl)); (case hp => exact (Reps.none _ _)); intro v343 w9 ho10 hb hg_ hnew_; clear hg_ hnew_; (first | rw [← Ny342.out] at ho10 | (simp only [Int.reduceToNat] at ho10; rw [← Ny342.out] at ho10)); have HO344 := Aside0.mk (Kd.R_lower ho10 (below_size (by repeat (first | (with_reducible first | exact HB.out | apply below_alloc | apply pw_below_drewN | apply below_drew1 | refine below_set ?_ GE341.out) | exact HB.out)))); replace BK341 := Aside0.mk (blk_below (be_ BK341.out) hb); replace HB := Aside0.mk (below_step (by repeat (first | (with_reducible first | exact HB.out | apply below_alloc | apply pw_below_drewN | apply below_drew1 | refine below_set ?_ GE341.out) | exact HB.out)) hb); clear hb ho10; have hcz11_0 : w9.cell? ⟨gb341, 0, none⟩ = some (.slice A0_0 l0_0.length c0_0) := (blk_cell BK341.out 0).trans rfl; have hfz11_0 := blk_frozen BK341.out 0) | ((with_reducible refine gate_callee (f := 69) rfl ?_); refine gL_ (some 15) Tryd.func69 #[.slice A0_0 l0_0.length c0_0, .int .i64 a1] ?_; (with_reducible refine (spec_l3Table.calls k _ _ l0_0 a1 t345 _ ?side1 ?side2 A7.out).mono ?_); (case side1 => exact ce_ ((Kd.C_below HR0_0.out HB.out))); (case side2 => exact HC0_0.out); rintro e w12 ⟨v346, rfl, ho0, hb⟩; refine ⟨_, rfl, ?_⟩; replace HO344 := Aside0.mk (Kd.R_below (re_ HO344.out) hb); have HO347 := Aside0.mk (Kd.R_lower ho0 (below_size (by repeat (first | (with_reducible first | exact HB.out | apply below_alloc | apply pw_below_drewN | apply below_drew1 | refine below_set ?_ GE341.out) | exact HB.out)))); replace BK341 := Aside0.mk (blk_below (be_ BK341.out) hb); replace HB := Aside0.mk (below_step (by repeat (first | (with_reducible first | exact HB.out | apply below_alloc | apply pw_below_drewN | apply below_drew1 | refine below_set ?_ GE341.out) | exact HB.out)) hb); (try clear hb); (try clear hb2); (try clear hk); (try clear hi); (try clear ho0)))
   go_loopg [5, 7] k (fun kq v5 v7 w' => ∃ (x5_1 : List Int) (x7_1 : Int), v7 = .int .i64 x7_1 ∧ Aside0 (spec_l4Small.l0 kq a1 x5_1 t345 x7_1 = some r) ∧ Aside0 (kq ≤ k) ∧ Aside0 (Kd.R (Kd.int .i64) 3 w' w.heap.size (fun _ => True) v5 x5_1) ∧ Aside0 (Kd.R Kd.bool 4 w' w.heap.size (fun _ => True) v346 t345) ∧ Aside0 (w'.heap[gb341]? = some (.cells #[(.slice A0_0 l0_0.length c0_0)] 27 (0, 0))) ∧ Aside0 (Below w.heap.size w w'))
   case atStart => exact ⟨(y342), (0), (by first | rfl | (simp; done) | (simp [*]; done)), H', ⟨Nat.le_refl _⟩, ⟨re_ HO344.out⟩, ⟨re_ HO347.out⟩, ⟨be_ BK341.out⟩, ⟨by repeat (first | (with_reducible first | exact HB.out | apply below_alloc | apply pw_below_drewN | apply below_drew1 | refine below_set ?_ GE341.out) | exact HB.out)⟩⟩
   case round =>
    clear H'
    try clear p2
    try clear c3
    try clear c3b0
    try clear c6
    try clear c8
    try clear hcz11_0
    try clear hfz11_0
    obtain ⟨x5_1, x7_1, rfl, HA, HK1, HO_5, HO_6, BK341, HB⟩ := hrel
    cases gk with
    | zero => exact absurd HA.out (by simp [spec_l4Small.l0])
    | succ k1 =>
     have H := HA.out
     clear HA
     simp only [spec_l4Small.l0] at H
     by_cases c13 : x7_1 < a1
     · rw [if_pos c13] at H
       have c13b0 : decide (x7_1 < a1) = true := decide_eq_true c13
       clear c13
       by_cases c14 : 0 ≤ x7_1
       · rw [if_pos c14] at H
         have c14b0 : decide (0 ≤ x7_1) = true := decide_eq_true c14
         clear c14
         by_cases c15 : x7_1 < (t345.length : Int)
         · rw [if_pos c15] at H
           have c15b0 : decide (x7_1 < (t345.length : Int)) = true := decide_eq_true c15
           clear c15
           obtain ⟨bq16, hbq16⟩ : ∃ b_ : Bool, b_ = (rdOf false t345 x7_1) := ⟨_, rfl⟩
           replace H : (if bq16 = true then (if x5_1.length < 17592186044416 then (spec_l4Small.l0 k1 a1 (x5_1 ++ [x7_1]) t345 (wrap64 (x7_1 + 1))) else (none)) else (spec_l4Small.l0 k1 a1 x5_1 t345 (wrap64 (x7_1 + 1)))) = some r := by rw [← hbq16] at H; exact H
           have Nbq16 := Aside0.mk hbq16
           clear hbq16
           by_cases c17 : bq16 = true
           · subst c17
             rw [if_pos rfl] at H
             by_cases c18 : x5_1.length < 17592186044416
             · rw [if_pos c18] at H
               have LMc18 := Aside0.mk c18
               clear c18
               obtain ⟨y349, hy349⟩ : ∃ y_ : List Int, y_ = (x5_1 ++ [x7_1]) := ⟨_, rfl⟩
               replace H : (spec_l4Small.l0 k1 a1 y349 t345 (wrap64 (x7_1 + 1))) = some r := by subst hy349; exact H
               have Ny349 := Aside0.mk hy349
               clear hy349
               have H' := Aside0.mk H
               clear H
               obtain ⟨Ao19, co19, eo19⟩ := Kd.R_slice HO_6.out
               subst eo19
               have p348 : 0 ≤ (x7_1 : Int) := od_
               have q348 : x7_1 < (t345.length : Int) := od_
               obtain ⟨ad348, e348, hx348_0⟩ := Kd.at_bool (Kd.R_reads' HO_6.out).2.2 x7_1 p348 q348
               (try rw [← Nbq16.out] at hx348_0)
               cases e348
               replace p348 := eq_true p348
               replace q348 := eq_true q348
               go_wp2_with (first | ((with_reducible refine gate_builtin (b := .append) (xs := #[.tmp 25, .tmp 27]) rfl ?_); at_builtin; refine Kd.R_append (Kd.int .i64) (w0 := w) w.heap.size rfl (.tmp 25) (.tmp 27) 22 3 (.int .i64 0) 8 rfl Tryd.underlying22 info3 rfl (by decide) (by omega) u5 x5_1 x7_1 [.int .i64 x7_1] (fun _ => True) (fun _ => False) rfl rfl ?aP (fun _ hk => hk.elim) ?aF ?aO ?aB ?aS ?aL ?_; (case aP => exact rfl); (case aB => exact (by repeat (first | (with_reducible first | exact HB.out | apply below_alloc | apply pw_below_drewN | apply below_drew1 | refine below_set ?_ GE341.out) | exact HB.out))); (case aF => exact (fun _ _ => trivial)); (case aO => exact (re_ HO_5.out)); (case aS => exact (below_size (by repeat (first | (with_reducible first | exact HB.out | apply below_alloc | apply pw_below_drewN | apply below_drew1 | refine below_set ?_ GE341.out) | exact HB.out)))); (case aL => have := LMc18.out; omega); intro v350 w20 ho hb hg hat; rw [← Ny349.out] at ho; replace HO_6 := Aside0.mk (Kd.R_over' (re_ HO_6.out) (Kd.R_typed (re_ HO_5.out)) (by decide) hg); replace BK341 := Aside0.mk (blk_grown (be_ BK341.out) hg (Kd.R_ne HO_5.out BK341.out (by decide))); replace HB := Aside0.mk (hb); have HO351 := Aside0.mk (ho); clear HO_5; clear ho hb hg hat))
               go_roundg k1
               case measure => have := HK1.out; omega
               case rel => exact ⟨(y349), (wrap64 (x7_1 + 1)), (by first | rfl | (simp; done) | (simp [*]; done)), H', ⟨by have := HK1.out; omega⟩, ⟨re_ HO351.out⟩, ⟨re_ HO_6.out⟩, ⟨be_ BK341.out⟩, ⟨by repeat (first | (with_reducible first | exact HB.out | apply below_alloc | apply pw_below_drewN | apply below_drew1 | refine below_set ?_ GE341.out) | exact HB.out)⟩⟩
             · rw [if_neg c18] at H
               exact absurd H (by simp)
           · replace c17 := Bool.eq_false_iff.mpr c17
             subst c17
             rw [if_neg (show ¬ (false = true) by decide)] at H
             have H' := Aside0.mk H
             clear H
             obtain ⟨Ao21, co21, eo21⟩ := Kd.R_slice HO_6.out
             subst eo21
             have p348 : 0 ≤ (x7_1 : Int) := od_
             have q348 : x7_1 < (t345.length : Int) := od_
             obtain ⟨ad348, e348, hx348_0⟩ := Kd.at_bool (Kd.R_reads' HO_6.out).2.2 x7_1 p348 q348
             (try rw [← Nbq16.out] at hx348_0)
             cases e348
             replace p348 := eq_true p348
             replace q348 := eq_true q348
             go_wp2
             go_roundg k1
             case measure => have := HK1.out; omega
             case rel => exact ⟨(x5_1), (wrap64 (x7_1 + 1)), (by first | rfl | (simp; done) | (simp [*]; done)), H', ⟨by have := HK1.out; omega⟩, ⟨re_ HO_5.out⟩, ⟨re_ HO_6.out⟩, ⟨be_ BK341.out⟩, ⟨by repeat (first | (with_reducible first | exact HB.out | apply below_alloc | apply pw_below_drewN | apply below_drew1 | refine below_set ?_ GE341.out) | exact HB.out)⟩⟩
         · rw [if_neg c15] at H
           exact absurd H (by simp)
       · rw [if_neg c14] at H
         exact absurd H (by simp)
     · rw [if_neg c13] at H
       have c13b0 : decide (x7_1 < a1) = false := decide_eq_false c13
       clear c13
       obtain rfl := Option.some.inj H
       go_wp2
       go_ret
       exact ⟨_, by first | rfl | (simp [errW_none, errW_some] <;> rfl) | (simp [*, errW_none, errW_some] <;> rfl), re_ HO_5.out, by repeat (first | (with_reducible first | exact HB.out | apply below_alloc | apply pw_below_drewN | apply below_drew1 | refine below_set ?_ GE341.out) | exact HB.out)⟩
def spec_SmallElements.f (k : Nat) (l0_0 : List Int) : Option (List Int) := (spec_IsSemigroup.f k l0_0).bind fun t353 => (if t353 = true then ((spec_ConductorOf.f k l0_0).bind fun t354 => ((spec_l4Small.f k l0_0 t354).bind fun t355 => (some t355))) else (some (([] : List Int))))
set_option maxHeartbeats 8000000 in
set_option maxRecDepth 100000 in
theorem spec_SmallElements.calls (k : Nat) (A0_0 : Option Addr) (c0_0 : Nat) (l0_0 : List Int) (r : List Int) (w : World) (hr0_0 : Kd.C (Kd.int .i64) w A0_0 l0_0.length l0_0) (hc0_0 : l0_0.length ≤ c0_0) (h : spec_SmallElements.f k l0_0 = some r) :
 Calls Tryd.prog 73 #[.agg #[.slice A0_0 l0_0.length c0_0]] w fun e w' => ∃ v0_ : Value, e = .returned (v0_) ∧ Kd.R (Kd.int .i64) 3 w' w.heap.size (fun _ => True) v0_ r ∧ Below w.heap.size w w' := by
 have hu27 := Tryd.underlying27
 have HR0_0 := Aside0.mk hr0_0
 have HC0_0 := Aside0.mk hc0_0
 clear hr0_0 hc0_0
 have HB := Aside0.mk (Below.refl w.heap.size w)
 have H : ((spec_IsSemigroup.f k l0_0).bind fun t353 => (if t353 = true then ((spec_ConductorOf.f k l0_0).bind fun t354 => ((spec_l4Small.f k l0_0 t354).bind fun t355 => (some t355))) else (some (([] : List Int))))) = some r := h
 clear h
 replace H := Option.bind_eq_some_iff.mp H
 obtain ⟨t353, A20, H⟩ := H
 have A2 := Aside0.mk A20
 clear A20
 by_cases c3 : t353 = true
 · subst c3
   rw [if_pos rfl] at H
   replace H := Option.bind_eq_some_iff.mp H
   obtain ⟨t354, A40, H⟩ := H
   have A4 := Aside0.mk A40
   clear A40
   replace H := Option.bind_eq_some_iff.mp H
   obtain ⟨t355, A50, H⟩ := H
   have A5 := Aside0.mk A50
   clear A50
   obtain rfl := Option.some.inj H
   go_enter Tryd.func73, Tryd.ntmps73
   try go_wp2_with (first | ((with_reducible refine gate_dst (N := 1) rfl ?_); refine box_event ?hg (N := 1) ?hd (cs := #[.slice A0_0 l0_0.length c0_0]) (t := 27) ?hr ?_; (case hd => rfl); (case hg => rfl); (case hr => first | (go_simp; done) | (go_simp; rfl)); intro gb352 hg w6 hbox hb; have BK352 := Aside0.mk (hbox); have GW352 := Aside0.mk ((by rw [hg]; exact (below_size (bl_ HB.out)) : w.heap.size ≤ gb352)); have GE352 := Aside0.mk ((by rw [hg]; exact (below_size (bl_ HB.out)) : w.heap.size ≤ gb352)); replace HB := Aside0.mk (below_step (bl_ HB.out) hb); clear hb hbox hg; have hcz7_0 : w6.cell? ⟨gb352, 0, none⟩ = some (.slice A0_0 l0_0.length c0_0) := (blk_cell BK352.out 0).trans rfl; have hfz7_0 := blk_frozen BK352.out 0) | ((with_reducible refine gate_callee (f := 10) rfl ?_); refine gL_ (some 4) Tryd.func10 #[.agg #[.slice A0_0 l0_0.length c0_0]] ?_; (with_reducible refine (spec_IsSemigroup.calls k _ _ l0_0 true _ ?side1 ?side2 A2.out).mono ?_); (case side1 => exact ce_ ((Kd.C_below HR0_0.out HB.out))); (case side2 => exact HC0_0.out); rintro e w8 ⟨rfl, hb⟩; refine ⟨_, rfl, ?_⟩; replace BK352 := Aside0.mk (blk_below (be_ BK352.out) hb); replace HB := Aside0.mk (below_step (by repeat (first | (with_reducible first | exact HB.out | apply below_alloc | apply pw_below_drewN | apply below_drew1 | refine below_set ?_ GE352.out) | exact HB.out)) hb); (try clear hb); (try clear hb2); (try clear hk); (try clear hi)))
   replace BK352 := Aside0.mk (blk_drew BK352.out)
   replace HB := Aside0.mk (below_drew1 HB.out)
   refine start_ (n := 5) (S := fun w' => w'.cell? ⟨gb352, 0, none⟩ = some (.slice A0_0 l0_0.length c0_0)) (ds := []) (B_ 0 5) (by kernel_rfl) rfl rfl ((blk_cell BK352.out 0).trans rfl) (fun hHeld => ?_)
   generalize w8.drew = w9 at BK352 HB hHeld ⊢
   refine take_ (i := 0) (N := some 7) (v := ?_) (a' := ?_) (B_ 1 5) rfl rfl (by kernel_rfl) (fun _ _ _ h => h) (Or.inl ⟨by rfl, ?_⟩) hHeld ?_ ?_
   rotate_left
   · intro w' s0
     go_simp
     with_reducible rfl
   rotate_left
   · simp only [Act.put, z1_, z2_, z3_, i64_w, i32_w]
     rfl
   refine take_ (i := 1) (N := some 8) (v := ?_) (a' := ?_) (B_ 3 5) rfl rfl (by kernel_rfl) (fun _ _ _ h => h) (Or.inl ⟨by rfl, ?_⟩) hHeld ?_ ?_
   rotate_left
   · intro w' s0
     go_simp
     with_reducible rfl
   rotate_left
   · simp only [Act.put, z1_, z2_, z3_, i64_w, i32_w]
     rfl
   refine one_ (i := 2) (N := some 9) (B_ 7 5) rfl rfl (by kernel_rfl) (by decide) (fun K hK => ?_)
   refine goes_ Tryd.func51 (by kernel_rfl) rfl #[.agg #[.slice A0_0 l0_0.length c0_0]] (by rfl) rfl rfl (by (try simp only [List.map_toArray, List.map_cons, List.map_nil]); first | done | rfl | (simp only [List.length_drop, List.length_take]; rfl)) ?_
   with_reducible refine (spec_ConductorOf.calls k _ _ l0_0 t354 _ ?side1 ?side2 A4.out).mono ?_
   (case side1 => exact ce_ ((Kd.C_below HR0_0.out HB.out)))
   (case side2 => exact HC0_0.out)
   rintro e w10 ⟨rfl, hb⟩
   refine ⟨_, rfl, ?_⟩
   replace BK352 := Aside0.mk (blk_below (be_ BK352.out) hb)
   replace HB := Aside0.mk (below_step (by repeat (first | (with_reducible first | exact HB.out | apply below_alloc | apply pw_below_drewN | apply below_drew1 | refine below_set ?_ GE352.out) | exact HB.out)) hb)
   (try clear hb)
   (try clear hb2)
   (try clear hk)
   (try clear hi)
   refine hK.out _ _ ((blk_cell BK352.out 0).trans rfl) (fun hHeld => ?_)
   clear hK K
   refine norm_ (a' := ?_) ?_ ?_
   rotate_left
   · show Act.put _ (some 9) _ = _
     simp only [Act.put, z1_, z2_, z3_, i64_w, i32_w]
     rfl
   refine one_ (i := 3) (N := some 10) (B_ 15 5) rfl rfl (by kernel_rfl) (by decide) (fun K hK => ?_)
   refine goes_ Tryd.func82 (by kernel_rfl) rfl #[.agg #[.slice A0_0 l0_0.length c0_0], .int .i64 t354] (by rfl) rfl rfl (by (try simp only [List.map_toArray, List.map_cons, List.map_nil]); first | done | rfl | (simp only [List.length_drop, List.length_take]; rfl)) ?_
   with_reducible refine (spec_l4Small.calls k _ _ l0_0 t354 t355 _ ?side1 ?side2 A5.out).mono ?_
   (case side1 => exact ce_ ((Kd.C_below HR0_0.out HB.out)))
   (case side2 => exact HC0_0.out)
   rintro e w11 ⟨v356, rfl, ho0, hb⟩
   refine ⟨_, rfl, ?_⟩
   have HO357 := Aside0.mk (Kd.R_lower ho0 (below_size (by repeat (first | (with_reducible first | exact HB.out | apply below_alloc | apply pw_below_drewN | apply below_drew1 | refine below_set ?_ GE352.out) | exact HB.out))))
   replace BK352 := Aside0.mk (blk_below (be_ BK352.out) hb)
   replace HB := Aside0.mk (below_step (by repeat (first | (with_reducible first | exact HB.out | apply below_alloc | apply pw_below_drewN | apply below_drew1 | refine below_set ?_ GE352.out) | exact HB.out)) hb)
   (try clear hb)
   (try clear hb2)
   (try clear hk)
   (try clear hi)
   (try clear ho0)
   refine hK.out _ _ ((blk_cell BK352.out 0).trans rfl) (fun hHeld => ?_)
   clear hK K
   refine norm_ (a' := ?_) ?_ ?_
   rotate_left
   · show Act.put _ (some 10) _ = _
     simp only [Act.put, z1_, z2_, z3_, i64_w, i32_w]
     rfl
   refine pure_ (i := 4) (N := some 2) (v := ?_) (a' := ?_) (B_ 31 5) rfl rfl (by kernel_rfl) (fun _ _ _ h => h) (Or.inl ⟨by rfl, ?_⟩) ?_ ?_
   rotate_left
   · intro w'
     go_simp
     with_reducible rfl
   rotate_left
   · simp only [Act.put, z1_, z2_, z3_, i64_w, i32_w]
     rfl
   refine done_ (by kernel_rfl) ?_
   try go_wp2
   go_ret
   exact ⟨_, by first | rfl | (simp [errW_none, errW_some] <;> rfl) | (simp [*, errW_none, errW_some] <;> rfl), re_ HO357.out, by repeat (first | (with_reducible first | exact HB.out | apply below_alloc | apply pw_below_drewN | apply below_drew1 | refine below_set ?_ GE352.out) | exact HB.out)⟩
 · replace c3 := Bool.eq_false_iff.mpr c3
   subst c3
   rw [if_neg (show ¬ (false = true) by decide)] at H
   obtain ⟨y358, hy358⟩ : ∃ y_ : List Int, y_ = (([] : List Int)) := ⟨_, rfl⟩
   replace H : (some y358) = some r := by subst hy358; exact H
   have Ny358 := Aside0.mk hy358
   clear hy358
   obtain rfl := Option.some.inj H
   go_enter Tryd.func73, Tryd.ntmps73
   go_wp2_with (first | ((with_reducible refine gate_dst (N := 1) rfl ?_); refine box_event ?hg (N := 1) ?hd (cs := #[.slice A0_0 l0_0.length c0_0]) (t := 27) ?hr ?_; (case hd => rfl); (case hg => rfl); (case hr => first | (go_simp; done) | (go_simp; rfl)); intro gb352 hg w12 hbox hb; have BK352 := Aside0.mk (hbox); have GW352 := Aside0.mk ((by rw [hg]; exact (below_size (bl_ HB.out)) : w.heap.size ≤ gb352)); have GE352 := Aside0.mk ((by rw [hg]; exact (below_size (bl_ HB.out)) : w.heap.size ≤ gb352)); replace HB := Aside0.mk (below_step (bl_ HB.out) hb); clear hb hbox hg; have hcz13_0 : w12.cell? ⟨gb352, 0, none⟩ = some (.slice A0_0 l0_0.length c0_0) := (blk_cell BK352.out 0).trans rfl; have hfz13_0 := blk_frozen BK352.out 0) | ((with_reducible refine gate_callee (f := 10) rfl ?_); refine gL_ (some 4) Tryd.func10 #[.agg #[.slice A0_0 l0_0.length c0_0]] ?_; (with_reducible refine (spec_IsSemigroup.calls k _ _ l0_0 false _ ?side1 ?side2 A2.out).mono ?_); (case side1 => exact ce_ ((Kd.C_below HR0_0.out HB.out))); (case side2 => exact HC0_0.out); rintro e w14 ⟨rfl, hb⟩; refine ⟨_, rfl, ?_⟩; replace BK352 := Aside0.mk (blk_below (be_ BK352.out) hb); replace HB := Aside0.mk (below_step (by repeat (first | (with_reducible first | exact HB.out | apply below_alloc | apply pw_below_drewN | apply below_drew1 | refine below_set ?_ GE352.out) | exact HB.out)) hb); (try clear hb); (try clear hb2); (try clear hk); (try clear hi)) | ((with_reducible refine gate_dst (N := 6) rfl ?_); refine Kd.R_lit (Kd.int .i64) _ 3 ?hg (N := 6) ?hd (xs := ([] : List Int)) (inner := []) (ok := fun _ => True) (okp := fun _ => True) ?hr ?hp (fun _ hk => hk) trivial (Below.refl _ _) (Nat.le_refl _) (by simp) ?_; (case hd => rfl); (case hg => rfl); (case hr => first | (go_simp; done) | (go_simp; rfl)); (case hp => exact (Reps.none _ _)); intro v359 w15 ho16 hb hg_ hnew_; clear hg_ hnew_; (first | rw [← Ny358.out] at ho16 | (simp only [Int.reduceToNat] at ho16; rw [← Ny358.out] at ho16)); have HO360 := Aside0.mk (Kd.R_lower ho16 (below_size (by repeat (first | (with_reducible first | exact HB.out | apply below_alloc | apply pw_below_drewN | apply below_drew1 | refine below_set ?_ GE352.out) | exact HB.out)))); replace BK352 := Aside0.mk (blk_below (be_ BK352.out) hb); replace HB := Aside0.mk (below_step (by repeat (first | (with_reducible first | exact HB.out | apply below_alloc | apply pw_below_drewN | apply below_drew1 | refine below_set ?_ GE352.out) | exact HB.out)) hb); clear hb ho16))
   go_ret
   exact ⟨_, by first | rfl | (simp [errW_none, errW_some] <;> rfl) | (simp [*, errW_none, errW_some] <;> rfl), re_ HO360.out, by repeat (first | (with_reducible first | exact HB.out | apply below_alloc | apply pw_below_drewN | apply below_drew1 | refine below_set ?_ GE352.out) | exact HB.out)⟩
def spec_LeftCount.f (k : Nat) (l0_0 : List Int) : Option (Int) := (spec_IsSemigroup.f k l0_0).bind fun t362 => (if t362 = true then ((spec_SmallElements.f k l0_0).bind fun t363 => (some (t363.length : Int))) else (some (-1)))
set_option maxHeartbeats 8000000 in
set_option maxRecDepth 100000 in
theorem spec_LeftCount.calls (k : Nat) (A0_0 : Option Addr) (c0_0 : Nat) (l0_0 : List Int) (r : Int) (w : World) (hr0_0 : Kd.C (Kd.int .i64) w A0_0 l0_0.length l0_0) (hc0_0 : l0_0.length ≤ c0_0) (h : spec_LeftCount.f k l0_0 = some r) :
 Calls Tryd.prog 50 #[.agg #[.slice A0_0 l0_0.length c0_0]] w fun e w' => e = .returned (.int .i64 r) ∧ Below w.heap.size w w' := by
 have hu27 := Tryd.underlying27
 have HR0_0 := Aside0.mk hr0_0
 have HC0_0 := Aside0.mk hc0_0
 clear hr0_0 hc0_0
 have HB := Aside0.mk (Below.refl w.heap.size w)
 have H : ((spec_IsSemigroup.f k l0_0).bind fun t362 => (if t362 = true then ((spec_SmallElements.f k l0_0).bind fun t363 => (some (t363.length : Int))) else (some (-1)))) = some r := h
 clear h
 replace H := Option.bind_eq_some_iff.mp H
 obtain ⟨t362, A20, H⟩ := H
 have A2 := Aside0.mk A20
 clear A20
 by_cases c3 : t362 = true
 · subst c3
   rw [if_pos rfl] at H
   replace H := Option.bind_eq_some_iff.mp H
   obtain ⟨t363, A40, H⟩ := H
   have A4 := Aside0.mk A40
   clear A40
   obtain rfl := Option.some.inj H
   go_enter Tryd.func50, Tryd.ntmps50
   go_wp2_with (first | ((with_reducible refine gate_dst (N := 1) rfl ?_); refine box_event ?hg (N := 1) ?hd (cs := #[.slice A0_0 l0_0.length c0_0]) (t := 27) ?hr ?_; (case hd => rfl); (case hg => rfl); (case hr => first | (go_simp; done) | (go_simp; rfl)); intro gb361 hg w5 hbox hb; have BK361 := Aside0.mk (hbox); have GW361 := Aside0.mk ((by rw [hg]; exact (below_size (bl_ HB.out)) : w.heap.size ≤ gb361)); have GE361 := Aside0.mk ((by rw [hg]; exact (below_size (bl_ HB.out)) : w.heap.size ≤ gb361)); replace HB := Aside0.mk (below_step (bl_ HB.out) hb); clear hb hbox hg; have hcz6_0 : w5.cell? ⟨gb361, 0, none⟩ = some (.slice A0_0 l0_0.length c0_0) := (blk_cell BK361.out 0).trans rfl; have hfz6_0 := blk_frozen BK361.out 0) | ((with_reducible refine gate_callee (f := 10) rfl ?_); refine gL_ (some 4) Tryd.func10 #[.agg #[.slice A0_0 l0_0.length c0_0]] ?_; (with_reducible refine (spec_IsSemigroup.calls k _ _ l0_0 true _ ?side1 ?side2 A2.out).mono ?_); (case side1 => exact ce_ ((Kd.C_below HR0_0.out HB.out))); (case side2 => exact HC0_0.out); rintro e w7 ⟨rfl, hb⟩; refine ⟨_, rfl, ?_⟩; replace BK361 := Aside0.mk (blk_below (be_ BK361.out) hb); replace HB := Aside0.mk (below_step (by repeat (first | (with_reducible first | exact HB.out | apply below_alloc | apply pw_below_drewN | apply below_drew1 | refine below_set ?_ GE361.out) | exact HB.out)) hb); (try clear hb); (try clear hb2); (try clear hk); (try clear hi); have hcz8_0 : w7.cell? ⟨gb361, 0, none⟩ = some (.slice A0_0 l0_0.length c0_0) := (blk_cell BK361.out 0).trans rfl; have hfz8_0 := blk_frozen BK361.out 0) | ((with_reducible refine gate_callee (f := 73) rfl ?_); refine gL_ (some 7) Tryd.func73 #[.agg #[.slice A0_0 l0_0.length c0_0]] ?_; (with_reducible refine (spec_SmallElements.calls k _ _ l0_0 t363 _ ?side1 ?side2 A4.out).mono ?_); (case side1 => exact ce_ ((Kd.C_below HR0_0.out HB.out))); (case side2 => exact HC0_0.out); rintro e w9 ⟨v364, rfl, ho0, hb⟩; refine ⟨_, rfl, ?_⟩; have HO365 := Aside0.mk (Kd.R_lower ho0 (below_size (by repeat (first | (with_reducible first | exact HB.out | apply below_alloc | apply pw_below_drewN | apply below_drew1 | refine below_set ?_ GE361.out) | exact HB.out)))); replace BK361 := Aside0.mk (blk_below (be_ BK361.out) hb); replace HB := Aside0.mk (below_step (by repeat (first | (with_reducible first | exact HB.out | apply below_alloc | apply pw_below_drewN | apply below_drew1 | refine below_set ?_ GE361.out) | exact HB.out)) hb); (try clear hb); (try clear hb2); (try clear hk); (try clear hi); (try clear ho0); obtain ⟨Ao10, co10, eo10⟩ := Kd.R_slice HO365.out; subst eo10))
   go_ret
   exact ⟨by first | rfl | (simp [errW_none, errW_some] <;> rfl) | (simp [*, errW_none, errW_some] <;> rfl), by repeat (first | (with_reducible first | exact HB.out | apply below_alloc | apply pw_below_drewN | apply below_drew1 | refine below_set ?_ GE361.out) | exact HB.out)⟩
 · replace c3 := Bool.eq_false_iff.mpr c3
   subst c3
   rw [if_neg (show ¬ (false = true) by decide)] at H
   obtain rfl := Option.some.inj H
   go_enter Tryd.func50, Tryd.ntmps50
   go_wp2_with (first | ((with_reducible refine gate_dst (N := 1) rfl ?_); refine box_event ?hg (N := 1) ?hd (cs := #[.slice A0_0 l0_0.length c0_0]) (t := 27) ?hr ?_; (case hd => rfl); (case hg => rfl); (case hr => first | (go_simp; done) | (go_simp; rfl)); intro gb361 hg w11 hbox hb; have BK361 := Aside0.mk (hbox); have GW361 := Aside0.mk ((by rw [hg]; exact (below_size (bl_ HB.out)) : w.heap.size ≤ gb361)); have GE361 := Aside0.mk ((by rw [hg]; exact (below_size (bl_ HB.out)) : w.heap.size ≤ gb361)); replace HB := Aside0.mk (below_step (bl_ HB.out) hb); clear hb hbox hg; have hcz12_0 : w11.cell? ⟨gb361, 0, none⟩ = some (.slice A0_0 l0_0.length c0_0) := (blk_cell BK361.out 0).trans rfl; have hfz12_0 := blk_frozen BK361.out 0) | ((with_reducible refine gate_callee (f := 10) rfl ?_); refine gL_ (some 4) Tryd.func10 #[.agg #[.slice A0_0 l0_0.length c0_0]] ?_; (with_reducible refine (spec_IsSemigroup.calls k _ _ l0_0 false _ ?side1 ?side2 A2.out).mono ?_); (case side1 => exact ce_ ((Kd.C_below HR0_0.out HB.out))); (case side2 => exact HC0_0.out); rintro e w13 ⟨rfl, hb⟩; refine ⟨_, rfl, ?_⟩; replace BK361 := Aside0.mk (blk_below (be_ BK361.out) hb); replace HB := Aside0.mk (below_step (by repeat (first | (with_reducible first | exact HB.out | apply below_alloc | apply pw_below_drewN | apply below_drew1 | refine below_set ?_ GE361.out) | exact HB.out)) hb); (try clear hb); (try clear hb2); (try clear hk); (try clear hi)))
   go_ret
   exact ⟨by first | rfl | (simp [errW_none, errW_some] <;> rfl) | (simp [*, errW_none, errW_some] <;> rfl), by repeat (first | (with_reducible first | exact HB.out | apply below_alloc | apply pw_below_drewN | apply below_drew1 | refine below_set ?_ GE361.out) | exact HB.out)⟩
def spec_WilfNumber.f (k : Nat) (l0_0 : List Int) : Option (Int) := (spec_IsSemigroup.f k l0_0).bind fun t367 => (if t367 = true then ((spec_LeftCount.f k l0_0).bind fun t368 => ((spec_ConductorOf.f k l0_0).bind fun t369 => (some (wrap64 ((wrap64 ((l0_0.length : Int) * t368)) - t369))))) else (some (-1)))
def spec_WilfNumber.T3 : Bool × List (List Nat × List Nat) := (true, [([], []), ([0], [0]), ([1], [1]), ([], []), ([3], [3]), ([2, 4], [2, 4]), ([], []), ([6, 4], [6]), ([5, 7], [5, 7]), ([8, 7, 0, 1, 2, 3, 4, 5, 6, 7, 8], [8])])
def spec_WilfNumber.B3 : List Nat := [0, 1, 3, 0, 8, 31, 0, 88, 255, 511]
theorem spec_WilfNumber.tab3 : rtab .any (opsOf Tryd.f19 3) = spec_WilfNumber.T3 := by kernel_rfl
theorem spec_WilfNumber.bits3 : waitsOk spec_WilfNumber.T3.2 spec_WilfNumber.B3 = true := by kernel_rfl
set_option maxHeartbeats 8000000 in
set_option maxRecDepth 100000 in
theorem spec_WilfNumber.calls (k : Nat) (A0_0 : Option Addr) (c0_0 : Nat) (l0_0 : List Int) (r : Int) (w : World) (hr0_0 : Kd.C (Kd.int .i64) w A0_0 l0_0.length l0_0) (hc0_0 : l0_0.length ≤ c0_0) (h : spec_WilfNumber.f k l0_0 = some r) :
 Calls Tryd.prog 19 #[.agg #[.slice A0_0 l0_0.length c0_0]] w fun e w' => e = .returned (.int .i64 r) ∧ Below w.heap.size w w' := by
 have hu27 := Tryd.underlying27
 have HR0_0 := Aside0.mk hr0_0
 have HC0_0 := Aside0.mk hc0_0
 clear hr0_0 hc0_0
 have HB := Aside0.mk (Below.refl w.heap.size w)
 have H : ((spec_IsSemigroup.f k l0_0).bind fun t367 => (if t367 = true then ((spec_LeftCount.f k l0_0).bind fun t368 => ((spec_ConductorOf.f k l0_0).bind fun t369 => (some (wrap64 ((wrap64 ((l0_0.length : Int) * t368)) - t369))))) else (some (-1)))) = some r := h
 clear h
 replace H := Option.bind_eq_some_iff.mp H
 obtain ⟨t367, A20, H⟩ := H
 have A2 := Aside0.mk A20
 clear A20
 by_cases c3 : t367 = true
 · subst c3
   rw [if_pos rfl] at H
   replace H := Option.bind_eq_some_iff.mp H
   obtain ⟨t368, A40, H⟩ := H
   have A4 := Aside0.mk A40
   clear A40
   replace H := Option.bind_eq_some_iff.mp H
   obtain ⟨t369, A50, H⟩ := H
   have A5 := Aside0.mk A50
   clear A50
   obtain rfl := Option.some.inj H
   go_enter Tryd.func19, Tryd.ntmps19
   try go_wp2_with (first | ((with_reducible refine gate_dst (N := 1) rfl ?_); refine box_event ?hg (N := 1) ?hd (cs := #[.slice A0_0 l0_0.length c0_0]) (t := 27) ?hr ?_; (case hd => rfl); (case hg => rfl); (case hr => first | (go_simp; done) | (go_simp; rfl)); intro gb366 hg w6 hbox hb; have BK366 := Aside0.mk (hbox); have GW366 := Aside0.mk ((by rw [hg]; exact (below_size (bl_ HB.out)) : w.heap.size ≤ gb366)); have GE366 := Aside0.mk ((by rw [hg]; exact (below_size (bl_ HB.out)) : w.heap.size ≤ gb366)); replace HB := Aside0.mk (below_step (bl_ HB.out) hb); clear hb hbox hg; have hcz7_0 : w6.cell? ⟨gb366, 0, none⟩ = some (.slice A0_0 l0_0.length c0_0) := (blk_cell BK366.out 0).trans rfl; have hfz7_0 := blk_frozen BK366.out 0) | ((with_reducible refine gate_callee (f := 10) rfl ?_); refine gL_ (some 4) Tryd.func10 #[.agg #[.slice A0_0 l0_0.length c0_0]] ?_; (with_reducible refine (spec_IsSemigroup.calls k _ _ l0_0 true _ ?side1 ?side2 A2.out).mono ?_); (case side1 => exact ce_ ((Kd.C_below HR0_0.out HB.out))); (case side2 => exact HC0_0.out); rintro e w8 ⟨rfl, hb⟩; refine ⟨_, rfl, ?_⟩; replace BK366 := Aside0.mk (blk_below (be_ BK366.out) hb); replace HB := Aside0.mk (below_step (by repeat (first | (with_reducible first | exact HB.out | apply below_alloc | apply pw_below_drewN | apply below_drew1 | refine below_set ?_ GE366.out) | exact HB.out)) hb); (try clear hb); (try clear hb2); (try clear hk); (try clear hi)))
   replace BK366 := Aside0.mk (blk_drew BK366.out)
   replace HB := Aside0.mk (below_drew1 HB.out)
   refine start_ (n := 10) (S := fun w' => w'.cell? ⟨gb366, 0, none⟩ = some (.slice A0_0 l0_0.length c0_0)) (ds := []) (B_ 0 10) (by kernel_rfl) rfl rfl ((blk_cell BK366.out 0).trans rfl) (fun hHeld => ?_); refine with_tabW spec_WilfNumber.tab3 spec_WilfNumber.bits3 (fun HT_ HW_ => ?_)
   generalize w8.drew = w9 at BK366 HB hHeld ⊢
   refine pu_ HT_ 0 6 (B_ 1 10) ?_
   refine tk1_ HT_ HW_ hHeld 1 7 (B_ 3 10) ?_
   refine pu_ HT_ 2 8 (B_ 7 10) ?_
   refine tk1_ HT_ HW_ hHeld 3 9 (B_ 15 10) ?_
   refine tk1_ HT_ HW_ hHeld 6 12 (B_ 79 10) ?_
   refine one_ (i := 4) (N := some 10) (B_ 95 10) rfl rfl (one_of HT_.out (by kernel_rfl)) (by decide) (fun K hK => ?_)
   refine goes_ Tryd.func50 (by kernel_rfl) rfl #[.agg #[.slice A0_0 l0_0.length c0_0]] (by rfl) rfl rfl (by (try simp only [List.map_toArray, List.map_cons, List.map_nil]); first | done | rfl | (simp only [List.length_drop, List.length_take]; rfl)) ?_
   with_reducible refine (spec_LeftCount.calls k _ _ l0_0 t368 _ ?side1 ?side2 A4.out).mono ?_
   (case side1 => exact ce_ ((Kd.C_below HR0_0.out HB.out)))
   (case side2 => exact HC0_0.out)
   rintro e w10 ⟨rfl, hb⟩
   refine ⟨_, rfl, ?_⟩
   replace BK366 := Aside0.mk (blk_below (be_ BK366.out) hb)
   replace HB := Aside0.mk (below_step (by repeat (first | (with_reducible first | exact HB.out | apply below_alloc | apply pw_below_drewN | apply below_drew1 | refine below_set ?_ GE366.out) | exact HB.out)) hb)
   (try clear hb)
   (try clear hb2)
   (try clear hk)
   (try clear hi)
   refine hK.out _ _ ((blk_cell BK366.out 0).trans rfl) (fun hHeld => ?_)
   clear hK K
   refine norm_ (a' := ?_) ?_ ?_
   rotate_left
   · show Act.put _ (some 10) _ = _
     simp only [Act.put, z1_, z2_, z3_, i64_w, i32_w]
     rfl
   refine pu_ HT_ 5 11 (B_ 127 10) ?_
   refine one_ (i := 7) (N := some 13) (B_ 255 10) rfl rfl (one_of HT_.out (by kernel_rfl)) (by decide) (fun K hK => ?_)
   refine goes_ Tryd.func51 (by kernel_rfl) rfl #[.agg #[.slice A0_0 l0_0.length c0_0]] (by rfl) rfl rfl (by (try simp only [List.map_toArray, List.map_cons, List.map_nil]); first | done | rfl | (simp only [List.length_drop, List.length_take]; rfl)) ?_
   with_reducible refine (spec_ConductorOf.calls k _ _ l0_0 t369 _ ?side1 ?side2 A5.out).mono ?_
   (case side1 => exact ce_ ((Kd.C_below HR0_0.out HB.out)))
   (case side2 => exact HC0_0.out)
   rintro e w11 ⟨rfl, hb⟩
   refine ⟨_, rfl, ?_⟩
   replace BK366 := Aside0.mk (blk_below (be_ BK366.out) hb)
   replace HB := Aside0.mk (below_step (by repeat (first | (with_reducible first | exact HB.out | apply below_alloc | apply pw_below_drewN | apply below_drew1 | refine below_set ?_ GE366.out) | exact HB.out)) hb)
   (try clear hb)
   (try clear hb2)
   (try clear hk)
   (try clear hi)
   refine hK.out _ _ ((blk_cell BK366.out 0).trans rfl) (fun hHeld => ?_)
   clear hK K
   refine norm_ (a' := ?_) ?_ ?_
   rotate_left
   · show Act.put _ (some 13) _ = _
     simp only [Act.put, z1_, z2_, z3_, i64_w, i32_w]
     rfl
   refine pu_ HT_ 8 14 (B_ 511 10) ?_
   refine pu_ HT_ 9 2 (B_ 1023 10) ?_
   refine done_ (done_of HT_.out (by kernel_rfl)) ?_
   try go_wp2
   go_ret
   exact ⟨by first | rfl | (simp [errW_none, errW_some] <;> rfl) | (simp [*, errW_none, errW_some] <;> rfl), by repeat (first | (with_reducible first | exact HB.out | apply below_alloc | apply pw_below_drewN | apply below_drew1 | refine below_set ?_ GE366.out) | exact HB.out)⟩
 · replace c3 := Bool.eq_false_iff.mpr c3
   subst c3
   rw [if_neg (show ¬ (false = true) by decide)] at H
   obtain rfl := Option.some.inj H
   go_enter Tryd.func19, Tryd.ntmps19
   go_wp2_with (first | ((with_reducible refine gate_dst (N := 1) rfl ?_); refine box_event ?hg (N := 1) ?hd (cs := #[.slice A0_0 l0_0.length c0_0]) (t := 27) ?hr ?_; (case hd => rfl); (case hg => rfl); (case hr => first | (go_simp; done) | (go_simp; rfl)); intro gb366 hg w12 hbox hb; have BK366 := Aside0.mk (hbox); have GW366 := Aside0.mk ((by rw [hg]; exact (below_size (bl_ HB.out)) : w.heap.size ≤ gb366)); have GE366 := Aside0.mk ((by rw [hg]; exact (below_size (bl_ HB.out)) : w.heap.size ≤ gb366)); replace HB := Aside0.mk (below_step (bl_ HB.out) hb); clear hb hbox hg; have hcz13_0 : w12.cell? ⟨gb366, 0, none⟩ = some (.slice A0_0 l0_0.length c0_0) := (blk_cell BK366.out 0).trans rfl; have hfz13_0 := blk_frozen BK366.out 0) | ((with_reducible refine gate_callee (f := 10) rfl ?_); refine gL_ (some 4) Tryd.func10 #[.agg #[.slice A0_0 l0_0.length c0_0]] ?_; (with_reducible refine (spec_IsSemigroup.calls k _ _ l0_0 false _ ?side1 ?side2 A2.out).mono ?_); (case side1 => exact ce_ ((Kd.C_below HR0_0.out HB.out))); (case side2 => exact HC0_0.out); rintro e w14 ⟨rfl, hb⟩; refine ⟨_, rfl, ?_⟩; replace BK366 := Aside0.mk (blk_below (be_ BK366.out) hb); replace HB := Aside0.mk (below_step (by repeat (first | (with_reducible first | exact HB.out | apply below_alloc | apply pw_below_drewN | apply below_drew1 | refine below_set ?_ GE366.out) | exact HB.out)) hb); (try clear hb); (try clear hb2); (try clear hk); (try clear hi)))
   go_ret
   exact ⟨by first | rfl | (simp [errW_none, errW_some] <;> rfl) | (simp [*, errW_none, errW_some] <;> rfl), by repeat (first | (with_reducible first | exact HB.out | apply below_alloc | apply pw_below_drewN | apply below_drew1 | refine below_set ?_ GE366.out) | exact HB.out)⟩
end Go.Proofs.YtjjajcldmkmgkaaDoor.PA
end
section
namespace Go.Proofs.YtjjajcldmkmgkaaDoor.PA
open Go.RowKit Go.Proofs.YtjjajcldmkmgkaaDoorW.PrintWords Go.Proofs.YtjjajcldmkmgkaaDoorW.PrintLast Go.Proofs.YtjjajcldmkmgkaaDoorW.PrintMore
attribute [local go_sem] max2_int min2_int max_two min_two max_three min_three max_four min_four
set_option linter.unusedVariables false
set_option linter.unusedSimpArgs false
def spec_DescribeSemigroup.f (k : Nat) (l0_0 : List Int) : Option (ByteArray) := (spec_IsSemigroup.f k l0_0).bind fun t371 => (if t371 = true then ((spec_FrobeniusOf.f k l0_0).bind fun t372 => ((spec_FormatInt.f k t372).bind fun t373 => (if 10 + t373.size ≤ 9223372036854775807 then (if ((⟨#[102, 114, 111, 98, 101, 110, 105, 117, 115, 32]⟩ : ByteArray) ++ t373).size + 7 ≤ 9223372036854775807 then ((spec_GenusOf.f k l0_0).bind fun t374 => ((spec_FormatInt.f k t374).bind fun t375 => (if (((⟨#[102, 114, 111, 98, 101, 110, 105, 117, 115, 32]⟩ : ByteArray) ++ t373) ++ (⟨#[32, 103, 101, 110, 117, 115, 32]⟩ : ByteArray)).size + t375.size ≤ 9223372036854775807 then (if ((((⟨#[102, 114, 111, 98, 101, 110, 105, 117, 115, 32]⟩ : ByteArray) ++ t373) ++ (⟨#[32, 103, 101, 110, 117, 115, 32]⟩ : ByteArray)) ++ t375).size + 6 ≤ 9223372036854775807 then ((spec_TypeOf.f k l0_0).bind fun t376 => ((spec_FormatInt.f k t376).bind fun t377 => (if (((((⟨#[102, 114, 111, 98, 101, 110, 105, 117, 115, 32]⟩ : ByteArray) ++ t373) ++ (⟨#[32, 103, 101, 110, 117, 115, 32]⟩ : ByteArray)) ++ t375) ++ (⟨#[32, 116, 121, 112, 101, 32]⟩ : ByteArray)).size + t377.size ≤ 9223372036854775807 then (if ((((((⟨#[102, 114, 111, 98, 101, 110, 105, 117, 115, 32]⟩ : ByteArray) ++ t373) ++ (⟨#[32, 103, 101, 110, 117, 115, 32]⟩ : ByteArray)) ++ t375) ++ (⟨#[32, 116, 121, 112, 101, 32]⟩ : ByteArray)) ++ t377).size + 1 ≤ 9223372036854775807 then ((spec_l29Kind.f k l0_0).bind fun t378 => (if (((((((⟨#[102, 114, 111, 98, 101, 110, 105, 117, 115, 32]⟩ : ByteArray) ++ t373) ++ (⟨#[32, 103, 101, 110, 117, 115, 32]⟩ : ByteArray)) ++ t375) ++ (⟨#[32, 116, 121, 112, 101, 32]⟩ : ByteArray)) ++ t377) ++ (⟨#[32]⟩ : ByteArray)).size + t378.size ≤ 9223372036854775807 then (if ((((((((⟨#[102, 114, 111, 98, 101, 110, 105, 117, 115, 32]⟩ : ByteArray) ++ t373) ++ (⟨#[32, 103, 101, 110, 117, 115, 32]⟩ : ByteArray)) ++ t375) ++ (⟨#[32, 116, 121, 112, 101, 32]⟩ : ByteArray)) ++ t377) ++ (⟨#[32]⟩ : ByteArray)) ++ t378).size + 6 ≤ 9223372036854775807 then ((spec_GapText.f k l0_0).bind fun t379 => (if (((((((((⟨#[102, 114, 111, 98, 101, 110, 105, 117, 115, 32]⟩ : ByteArray) ++ t373) ++ (⟨#[32, 103, 101, 110, 117, 115, 32]⟩ : ByteArray)) ++ t375) ++ (⟨#[32, 116, 121, 112, 101, 32]⟩ : ByteArray)) ++ t377) ++ (⟨#[32]⟩ : ByteArray)) ++ t378) ++ (⟨#[32, 103, 97, 112, 115, 32]⟩ : ByteArray)).size + t379.size ≤ 9223372036854775807 then (if ((((((((((⟨#[102, 114, 111, 98, 101, 110, 105, 117, 115, 32]⟩ : ByteArray) ++ t373) ++ (⟨#[32, 103, 101, 110, 117, 115, 32]⟩ : ByteArray)) ++ t375) ++ (⟨#[32, 116, 121, 112, 101, 32]⟩ : ByteArray)) ++ t377) ++ (⟨#[32]⟩ : ByteArray)) ++ t378) ++ (⟨#[32, 103, 97, 112, 115, 32]⟩ : ByteArray)) ++ t379).size + 7 ≤ 9223372036854775807 then (if 0 < (l0_0.length : Int) then ((spec_AperySet.f k l0_0 (rd l0_0 0)).bind fun t381 => ((spec_ListText.f k t381).bind fun t384 => (if (((((((((((⟨#[102, 114, 111, 98, 101, 110, 105, 117, 115, 32]⟩ : ByteArray) ++ t373) ++ (⟨#[32, 103, 101, 110, 117, 115, 32]⟩ : ByteArray)) ++ t375) ++ (⟨#[32, 116, 121, 112, 101, 32]⟩ : ByteArray)) ++ t377) ++ (⟨#[32]⟩ : ByteArray)) ++ t378) ++ (⟨#[32, 103, 97, 112, 115, 32]⟩ : ByteArray)) ++ t379) ++ (⟨#[32, 108, 101, 97, 115, 116, 32]⟩ : ByteArray)).size + t384.size ≤ 9223372036854775807 then (if ((((((((((((⟨#[102, 114, 111, 98, 101, 110, 105, 117, 115, 32]⟩ : ByteArray) ++ t373) ++ (⟨#[32, 103, 101, 110, 117, 115, 32]⟩ : ByteArray)) ++ t375) ++ (⟨#[32, 116, 121, 112, 101, 32]⟩ : ByteArray)) ++ t377) ++ (⟨#[32]⟩ : ByteArray)) ++ t378) ++ (⟨#[32, 103, 97, 112, 115, 32]⟩ : ByteArray)) ++ t379) ++ (⟨#[32, 108, 101, 97, 115, 116, 32]⟩ : ByteArray)) ++ t384).size + 6 ≤ 9223372036854775807 then ((spec_WilfNumber.f k l0_0).bind fun t385 => ((spec_FormatInt.f k t385).bind fun t386 => (if (((((((((((((⟨#[102, 114, 111, 98, 101, 110, 105, 117, 115, 32]⟩ : ByteArray) ++ t373) ++ (⟨#[32, 103, 101, 110, 117, 115, 32]⟩ : ByteArray)) ++ t375) ++ (⟨#[32, 116, 121, 112, 101, 32]⟩ : ByteArray)) ++ t377) ++ (⟨#[32]⟩ : ByteArray)) ++ t378) ++ (⟨#[32, 103, 97, 112, 115, 32]⟩ : ByteArray)) ++ t379) ++ (⟨#[32, 108, 101, 97, 115, 116, 32]⟩ : ByteArray)) ++ t384) ++ (⟨#[32, 119, 105, 108, 102, 32]⟩ : ByteArray)).size + t386.size ≤ 9223372036854775807 then (some ((((((((((((((⟨#[102, 114, 111, 98, 101, 110, 105, 117, 115, 32]⟩ : ByteArray) ++ t373) ++ (⟨#[32, 103, 101, 110, 117, 115, 32]⟩ : ByteArray)) ++ t375) ++ (⟨#[32, 116, 121, 112, 101, 32]⟩ : ByteArray)) ++ t377) ++ (⟨#[32]⟩ : ByteArray)) ++ t378) ++ (⟨#[32, 103, 97, 112, 115, 32]⟩ : ByteArray)) ++ t379) ++ (⟨#[32, 108, 101, 97, 115, 116, 32]⟩ : ByteArray)) ++ t384) ++ (⟨#[32, 119, 105, 108, 102, 32]⟩ : ByteArray)) ++ t386)) else (none)))) else (none)) else (none)))) else (none)) else (none)) else (none))) else (none)) else (none))) else (none)) else (none)))) else (none)) else (none)))) else (none)) else (none)))) else (some (⟨#[]⟩ : ByteArray)))
def spec_DescribeSemigroup.T3 : Bool × List (List Nat × List Nat) := (true, [([], []), ([0], [0]), ([1, 1], [1]), ([2], [2]), ([3], [3]), ([], []), ([5, 2], [5]), ([6, 6], [6]), ([4, 7], [4, 7]), ([8], [8]), ([], []), ([10, 7], [10]), ([11, 11], [11]), ([9, 12], [9, 12]), ([13], [13]), ([], []), ([15, 12], [15]), ([14, 16], [14, 16]), ([17], [17]), ([], []), ([19, 16], [19]), ([18, 20], [18, 20]), ([21], [21]), ([], []), ([], []), ([24], [24]), ([25], [25]), ([26], [26]), ([23, 27, 20], [23, 27]), ([28, 28], [28]), ([22, 29], [22, 29]), ([30], [30]), ([], []), ([32, 29], [32]), ([33, 33], [33]), ([31, 34], [31, 34]), ([35, 34, 0, 1, 2, 3, 4, 5, 6, 7, 8, 9, 10, 11, 12, 13, 14, 15, 16, 17, 18, 19, 20, 21, 22, 23, 24, 25, 26, 27, 28, 29, 30, 31, 32, 33, 34, 35], [35])])
def spec_DescribeSemigroup.B3 : List Nat := [0, 1, 3, 7, 15, 0, 39, 103, 255, 511, 0, 1255, 3303, 8191, 16383, 0, 40167, 131071, 262143, 0, 629991, 2097151, 4194303, 0, 0, 16777216, 50331648, 117440512, 261725415, 530160871, 1073741823, 2147483647, 0, 5361999079, 13951933671, 34359738367, 68719476735]
theorem spec_DescribeSemigroup.tab3 : rtab .any (opsOf Tryd.f5 3) = spec_DescribeSemigroup.T3 := by kernel_rfl
theorem spec_DescribeSemigroup.bits3 : waitsOk spec_DescribeSemigroup.T3.2 spec_DescribeSemigroup.B3 = true := by kernel_rfl
set_option maxHeartbeats 8000000 in
set_option maxRecDepth 100000 in
theorem spec_DescribeSemigroup.calls (k : Nat) (A0_0 : Option Addr) (c0_0 : Nat) (l0_0 : List Int) (r : ByteArray) (w : World) (hr0_0 : Kd.C (Kd.int .i64) w A0_0 l0_0.length l0_0) (hc0_0 : l0_0.length ≤ c0_0) (h : spec_DescribeSemigroup.f k l0_0 = some r) :
 Calls Tryd.prog 5 #[.agg #[.slice A0_0 l0_0.length c0_0]] w fun e w' => e = .returned (.string r) ∧ Below w.heap.size w w' := by
 have hu27 := Tryd.underlying27
 have HR0_0 := Aside0.mk hr0_0
 have HC0_0 := Aside0.mk hc0_0
 clear hr0_0 hc0_0
 have HB := Aside0.mk (Below.refl w.heap.size w)
 have H : ((spec_IsSemigroup.f k l0_0).bind fun t371 => (if t371 = true then ((spec_FrobeniusOf.f k l0_0).bind fun t372 => ((spec_FormatInt.f k t372).bind fun t373 => (if 10 + t373.size ≤ 9223372036854775807 then (if ((⟨#[102, 114, 111, 98, 101, 110, 105, 117, 115, 32]⟩ : ByteArray) ++ t373).size + 7 ≤ 9223372036854775807 then ((spec_GenusOf.f k l0_0).bind fun t374 => ((spec_FormatInt.f k t374).bind fun t375 => (if (((⟨#[102, 114, 111, 98, 101, 110, 105, 117, 115, 32]⟩ : ByteArray) ++ t373) ++ (⟨#[32, 103, 101, 110, 117, 115, 32]⟩ : ByteArray)).size + t375.size ≤ 9223372036854775807 then (if ((((⟨#[102, 114, 111, 98, 101, 110, 105, 117, 115, 32]⟩ : ByteArray) ++ t373) ++ (⟨#[32, 103, 101, 110, 117, 115, 32]⟩ : ByteArray)) ++ t375).size + 6 ≤ 9223372036854775807 then ((spec_TypeOf.f k l0_0).bind fun t376 => ((spec_FormatInt.f k t376).bind fun t377 => (if (((((⟨#[102, 114, 111, 98, 101, 110, 105, 117, 115, 32]⟩ : ByteArray) ++ t373) ++ (⟨#[32, 103, 101, 110, 117, 115, 32]⟩ : ByteArray)) ++ t375) ++ (⟨#[32, 116, 121, 112, 101, 32]⟩ : ByteArray)).size + t377.size ≤ 9223372036854775807 then (if ((((((⟨#[102, 114, 111, 98, 101, 110, 105, 117, 115, 32]⟩ : ByteArray) ++ t373) ++ (⟨#[32, 103, 101, 110, 117, 115, 32]⟩ : ByteArray)) ++ t375) ++ (⟨#[32, 116, 121, 112, 101, 32]⟩ : ByteArray)) ++ t377).size + 1 ≤ 9223372036854775807 then ((spec_l29Kind.f k l0_0).bind fun t378 => (if (((((((⟨#[102, 114, 111, 98, 101, 110, 105, 117, 115, 32]⟩ : ByteArray) ++ t373) ++ (⟨#[32, 103, 101, 110, 117, 115, 32]⟩ : ByteArray)) ++ t375) ++ (⟨#[32, 116, 121, 112, 101, 32]⟩ : ByteArray)) ++ t377) ++ (⟨#[32]⟩ : ByteArray)).size + t378.size ≤ 9223372036854775807 then (if ((((((((⟨#[102, 114, 111, 98, 101, 110, 105, 117, 115, 32]⟩ : ByteArray) ++ t373) ++ (⟨#[32, 103, 101, 110, 117, 115, 32]⟩ : ByteArray)) ++ t375) ++ (⟨#[32, 116, 121, 112, 101, 32]⟩ : ByteArray)) ++ t377) ++ (⟨#[32]⟩ : ByteArray)) ++ t378).size + 6 ≤ 9223372036854775807 then ((spec_GapText.f k l0_0).bind fun t379 => (if (((((((((⟨#[102, 114, 111, 98, 101, 110, 105, 117, 115, 32]⟩ : ByteArray) ++ t373) ++ (⟨#[32, 103, 101, 110, 117, 115, 32]⟩ : ByteArray)) ++ t375) ++ (⟨#[32, 116, 121, 112, 101, 32]⟩ : ByteArray)) ++ t377) ++ (⟨#[32]⟩ : ByteArray)) ++ t378) ++ (⟨#[32, 103, 97, 112, 115, 32]⟩ : ByteArray)).size + t379.size ≤ 9223372036854775807 then (if ((((((((((⟨#[102, 114, 111, 98, 101, 110, 105, 117, 115, 32]⟩ : ByteArray) ++ t373) ++ (⟨#[32, 103, 101, 110, 117, 115, 32]⟩ : ByteArray)) ++ t375) ++ (⟨#[32, 116, 121, 112, 101, 32]⟩ : ByteArray)) ++ t377) ++ (⟨#[32]⟩ : ByteArray)) ++ t378) ++ (⟨#[32, 103, 97, 112, 115, 32]⟩ : ByteArray)) ++ t379).size + 7 ≤ 9223372036854775807 then (if 0 < (l0_0.length : Int) then ((spec_AperySet.f k l0_0 (rd l0_0 0)).bind fun t381 => ((spec_ListText.f k t381).bind fun t384 => (if (((((((((((⟨#[102, 114, 111, 98, 101, 110, 105, 117, 115, 32]⟩ : ByteArray) ++ t373) ++ (⟨#[32, 103, 101, 110, 117, 115, 32]⟩ : ByteArray)) ++ t375) ++ (⟨#[32, 116, 121, 112, 101, 32]⟩ : ByteArray)) ++ t377) ++ (⟨#[32]⟩ : ByteArray)) ++ t378) ++ (⟨#[32, 103, 97, 112, 115, 32]⟩ : ByteArray)) ++ t379) ++ (⟨#[32, 108, 101, 97, 115, 116, 32]⟩ : ByteArray)).size + t384.size ≤ 9223372036854775807 then (if ((((((((((((⟨#[102, 114, 111, 98, 101, 110, 105, 117, 115, 32]⟩ : ByteArray) ++ t373) ++ (⟨#[32, 103, 101, 110, 117, 115, 32]⟩ : ByteArray)) ++ t375) ++ (⟨#[32, 116, 121, 112, 101, 32]⟩ : ByteArray)) ++ t377) ++ (⟨#[32]⟩ : ByteArray)) ++ t378) ++ (⟨#[32, 103, 97, 112, 115, 32]⟩ : ByteArray)) ++ t379) ++ (⟨#[32, 108, 101, 97, 115, 116, 32]⟩ : ByteArray)) ++ t384).size + 6 ≤ 9223372036854775807 then ((spec_WilfNumber.f k l0_0).bind fun t385 => ((spec_FormatInt.f k t385).bind fun t386 => (if (((((((((((((⟨#[102, 114, 111, 98, 101, 110, 105, 117, 115, 32]⟩ : ByteArray) ++ t373) ++ (⟨#[32, 103, 101, 110, 117, 115, 32]⟩ : ByteArray)) ++ t375) ++ (⟨#[32, 116, 121, 112, 101, 32]⟩ : ByteArray)) ++ t377) ++ (⟨#[32]⟩ : ByteArray)) ++ t378) ++ (⟨#[32, 103, 97, 112, 115, 32]⟩ : ByteArray)) ++ t379) ++ (⟨#[32, 108, 101, 97, 115, 116, 32]⟩ : ByteArray)) ++ t384) ++ (⟨#[32, 119, 105, 108, 102, 32]⟩ : ByteArray)).size + t386.size ≤ 9223372036854775807 then (some ((((((((((((((⟨#[102, 114, 111, 98, 101, 110, 105, 117, 115, 32]⟩ : ByteArray) ++ t373) ++ (⟨#[32, 103, 101, 110, 117, 115, 32]⟩ : ByteArray)) ++ t375) ++ (⟨#[32, 116, 121, 112, 101, 32]⟩ : ByteArray)) ++ t377) ++ (⟨#[32]⟩ : ByteArray)) ++ t378) ++ (⟨#[32, 103, 97, 112, 115, 32]⟩ : ByteArray)) ++ t379) ++ (⟨#[32, 108, 101, 97, 115, 116, 32]⟩ : ByteArray)) ++ t384) ++ (⟨#[32, 119, 105, 108, 102, 32]⟩ : ByteArray)) ++ t386)) else (none)))) else (none)) else (none)))) else (none)) else (none)) else (none))) else (none)) else (none))) else (none)) else (none)))) else (none)) else (none)))) else (none)) else (none)))) else (some (⟨#[]⟩ : ByteArray)))) = some r := h
 clear h
 replace H := Option.bind_eq_some_iff.mp H
 obtain ⟨t371, A20, H⟩ := H
 have A2 := Aside0.mk A20
 clear A20
 by_cases c3 : t371 = true
 · subst c3
   rw [if_pos rfl] at H
   replace H := Option.bind_eq_some_iff.mp H
   obtain ⟨t372, A40, H⟩ := H
   have A4 := Aside0.mk A40
   clear A40
   replace H := Option.bind_eq_some_iff.mp H
   obtain ⟨t373, A50, H⟩ := H
   have A5 := Aside0.mk A50
   clear A50
   by_cases c6 : 10 + t373.size ≤ 9223372036854775807
   · rw [if_pos c6] at H
     have c6b0 := eq_true c6
     have c6b1 : decide (10 + t373.size ≤ 9223372036854775807) = true := decide_eq_true c6
     try have c6b2 : (9223372036854775807 < 10 + t373.size) = False := eq_false (Nat.not_lt.2 c6)
     by_cases c7 : ((⟨#[102, 114, 111, 98, 101, 110, 105, 117, 115, 32]⟩ : ByteArray) ++ t373).size + 7 ≤ 9223372036854775807
     · rw [if_pos c7] at H
       have c7b0 := eq_true c7
       have c7b1 : decide (((⟨#[102, 114, 111, 98, 101, 110, 105, 117, 115, 32]⟩ : ByteArray) ++ t373).size + 7 ≤ 9223372036854775807) = true := decide_eq_true c7
       try have c7b2 : (9223372036854775807 < ((⟨#[102, 114, 111, 98, 101, 110, 105, 117, 115, 32]⟩ : ByteArray) ++ t373).size + 7) = False := eq_false (Nat.not_lt.2 c7)
       have c7b3_ : (9223372036854775807 < 10 + t373.size + 7) = False := eq_false (by have h_ := c7; have e0_ : (⟨#[102, 114, 111, 98, 101, 110, 105, 117, 115, 32]⟩ : ByteArray).size = 10 := rfl; simp only [ByteArray.size_append] at h_; omega)
       replace H := Option.bind_eq_some_iff.mp H
       obtain ⟨t374, A80, H⟩ := H
       have A8 := Aside0.mk A80
       clear A80
       replace H := Option.bind_eq_some_iff.mp H
       obtain ⟨t375, A90, H⟩ := H
       have A9 := Aside0.mk A90
       clear A90
       by_cases c10 : (((⟨#[102, 114, 111, 98, 101, 110, 105, 117, 115, 32]⟩ : ByteArray) ++ t373) ++ (⟨#[32, 103, 101, 110, 117, 115, 32]⟩ : ByteArray)).size + t375.size ≤ 9223372036854775807
       · rw [if_pos c10] at H
         have c10b0 := eq_true c10
         have c10b1 : decide ((((⟨#[102, 114, 111, 98, 101, 110, 105, 117, 115, 32]⟩ : ByteArray) ++ t373) ++ (⟨#[32, 103, 101, 110, 117, 115, 32]⟩ : ByteArray)).size + t375.size ≤ 9223372036854775807) = true := decide_eq_true c10
         try have c10b2 : (9223372036854775807 < (((⟨#[102, 114, 111, 98, 101, 110, 105, 117, 115, 32]⟩ : ByteArray) ++ t373) ++ (⟨#[32, 103, 101, 110, 117, 115, 32]⟩ : ByteArray)).size + t375.size) = False := eq_false (Nat.not_lt.2 c10)
         have c10b3_ : (9223372036854775807 < 10 + t373.size + 7 + t375.size) = False := eq_false (by have h_ := c10; have e0_ : (⟨#[102, 114, 111, 98, 101, 110, 105, 117, 115, 32]⟩ : ByteArray).size = 10 := rfl; have e1_ : (⟨#[32, 103, 101, 110, 117, 115, 32]⟩ : ByteArray).size = 7 := rfl; simp only [ByteArray.size_append] at h_; omega)
         by_cases c11 : ((((⟨#[102, 114, 111, 98, 101, 110, 105, 117, 115, 32]⟩ : ByteArray) ++ t373) ++ (⟨#[32, 103, 101, 110, 117, 115, 32]⟩ : ByteArray)) ++ t375).size + 6 ≤ 9223372036854775807
         · rw [if_pos c11] at H
           have c11b0 := eq_true c11
           have c11b1 : decide (((((⟨#[102, 114, 111, 98, 101, 110, 105, 117, 115, 32]⟩ : ByteArray) ++ t373) ++ (⟨#[32, 103, 101, 110, 117, 115, 32]⟩ : ByteArray)) ++ t375).size + 6 ≤ 9223372036854775807) = true := decide_eq_true c11
           try have c11b2 : (9223372036854775807 < ((((⟨#[102, 114, 111, 98, 101, 110, 105, 117, 115, 32]⟩ : ByteArray) ++ t373) ++ (⟨#[32, 103, 101, 110, 117, 115, 32]⟩ : ByteArray)) ++ t375).size + 6) = False := eq_false (Nat.not_lt.2 c11)
           have c11b3_ : (9223372036854775807 < 10 + t373.size + 7 + t375.size + 6) = False := eq_false (by have h_ := c11; have e0_ : (⟨#[102, 114, 111, 98, 101, 110, 105, 117, 115, 32]⟩ : ByteArray).size = 10 := rfl; have e1_ : (⟨#[32, 103, 101, 110, 117, 115, 32]⟩ : ByteArray).size = 7 := rfl; simp only [ByteArray.size_append] at h_; omega)
           replace H := Option.bind_eq_some_iff.mp H
           obtain ⟨t376, A120, H⟩ := H
           have A12 := Aside0.mk A120
           clear A120
           replace H := Option.bind_eq_some_iff.mp H
           obtain ⟨t377, A130, H⟩ := H
           have A13 := Aside0.mk A130
           clear A130
           by_cases c14 : (((((⟨#[102, 114, 111, 98, 101, 110, 105, 117, 115, 32]⟩ : ByteArray) ++ t373) ++ (⟨#[32, 103, 101, 110, 117, 115, 32]⟩ : ByteArray)) ++ t375) ++ (⟨#[32, 116, 121, 112, 101, 32]⟩ : ByteArray)).size + t377.size ≤ 9223372036854775807
           · rw [if_pos c14] at H
             have c14b0 := eq_true c14
             have c14b1 : decide ((((((⟨#[102, 114, 111, 98, 101, 110, 105, 117, 115, 32]⟩ : ByteArray) ++ t373) ++ (⟨#[32, 103, 101, 110, 117, 115, 32]⟩ : ByteArray)) ++ t375) ++ (⟨#[32, 116, 121, 112, 101, 32]⟩ : ByteArray)).size + t377.size ≤ 9223372036854775807) = true := decide_eq_true c14
             try have c14b2 : (9223372036854775807 < (((((⟨#[102, 114, 111, 98, 101, 110, 105, 117, 115, 32]⟩ : ByteArray) ++ t373) ++ (⟨#[32, 103, 101, 110, 117, 115, 32]⟩ : ByteArray)) ++ t375) ++ (⟨#[32, 116, 121, 112, 101, 32]⟩ : ByteArray)).size + t377.size) = False := eq_false (Nat.not_lt.2 c14)
             have c14b3_ : (9223372036854775807 < 10 + t373.size + 7 + t375.size + 6 + t377.size) = False := eq_false (by have h_ := c14; have e0_ : (⟨#[102, 114, 111, 98, 101, 110, 105, 117, 115, 32]⟩ : ByteArray).size = 10 := rfl; have e1_ : (⟨#[32, 103, 101, 110, 117, 115, 32]⟩ : ByteArray).size = 7 := rfl; have e2_ : (⟨#[32, 116, 121, 112, 101, 32]⟩ : ByteArray).size = 6 := rfl; simp only [ByteArray.size_append] at h_; omega)
             by_cases c15 : ((((((⟨#[102, 114, 111, 98, 101, 110, 105, 117, 115, 32]⟩ : ByteArray) ++ t373) ++ (⟨#[32, 103, 101, 110, 117, 115, 32]⟩ : ByteArray)) ++ t375) ++ (⟨#[32, 116, 121, 112, 101, 32]⟩ : ByteArray)) ++ t377).size + 1 ≤ 9223372036854775807
             · rw [if_pos c15] at H
               have c15b0 := eq_true c15
               have c15b1 : decide (((((((⟨#[102, 114, 111, 98, 101, 110, 105, 117, 115, 32]⟩ : ByteArray) ++ t373) ++ (⟨#[32, 103, 101, 110, 117, 115, 32]⟩ : ByteArray)) ++ t375) ++ (⟨#[32, 116, 121, 112, 101, 32]⟩ : ByteArray)) ++ t377).size + 1 ≤ 9223372036854775807) = true := decide_eq_true c15
               try have c15b2 : (9223372036854775807 < ((((((⟨#[102, 114, 111, 98, 101, 110, 105, 117, 115, 32]⟩ : ByteArray) ++ t373) ++ (⟨#[32, 103, 101, 110, 117, 115, 32]⟩ : ByteArray)) ++ t375) ++ (⟨#[32, 116, 121, 112, 101, 32]⟩ : ByteArray)) ++ t377).size + 1) = False := eq_false (Nat.not_lt.2 c15)
               have c15b3_ : (9223372036854775807 < 10 + t373.size + 7 + t375.size + 6 + t377.size + 1) = False := eq_false (by have h_ := c15; have e0_ : (⟨#[102, 114, 111, 98, 101, 110, 105, 117, 115, 32]⟩ : ByteArray).size = 10 := rfl; have e1_ : (⟨#[32, 103, 101, 110, 117, 115, 32]⟩ : ByteArray).size = 7 := rfl; have e2_ : (⟨#[32, 116, 121, 112, 101, 32]⟩ : ByteArray).size = 6 := rfl; simp only [ByteArray.size_append] at h_; omega)
               replace H := Option.bind_eq_some_iff.mp H
               obtain ⟨t378, A160, H⟩ := H
               have A16 := Aside0.mk A160
               clear A160
               by_cases c17 : (((((((⟨#[102, 114, 111, 98, 101, 110, 105, 117, 115, 32]⟩ : ByteArray) ++ t373) ++ (⟨#[32, 103, 101, 110, 117, 115, 32]⟩ : ByteArray)) ++ t375) ++ (⟨#[32, 116, 121, 112, 101, 32]⟩ : ByteArray)) ++ t377) ++ (⟨#[32]⟩ : ByteArray)).size + t378.size ≤ 9223372036854775807
               · rw [if_pos c17] at H
                 have c17b0 := eq_true c17
                 have c17b1 : decide ((((((((⟨#[102, 114, 111, 98, 101, 110, 105, 117, 115, 32]⟩ : ByteArray) ++ t373) ++ (⟨#[32, 103, 101, 110, 117, 115, 32]⟩ : ByteArray)) ++ t375) ++ (⟨#[32, 116, 121, 112, 101, 32]⟩ : ByteArray)) ++ t377) ++ (⟨#[32]⟩ : ByteArray)).size + t378.size ≤ 9223372036854775807) = true := decide_eq_true c17
                 try have c17b2 : (9223372036854775807 < (((((((⟨#[102, 114, 111, 98, 101, 110, 105, 117, 115, 32]⟩ : ByteArray) ++ t373) ++ (⟨#[32, 103, 101, 110, 117, 115, 32]⟩ : ByteArray)) ++ t375) ++ (⟨#[32, 116, 121, 112, 101, 32]⟩ : ByteArray)) ++ t377) ++ (⟨#[32]⟩ : ByteArray)).size + t378.size) = False := eq_false (Nat.not_lt.2 c17)
                 have c17b3_ : (9223372036854775807 < 10 + t373.size + 7 + t375.size + 6 + t377.size + 1 + t378.size) = False := eq_false (by have h_ := c17; have e0_ : (⟨#[102, 114, 111, 98, 101, 110, 105, 117, 115, 32]⟩ : ByteArray).size = 10 := rfl; have e1_ : (⟨#[32, 103, 101, 110, 117, 115, 32]⟩ : ByteArray).size = 7 := rfl; have e2_ : (⟨#[32, 116, 121, 112, 101, 32]⟩ : ByteArray).size = 6 := rfl; have e3_ : (⟨#[32]⟩ : ByteArray).size = 1 := rfl; simp only [ByteArray.size_append] at h_; omega)
                 by_cases c18 : ((((((((⟨#[102, 114, 111, 98, 101, 110, 105, 117, 115, 32]⟩ : ByteArray) ++ t373) ++ (⟨#[32, 103, 101, 110, 117, 115, 32]⟩ : ByteArray)) ++ t375) ++ (⟨#[32, 116, 121, 112, 101, 32]⟩ : ByteArray)) ++ t377) ++ (⟨#[32]⟩ : ByteArray)) ++ t378).size + 6 ≤ 9223372036854775807
                 · rw [if_pos c18] at H
                   have c18b0 := eq_true c18
                   have c18b1 : decide (((((((((⟨#[102, 114, 111, 98, 101, 110, 105, 117, 115, 32]⟩ : ByteArray) ++ t373) ++ (⟨#[32, 103, 101, 110, 117, 115, 32]⟩ : ByteArray)) ++ t375) ++ (⟨#[32, 116, 121, 112, 101, 32]⟩ : ByteArray)) ++ t377) ++ (⟨#[32]⟩ : ByteArray)) ++ t378).size + 6 ≤ 9223372036854775807) = true := decide_eq_true c18
                   try have c18b2 : (9223372036854775807 < ((((((((⟨#[102, 114, 111, 98, 101, 110, 105, 117, 115, 32]⟩ : ByteArray) ++ t373) ++ (⟨#[32, 103, 101, 110, 117, 115, 32]⟩ : ByteArray)) ++ t375) ++ (⟨#[32, 116, 121, 112, 101, 32]⟩ : ByteArray)) ++ t377) ++ (⟨#[32]⟩ : ByteArray)) ++ t378).size + 6) = False := eq_false (Nat.not_lt.2 c18)
                   have c18b3_ : (9223372036854775807 < 10 + t373.size + 7 + t375.size + 6 + t377.size + 1 + t378.size + 6) = False := eq_false (by have h_ := c18; have e0_ : (⟨#[102, 114, 111, 98, 101, 110, 105, 117, 115, 32]⟩ : ByteArray).size = 10 := rfl; have e1_ : (⟨#[32, 103, 101, 110, 117, 115, 32]⟩ : ByteArray).size = 7 := rfl; have e2_ : (⟨#[32, 116, 121, 112, 101, 32]⟩ : ByteArray).size = 6 := rfl; have e3_ : (⟨#[32]⟩ : ByteArray).size = 1 := rfl; simp only [ByteArray.size_append] at h_; omega)
                   replace H := Option.bind_eq_some_iff.mp H
                   obtain ⟨t379, A190, H⟩ := H
                   have A19 := Aside0.mk A190
                   clear A190
                   by_cases c20 : (((((((((⟨#[102, 114, 111, 98, 101, 110, 105, 117, 115, 32]⟩ : ByteArray) ++ t373) ++ (⟨#[32, 103, 101, 110, 117, 115, 32]⟩ : ByteArray)) ++ t375) ++ (⟨#[32, 116, 121, 112, 101, 32]⟩ : ByteArray)) ++ t377) ++ (⟨#[32]⟩ : ByteArray)) ++ t378) ++ (⟨#[32, 103, 97, 112, 115, 32]⟩ : ByteArray)).size + t379.size ≤ 9223372036854775807
                   · rw [if_pos c20] at H
                     have c20b0 := eq_true c20
                     have c20b1 : decide ((((((((((⟨#[102, 114, 111, 98, 101, 110, 105, 117, 115, 32]⟩ : ByteArray) ++ t373) ++ (⟨#[32, 103, 101, 110, 117, 115, 32]⟩ : ByteArray)) ++ t375) ++ (⟨#[32, 116, 121, 112, 101, 32]⟩ : ByteArray)) ++ t377) ++ (⟨#[32]⟩ : ByteArray)) ++ t378) ++ (⟨#[32, 103, 97, 112, 115, 32]⟩ : ByteArray)).size + t379.size ≤ 9223372036854775807) = true := decide_eq_true c20
                     try have c20b2 : (9223372036854775807 < (((((((((⟨#[102, 114, 111, 98, 101, 110, 105, 117, 115, 32]⟩ : ByteArray) ++ t373) ++ (⟨#[32, 103, 101, 110, 117, 115, 32]⟩ : ByteArray)) ++ t375) ++ (⟨#[32, 116, 121, 112, 101, 32]⟩ : ByteArray)) ++ t377) ++ (⟨#[32]⟩ : ByteArray)) ++ t378) ++ (⟨#[32, 103, 97, 112, 115, 32]⟩ : ByteArray)).size + t379.size) = False := eq_false (Nat.not_lt.2 c20)
                     have c20b3_ : (9223372036854775807 < 10 + t373.size + 7 + t375.size + 6 + t377.size + 1 + t378.size + 6 + t379.size) = False := eq_false (by have h_ := c20; have e0_ : (⟨#[102, 114, 111, 98, 101, 110, 105, 117, 115, 32]⟩ : ByteArray).size = 10 := rfl; have e1_ : (⟨#[32, 103, 101, 110, 117, 115, 32]⟩ : ByteArray).size = 7 := rfl; have e2_ : (⟨#[32, 116, 121, 112, 101, 32]⟩ : ByteArray).size = 6 := rfl; have e3_ : (⟨#[32]⟩ : ByteArray).size = 1 := rfl; have e4_ : (⟨#[32, 103, 97, 112, 115, 32]⟩ : ByteArray).size = 6 := rfl; simp only [ByteArray.size_append] at h_; omega)
                     by_cases c21 : ((((((((((⟨#[102, 114, 111, 98, 101, 110, 105, 117, 115, 32]⟩ : ByteArray) ++ t373) ++ (⟨#[32, 103, 101, 110, 117, 115, 32]⟩ : ByteArray)) ++ t375) ++ (⟨#[32, 116, 121, 112, 101, 32]⟩ : ByteArray)) ++ t377) ++ (⟨#[32]⟩ : ByteArray)) ++ t378) ++ (⟨#[32, 103, 97, 112, 115, 32]⟩ : ByteArray)) ++ t379).size + 7 ≤ 9223372036854775807
                     · rw [if_pos c21] at H
                       have c21b0 := eq_true c21
                       have c21b1 : decide (((((((((((⟨#[102, 114, 111, 98, 101, 110, 105, 117, 115, 32]⟩ : ByteArray) ++ t373) ++ (⟨#[32, 103, 101, 110, 117, 115, 32]⟩ : ByteArray)) ++ t375) ++ (⟨#[32, 116, 121, 112, 101, 32]⟩ : ByteArray)) ++ t377) ++ (⟨#[32]⟩ : ByteArray)) ++ t378) ++ (⟨#[32, 103, 97, 112, 115, 32]⟩ : ByteArray)) ++ t379).size + 7 ≤ 9223372036854775807) = true := decide_eq_true c21
                       try have c21b2 : (9223372036854775807 < ((((((((((⟨#[102, 114, 111, 98, 101, 110, 105, 117, 115, 32]⟩ : ByteArray) ++ t373) ++ (⟨#[32, 103, 101, 110, 117, 115, 32]⟩ : ByteArray)) ++ t375) ++ (⟨#[32, 116, 121, 112, 101, 32]⟩ : ByteArray)) ++ t377) ++ (⟨#[32]⟩ : ByteArray)) ++ t378) ++ (⟨#[32, 103, 97, 112, 115, 32]⟩ : ByteArray)) ++ t379).size + 7) = False := eq_false (Nat.not_lt.2 c21)
                       have c21b3_ : (9223372036854775807 < 10 + t373.size + 7 + t375.size + 6 + t377.size + 1 + t378.size + 6 + t379.size + 7) = False := eq_false (by have h_ := c21; have e0_ : (⟨#[102, 114, 111, 98, 101, 110, 105, 117, 115, 32]⟩ : ByteArray).size = 10 := rfl; have e1_ : (⟨#[32, 103, 101, 110, 117, 115, 32]⟩ : ByteArray).size = 7 := rfl; have e2_ : (⟨#[32, 116, 121, 112, 101, 32]⟩ : ByteArray).size = 6 := rfl; have e3_ : (⟨#[32]⟩ : ByteArray).size = 1 := rfl; have e4_ : (⟨#[32, 103, 97, 112, 115, 32]⟩ : ByteArray).size = 6 := rfl; simp only [ByteArray.size_append] at h_; omega)
                       by_cases c22 : 0 < (l0_0.length : Int)
                       · rw [if_pos c22] at H
                         have c22b0 : decide (0 < (l0_0.length : Int)) = true := decide_eq_true c22
                         have c22b1 : decide (0 < l0_0.length) = true := decide_eq_true (by omega)
                         clear c22
                         replace H := Option.bind_eq_some_iff.mp H
                         obtain ⟨t381, A230, H⟩ := H
                         have A23 := Aside0.mk A230
                         clear A230
                         replace H := Option.bind_eq_some_iff.mp H
                         obtain ⟨t384, A240, H⟩ := H
                         have A24 := Aside0.mk A240
                         clear A240
                         by_cases c25 : (((((((((((⟨#[102, 114, 111, 98, 101, 110, 105, 117, 115, 32]⟩ : ByteArray) ++ t373) ++ (⟨#[32, 103, 101, 110, 117, 115, 32]⟩ : ByteArray)) ++ t375) ++ (⟨#[32, 116, 121, 112, 101, 32]⟩ : ByteArray)) ++ t377) ++ (⟨#[32]⟩ : ByteArray)) ++ t378) ++ (⟨#[32, 103, 97, 112, 115, 32]⟩ : ByteArray)) ++ t379) ++ (⟨#[32, 108, 101, 97, 115, 116, 32]⟩ : ByteArray)).size + t384.size ≤ 9223372036854775807
                         · rw [if_pos c25] at H
                           have c25b0 := eq_true c25
                           have c25b1 : decide ((((((((((((⟨#[102, 114, 111, 98, 101, 110, 105, 117, 115, 32]⟩ : ByteArray) ++ t373) ++ (⟨#[32, 103, 101, 110, 117, 115, 32]⟩ : ByteArray)) ++ t375) ++ (⟨#[32, 116, 121, 112, 101, 32]⟩ : ByteArray)) ++ t377) ++ (⟨#[32]⟩ : ByteArray)) ++ t378) ++ (⟨#[32, 103, 97, 112, 115, 32]⟩ : ByteArray)) ++ t379) ++ (⟨#[32, 108, 101, 97, 115, 116, 32]⟩ : ByteArray)).size + t384.size ≤ 9223372036854775807) = true := decide_eq_true c25
                           try have c25b2 : (9223372036854775807 < (((((((((((⟨#[102, 114, 111, 98, 101, 110, 105, 117, 115, 32]⟩ : ByteArray) ++ t373) ++ (⟨#[32, 103, 101, 110, 117, 115, 32]⟩ : ByteArray)) ++ t375) ++ (⟨#[32, 116, 121, 112, 101, 32]⟩ : ByteArray)) ++ t377) ++ (⟨#[32]⟩ : ByteArray)) ++ t378) ++ (⟨#[32, 103, 97, 112, 115, 32]⟩ : ByteArray)) ++ t379) ++ (⟨#[32, 108, 101, 97, 115, 116, 32]⟩ : ByteArray)).size + t384.size) = False := eq_false (Nat.not_lt.2 c25)
                           have c25b3_ : (9223372036854775807 < 10 + t373.size + 7 + t375.size + 6 + t377.size + 1 + t378.size + 6 + t379.size + 7 + t384.size) = False := eq_false (by have h_ := c25; have e0_ : (⟨#[102, 114, 111, 98, 101, 110, 105, 117, 115, 32]⟩ : ByteArray).size = 10 := rfl; have e1_ : (⟨#[32, 103, 101, 110, 117, 115, 32]⟩ : ByteArray).size = 7 := rfl; have e2_ : (⟨#[32, 116, 121, 112, 101, 32]⟩ : ByteArray).size = 6 := rfl; have e3_ : (⟨#[32]⟩ : ByteArray).size = 1 := rfl; have e4_ : (⟨#[32, 103, 97, 112, 115, 32]⟩ : ByteArray).size = 6 := rfl; have e5_ : (⟨#[32, 108, 101, 97, 115, 116, 32]⟩ : ByteArray).size = 7 := rfl; simp only [ByteArray.size_append] at h_; omega)
                           by_cases c26 : ((((((((((((⟨#[102, 114, 111, 98, 101, 110, 105, 117, 115, 32]⟩ : ByteArray) ++ t373) ++ (⟨#[32, 103, 101, 110, 117, 115, 32]⟩ : ByteArray)) ++ t375) ++ (⟨#[32, 116, 121, 112, 101, 32]⟩ : ByteArray)) ++ t377) ++ (⟨#[32]⟩ : ByteArray)) ++ t378) ++ (⟨#[32, 103, 97, 112, 115, 32]⟩ : ByteArray)) ++ t379) ++ (⟨#[32, 108, 101, 97, 115, 116, 32]⟩ : ByteArray)) ++ t384).size + 6 ≤ 9223372036854775807
                           · rw [if_pos c26] at H
                             have c26b0 := eq_true c26
                             have c26b1 : decide (((((((((((((⟨#[102, 114, 111, 98, 101, 110, 105, 117, 115, 32]⟩ : ByteArray) ++ t373) ++ (⟨#[32, 103, 101, 110, 117, 115, 32]⟩ : ByteArray)) ++ t375) ++ (⟨#[32, 116, 121, 112, 101, 32]⟩ : ByteArray)) ++ t377) ++ (⟨#[32]⟩ : ByteArray)) ++ t378) ++ (⟨#[32, 103, 97, 112, 115, 32]⟩ : ByteArray)) ++ t379) ++ (⟨#[32, 108, 101, 97, 115, 116, 32]⟩ : ByteArray)) ++ t384).size + 6 ≤ 9223372036854775807) = true := decide_eq_true c26
                             try have c26b2 : (9223372036854775807 < ((((((((((((⟨#[102, 114, 111, 98, 101, 110, 105, 117, 115, 32]⟩ : ByteArray) ++ t373) ++ (⟨#[32, 103, 101, 110, 117, 115, 32]⟩ : ByteArray)) ++ t375) ++ (⟨#[32, 116, 121, 112, 101, 32]⟩ : ByteArray)) ++ t377) ++ (⟨#[32]⟩ : ByteArray)) ++ t378) ++ (⟨#[32, 103, 97, 112, 115, 32]⟩ : ByteArray)) ++ t379) ++ (⟨#[32, 108, 101, 97, 115, 116, 32]⟩ : ByteArray)) ++ t384).size + 6) = False := eq_false (Nat.not_lt.2 c26)
                             have c26b3_ : (9223372036854775807 < 10 + t373.size + 7 + t375.size + 6 + t377.size + 1 + t378.size + 6 + t379.size + 7 + t384.size + 6) = False := eq_false (by have h_ := c26; have e0_ : (⟨#[102, 114, 111, 98, 101, 110, 105, 117, 115, 32]⟩ : ByteArray).size = 10 := rfl; have e1_ : (⟨#[32, 103, 101, 110, 117, 115, 32]⟩ : ByteArray).size = 7 := rfl; have e2_ : (⟨#[32, 116, 121, 112, 101, 32]⟩ : ByteArray).size = 6 := rfl; have e3_ : (⟨#[32]⟩ : ByteArray).size = 1 := rfl; have e4_ : (⟨#[32, 103, 97, 112, 115, 32]⟩ : ByteArray).size = 6 := rfl; have e5_ : (⟨#[32, 108, 101, 97, 115, 116, 32]⟩ : ByteArray).size = 7 := rfl; simp only [ByteArray.size_append] at h_; omega)
                             replace H := Option.bind_eq_some_iff.mp H
                             obtain ⟨t385, A270, H⟩ := H
                             have A27 := Aside0.mk A270
                             clear A270
                             replace H := Option.bind_eq_some_iff.mp H
                             obtain ⟨t386, A280, H⟩ := H
                             have A28 := Aside0.mk A280
                             clear A280
                             by_cases c29 : (((((((((((((⟨#[102, 114, 111, 98, 101, 110, 105, 117, 115, 32]⟩ : ByteArray) ++ t373) ++ (⟨#[32, 103, 101, 110, 117, 115, 32]⟩ : ByteArray)) ++ t375) ++ (⟨#[32, 116, 121, 112, 101, 32]⟩ : ByteArray)) ++ t377) ++ (⟨#[32]⟩ : ByteArray)) ++ t378) ++ (⟨#[32, 103, 97, 112, 115, 32]⟩ : ByteArray)) ++ t379) ++ (⟨#[32, 108, 101, 97, 115, 116, 32]⟩ : ByteArray)) ++ t384) ++ (⟨#[32, 119, 105, 108, 102, 32]⟩ : ByteArray)).size + t386.size ≤ 9223372036854775807
                             · rw [if_pos c29] at H
                               have c29b0 := eq_true c29
                               have c29b1 : decide ((((((((((((((⟨#[102, 114, 111, 98, 101, 110, 105, 117, 115, 32]⟩ : ByteArray) ++ t373) ++ (⟨#[32, 103, 101, 110, 117, 115, 32]⟩ : ByteArray)) ++ t375) ++ (⟨#[32, 116, 121, 112, 101, 32]⟩ : ByteArray)) ++ t377) ++ (⟨#[32]⟩ : ByteArray)) ++ t378) ++ (⟨#[32, 103, 97, 112, 115, 32]⟩ : ByteArray)) ++ t379) ++ (⟨#[32, 108, 101, 97, 115, 116, 32]⟩ : ByteArray)) ++ t384) ++ (⟨#[32, 119, 105, 108, 102, 32]⟩ : ByteArray)).size + t386.size ≤ 9223372036854775807) = true := decide_eq_true c29
                               try have c29b2 : (9223372036854775807 < (((((((((((((⟨#[102, 114, 111, 98, 101, 110, 105, 117, 115, 32]⟩ : ByteArray) ++ t373) ++ (⟨#[32, 103, 101, 110, 117, 115, 32]⟩ : ByteArray)) ++ t375) ++ (⟨#[32, 116, 121, 112, 101, 32]⟩ : ByteArray)) ++ t377) ++ (⟨#[32]⟩ : ByteArray)) ++ t378) ++ (⟨#[32, 103, 97, 112, 115, 32]⟩ : ByteArray)) ++ t379) ++ (⟨#[32, 108, 101, 97, 115, 116, 32]⟩ : ByteArray)) ++ t384) ++ (⟨#[32, 119, 105, 108, 102, 32]⟩ : ByteArray)).size + t386.size) = False := eq_false (Nat.not_lt.2 c29)
                               have c29b3_ : (9223372036854775807 < 10 + t373.size + 7 + t375.size + 6 + t377.size + 1 + t378.size + 6 + t379.size + 7 + t384.size + 6 + t386.size) = False := eq_false (by have h_ := c29; have e0_ : (⟨#[102, 114, 111, 98, 101, 110, 105, 117, 115, 32]⟩ : ByteArray).size = 10 := rfl; have e1_ : (⟨#[32, 103, 101, 110, 117, 115, 32]⟩ : ByteArray).size = 7 := rfl; have e2_ : (⟨#[32, 116, 121, 112, 101, 32]⟩ : ByteArray).size = 6 := rfl; have e3_ : (⟨#[32]⟩ : ByteArray).size = 1 := rfl; have e4_ : (⟨#[32, 103, 97, 112, 115, 32]⟩ : ByteArray).size = 6 := rfl; have e5_ : (⟨#[32, 108, 101, 97, 115, 116, 32]⟩ : ByteArray).size = 7 := rfl; have e6_ : (⟨#[32, 119, 105, 108, 102, 32]⟩ : ByteArray).size = 6 := rfl; simp only [ByteArray.size_append] at h_; omega)
                               obtain rfl := Option.some.inj H
                               go_enter Tryd.func5, Tryd.ntmps5
                               try go_wp2_with (first | ((with_reducible refine gate_dst (N := 1) rfl ?_); refine box_event ?hg (N := 1) ?hd (cs := #[.slice A0_0 l0_0.length c0_0]) (t := 27) ?hr ?_; (case hd => rfl); (case hg => rfl); (case hr => first | (go_simp; done) | (go_simp; rfl)); intro gb370 hg w30 hbox hb; have BK370 := Aside0.mk (hbox); have GW370 := Aside0.mk ((by rw [hg]; exact (below_size (bl_ HB.out)) : w.heap.size ≤ gb370)); have GE370 := Aside0.mk ((by rw [hg]; exact (below_size (bl_ HB.out)) : w.heap.size ≤ gb370)); replace HB := Aside0.mk (below_step (bl_ HB.out) hb); clear hb hbox hg; have hcz31_0 : w30.cell? ⟨gb370, 0, none⟩ = some (.slice A0_0 l0_0.length c0_0) := (blk_cell BK370.out 0).trans rfl; have hfz31_0 := blk_frozen BK370.out 0) | ((with_reducible refine gate_callee (f := 10) rfl ?_); refine gL_ (some 4) Tryd.func10 #[.agg #[.slice A0_0 l0_0.length c0_0]] ?_; (with_reducible refine (spec_IsSemigroup.calls k _ _ l0_0 true _ ?side1 ?side2 A2.out).mono ?_); (case side1 => exact ce_ ((Kd.C_below HR0_0.out HB.out))); (case side2 => exact HC0_0.out); rintro e w32 ⟨rfl, hb⟩; refine ⟨_, rfl, ?_⟩; replace BK370 := Aside0.mk (blk_below (be_ BK370.out) hb); replace HB := Aside0.mk (below_step (by repeat (first | (with_reducible first | exact HB.out | apply below_alloc | apply pw_below_drewN | apply below_drew1 | refine below_set ?_ GE370.out) | exact HB.out)) hb); (try clear hb); (try clear hb2); (try clear hk); (try clear hi)))
                               replace BK370 := Aside0.mk (blk_drew BK370.out)
                               replace HB := Aside0.mk (below_drew1 HB.out)
                               have p380 : 0 ≤ (0 : Int) := (by omega)
                               have q380 : 0 < (l0_0.length : Int) := od_
                               obtain ⟨ad380, e380, hx380_0⟩ := Kd.at_int HR0_0.out 0 p380 q380
                               have hw380_0 := hx380_0
                               (try rw [show ((0 : Int)).toNat = 0 from rfl] at hw380_0)
                               (try rw [show 0 * 1 = 0 from rfl] at hw380_0)
                               (try rw [Addr.add_zero'] at hw380_0)
                               cases e380
                               have qi380 : (0 < l0_0.length) = True := eq_true (by omega)
                               (try rw [show ((0 : Int)).toNat = 0 from rfl] at hx380_0)
                               (try rw [Addr.add_zero'] at hx380_0)
                               (try replace hx380_0 := (HB.out.cell (World.block_lt_of_cell? w _ hx380_0)).trans hx380_0)
                               replace p380 := eq_true p380
                               replace q380 := eq_true q380
                               refine start_ (n := 37) (S := fun w' => w'.cell? ⟨gb370, 0, none⟩ = some (.slice (some ad380) l0_0.length c0_0) ∧ w'.cell? ad380 = some (.int .i64 (rd l0_0 0))) (ds := []) (B_ 0 37) (by kernel_rfl) rfl rfl ⟨(blk_cell BK370.out 0).trans rfl, ((HB.out.cell (World.block_lt_of_cell? w _ hw380_0)).trans hw380_0)⟩ (fun hHeld => ?_); refine with_tabW spec_DescribeSemigroup.tab3 spec_DescribeSemigroup.bits3 (fun HT_ HW_ => ?_)
                               generalize w32.drew = w33 at BK370 HB hx380_0 hHeld ⊢
                               refine pu_ HT_ 24 30 (B_ 16777216 37) ?_
                               refine tk2_ HT_ HW_ hHeld 0 6 (B_ 16777217 37) ?_
                               refine tk2_ HT_ HW_ hHeld 5 11 (B_ 16777249 37) ?_
                               refine tk2_ HT_ HW_ hHeld 10 16 (B_ 16778273 37) ?_
                               refine tk2_ HT_ HW_ hHeld 15 21 (B_ 16811041 37) ?_
                               refine tk2_ HT_ HW_ hHeld 19 25 (B_ 17335329 37) ?_
                               refine tk2_ HT_ HW_ hHeld 23 29 (B_ 25723937 37) ?_
                               refine tk2_ HT_ HW_ hHeld 25 31 (B_ 59278369 37) ?_
                               refine pu_ HT_ 26 32 (B_ 126387233 37) ?_
                               refine tk2_ HT_ HW_ hHeld 27 33 (B_ 260604961 37) ?_
                               refine tk2_ HT_ HW_ hHeld 32 38 (B_ 4555572257 37) ?_
                               refine one_ (i := 1) (N := some 7) (B_ 4555572259 37) rfl rfl (one_of HT_.out (by kernel_rfl)) (by decide) (fun K hK => ?_)
                               refine goes_ Tryd.func12 (by kernel_rfl) rfl #[.agg #[.slice (some ad380) l0_0.length c0_0]] (by rfl) rfl rfl (by (try simp only [List.map_toArray, List.map_cons, List.map_nil]); first | done | rfl | (simp only [List.length_drop, List.length_take]; rfl)) ?_
                               with_reducible refine (spec_FrobeniusOf.calls k _ _ l0_0 t372 _ ?side1 ?side2 A4.out).mono ?_
                               (case side1 => exact ce_ ((Kd.C_below HR0_0.out HB.out)))
                               (case side2 => exact HC0_0.out)
                               rintro e w34 ⟨rfl, hb⟩
                               refine ⟨_, rfl, ?_⟩
                               replace BK370 := Aside0.mk (blk_below (be_ BK370.out) hb)
                               replace HB := Aside0.mk (below_step (by repeat (first | (with_reducible first | exact HB.out | apply below_alloc | apply pw_below_drewN | apply below_drew1 | refine below_set ?_ GE370.out) | exact HB.out)) hb)
                               (try clear hb)
                               (try clear hb2)
                               (try clear hk)
                               (try clear hi)
                               refine hK.out _ _ ⟨(blk_cell BK370.out 0).trans rfl, ((HB.out.cell (World.block_lt_of_cell? w _ hw380_0)).trans hw380_0)⟩ (fun hHeld => ?_)
                               clear hK K
                               refine norm_ (a' := ?_) ?_ ?_
                               rotate_left
                               · show Act.put _ (some 7) _ = _
                                 simp only [Act.put, z1_, z2_, z3_, i64_w, i32_w]
                                 rfl
                               refine one_ (i := 2) (N := some 8) (B_ 4555572263 37) rfl rfl (one_of HT_.out (by kernel_rfl)) (by decide) (fun K hK => ?_)
                               refine goes_ Tryd.func11 (by kernel_rfl) rfl #[.int .i64 t372] (by rfl) rfl rfl (by (try simp only [List.map_toArray, List.map_cons, List.map_nil]); first | done | rfl | (simp only [List.length_drop, List.length_take]; rfl)) ?_
                               with_reducible refine (spec_FormatInt.calls k t372 t373 _ A5.out).mono ?_
                               rintro e w35 ⟨rfl, hb⟩
                               refine ⟨_, rfl, ?_⟩
                               replace BK370 := Aside0.mk (blk_below (be_ BK370.out) hb)
                               replace HB := Aside0.mk (below_step (by repeat (first | (with_reducible first | exact HB.out | apply below_alloc | apply pw_below_drewN | apply below_drew1 | refine below_set ?_ GE370.out) | exact HB.out)) hb)
                               (try clear hb)
                               (try clear hb2)
                               (try clear hk)
                               (try clear hi)
                               refine hK.out _ _ ⟨(blk_cell BK370.out 0).trans rfl, ((HB.out.cell (World.block_lt_of_cell? w _ hw380_0)).trans hw380_0)⟩ (fun hHeld => ?_)
                               clear hK K
                               refine norm_ (a' := ?_) ?_ ?_
                               rotate_left
                               · show Act.put _ (some 8) _ = _
                                 simp only [Act.put, z1_, z2_, z3_, i64_w, i32_w]
                                 rfl
                               refine pu_ HT_ 3 9 (B_ 4555572271 37) ?_
                               refine pu_ HT_ 4 10 (B_ 4555572287 37) ?_
                               refine one_ (i := 6) (N := some 12) (B_ 4555572351 37) rfl rfl (one_of HT_.out (by kernel_rfl)) (by decide) (fun K hK => ?_)
                               refine goes_ Tryd.func13 (by kernel_rfl) rfl #[.agg #[.slice (some ad380) l0_0.length c0_0]] (by rfl) rfl rfl (by (try simp only [List.map_toArray, List.map_cons, List.map_nil]); first | done | rfl | (simp only [List.length_drop, List.length_take]; rfl)) ?_
                               with_reducible refine (spec_GenusOf.calls k _ _ l0_0 t374 _ ?side1 ?side2 A8.out).mono ?_
                               (case side1 => exact ce_ ((Kd.C_below HR0_0.out HB.out)))
                               (case side2 => exact HC0_0.out)
                               rintro e w36 ⟨rfl, hb⟩
                               refine ⟨_, rfl, ?_⟩
                               replace BK370 := Aside0.mk (blk_below (be_ BK370.out) hb)
                               replace HB := Aside0.mk (below_step (by repeat (first | (with_reducible first | exact HB.out | apply below_alloc | apply pw_below_drewN | apply below_drew1 | refine below_set ?_ GE370.out) | exact HB.out)) hb)
                               (try clear hb)
                               (try clear hb2)
                               (try clear hk)
                               (try clear hi)
                               refine hK.out _ _ ⟨(blk_cell BK370.out 0).trans rfl, ((HB.out.cell (World.block_lt_of_cell? w _ hw380_0)).trans hw380_0)⟩ (fun hHeld => ?_)
                               clear hK K
                               refine norm_ (a' := ?_) ?_ ?_
                               rotate_left
                               · show Act.put _ (some 12) _ = _
                                 simp only [Act.put, z1_, z2_, z3_, i64_w, i32_w]
                                 rfl
                               refine one_ (i := 7) (N := some 13) (B_ 4555572479 37) rfl rfl (one_of HT_.out (by kernel_rfl)) (by decide) (fun K hK => ?_)
                               refine goes_ Tryd.func11 (by kernel_rfl) rfl #[.int .i64 t374] (by rfl) rfl rfl (by (try simp only [List.map_toArray, List.map_cons, List.map_nil]); first | done | rfl | (simp only [List.length_drop, List.length_take]; rfl)) ?_
                               with_reducible refine (spec_FormatInt.calls k t374 t375 _ A9.out).mono ?_
                               rintro e w37 ⟨rfl, hb⟩
                               refine ⟨_, rfl, ?_⟩
                               replace BK370 := Aside0.mk (blk_below (be_ BK370.out) hb)
                               replace HB := Aside0.mk (below_step (by repeat (first | (with_reducible first | exact HB.out | apply below_alloc | apply pw_below_drewN | apply below_drew1 | refine below_set ?_ GE370.out) | exact HB.out)) hb)
                               (try clear hb)
                               (try clear hb2)
                               (try clear hk)
                               (try clear hi)
                               refine hK.out _ _ ⟨(blk_cell BK370.out 0).trans rfl, ((HB.out.cell (World.block_lt_of_cell? w _ hw380_0)).trans hw380_0)⟩ (fun hHeld => ?_)
                               clear hK K
                               refine norm_ (a' := ?_) ?_ ?_
                               rotate_left
                               · show Act.put _ (some 13) _ = _
                                 simp only [Act.put, z1_, z2_, z3_, i64_w, i32_w]
                                 rfl
                               refine pu_ HT_ 8 14 (B_ 4555572735 37) ?_
                               refine pu_ HT_ 9 15 (B_ 4555573247 37) ?_
                               refine one_ (i := 11) (N := some 17) (B_ 4555575295 37) rfl rfl (one_of HT_.out (by kernel_rfl)) (by decide) (fun K hK => ?_)
                               refine goes_ Tryd.func14 (by kernel_rfl) rfl #[.agg #[.slice (some ad380) l0_0.length c0_0]] (by rfl) rfl rfl (by (try simp only [List.map_toArray, List.map_cons, List.map_nil]); first | done | rfl | (simp only [List.length_drop, List.length_take]; rfl)) ?_
                               with_reducible refine (spec_TypeOf.calls k _ _ l0_0 t376 _ ?side1 ?side2 A12.out).mono ?_
                               (case side1 => exact ce_ ((Kd.C_below HR0_0.out HB.out)))
                               (case side2 => exact HC0_0.out)
                               rintro e w38 ⟨rfl, hb⟩
                               refine ⟨_, rfl, ?_⟩
                               replace BK370 := Aside0.mk (blk_below (be_ BK370.out) hb)
                               replace HB := Aside0.mk (below_step (by repeat (first | (with_reducible first | exact HB.out | apply below_alloc | apply pw_below_drewN | apply below_drew1 | refine below_set ?_ GE370.out) | exact HB.out)) hb)
                               (try clear hb)
                               (try clear hb2)
                               (try clear hk)
                               (try clear hi)
                               refine hK.out _ _ ⟨(blk_cell BK370.out 0).trans rfl, ((HB.out.cell (World.block_lt_of_cell? w _ hw380_0)).trans hw380_0)⟩ (fun hHeld => ?_)
                               clear hK K
                               refine norm_ (a' := ?_) ?_ ?_
                               rotate_left
                               · show Act.put _ (some 17) _ = _
                                 simp only [Act.put, z1_, z2_, z3_, i64_w, i32_w]
                                 rfl
                               refine one_ (i := 12) (N := some 18) (B_ 4555579391 37) rfl rfl (one_of HT_.out (by kernel_rfl)) (by decide) (fun K hK => ?_)
                               refine goes_ Tryd.func11 (by kernel_rfl) rfl #[.int .i64 t376] (by rfl) rfl rfl (by (try simp only [List.map_toArray, List.map_cons, List.map_nil]); first | done | rfl | (simp only [List.length_drop, List.length_take]; rfl)) ?_
                               with_reducible refine (spec_FormatInt.calls k t376 t377 _ A13.out).mono ?_
                               rintro e w39 ⟨rfl, hb⟩
                               refine ⟨_, rfl, ?_⟩
                               replace BK370 := Aside0.mk (blk_below (be_ BK370.out) hb)
                               replace HB := Aside0.mk (below_step (by repeat (first | (with_reducible first | exact HB.out | apply below_alloc | apply pw_below_drewN | apply below_drew1 | refine below_set ?_ GE370.out) | exact HB.out)) hb)
                               (try clear hb)
                               (try clear hb2)
                               (try clear hk)
                               (try clear hi)
                               refine hK.out _ _ ⟨(blk_cell BK370.out 0).trans rfl, ((HB.out.cell (World.block_lt_of_cell? w _ hw380_0)).trans hw380_0)⟩ (fun hHeld => ?_)
                               clear hK K
                               refine norm_ (a' := ?_) ?_ ?_
                               rotate_left
                               · show Act.put _ (some 18) _ = _
                                 simp only [Act.put, z1_, z2_, z3_, i64_w, i32_w]
                                 rfl
                               refine pu_ HT_ 13 19 (B_ 4555587583 37) ?_
                               refine pu_ HT_ 14 20 (B_ 4555603967 37) ?_
                               refine one_ (i := 16) (N := some 22) (B_ 4555669503 37) rfl rfl (one_of HT_.out (by kernel_rfl)) (by decide) (fun K hK => ?_)
                               refine goes_ Tryd.func15 (by kernel_rfl) rfl #[.agg #[.slice (some ad380) l0_0.length c0_0]] (by rfl) rfl rfl (by (try simp only [List.map_toArray, List.map_cons, List.map_nil]); first | done | rfl | (simp only [List.length_drop, List.length_take]; rfl)) ?_
                               with_reducible refine (spec_l29Kind.calls k _ _ l0_0 t378 _ ?side1 ?side2 A16.out).mono ?_
                               (case side1 => exact ce_ ((Kd.C_below HR0_0.out HB.out)))
                               (case side2 => exact HC0_0.out)
                               rintro e w40 ⟨rfl, hb⟩
                               refine ⟨_, rfl, ?_⟩
                               replace BK370 := Aside0.mk (blk_below (be_ BK370.out) hb)
                               replace HB := Aside0.mk (below_step (by repeat (first | (with_reducible first | exact HB.out | apply below_alloc | apply pw_below_drewN | apply below_drew1 | refine below_set ?_ GE370.out) | exact HB.out)) hb)
                               (try clear hb)
                               (try clear hb2)
                               (try clear hk)
                               (try clear hi)
                               refine hK.out _ _ ⟨(blk_cell BK370.out 0).trans rfl, ((HB.out.cell (World.block_lt_of_cell? w _ hw380_0)).trans hw380_0)⟩ (fun hHeld => ?_)
                               clear hK K
                               refine norm_ (a' := ?_) ?_ ?_
                               rotate_left
                               · show Act.put _ (some 22) _ = _
                                 simp only [Act.put, z1_, z2_, z3_, i64_w, i32_w]
                                 rfl
                               refine pu_ HT_ 17 23 (B_ 4555800575 37) ?_
                               refine pu_ HT_ 18 24 (B_ 4556062719 37) ?_
                               refine one_ (i := 20) (N := some 26) (B_ 4557111295 37) rfl rfl (one_of HT_.out (by kernel_rfl)) (by decide) (fun K hK => ?_)
                               refine goes_ Tryd.func16 (by kernel_rfl) rfl #[.agg #[.slice (some ad380) l0_0.length c0_0]] (by rfl) rfl rfl (by (try simp only [List.map_toArray, List.map_cons, List.map_nil]); first | done | rfl | (simp only [List.length_drop, List.length_take]; rfl)) ?_
                               with_reducible refine (spec_GapText.calls k _ _ l0_0 t379 _ ?side1 ?side2 A19.out).mono ?_
                               (case side1 => exact ce_ ((Kd.C_below HR0_0.out HB.out)))
                               (case side2 => exact HC0_0.out)
                               rintro e w41 ⟨rfl, hb⟩
                               refine ⟨_, rfl, ?_⟩
                               replace BK370 := Aside0.mk (blk_below (be_ BK370.out) hb)
                               replace HB := Aside0.mk (below_step (by repeat (first | (with_reducible first | exact HB.out | apply below_alloc | apply pw_below_drewN | apply below_drew1 | refine below_set ?_ GE370.out) | exact HB.out)) hb)
                               (try clear hb)
                               (try clear hb2)
                               (try clear hk)
                               (try clear hi)
                               refine hK.out _ _ ⟨(blk_cell BK370.out 0).trans rfl, ((HB.out.cell (World.block_lt_of_cell? w _ hw380_0)).trans hw380_0)⟩ (fun hHeld => ?_)
                               clear hK K
                               refine norm_ (a' := ?_) ?_ ?_
                               rotate_left
                               · show Act.put _ (some 26) _ = _
                                 simp only [Act.put, z1_, z2_, z3_, i64_w, i32_w]
                                 rfl
                               refine pu_ HT_ 21 27 (B_ 4559208447 37) ?_
                               refine pu_ HT_ 22 28 (B_ 4563402751 37) ?_
                               refine one_ (i := 28) (N := some 34) (B_ 4831838207 37) rfl rfl (one_of HT_.out (by kernel_rfl)) (by decide) (fun K hK => ?_)
                               refine goes_ Tryd.func18 (by kernel_rfl) rfl #[.agg #[.slice (some ad380) l0_0.length c0_0], .int .i64 (rd l0_0 0)] (by rfl) rfl rfl (by (try simp only [List.map_toArray, List.map_cons, List.map_nil]); first | done | rfl | (simp only [List.length_drop, List.length_take]; rfl)) ?_
                               with_reducible refine (spec_AperySet.calls k _ _ l0_0 (rd l0_0 0) t381 _ ?side1 ?side2 A23.out).mono ?_
                               (case side1 => exact ce_ ((Kd.C_below HR0_0.out HB.out)))
                               (case side2 => exact HC0_0.out)
                               rintro e w42 ⟨v382, rfl, ho0, hb⟩
                               refine ⟨_, rfl, ?_⟩
                               have HO383 := Aside0.mk (Kd.R_lower ho0 (below_size (by repeat (first | (with_reducible first | exact HB.out | apply below_alloc | apply pw_below_drewN | apply below_drew1 | refine below_set ?_ GE370.out) | exact HB.out))))
                               replace BK370 := Aside0.mk (blk_below (be_ BK370.out) hb)
                               replace HB := Aside0.mk (below_step (by repeat (first | (with_reducible first | exact HB.out | apply below_alloc | apply pw_below_drewN | apply below_drew1 | refine below_set ?_ GE370.out) | exact HB.out)) hb)
                               (try clear hb)
                               (try clear hb2)
                               (try clear hk)
                               (try clear hi)
                               (try clear ho0)
                               obtain ⟨Ao43, co43, eo43⟩ := Kd.R_slice HO383.out
                               (first | subst eo43 | (injection eo43 with f1_ f2_ f3_; have f4_ := f1_.symm; have f5_ := f3_.symm; clear f1_ f2_ f3_; subst f4_; subst f5_))
                               refine hK.out _ _ ⟨(blk_cell BK370.out 0).trans rfl, ((HB.out.cell (World.block_lt_of_cell? w _ hw380_0)).trans hw380_0)⟩ (fun hHeld => ?_)
                               clear hK K
                               refine norm_ (a' := ?_) ?_ ?_
                               rotate_left
                               · show Act.put _ (some 34) _ = _
                                 simp only [Act.put, z1_, z2_, z3_, i64_w, i32_w]
                                 rfl
                               refine one_ (i := 29) (N := some 35) (B_ 5368709119 37) rfl rfl (one_of HT_.out (by kernel_rfl)) (by decide) (fun K hK => ?_)
                               refine goes_ Tryd.func17 (by kernel_rfl) rfl #[.slice Ao43 t381.length co43] (by rfl) rfl rfl (by (try simp only [List.map_toArray, List.map_cons, List.map_nil]); first | done | rfl | (simp only [List.length_drop, List.length_take]; rfl)) ?_
                               with_reducible refine (spec_ListText.calls k _ _ t381 t384 _ ?side1 ?side2 A24.out).mono ?_
                               (case side1 => exact ce_ ((Kd.R_reads' HO383.out).2.2))
                               (case side2 => exact (Kd.R_reads' HO383.out).2.1)
                               rintro e w44 ⟨rfl, hb⟩
                               refine ⟨_, rfl, ?_⟩
                               replace HO383 := Aside0.mk (Kd.R_below (re_ HO383.out) hb)
                               replace BK370 := Aside0.mk (blk_below (be_ BK370.out) hb)
                               replace HB := Aside0.mk (below_step (by repeat (first | (with_reducible first | exact HB.out | apply below_alloc | apply pw_below_drewN | apply below_drew1 | refine below_set ?_ GE370.out) | exact HB.out)) hb)
                               (try clear hb)
                               (try clear hb2)
                               (try clear hk)
                               (try clear hi)
                               refine hK.out _ _ ⟨(blk_cell BK370.out 0).trans rfl, ((HB.out.cell (World.block_lt_of_cell? w _ hw380_0)).trans hw380_0)⟩ (fun hHeld => ?_)
                               clear hK K
                               refine norm_ (a' := ?_) ?_ ?_
                               rotate_left
                               · show Act.put _ (some 35) _ = _
                                 simp only [Act.put, z1_, z2_, z3_, i64_w, i32_w]
                                 rfl
                               refine pu_ HT_ 30 36 (B_ 6442450943 37) ?_
                               refine pu_ HT_ 31 37 (B_ 8589934591 37) ?_
                               refine one_ (i := 33) (N := some 39) (B_ 17179869183 37) rfl rfl (one_of HT_.out (by kernel_rfl)) (by decide) (fun K hK => ?_)
                               refine goes_ Tryd.func19 (by kernel_rfl) rfl #[.agg #[.slice (some ad380) l0_0.length c0_0]] (by rfl) rfl rfl (by (try simp only [List.map_toArray, List.map_cons, List.map_nil]); first | done | rfl | (simp only [List.length_drop, List.length_take]; rfl)) ?_
                               with_reducible refine (spec_WilfNumber.calls k _ _ l0_0 t385 _ ?side1 ?side2 A27.out).mono ?_
                               (case side1 => exact ce_ ((Kd.C_below HR0_0.out HB.out)))
                               (case side2 => exact HC0_0.out)
                               rintro e w45 ⟨rfl, hb⟩
                               refine ⟨_, rfl, ?_⟩
                               replace HO383 := Aside0.mk (Kd.R_below (re_ HO383.out) hb)
                               replace BK370 := Aside0.mk (blk_below (be_ BK370.out) hb)
                               replace HB := Aside0.mk (below_step (by repeat (first | (with_reducible first | exact HB.out | apply below_alloc | apply pw_below_drewN | apply below_drew1 | refine below_set ?_ GE370.out) | exact HB.out)) hb)
                               (try clear hb)
                               (try clear hb2)
                               (try clear hk)
                               (try clear hi)
                               refine hK.out _ _ ⟨(blk_cell BK370.out 0).trans rfl, ((HB.out.cell (World.block_lt_of_cell? w _ hw380_0)).trans hw380_0)⟩ (fun hHeld => ?_)
                               clear hK K
                               refine norm_ (a' := ?_) ?_ ?_
                               rotate_left
                               · show Act.put _ (some 39) _ = _
                                 simp only [Act.put, z1_, z2_, z3_, i64_w, i32_w]
                                 rfl
                               refine one_ (i := 34) (N := some 40) (B_ 34359738367 37) rfl rfl (one_of HT_.out (by kernel_rfl)) (by decide) (fun K hK => ?_)
                               refine goes_ Tryd.func11 (by kernel_rfl) rfl #[.int .i64 t385] (by rfl) rfl rfl (by (try simp only [List.map_toArray, List.map_cons, List.map_nil]); first | done | rfl | (simp only [List.length_drop, List.length_take]; rfl)) ?_
                               with_reducible refine (spec_FormatInt.calls k t385 t386 _ A28.out).mono ?_
                               rintro e w46 ⟨rfl, hb⟩
                               refine ⟨_, rfl, ?_⟩
                               replace HO383 := Aside0.mk (Kd.R_below (re_ HO383.out) hb)
                               replace BK370 := Aside0.mk (blk_below (be_ BK370.out) hb)
                               replace HB := Aside0.mk (below_step (by repeat (first | (with_reducible first | exact HB.out | apply below_alloc | apply pw_below_drewN | apply below_drew1 | refine below_set ?_ GE370.out) | exact HB.out)) hb)
                               (try clear hb)
                               (try clear hb2)
                               (try clear hk)
                               (try clear hi)
                               refine hK.out _ _ ⟨(blk_cell BK370.out 0).trans rfl, ((HB.out.cell (World.block_lt_of_cell? w _ hw380_0)).trans hw380_0)⟩ (fun hHeld => ?_)
                               clear hK K
                               refine norm_ (a' := ?_) ?_ ?_
                               rotate_left
                               · show Act.put _ (some 40) _ = _
                                 simp only [Act.put, z1_, z2_, z3_, i64_w, i32_w]
                                 rfl
                               refine pu_ HT_ 35 41 (B_ 68719476735 37) ?_
                               refine pu_ HT_ 36 2 (B_ 137438953471 37) ?_
                               refine done_ (done_of HT_.out (by kernel_rfl)) ?_
                               try go_wp2
                               go_ret
                               exact ⟨by first | rfl | (simp [errW_none, errW_some] <;> rfl) | (simp [*, errW_none, errW_some] <;> rfl), by repeat (first | (with_reducible first | exact HB.out | apply below_alloc | apply pw_below_drewN | apply below_drew1 | refine below_set ?_ GE370.out) | exact HB.out)⟩
                             · rw [if_neg c29] at H
                               exact absurd H (by simp)
                           · rw [if_neg c26] at H
                             exact absurd H (by simp)
                         · rw [if_neg c25] at H
                           exact absurd H (by simp)
                       · rw [if_neg c22] at H
                         exact absurd H (by simp)
                     · rw [if_neg c21] at H
                       exact absurd H (by simp)
                   · rw [if_neg c20] at H
                     exact absurd H (by simp)
                 · rw [if_neg c18] at H
                   exact absurd H (by simp)
               · rw [if_neg c17] at H
                 exact absurd H (by simp)
             · rw [if_neg c15] at H
               exact absurd H (by simp)
           · rw [if_neg c14] at H
             exact absurd H (by simp)
         · rw [if_neg c11] at H
           exact absurd H (by simp)
       · rw [if_neg c10] at H
         exact absurd H (by simp)
     · rw [if_neg c7] at H
       exact absurd H (by simp)
   · rw [if_neg c6] at H
     exact absurd H (by simp)
 · replace c3 := Bool.eq_false_iff.mpr c3
   subst c3
   rw [if_neg (show ¬ (false = true) by decide)] at H
   obtain rfl := Option.some.inj H
   go_enter Tryd.func5, Tryd.ntmps5
   go_wp2_with (first | ((with_reducible refine gate_dst (N := 1) rfl ?_); refine box_event ?hg (N := 1) ?hd (cs := #[.slice A0_0 l0_0.length c0_0]) (t := 27) ?hr ?_; (case hd => rfl); (case hg => rfl); (case hr => first | (go_simp; done) | (go_simp; rfl)); intro gb370 hg w47 hbox hb; have BK370 := Aside0.mk (hbox); have GW370 := Aside0.mk ((by rw [hg]; exact (below_size (bl_ HB.out)) : w.heap.size ≤ gb370)); have GE370 := Aside0.mk ((by rw [hg]; exact (below_size (bl_ HB.out)) : w.heap.size ≤ gb370)); replace HB := Aside0.mk (below_step (bl_ HB.out) hb); clear hb hbox hg; have hcz48_0 : w47.cell? ⟨gb370, 0, none⟩ = some (.slice A0_0 l0_0.length c0_0) := (blk_cell BK370.out 0).trans rfl; have hfz48_0 := blk_frozen BK370.out 0) | ((with_reducible refine gate_callee (f := 10) rfl ?_); refine gL_ (some 4) Tryd.func10 #[.agg #[.slice A0_0 l0_0.length c0_0]] ?_; (with_reducible refine (spec_IsSemigroup.calls k _ _ l0_0 false _ ?side1 ?side2 A2.out).mono ?_); (case side1 => exact ce_ ((Kd.C_below HR0_0.out HB.out))); (case side2 => exact HC0_0.out); rintro e w49 ⟨rfl, hb⟩; refine ⟨_, rfl, ?_⟩; replace BK370 := Aside0.mk (blk_below (be_ BK370.out) hb); replace HB := Aside0.mk (below_step (by repeat (first | (with_reducible first | exact HB.out | apply below_alloc | apply pw_below_drewN | apply below_drew1 | refine below_set ?_ GE370.out) | exact HB.out)) hb); (try clear hb); (try clear hb2); (try clear hk); (try clear hi)))
   go_ret
   exact ⟨by first | rfl | (simp [errW_none, errW_some] <;> rfl) | (simp [*, errW_none, errW_some] <;> rfl), by repeat (first | (with_reducible first | exact HB.out | apply below_alloc | apply pw_below_drewN | apply below_drew1 | refine below_set ?_ GE370.out) | exact HB.out)⟩
def laws_toIntS.l0 : Nat → List Int → List Int → Int → Option (List Int)
 | 0, _, _, _ => none
 | k + 1, x0, x3, x4 => if x4 < (x0.length : Int) then (if 0 ≤ x4 then (if x4 < (x3.length : Int) then (laws_toIntS.l0 k x0 (x3.set (x4 : Int).toNat (rd x0 x4)) (wrap64 (x4 + 1))) else (none)) else (none)) else (some x3)
def laws_toIntS.f (k : Nat) (l0 : List Int) : Option (List Int) := if 0 ≤ (l0.length : Int) then (if ((l0.length : Int) : Int).toNat ≤ 35184372088832 then (laws_toIntS.l0 k l0 (List.replicate ((l0.length : Int) : Int).toNat 0) 0) else (none)) else (none)
set_option maxHeartbeats 8000000 in
set_option maxRecDepth 100000 in
theorem laws_toIntS.calls (k : Nat) (A0 : Option Addr) (c0 : Nat) (l0 : List Int) (r : List Int) (w : World) (hr0 : Kd.C (Kd.int .i64) w A0 l0.length l0) (hc0 : l0.length ≤ c0) (h : laws_toIntS.f k l0 = some r) :
 Calls Tryd.prog 20 #[.slice A0 l0.length c0] w fun e w' => ∃ v0_ : Value, e = .returned (v0_) ∧ Kd.R (Kd.int .i64) 3 w' w.heap.size (fun _ => True) v0_ r ∧ Below w.heap.size w w' := by
 have HR0 := Aside0.mk hr0
 have HC0 := Aside0.mk hc0
 clear hr0 hc0
 have HB := Aside0.mk (Below.refl w.heap.size w)
 have H : (if 0 ≤ (l0.length : Int) then (if ((l0.length : Int) : Int).toNat ≤ 35184372088832 then (laws_toIntS.l0 k l0 (List.replicate ((l0.length : Int) : Int).toNat 0) 0) else (none)) else (none)) = some r := h
 clear h
 by_cases c2 : 0 ≤ (l0.length : Int)
 · rw [if_pos c2] at H
   have c2b0 := eq_true c2
   have c2b1 : decide (0 ≤ (l0.length : Int)) = true := decide_eq_true c2
   clear c2
   by_cases c3 : ((l0.length : Int) : Int).toNat ≤ 35184372088832
   · rw [if_pos c3] at H
     have c3b0 := eq_true c3
     have c3b1 : decide (((l0.length : Int) : Int).toNat ≤ 35184372088832) = true := decide_eq_true c3
     clear c3
     obtain ⟨y387, hy387⟩ : ∃ y_ : List Int, y_ = (List.replicate ((l0.length : Int) : Int).toNat 0) := ⟨_, rfl⟩
     replace H : (laws_toIntS.l0 k l0 y387 0) = some r := by subst hy387; exact H
     have Ny387 := Aside0.mk hy387
     clear hy387
     have H' := Aside0.mk H
     clear H
     go_enter Tryd.func20, Tryd.ntmps20
     go_wp2_with (first | ((with_reducible refine gate_dst (N := 7) rfl ?_); refine Kd.R_make (Kd.int .i64) _ 3 rfl (N := 7) rfl 22 _ _ rfl (l0.length : Int) rfl rfl Tryd.underlying22 (.int .i64 0) 8 info3 rfl (by decide) (by omega) 0 (ok := fun _ => True) (okp := fun _ => True) rfl (fun _ hk => hk) trivial (od_) (Nat.le_trans (Nat.mul_le_mul_right _ (od_ : (l0.length : Int).toNat ≤ 35184372088832)) (by omega)) (Below.refl _ _) (Nat.le_refl _) ?_; intro v388 w4 ho5 hb hg_ hnew_; clear hg_ hnew_; (first | rw [← Ny387.out] at ho5 | (simp only [Int.reduceToNat] at ho5; rw [← Ny387.out] at ho5)); have HO389 := Aside0.mk (Kd.R_lower ho5 (below_size (bl_ HB.out))); replace HB := Aside0.mk (below_step (bl_ HB.out) hb); clear hb ho5))
     go_loopg [4] k (fun kq v4 w' => ∃ (x3_1 : List Int) (x4_1 : Int), v4 = .int .i64 x4_1 ∧ Aside0 (laws_toIntS.l0 kq l0 x3_1 x4_1 = some r) ∧ Aside0 (kq ≤ k) ∧ Aside0 (Kd.R (Kd.int .i64) 3 w' w.heap.size (fun _ => True) v388 x3_1) ∧ Aside0 (Below w.heap.size w w'))
     case atStart => exact ⟨(y387), (0), (by first | rfl | (simp; done) | (simp [*]; done)), H', ⟨Nat.le_refl _⟩, ⟨re_ HO389.out⟩, ⟨bl_ HB.out⟩⟩
     case round =>
      clear H'
      try clear c2
      try clear c2b0
      try clear c2b1
      try clear p2
      try clear c3
      try clear c3b0
      try clear c3b1
      obtain ⟨x3_1, x4_1, rfl, HA, HK1, HO_3, HB⟩ := hrel
      cases gk with
      | zero => exact absurd HA.out (by simp [laws_toIntS.l0])
      | succ k1 =>
       have H := HA.out
       clear HA
       simp only [laws_toIntS.l0] at H
       by_cases c6 : x4_1 < (l0.length : Int)
       · rw [if_pos c6] at H
         have c6b0 : decide (x4_1 < (l0.length : Int)) = true := decide_eq_true c6
         clear c6
         by_cases c7 : 0 ≤ x4_1
         · rw [if_pos c7] at H
           have c7b0 : decide (0 ≤ x4_1) = true := decide_eq_true c7
           clear c7
           by_cases c8 : x4_1 < (x3_1.length : Int)
           · rw [if_pos c8] at H
             have c8b0 : decide (x4_1 < (x3_1.length : Int)) = true := decide_eq_true c8
             clear c8
             obtain ⟨y391, hy391⟩ : ∃ y_ : List Int, y_ = (x3_1.set (x4_1 : Int).toNat (rd l0 x4_1)) := ⟨_, rfl⟩
             replace H : (laws_toIntS.l0 k1 l0 y391 (wrap64 (x4_1 + 1))) = some r := by subst hy391; exact H
             have Ny391 := Aside0.mk hy391
             clear hy391
             have H' := Aside0.mk H
             clear H
             have p390 : 0 ≤ (x4_1 : Int) := od_
             have q390 : x4_1 < (l0.length : Int) := od_
             obtain ⟨ad390, e390, hx390_0⟩ := Kd.at_int HR0.out x4_1 p390 q390
             cases e390
             (try replace hx390_0 := (HB.out.cell (World.block_lt_of_cell? w _ hx390_0)).trans hx390_0)
             replace p390 := eq_true p390
             replace q390 := eq_true q390
             have p9 : 0 ≤ (x4_1 : Int) := od_
             have q9 : (x4_1 : Int) < ((x3_1.length : Int) : Int) := od_
             obtain ⟨go9, co9, eo9, gb9, gl9, cl9, HG9⟩ := Kd.R_form HO_3.out (by omega)
             (first | cases eo9 | (injection eo9 with ea_ en_ ec_; (first | subst ea_ | (injection ea_ with ea_; subst ea_)); subst ec_; clear en_))
             have GB9 := Aside0.mk gb9
             have GG9 := Aside0.mk HG9
             clear gb9 gl9 HG9
             obtain ⟨hx9_0, hf9_0⟩ := Kd.R_celln 0 HO_3.out (x4_1 : Int) p9 q9
             replace p9 := eq_true p9
             replace q9 := eq_true q9
             have HP10 := Kd.R_putg HO_3.out (x4_1 : Int) (rd l0 x4_1)
             go_wp2_with (first | ((with_reducible refine gate_store (t := 3) (p := 20) rfl ?_); refine store_event (t := 3) (p := 20) (v := ?vo_w11) (w1 := (wr.setCell ⟨go9, (x4_1 : Int).toNat, none⟩ (.int .i64 (rd l0 x4_1)))) ?hg ?ho ?hn ?hr ?_; (case ho => rfl); (case hg => rfl); (case hn => rfl); (case hr => first | (go_simp; done) | (go_simp; rfl)); intro w11 hw; have hg : wr.grownBy w11 (some go9) := (by rw [hw]; exact HP10.2); have hp_ : Kd.R (Kd.int .i64) 3 w11 w.heap.size (fun _ => True) (.slice (some ⟨go9, 0, none⟩) x3_1.length co9) y391 := (by rw [hw, Ny391.out]; exact HP10.1); clear HP10; replace HO_3 := Aside0.mk (hp_); replace HB := Aside0.mk ((by rw [hw]; exact below_set (HB.out) GB9.out : Below w.heap.size w w11)); clear hg hw hp_))
             go_roundg k1
             case measure => have := HK1.out; omega
             case rel => exact ⟨(y391), (wrap64 (x4_1 + 1)), (by first | rfl | (simp; done) | (simp [*]; done)), H', ⟨by have := HK1.out; omega⟩, ⟨re_ HO_3.out⟩, ⟨bl_ HB.out⟩⟩
           · rw [if_neg c8] at H
             exact absurd H (by simp)
         · rw [if_neg c7] at H
           exact absurd H (by simp)
       · rw [if_neg c6] at H
         have c6b0 : decide (x4_1 < (l0.length : Int)) = false := decide_eq_false c6
         clear c6
         obtain rfl := Option.some.inj H
         go_wp2
         go_ret
         exact ⟨_, by first | rfl | (simp [errW_none, errW_some] <;> rfl) | (simp [*, errW_none, errW_some] <;> rfl), re_ HO_3.out, bl_ HB.out⟩
   · rw [if_neg c3] at H
     exact absurd H (by simp)
 · rw [if_neg c2] at H
   exact absurd H (by simp)
end Go.Proofs.YtjjajcldmkmgkaaDoor.PA
end
