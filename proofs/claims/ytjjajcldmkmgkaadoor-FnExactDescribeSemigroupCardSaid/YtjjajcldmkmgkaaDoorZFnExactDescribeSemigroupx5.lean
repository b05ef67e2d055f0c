-- Bundled by shake.py from this session's printed and written texts; Lean checks it.
import Derived.Test.YtjjajcldmkmgkaaDoorZFnExactDescribeSemigroupx1
import Derived.Test.YtjjajcldmkmgkaaDoorZFnExactDescribeSemigroupx2
import Derived.Test.YtjjajcldmkmgkaaDoorZFnExactDescribeSemigroupx3
import Derived.Test.YtjjajcldmkmgkaaDoorZFnExactDescribeSemigroupx4
section
namespace Go.Proofs.YtjjajcldmkmgkaaDoor.PA
open Go.RowKit Go.Proofs.YtjjajcldmkmgkaaDoorW.PrintWords Go.Proofs.YtjjajcldmkmgkaaDoorW.PrintLast Go.Proofs.YtjjajcldmkmgkaaDoorW.PrintMore
attribute [local go_sem] max2_int min2_int max_two min_two max_three min_three max_four min_four
set_option linter.unusedVariables false
set_option linter.unusedSimpArgs false
def spec_TypeOf.f (k : Nat) (l0_0 : List Int) : Option (Int) := (spec_IsSemigroup.f k l0_0).bind fun t261 => (if t261 = true then ((spec_PseudoFrobenius.f k l0_0).bind fun t262 => ((spec_l1Max.f 1 (t262.length : Int)).bind fun t265 => (some t265))) else (some 0))
set_option maxHeartbeats 8000000 in
set_option maxRecDepth 100000 in
theorem spec_TypeOf.calls (k : Nat) (A0_0 : Option Addr) (c0_0 : Nat) (l0_0 : List Int) (r : Int) (w : World) (hr0_0 : Kd.C (Kd.int .i64) w A0_0 l0_0.length l0_0) (hc0_0 : l0_0.length ≤ c0_0) (h : spec_TypeOf.f k l0_0 = some r) :
 Calls Tryd.prog 14 #[.agg #[.slice A0_0 l0_0.length c0_0]] w fun e w' => e = .returned (.int .i64 r) ∧ Below w.heap.size w w' := by
 have hu27 := Tryd.underlying27
 have HR0_0 := Aside0.mk hr0_0
 have HC0_0 := Aside0.mk hc0_0
 clear hr0_0 hc0_0
 have HB := Aside0.mk (Below.refl w.heap.size w)
 have H : ((spec_IsSemigroup.f k l0_0).bind fun t261 => (if t261 = true then ((spec_PseudoFrobenius.f k l0_0).bind fun t262 => ((spec_l1Max.f 1 (t262.length : Int)).bind fun t265 => (some t265))) else (some 0))) = some r := h
 clear h
 replace H := Option.bind_eq_some_iff.mp H
 obtain ⟨t261, A20, H⟩ := H
 have A2 := Aside0.mk A20
 clear A20
 by_cases c3 : t261 = true
 · subst c3
   rw [if_pos rfl] at H
   replace H := Option.bind_eq_some_iff.mp H
   obtain ⟨t262, A40, H⟩ := H
   have A4 := Aside0.mk A40
   clear A40
   replace H := Option.bind_eq_some_iff.mp H
   obtain ⟨t265, A50, H⟩ := H
   have A5 := Aside0.mk A50
   clear A50
   obtain rfl := Option.some.inj H
   go_enter Tryd.func14, Tryd.ntmps14
   go_wp2_with (first | ((with_reducible refine gate_dst (N := 1) rfl ?_); refine box_event ?hg (N := 1) ?hd (cs := #[.slice A0_0 l0_0.length c0_0]) (t := 27) ?hr ?_; (case hd => rfl); (case hg => rfl); (case hr => first | (go_simp; done) | (go_simp; rfl)); intro gb260 hg w6 hbox hb; have BK260 := Aside0.mk (hbox); have GW260 := Aside0.mk ((by rw [hg]; exact (below_size (bl_ HB.out)) : w.heap.size ≤ gb260)); have GE260 := Aside0.mk ((by rw [hg]; exact (below_size (bl_ HB.out)) : w.heap.size ≤ gb260)); replace HB := Aside0.mk (below_step (bl_ HB.out) hb); clear hb hbox hg; have hcz7_0 : w6.cell? ⟨gb260, 0, none⟩ = some (.slice A0_0 l0_0.length c0_0) := (blk_cell BK260.out 0).trans rfl; have hfz7_0 := blk_frozen BK260.out 0) | ((with_reducible refine gate_callee (f := 10) rfl ?_); refine gL_ (some 4) Tryd.func10 #[.agg #[.slice A0_0 l0_0.length c0_0]] ?_; (with_reducible refine (spec_IsSemigroup.calls k _ _ l0_0 true _ ?side1 ?side2 A2.out).mono ?_); (case side1 => exact ce_ ((Kd.C_below HR0_0.out HB.out))); (case side2 => exact HC0_0.out); rintro e w8 ⟨rfl, hb⟩; refine ⟨_, rfl, ?_⟩; replace BK260 := Aside0.mk (blk_below (be_ BK260.out) hb); replace HB := Aside0.mk (below_step (by repeat (first | (with_reducible first | exact HB.out | apply below_alloc | apply pw_below_drewN | apply below_drew1 | refine below_set ?_ GE260.out) | exact HB.out)) hb); (try clear hb); (try clear hb2); (try clear hk); (try clear hi); have hcz9_0 : w8.cell? ⟨gb260, 0, none⟩ = some (.slice A0_0 l0_0.length c0_0) := (blk_cell BK260.out 0).trans rfl; have hfz9_0 := blk_frozen BK260.out 0) | ((with_reducible refine gate_callee (f := 43) rfl ?_); refine gL_ (some 7) Tryd.func43 #[.agg #[.slice A0_0 l0_0.length c0_0]] ?_; (with_reducible refine (spec_PseudoFrobenius.calls k _ _ l0_0 t262 _ ?side1 ?side2 A4.out).mono ?_); (case side1 => exact ce_ ((Kd.C_below HR0_0.out HB.out))); (case side2 => exact HC0_0.out); rintro e w10 ⟨v263, rfl, ho0, hb⟩; refine ⟨_, rfl, ?_⟩; have HO264 := Aside0.mk (Kd.R_lower ho0 (below_size (by repeat (first | (with_reducible first | exact HB.out | apply below_alloc | apply pw_below_drewN | apply below_drew1 | refine below_set ?_ GE260.out) | exact HB.out)))); replace BK260 := Aside0.mk (blk_below (be_ BK260.out) hb); replace HB := Aside0.mk (below_step (by repeat (first | (with_reducible first | exact HB.out | apply below_alloc | apply pw_below_drewN | apply below_drew1 | refine below_set ?_ GE260.out) | exact HB.out)) hb); (try clear hb); (try clear hb2); (try clear hk); (try clear hi); (try clear ho0); obtain ⟨Ao11, co11, eo11⟩ := Kd.R_slice HO264.out; subst eo11) | ((with_reducible refine gate_callee (f := 42) rfl ?_); refine gL_ (some 9) Tryd.func42 #[.int .i64 1, .int .i64 (t262.length : Int)] ?_; (with_reducible refine (spec_l1Max.calls 1 (t262.length : Int) t265 _ A5.out).mono ?_); rintro e w' ⟨rfl, ⟨nd, rfl⟩⟩; refine ⟨_, rfl, ?_⟩))
   go_ret
   exact ⟨by first | rfl | (simp [errW_none, errW_some] <;> rfl) | (simp [*, errW_none, errW_some] <;> rfl), by repeat (first | (with_reducible first | exact HB.out | apply below_alloc | apply pw_below_drewN | apply below_drew1 | refine below_set ?_ GE260.out) | exact HB.out)⟩
 · replace c3 := Bool.eq_false_iff.mpr c3
   subst c3
   rw [if_neg (show ¬ (false = true) by decide)] at H
   obtain rfl := Option.some.inj H
   go_enter Tryd.func14, Tryd.ntmps14
   go_wp2_with (first | ((with_reducible refine gate_dst (N := 1) rfl ?_); refine box_event ?hg (N := 1) ?hd (cs := #[.slice A0_0 l0_0.length c0_0]) (t := 27) ?hr ?_; (case hd => rfl); (case hg => rfl); (case hr => first | (go_simp; done) | (go_simp; rfl)); intro gb260 hg w12 hbox hb; have BK260 := Aside0.mk (hbox); have GW260 := Aside0.mk ((by rw [hg]; exact (below_size (bl_ HB.out)) : w.heap.size ≤ gb260)); have GE260 := Aside0.mk ((by rw [hg]; exact (below_size (bl_ HB.out)) : w.heap.size ≤ gb260)); replace HB := Aside0.mk (below_step (bl_ HB.out) hb); clear hb hbox hg; have hcz13_0 : w12.cell? ⟨gb260, 0, none⟩ = some (.slice A0_0 l0_0.length c0_0) := (blk_cell BK260.out 0).trans rfl; have hfz13_0 := blk_frozen BK260.out 0) | ((with_reducible refine gate_callee (f := 10) rfl ?_); refine gL_ (some 4) Tryd.func10 #[.agg #[.slice A0_0 l0_0.length c0_0]] ?_; (with_reducible refine (spec_IsSemigroup.calls k _ _ l0_0 false _ ?side1 ?side2 A2.out).mono ?_); (case side1 => exact ce_ ((Kd.C_below HR0_0.out HB.out))); (case side2 => exact HC0_0.out); rintro e w14 ⟨rfl, hb⟩; refine ⟨_, rfl, ?_⟩; replace BK260 := Aside0.mk (blk_below (be_ BK260.out) hb); replace HB := Aside0.mk (below_step (by repeat (first | (with_reducible first | exact HB.out | apply below_alloc | apply pw_below_drewN | apply below_drew1 | refine below_set ?_ GE260.out) | exact HB.out)) hb); (try clear hb); (try clear hb2); (try clear hk); (try clear hi)))
   go_ret
   exact ⟨by first | rfl | (simp [errW_none, errW_some] <;> rfl) | (simp [*, errW_none, errW_some] <;> rfl), by repeat (first | (with_reducible first | exact HB.out | apply below_alloc | apply pw_below_drewN | apply below_drew1 | refine below_set ?_ GE260.out) | exact HB.out)⟩
def spec_l3Has.f (k : Nat) (l0_0 : List Int) (a1 : Int) : Option (Bool) := if a1 < 0 then (some (decide (a1 > 0))) else (if a1 ≥ 200 then (some (decide (a1 > 0))) else ((spec_l3Table.f k l0_0 a1).bind fun t267 => (if 0 ≤ a1 then (if a1 < (t267.length : Int) then (some (rdOf false t267 a1)) else (none)) else (none))))
set_option maxHeartbeats 8000000 in
set_option maxRecDepth 100000 in
theorem spec_l3Has.calls (k : Nat) (A0_0 : Option Addr) (c0_0 : Nat) (l0_0 : List Int) (a1 : Int) (r : Bool) (w : World) (hr0_0 : Kd.C (Kd.int .i64) w A0_0 l0_0.length l0_0) (hc0_0 : l0_0.length ≤ c0_0) (h : spec_l3Has.f k l0_0 a1 = some r) :
 Calls Tryd.prog 72 #[.agg #[.slice A0_0 l0_0.length c0_0], .int .i64 a1] w fun e w' => e = .returned (.bool r) ∧ Below w.heap.size w w' := by
 have hu27 := Tryd.underlying27
 have HR0_0 := Aside0.mk hr0_0
 have HC0_0 := Aside0.mk hc0_0
 clear hr0_0 hc0_0
 have HB := Aside0.mk (Below.refl w.heap.size w)
 have H : (if a1 < 0 then (some (decide (a1 > 0))) else (if a1 ≥ 200 then (some (decide (a1 > 0))) else ((spec_l3Table.f k l0_0 a1).bind fun t267 => (if 0 ≤ a1 then (if a1 < (t267.length : Int) then (some (rdOf false t267 a1)) else (none)) else (none))))) = some r := h
 clear h
 by_cases c3 : a1 < 0
 · rw [if_pos c3] at H
   have c3b0 : decide (a1 < 0) = true := decide_eq_true c3
   clear c3
   obtain rfl := Option.some.inj H
   go_enter Tryd.func72, Tryd.ntmps72
   go_wp2_with (first | ((with_reducible refine gate_dst (N := 2) rfl ?_); refine box_event ?hg (N := 2) ?hd (cs := #[.slice A0_0 l0_0.length c0_0]) (t := 27) ?hr ?_; (case hd => rfl); (case hg => rfl); (case hr => first | (go_simp; done) | (go_simp; rfl)); intro gb266 hg w4 hbox hb; have BK266 := Aside0.mk (hbox); have GW266 := Aside0.mk ((by rw [hg]; exact (below_size (bl_ HB.out)) : w.heap.size ≤ gb266)); have GE266 := Aside0.mk ((by rw [hg]; exact (below_size (bl_ HB.out)) : w.heap.size ≤ gb266)); replace HB := Aside0.mk (below_step (bl_ HB.out) hb); clear hb hbox hg))
   go_ret
   exact ⟨by first | rfl | (simp [errW_none, errW_some] <;> rfl) | (simp [*, errW_none, errW_some] <;> rfl), by repeat (first | (with_reducible first | exact HB.out | apply below_alloc | apply pw_below_drewN | apply below_drew1 | refine below_set ?_ GE266.out) | exact HB.out)⟩
 · rw [if_neg c3] at H
   have c3b0 : decide (a1 < 0) = false := decide_eq_false c3
   clear c3
   by_cases c5 : a1 ≥ 200
   · rw [if_pos c5] at H
     have c5b0 : decide (200 ≤ a1) = true := decide_eq_true c5
     clear c5
     obtain rfl := Option.some.inj H
     go_enter Tryd.func72, Tryd.ntmps72
     go_wp2_with (first | ((with_reducible refine gate_dst (N := 2) rfl ?_); refine box_event ?hg (N := 2) ?hd (cs := #[.slice A0_0 l0_0.length c0_0]) (t := 27) ?hr ?_; (case hd => rfl); (case hg => rfl); (case hr => first | (go_simp; done) | (go_simp; rfl)); intro gb266 hg w6 hbox hb; have BK266 := Aside0.mk (hbox); have GW266 := Aside0.mk ((by rw [hg]; exact (below_size (bl_ HB.out)) : w.heap.size ≤ gb266)); have GE266 := Aside0.mk ((by rw [hg]; exact (below_size (bl_ HB.out)) : w.heap.size ≤ gb266)); replace HB := Aside0.mk (below_step (bl_ HB.out) hb); clear hb hbox hg))
     go_ret
     exact ⟨by first | rfl | (simp [errW_none, errW_some] <;> rfl) | (simp [*, errW_none, errW_some] <;> rfl), by repeat (first | (with_reducible first | exact HB.out | apply below_alloc | apply pw_below_drewN | apply below_drew1 | refine below_set ?_ GE266.out) | exact HB.out)⟩
   · rw [if_neg c5] at H
     have c5b0 : decide (200 ≤ a1) = false := decide_eq_false c5
     clear c5
     replace H := Option.bind_eq_some_iff.mp H
     obtain ⟨t267, A70, H⟩ := H
     have A7 := Aside0.mk A70
     clear A70
     by_cases c8 : 0 ≤ a1
     · rw [if_pos c8] at H
       have c8b0 : decide (0 ≤ a1) = true := decide_eq_true c8
       clear c8
       by_cases c9 : a1 < (t267.length : Int)
       · rw [if_pos c9] at H
         have c9b0 : decide (a1 < (t267.length : Int)) = true := decide_eq_true c9
         clear c9
         obtain rfl := Option.some.inj H
         go_enter Tryd.func72, Tryd.ntmps72
         go_wp2_with (first | ((with_reducible refine gate_dst (N := 2) rfl ?_); refine box_event ?hg (N := 2) ?hd (cs := #[.slice A0_0 l0_0.length c0_0]) (t := 27) ?hr ?_; (case hd => rfl); (case hg => rfl); (case hr => first | (go_simp; done) | (go_simp; rfl)); intro gb266 hg w10 hbox hb; have BK266 := Aside0.mk (hbox); have GW266 := Aside0.mk ((by rw [hg]; exact (below_size (bl_ HB.out)) : w.heap.size ≤ gb266)); have GE266 := Aside0.mk ((by rw [hg]; exact (below_size (bl_ HB.out)) : w.heap.size ≤ gb266)); replace HB := Aside0.mk (below_step (bl_ HB.out) hb); clear hb hbox hg; have hcz11_0 : w10.cell? ⟨gb266, 0, none⟩ = some (.slice A0_0 l0_0.length c0_0) := (blk_cell BK266.out 0).trans rfl; have hfz11_0 := blk_frozen BK266.out 0) | ((with_reducible refine gate_callee (f := 69) rfl ?_); refine gL_ (some 16) Tryd.func69 #[.slice A0_0 l0_0.length c0_0, .int .i64 a1] ?_; (with_reducible refine (spec_l3Table.calls k _ _ l0_0 a1 t267 _ ?side1 ?side2 A7.out).mono ?_); (case side1 => exact ce_ ((Kd.C_below HR0_0.out HB.out))); (case side2 => exact HC0_0.out); rintro e w12 ⟨v268, rfl, ho0, hb⟩; refine ⟨_, rfl, ?_⟩; have HO269 := Aside0.mk (Kd.R_lower ho0 (below_size (by repeat (first | (with_reducible first | exact HB.out | apply below_alloc | apply pw_below_drewN | apply below_drew1 | refine below_set ?_ GE266.out) | exact HB.out)))); replace BK266 := Aside0.mk (blk_below (be_ BK266.out) hb); replace HB := Aside0.mk (below_step (by repeat (first | (with_reducible first | exact HB.out | apply below_alloc | apply pw_below_drewN | apply below_drew1 | refine below_set ?_ GE266.out) | exact HB.out)) hb); (try clear hb); (try clear hb2); (try clear hk); (try clear hi); (try clear ho0); obtain ⟨Ao13, co13, eo13⟩ := Kd.R_slice HO269.out; subst eo13; have p270 : 0 ≤ (a1 : Int) := od_; have q270 : a1 < (t267.length : Int) := od_; obtain ⟨ad270, e270, hx270_0⟩ := Kd.at_bool (Kd.R_reads' HO269.out).2.2 a1 p270 q270; cases e270; replace p270 := eq_true p270; replace q270 := eq_true q270))
         go_ret
         exact ⟨by first | rfl | (simp [errW_none, errW_some] <;> rfl) | (simp [*, errW_none, errW_some] <;> rfl), by repeat (first | (with_reducible first | exact HB.out | apply below_alloc | apply pw_below_drewN | apply below_drew1 | refine below_set ?_ GE266.out) | exact HB.out)⟩
       · rw [if_neg c9] at H
         exact absurd H (by simp)
     · rw [if_neg c8] at H
       exact absurd H (by simp)
mutual
def spec_l9Mirror.l0 : Nat → Bool → Int → Int → List Int → Option (Bool)
 | 0, _, _, _, _ => none
 | k + 1, x1, x5, x6, x272000 => if x6 ≤ x5 then (if x1 = true then (spec_l9Mirror.j1 k x1 x5 x6 ((wrap64 (2 * x6)) == x5) x272000) else (spec_l9Mirror.j1 k x1 x5 x6 false x272000)) else (some true)
def spec_l9Mirror.j1 : Nat → Bool → Int → Int → Bool → List Int → Option (Bool)
 | 0, _, _, _, _, _ => none
 | k + 1, x1, x5, x6, x20, x272000 => if x20 = true then (spec_l9Mirror.l0 k x1 x5 (wrap64 (x6 + 1)) x272000) else ((spec_l3Has.f k x272000 x6).bind fun t273 => ((spec_l3Has.f k x272000 (wrap64 (x5 - x6))).bind fun t274 => (if (t273 == t274) = true then (some false) else (spec_l9Mirror.l0 k x1 x5 (wrap64 (x6 + 1)) x272000))))
end
def spec_l9Mirror.f (k : Nat) (l0_0 : List Int) (a1 : Bool) : Option (Bool) := (spec_FrobeniusOf.f k l0_0).bind fun t272 => (spec_l9Mirror.l0 k a1 t272 0 l0_0)
def spec_l9Mirror.T6 : Bool × List (List Nat × List Nat) := (true, [([], []), ([], []), ([0, 1], [0, 1]), ([], []), ([], []), ([], []), ([4, 5], [4, 5]), ([3, 6, 2], [3, 6]), ([2, 7], [2, 7])])
def spec_l9Mirror.B6 : List Nat := [0, 0, 3, 0, 0, 0, 48, 127, 255]
theorem spec_l9Mirror.tab6 : rtab .any (opsOf Tryd.f71 6) = spec_l9Mirror.T6 := by kernel_rfl
theorem spec_l9Mirror.bits6 : waitsOk spec_l9Mirror.T6.2 spec_l9Mirror.B6 = true := by kernel_rfl
set_option maxHeartbeats 8000000 in
set_option maxRecDepth 100000 in
theorem spec_l9Mirror.calls (k : Nat) (A0_0 : Option Addr) (c0_0 : Nat) (l0_0 : List Int) (a1 : Bool) (r : Bool) (w : World) (hr0_0 : Kd.C (Kd.int .i64) w A0_0 l0_0.length l0_0) (hc0_0 : l0_0.length ≤ c0_0) (h : spec_l9Mirror.f k l0_0 a1 = some r) :
 Calls Tryd.prog 71 #[.agg #[.slice A0_0 l0_0.length c0_0], .bool a1] w fun e w' => e = .returned (.bool r) ∧ Below w.heap.size w w' := by
 have hu27 := Tryd.underlying27
 have HR0_0 := Aside0.mk hr0_0
 have HC0_0 := Aside0.mk hc0_0
 clear hr0_0 hc0_0
 have HB := Aside0.mk (Below.refl w.heap.size w)
 have H : ((spec_FrobeniusOf.f k l0_0).bind fun t272 => (spec_l9Mirror.l0 k a1 t272 0 l0_0)) = some r := h
 clear h
 replace H := Option.bind_eq_some_iff.mp H
 obtain ⟨t272, A30, H⟩ := H
 have A3 := Aside0.mk A30
 clear A30
 have H' := Aside0.mk H
 clear H
 go_enter Tryd.func71, Tryd.ntmps71
 go_wp2_with (first | ((with_reducible refine gate_dst (N := 2) rfl ?_); refine box_event ?hg (N := 2) ?hd (cs := #[.slice A0_0 l0_0.length c0_0]) (t := 27) ?hr ?_; (case hd => rfl); (case hg => rfl); (case hr => first | (go_simp; done) | (go_simp; rfl)); intro gb271 hg w4 hbox hb; have BK271 := Aside0.mk (hbox); have GW271 := Aside0.mk ((by rw [hg]; exact (below_size (bl_ HB.out)) : w.heap.size ≤ gb271)); have GE271 := Aside0.mk ((by rw [hg]; exact (below_size (bl_ HB.out)) : w.heap.size ≤ gb271)); replace HB := Aside0.mk (below_step (bl_ HB.out) hb); clear hb hbox hg; have hcz5_0 : w4.cell? ⟨gb271, 0, none⟩ = some (.slice A0_0 l0_0.length c0_0) := (blk_cell BK271.out 0).trans rfl; have hfz5_0 := blk_frozen BK271.out 0) | ((with_reducible refine gate_callee (f := 12) rfl ?_); refine gL_ (some 8) Tryd.func12 #[.agg #[.slice A0_0 l0_0.length c0_0]] ?_; (with_reducible refine (spec_FrobeniusOf.calls k _ _ l0_0 t272 _ ?side1 ?side2 A3.out).mono ?_); (case side1 => exact ce_ ((Kd.C_below HR0_0.out HB.out))); (case side2 => exact HC0_0.out); rintro e w6 ⟨rfl, hb⟩; refine ⟨_, rfl, ?_⟩; replace BK271 := Aside0.mk (blk_below (be_ BK271.out) hb); replace HB := Aside0.mk (below_step (by repeat (first | (with_reducible first | exact HB.out | apply below_alloc | apply pw_below_drewN | apply below_drew1 | refine below_set ?_ GE271.out) | exact HB.out)) hb); (try clear hb); (try clear hb2); (try clear hk); (try clear hi)))
 go_loopg [6] k (fun kq v6 w' => ∃ (x6_1 : Int), v6 = .int .i64 x6_1 ∧ Aside0 (spec_l9Mirror.l0 kq a1 t272 x6_1 l0_0 = some r) ∧ Aside0 (kq ≤ k) ∧ Aside0 (w'.heap[gb271]? = some (.cells #[(.slice A0_0 l0_0.length c0_0)] 27 (0, 0))) ∧ Aside0 (Below w.heap.size w w'))
 case atStart => exact ⟨(0), (by first | rfl | (simp; done) | (simp [*]; done)), H', ⟨Nat.le_refl _⟩, ⟨be_ BK271.out⟩, ⟨by repeat (first | (with_reducible first | exact HB.out | apply below_alloc | apply pw_below_drewN | apply below_drew1 | refine below_set ?_ GE271.out) | exact HB.out)⟩⟩
 case round =>
  clear H'
  try clear c1
  try clear p2
  try clear hcz5_0
  try clear hfz5_0
  obtain ⟨x6_1, rfl, HA, HK1, BK271, HB⟩ := hrel
  cases gk with
  | zero => exact absurd HA.out (by simp [spec_l9Mirror.l0])
  | succ k1 =>
   have H := HA.out
   clear HA
   simp only [spec_l9Mirror.l0] at H
   by_cases c7 : x6_1 ≤ t272
   · rw [if_pos c7] at H
     have c7b0 : decide (x6_1 ≤ t272) = true := decide_eq_true c7
     clear c7
     have HC8 := Aside0.mk H
     clear H
     go_upto_region 5 with (fail)
     go_cut [20] (fun v20 wc => ∃ (kq : Nat) (x20_7 : Bool), v20 = .bool x20_7 ∧ Aside0 (spec_l9Mirror.j1 kq a1 t272 x6_1 x20_7 l0_0 = some r) ∧ Aside0 (kq ≤ k1) ∧ Aside0 (wc.heap[gb271]? = some (.cells #[(.slice A0_0 l0_0.length c0_0)] 27 (0, 0))) ∧ Aside0 (Below w.heap.size w wc))
     case first =>
      have H := HC8.out
      clear HC8
      by_cases c9 : a1 = true
      · subst c9
        rw [if_pos rfl] at H
        have H' := Aside0.mk H
        clear H
        go_wp2
        go_meet
        case rel => exact ⟨_, (((wrap64 (2 * x6_1)) == t272)), (by first | rfl | (simp; done) | (simp [*]; done)), H', ⟨by have := HK1.out; first | omega | exact Nat.le_refl _⟩, ⟨be_ BK271.out⟩, ⟨by repeat (first | (with_reducible first | exact HB.out | apply below_alloc | apply pw_below_drewN | apply below_drew1 | refine below_set ?_ GE271.out) | exact HB.out)⟩⟩
      · replace c9 := Bool.eq_false_iff.mpr c9
        subst c9
        rw [if_neg (show ¬ (false = true) by decide)] at H
        have H' := Aside0.mk H
        clear H
        go_wp2
        go_meet
        case rel => exact ⟨_, (false), (by first | rfl | (simp; done) | (simp [*]; done)), H', ⟨by have := HK1.out; first | omega | exact Nat.le_refl _⟩, ⟨be_ BK271.out⟩, ⟨by repeat (first | (with_reducible first | exact HB.out | apply below_alloc | apply pw_below_drewN | apply below_drew1 | refine below_set ?_ GE271.out) | exact HB.out)⟩⟩
     case rest =>
      clear HC8
      try clear c1
      try clear p2
      try clear p6
      try clear c7
      try clear c7b0
      try clear c9
      try clear hcz5_0
      try clear hfz5_0
      try clear p2
      obtain ⟨kq, x20_7, rfl, HA, HJ7, BK271, HB⟩ := hcut
      cases kq with
      | zero => exact absurd HA.out (by simp [spec_l9Mirror.j1])
      | succ kj7 =>
       have H := HA.out
       clear HA
       simp only [spec_l9Mirror.j1] at H
       by_cases c10 : x20_7 = true
       · subst c10
         rw [if_pos rfl] at H
         have H' := Aside0.mk H
         clear H
         go_wp2
         go_roundg kj7
         case measure => have := HK1.out; have := HJ7.out; omega
         case rel => exact ⟨(wrap64 (x6_1 + 1)), (by first | rfl | (simp; done) | (simp [*]; done)), H', ⟨by have := HK1.out; have := HJ7.out; omega⟩, ⟨be_ BK271.out⟩, ⟨by repeat (first | (with_reducible first | exact HB.out | apply below_alloc | apply pw_below_drewN | apply below_drew1 | refine below_set ?_ GE271.out) | exact HB.out)⟩⟩
       · replace c10 := Bool.eq_false_iff.mpr c10
         subst c10
         rw [if_neg (show ¬ (false = true) by decide)] at H
         replace H := Option.bind_eq_some_iff.mp H
         obtain ⟨t273, A110, H⟩ := H
         have A11 := Aside0.mk A110
         clear A110
         replace H := Option.bind_eq_some_iff.mp H
         obtain ⟨t274, A120, H⟩ := H
         have A12 := Aside0.mk A120
         clear A120
         by_cases c13 : (t273 == t274) = true
         · rw [if_pos c13] at H
           have c13b0 : (t273 == t274) = true := c13
           (try (have c13b1 : decide (t273 = t274) = true := by simpa using c13))
           (try (have c13b2 : (t273 == t274) = true := by simpa using c13))
           clear c13
           obtain rfl := Option.some.inj H
           try go_wp2
           replace BK271 := Aside0.mk (blk_drew BK271.out)
           replace HB := Aside0.mk (below_drew1 HB.out)
           refine start_ (n := 9) (S := fun w' => w'.cell? ⟨gb271, 0, none⟩ = some (.slice A0_0 l0_0.length c0_0)) (ds := []) (B_ 0 9) (by kernel_rfl) rfl rfl ((blk_cell BK271.out 0).trans rfl) (fun hHeld => ?_); refine with_tabW spec_l9Mirror.tab6 spec_l9Mirror.bits6 (fun HT_ HW_ => ?_)
           generalize wc.drew = w14 at BK271 HB hHeld ⊢
           refine pu_ HT_ 1 22 (B_ 2 9) ?_
           refine pu_ HT_ 4 25 (B_ 18 9) ?_
           refine pu_ HT_ 5 26 (B_ 50 9) ?_
           refine pu_ HT_ 6 27 (B_ 114 9) ?_
           refine tk1_ HT_ HW_ hHeld 0 21 (B_ 115 9) ?_
           refine tk1_ HT_ HW_ hHeld 3 24 (B_ 123 9) ?_
           refine one_ (i := 2) (N := some 23) (B_ 127 9) rfl rfl (one_of HT_.out (by kernel_rfl)) (by decide) (fun K hK => ?_)
           refine goes_ Tryd.func72 (by kernel_rfl) rfl #[.agg #[.slice A0_0 l0_0.length c0_0], .int .i64 x6_1] (by rfl) rfl rfl (by (try simp only [List.map_toArray, List.map_cons, List.map_nil]); first | done | rfl | (simp only [List.length_drop, List.length_take]; rfl)) ?_
           with_reducible refine (spec_l3Has.calls kj7 _ _ l0_0 x6_1 t273 _ ?side1 ?side2 A11.out).mono ?_
           (case side1 => exact ce_ ((Kd.C_below HR0_0.out HB.out)))
           (case side2 => exact HC0_0.out)
           rintro e w15 ⟨rfl, hb⟩
           refine ⟨_, rfl, ?_⟩
           replace BK271 := Aside0.mk (blk_below (be_ BK271.out) hb)
           replace HB := Aside0.mk (below_step (by repeat (first | (with_reducible first | exact HB.out | apply below_alloc | apply pw_below_drewN | apply below_drew1 | refine below_set ?_ GE271.out) | exact HB.out)) hb)
           (try clear hb)
           (try clear hb2)
           (try clear hk)
           (try clear hi)
           refine hK.out _ _ ((blk_cell BK271.out 0).trans rfl) (fun hHeld => ?_)
           clear hK K
           refine norm_ (a' := ?_) ?_ ?_
           rotate_left
           · show Act.put _ (some 23) _ = _
             simp only [Act.put, z1_, z2_, z3_, i64_w, i32_w]
             rfl
           refine one_ (i := 7) (N := some 28) (B_ 255 9) rfl rfl (one_of HT_.out (by kernel_rfl)) (by decide) (fun K hK => ?_)
           refine goes_ Tryd.func72 (by kernel_rfl) rfl #[.agg #[.slice A0_0 l0_0.length c0_0], .int .i64 (wrap64 (t272 - x6_1))] (by rfl) rfl rfl (by (try simp only [List.map_toArray, List.map_cons, List.map_nil]); first | done | rfl | (simp only [List.length_drop, List.length_take]; rfl)) ?_
           with_reducible refine (spec_l3Has.calls kj7 _ _ l0_0 (wrap64 (t272 - x6_1)) t274 _ ?side1 ?side2 A12.out).mono ?_
           (case side1 => exact ce_ ((Kd.C_below HR0_0.out HB.out)))
           (case side2 => exact HC0_0.out)
           rintro e w16 ⟨rfl, hb⟩
           refine ⟨_, rfl, ?_⟩
           replace BK271 := Aside0.mk (blk_below (be_ BK271.out) hb)
           replace HB := Aside0.mk (below_step (by repeat (first | (with_reducible first | exact HB.out | apply below_alloc | apply pw_below_drewN | apply below_drew1 | refine below_set ?_ GE271.out) | exact HB.out)) hb)
           (try clear hb)
           (try clear hb2)
           (try clear hk)
           (try clear hi)
           refine hK.out _ _ ((blk_cell BK271.out 0).trans rfl) (fun hHeld => ?_)
           clear hK K
           refine norm_ (a' := ?_) ?_ ?_
           rotate_left
           · show Act.put _ (some 28) _ = _
             simp only [Act.put, z1_, z2_, z3_, i64_w, i32_w]
             rfl
           refine pu_ HT_ 8 29 (B_ 511 9) ?_
           refine done_ (done_of HT_.out (by kernel_rfl)) ?_
           try go_wp2
           go_ret
           exact ⟨by first | rfl | (simp [errW_none, errW_some] <;> rfl) | (simp [*, errW_none, errW_some] <;> rfl), by repeat (first | (with_reducible first | exact HB.out | apply below_alloc | apply pw_below_drewN | apply below_drew1 | refine below_set ?_ GE271.out) | exact HB.out)⟩
         · rw [if_neg c13] at H
           have c13b0 : (t273 == t274) = false := by simpa using c13
           (try (have c13b1 : decide (t273 = t274) = false := by simpa using c13))
           (try (have c13b2 : (t273 == t274) = false := by simpa using c13))
           (try (have c13b3 : ¬ (t273 = t274) := by simpa using c13))
           clear c13
           have H' := Aside0.mk H
           clear H
           try go_wp2
           replace BK271 := Aside0.mk (blk_drew BK271.out)
           replace HB := Aside0.mk (below_drew1 HB.out)
           refine start_ (n := 9) (S := fun w' => w'.cell? ⟨gb271, 0, none⟩ = some (.slice A0_0 l0_0.length c0_0)) (ds := []) (B_ 0 9) (by kernel_rfl) rfl rfl ((blk_cell BK271.out 0).trans rfl) (fun hHeld => ?_); refine with_tabW spec_l9Mirror.tab6 spec_l9Mirror.bits6 (fun HT_ HW_ => ?_)
           generalize wc.drew = w17 at BK271 HB hHeld ⊢
           refine pu_ HT_ 1 22 (B_ 2 9) ?_
           refine pu_ HT_ 4 25 (B_ 18 9) ?_
           refine pu_ HT_ 5 26 (B_ 50 9) ?_
           refine pu_ HT_ 6 27 (B_ 114 9) ?_
           refine tk1_ HT_ HW_ hHeld 0 21 (B_ 115 9) ?_
           refine tk1_ HT_ HW_ hHeld 3 24 (B_ 123 9) ?_
           refine one_ (i := 2) (N := some 23) (B_ 127 9) rfl rfl (one_of HT_.out (by kernel_rfl)) (by decide) (fun K hK => ?_)
           refine goes_ Tryd.func72 (by kernel_rfl) rfl #[.agg #[.slice A0_0 l0_0.length c0_0], .int .i64 x6_1] (by rfl) rfl rfl (by (try simp only [List.map_toArray, List.map_cons, List.map_nil]); first | done | rfl | (simp only [List.length_drop, List.length_take]; rfl)) ?_
           with_reducible refine (spec_l3Has.calls kj7 _ _ l0_0 x6_1 t273 _ ?side1 ?side2 A11.out).mono ?_
           (case side1 => exact ce_ ((Kd.C_below HR0_0.out HB.out)))
           (case side2 => exact HC0_0.out)
           rintro e w18 ⟨rfl, hb⟩
           refine ⟨_, rfl, ?_⟩
           replace BK271 := Aside0.mk (blk_below (be_ BK271.out) hb)
           replace HB := Aside0.mk (below_step (by repeat (first | (with_reducible first | exact HB.out | apply below_alloc | apply pw_below_drewN | apply below_drew1 | refine below_set ?_ GE271.out) | exact HB.out)) hb)
           (try clear hb)
           (try clear hb2)
           (try clear hk)
           (try clear hi)
           refine hK.out _ _ ((blk_cell BK271.out 0).trans rfl) (fun hHeld => ?_)
           clear hK K
           refine norm_ (a' := ?_) ?_ ?_
           rotate_left
           · show Act.put _ (some 23) _ = _
             simp only [Act.put, z1_, z2_, z3_, i64_w, i32_w]
             rfl
           refine one_ (i := 7) (N := some 28) (B_ 255 9) rfl rfl (one_of HT_.out (by kernel_rfl)) (by decide) (fun K hK => ?_)
           refine goes_ Tryd.func72 (by kernel_rfl) rfl #[.agg #[.slice A0_0 l0_0.length c0_0], .int .i64 (wrap64 (t272 - x6_1))] (by rfl) rfl rfl (by (try simp only [List.map_toArray, List.map_cons, List.map_nil]); first | done | rfl | (simp only [List.length_drop, List.length_take]; rfl)) ?_
           with_reducible refine (spec_l3Has.calls kj7 _ _ l0_0 (wrap64 (t272 - x6_1)) t274 _ ?side1 ?side2 A12.out).mono ?_
           (case side1 => exact ce_ ((Kd.C_below HR0_0.out HB.out)))
           (case side2 => exact HC0_0.out)
           rintro e w19 ⟨rfl, hb⟩
           refine ⟨_, rfl, ?_⟩
           replace BK271 := Aside0.mk (blk_below (be_ BK271.out) hb)
           replace HB := Aside0.mk (below_step (by repeat (first | (with_reducible first | exact HB.out | apply below_alloc | apply pw_below_drewN | apply below_drew1 | refine below_set ?_ GE271.out) | exact HB.out)) hb)
           (try clear hb)
           (try clear hb2)
           (try clear hk)
           (try clear hi)
           refine hK.out _ _ ((blk_cell BK271.out 0).trans rfl) (fun hHeld => ?_)
           clear hK K
           refine norm_ (a' := ?_) ?_ ?_
           rotate_left
           · show Act.put _ (some 28) _ = _
             simp only [Act.put, z1_, z2_, z3_, i64_w, i32_w]
             rfl
           refine pu_ HT_ 8 29 (B_ 511 9) ?_
           refine done_ (done_of HT_.out (by kernel_rfl)) ?_
           try go_wp2
           go_roundg kj7
           case measure => have := HK1.out; have := HJ7.out; omega
           case rel => exact ⟨(wrap64 (x6_1 + 1)), (by first | rfl | (simp; done) | (simp [*]; done)), H', ⟨by have := HK1.out; have := HJ7.out; omega⟩, ⟨be_ BK271.out⟩, ⟨by repeat (first | (with_reducible first | exact HB.out | apply below_alloc | apply pw_below_drewN | apply below_drew1 | refine below_set ?_ GE271.out) | exact HB.out)⟩⟩
   · rw [if_neg c7] at H
     have c7b0 : decide (x6_1 ≤ t272) = false := decide_eq_false c7
     clear c7
     obtain rfl := Option.some.inj H
     go_wp2
     go_ret
     exact ⟨by first | rfl | (simp [errW_none, errW_some] <;> rfl) | (simp [*, errW_none, errW_some] <;> rfl), by repeat (first | (with_reducible first | exact HB.out | apply below_alloc | apply pw_below_drewN | apply below_drew1 | refine below_set ?_ GE271.out) | exact HB.out)⟩
def spec_IsSymmetric.f (k : Nat) (l0_0 : List Int) : Option (Bool) := (spec_IsSemigroup.f k l0_0).bind fun t276 => (if t276 = true then ((spec_l9Mirror.f k l0_0 false).bind fun t277 => (some t277)) else (some false))
set_option maxHeartbeats 8000000 in
set_option maxRecDepth 100000 in
theorem spec_IsSymmetric.calls (k : Nat) (A0_0 : Option Addr) (c0_0 : Nat) (l0_0 : List Int) (r : Bool) (w : World) (hr0_0 : Kd.C (Kd.int .i64) w A0_0 l0_0.length l0_0) (hc0_0 : l0_0.length ≤ c0_0) (h : spec_IsSymmetric.f k l0_0 = some r) :
 Calls Tryd.prog 44 #[.agg #[.slice A0_0 l0_0.length c0_0]] w fun e w' => e = .returned (.bool r) ∧ Below w.heap.size w w' := by
 have hu27 := Tryd.underlying27
 have HR0_0 := Aside0.mk hr0_0
 have HC0_0 := Aside0.mk hc0_0
 clear hr0_0 hc0_0
 have HB := Aside0.mk (Below.refl w.heap.size w)
 have H : ((spec_IsSemigroup.f k l0_0).bind fun t276 => (if t276 = true then ((spec_l9Mirror.f k l0_0 false).bind fun t277 => (some t277)) else (some false))) = some r := h
 clear h
 replace H := Option.bind_eq_some_iff.mp H
 obtain ⟨t276, A20, H⟩ := H
 have A2 := Aside0.mk A20
 clear A20
 by_cases c3 : t276 = true
 · subst c3
   rw [if_pos rfl] at H
   replace H := Option.bind_eq_some_iff.mp H
   obtain ⟨t277, A40, H⟩ := H
   have A4 := Aside0.mk A40
   clear A40
   obtain rfl := Option.some.inj H
   go_enter Tryd.func44, Tryd.ntmps44
   go_wp2_with (first | ((with_reducible refine gate_dst (N := 1) rfl ?_); refine box_event ?hg (N := 1) ?hd (cs := #[.slice A0_0 l0_0.length c0_0]) (t := 27) ?hr ?_; (case hd => rfl); (case hg => rfl); (case hr => first | (go_simp; done) | (go_simp; rfl)); intro gb275 hg w5 hbox hb; have BK275 := Aside0.mk (hbox); have GW275 := Aside0.mk ((by rw [hg]; exact (below_size (bl_ HB.out)) : w.heap.size ≤ gb275)); have GE275 := Aside0.mk ((by rw [hg]; exact (below_size (bl_ HB.out)) : w.heap.size ≤ gb275)); replace HB := Aside0.mk (below_step (bl_ HB.out) hb); clear hb hbox hg; have hcz6_0 : w5.cell? ⟨gb275, 0, none⟩ = some (.slice A0_0 l0_0.length c0_0) := (blk_cell BK275.out 0).trans rfl; have hfz6_0 := blk_frozen BK275.out 0) | ((with_reducible refine gate_callee (f := 10) rfl ?_); refine gL_ (some 4) Tryd.func10 #[.agg #[.slice A0_0 l0_0.length c0_0]] ?_; (with_reducible refine (spec_IsSemigroup.calls k _ _ l0_0 true _ ?side1 ?side2 A2.out).mono ?_); (case side1 => exact ce_ ((Kd.C_below HR0_0.out HB.out))); (case side2 => exact HC0_0.out); rintro e w7 ⟨rfl, hb⟩; refine ⟨_, rfl, ?_⟩; replace BK275 := Aside0.mk (blk_below (be_ BK275.out) hb); replace HB := Aside0.mk (below_step (by repeat (first | (with_reducible first | exact HB.out | apply below_alloc | apply pw_below_drewN | apply below_drew1 | refine below_set ?_ GE275.out) | exact HB.out)) hb); (try clear hb); (try clear hb2); (try clear hk); (try clear hi); have hcz8_0 : w7.cell? ⟨gb275, 0, none⟩ = some (.slice A0_0 l0_0.length c0_0) := (blk_cell BK275.out 0).trans rfl; have hfz8_0 := blk_frozen BK275.out 0) | (go_at_call 71; (with_reducible refine (spec_l9Mirror.calls k _ _ l0_0 false t277 _ ?side1 ?side2 A4.out).mono ?_); (case side1 => exact ce_ ((Kd.C_below HR0_0.out HB.out))); (case side2 => exact HC0_0.out); rintro e w9 ⟨rfl, hb⟩; replace BK275 := Aside0.mk (blk_below (be_ BK275.out) hb); replace HB := Aside0.mk (below_step (by repeat (first | (with_reducible first | exact HB.out | apply below_alloc | apply pw_below_drewN | apply below_drew1 | refine below_set ?_ GE275.out) | exact HB.out)) hb); (try clear hb); (try clear hb2); (try clear hk); (try clear hi)))
   go_ret
   exact ⟨by first | rfl | (simp [errW_none, errW_some] <;> rfl) | (simp [*, errW_none, errW_some] <;> rfl), by repeat (first | (with_reducible first | exact HB.out | apply below_alloc | apply pw_below_drewN | apply below_drew1 | refine below_set ?_ GE275.out) | exact HB.out)⟩
 · replace c3 := Bool.eq_false_iff.mpr c3
   subst c3
   rw [if_neg (show ¬ (false = true) by decide)] at H
   obtain rfl := Option.some.inj H
   go_enter Tryd.func44, Tryd.ntmps44
   go_wp2_with (first | ((with_reducible refine gate_dst (N := 1) rfl ?_); refine box_event ?hg (N := 1) ?hd (cs := #[.slice A0_0 l0_0.length c0_0]) (t := 27) ?hr ?_; (case hd => rfl); (case hg => rfl); (case hr => first | (go_simp; done) | (go_simp; rfl)); intro gb275 hg w10 hbox hb; have BK275 := Aside0.mk (hbox); have GW275 := Aside0.mk ((by rw [hg]; exact (below_size (bl_ HB.out)) : w.heap.size ≤ gb275)); have GE275 := Aside0.mk ((by rw [hg]; exact (below_size (bl_ HB.out)) : w.heap.size ≤ gb275)); replace HB := Aside0.mk (below_step (bl_ HB.out) hb); clear hb hbox hg; have hcz11_0 : w10.cell? ⟨gb275, 0, none⟩ = some (.slice A0_0 l0_0.length c0_0) := (blk_cell BK275.out 0).trans rfl; have hfz11_0 := blk_frozen BK275.out 0) | ((with_reducible refine gate_callee (f := 10) rfl ?_); refine gL_ (some 4) Tryd.func10 #[.agg #[.slice A0_0 l0_0.length c0_0]] ?_; (with_reducible refine (spec_IsSemigroup.calls k _ _ l0_0 false _ ?side1 ?side2 A2.out).mono ?_); (case side1 => exact ce_ ((Kd.C_below HR0_0.out HB.out))); (case side2 => exact HC0_0.out); rintro e w12 ⟨rfl, hb⟩; refine ⟨_, rfl, ?_⟩; replace BK275 := Aside0.mk (blk_below (be_ BK275.out) hb); replace HB := Aside0.mk (below_step (by repeat (first | (with_reducible first | exact HB.out | apply below_alloc | apply pw_below_drewN | apply below_drew1 | refine below_set ?_ GE275.out) | exact HB.out)) hb); (try clear hb); (try clear hb2); (try clear hk); (try clear hi)))
   go_ret
   exact ⟨by first | rfl | (simp [errW_none, errW_some] <;> rfl) | (simp [*, errW_none, errW_some] <;> rfl), by repeat (first | (with_reducible first | exact HB.out | apply below_alloc | apply pw_below_drewN | apply below_drew1 | refine below_set ?_ GE275.out) | exact HB.out)⟩
def spec_IsPseudoSymmetric.f (k : Nat) (l0_0 : List Int) : Option (Bool) := (spec_FrobeniusOf.f k l0_0).bind fun t279 => (if t279 > 0 then (if (Int.tmod t279 2) = 0 then ((spec_l9Mirror.f k l0_0 true).bind fun t280 => (some t280)) else (some false)) else (some false))
set_option maxHeartbeats 8000000 in
set_option maxRecDepth 100000 in
theorem spec_IsPseudoSymmetric.calls (k : Nat) (A0_0 : Option Addr) (c0_0 : Nat) (l0_0 : List Int) (r : Bool) (w : World) (hr0_0 : Kd.C (Kd.int .i64) w A0_0 l0_0.length l0_0) (hc0_0 : l0_0.length ≤ c0_0) (h : spec_IsPseudoSymmetric.f k l0_0 = some r) :
 Calls Tryd.prog 45 #[.agg #[.slice A0_0 l0_0.length c0_0]] w fun e w' => e = .returned (.bool r) ∧ Below w.heap.size w w' := by
 have hu27 := Tryd.underlying27
 have HR0_0 := Aside0.mk hr0_0
 have HC0_0 := Aside0.mk hc0_0
 clear hr0_0 hc0_0
 have HB := Aside0.mk (Below.refl w.heap.size w)
 have H : ((spec_FrobeniusOf.f k l0_0).bind fun t279 => (if t279 > 0 then (if (Int.tmod t279 2) = 0 then ((spec_l9Mirror.f k l0_0 true).bind fun t280 => (some t280)) else (some false)) else (some false))) = some r := h
 clear h
 replace H := Option.bind_eq_some_iff.mp H
 obtain ⟨t279, A20, H⟩ := H
 have A2 := Aside0.mk A20
 clear A20
 by_cases c3 : t279 > 0
 · rw [if_pos c3] at H
   have c3b0 : decide (0 < t279) = true := decide_eq_true c3
   clear c3
   by_cases c4 : (Int.tmod t279 2) = 0
   · rw [if_pos c4] at H
     have c4b0 : ((Int.tmod t279 2) == 0) = true := beq_iff_eq.mpr c4
     have c4b1 : ((Int.tmod t279 2) != 0) = false := bne_eq_false_iff_eq.mpr c4
     clear c4
     replace H := Option.bind_eq_some_iff.mp H
     obtain ⟨t280, A50, H⟩ := H
     have A5 := Aside0.mk A50
     clear A50
     obtain rfl := Option.some.inj H
     go_enter Tryd.func45, Tryd.ntmps45
     go_wp2_with (first | ((with_reducible refine gate_dst (N := 1) rfl ?_); refine box_event ?hg (N := 1) ?hd (cs := #[.slice A0_0 l0_0.length c0_0]) (t := 27) ?hr ?_; (case hd => rfl); (case hg => rfl); (case hr => first | (go_simp; done) | (go_simp; rfl)); intro gb278 hg w6 hbox hb; have BK278 := Aside0.mk (hbox); have GW278 := Aside0.mk ((by rw [hg]; exact (below_size (bl_ HB.out)) : w.heap.size ≤ gb278)); have GE278 := Aside0.mk ((by rw [hg]; exact (below_size (bl_ HB.out)) : w.heap.size ≤ gb278)); replace HB := Aside0.mk (below_step (bl_ HB.out) hb); clear hb hbox hg; have hcz7_0 : w6.cell? ⟨gb278, 0, none⟩ = some (.slice A0_0 l0_0.length c0_0) := (blk_cell BK278.out 0).trans rfl; have hfz7_0 := blk_frozen BK278.out 0) | ((with_reducible refine gate_callee (f := 12) rfl ?_); refine gL_ (some 5) Tryd.func12 #[.agg #[.slice A0_0 l0_0.length c0_0]] ?_; (with_reducible refine (spec_FrobeniusOf.calls k _ _ l0_0 t279 _ ?side1 ?side2 A2.out).mono ?_); (case side1 => exact ce_ ((Kd.C_below HR0_0.out HB.out))); (case side2 => exact HC0_0.out); rintro e w8 ⟨rfl, hb⟩; refine ⟨_, rfl, ?_⟩; replace BK278 := Aside0.mk (blk_below (be_ BK278.out) hb); replace HB := Aside0.mk (below_step (by repeat (first | (with_reducible first | exact HB.out | apply below_alloc | apply pw_below_drewN | apply below_drew1 | refine below_set ?_ GE278.out) | exact HB.out)) hb); (try clear hb); (try clear hb2); (try clear hk); (try clear hi); have hcz9_0 : w8.cell? ⟨gb278, 0, none⟩ = some (.slice A0_0 l0_0.length c0_0) := (blk_cell BK278.out 0).trans rfl; have hfz9_0 := blk_frozen BK278.out 0) | (go_at_call 71; (with_reducible refine (spec_l9Mirror.calls k _ _ l0_0 true t280 _ ?side1 ?side2 A5.out).mono ?_); (case side1 => exact ce_ ((Kd.C_below HR0_0.out HB.out))); (case side2 => exact HC0_0.out); rintro e w10 ⟨rfl, hb⟩; replace BK278 := Aside0.mk (blk_below (be_ BK278.out) hb); replace HB := Aside0.mk (below_step (by repeat (first | (with_reducible first | exact HB.out | apply below_alloc | apply pw_below_drewN | apply below_drew1 | refine below_set ?_ GE278.out) | exact HB.out)) hb); (try clear hb); (try clear hb2); (try clear hk); (try clear hi)))
     go_ret
     exact ⟨by first | rfl | (simp [errW_none, errW_some] <;> rfl) | (simp [*, errW_none, errW_some] <;> rfl), by repeat (first | (with_reducible first | exact HB.out | apply below_alloc | apply pw_below_drewN | apply below_drew1 | refine below_set ?_ GE278.out) | exact HB.out)⟩
   · rw [if_neg c4] at H
     have c4b0 : ((Int.tmod t279 2) == 0) = false := beq_eq_false_iff_ne.mpr c4
     have c4b1 : ((Int.tmod t279 2) != 0) = true := bne_iff_ne.mpr c4
     obtain rfl := Option.some.inj H
     go_enter Tryd.func45, Tryd.ntmps45
     go_wp2_with (first | ((with_reducible refine gate_dst (N := 1) rfl ?_); refine box_event ?hg (N := 1) ?hd (cs := #[.slice A0_0 l0_0.length c0_0]) (t := 27) ?hr ?_; (case hd => rfl); (case hg => rfl); (case hr => first | (go_simp; done) | (go_simp; rfl)); intro gb278 hg w11 hbox hb; have BK278 := Aside0.mk (hbox); have GW278 := Aside0.mk ((by rw [hg]; exact (below_size (bl_ HB.out)) : w.heap.size ≤ gb278)); have GE278 := Aside0.mk ((by rw [hg]; exact (below_size (bl_ HB.out)) : w.heap.size ≤ gb278)); replace HB := Aside0.mk (below_step (bl_ HB.out) hb); clear hb hbox hg; have hcz12_0 : w11.cell? ⟨gb278, 0, none⟩ = some (.slice A0_0 l0_0.length c0_0) := (blk_cell BK278.out 0).trans rfl; have hfz12_0 := blk_frozen BK278.out 0) | ((with_reducible refine gate_callee (f := 12) rfl ?_); refine gL_ (some 5) Tryd.func12 #[.agg #[.slice A0_0 l0_0.length c0_0]] ?_; (with_reducible refine (spec_FrobeniusOf.calls k _ _ l0_0 t279 _ ?side1 ?side2 A2.out).mono ?_); (case side1 => exact ce_ ((Kd.C_below HR0_0.out HB.out))); (case side2 => exact HC0_0.out); rintro e w13 ⟨rfl, hb⟩; refine ⟨_, rfl, ?_⟩; replace BK278 := Aside0.mk (blk_below (be_ BK278.out) hb); replace HB := Aside0.mk (below_step (by repeat (first | (with_reducible first | exact HB.out | apply below_alloc | apply pw_below_drewN | apply below_drew1 | refine below_set ?_ GE278.out) | exact HB.out)) hb); (try clear hb); (try clear hb2); (try clear hk); (try clear hi)))
     go_ret
     exact ⟨by first | rfl | (simp [errW_none, errW_some] <;> rfl) | (simp [*, errW_none, errW_some] <;> rfl), by repeat (first | (with_reducible first | exact HB.out | apply below_alloc | apply pw_below_drewN | apply below_drew1 | refine below_set ?_ GE278.out) | exact HB.out)⟩
 · rw [if_neg c3] at H
   have c3b0 : decide (0 < t279) = false := decide_eq_false c3
   clear c3
   obtain rfl := Option.some.inj H
   go_enter Tryd.func45, Tryd.ntmps45
   go_wp2_with (first | ((with_reducible refine gate_dst (N := 1) rfl ?_); refine box_event ?hg (N := 1) ?hd (cs := #[.slice A0_0 l0_0.length c0_0]) (t := 27) ?hr ?_; (case hd => rfl); (case hg => rfl); (case hr => first | (go_simp; done) | (go_simp; rfl)); intro gb278 hg w14 hbox hb; have BK278 := Aside0.mk (hbox); have GW278 := Aside0.mk ((by rw [hg]; exact (below_size (bl_ HB.out)) : w.heap.size ≤ gb278)); have GE278 := Aside0.mk ((by rw [hg]; exact (below_size (bl_ HB.out)) : w.heap.size ≤ gb278)); replace HB := Aside0.mk (below_step (bl_ HB.out) hb); clear hb hbox hg; have hcz15_0 : w14.cell? ⟨gb278, 0, none⟩ = some (.slice A0_0 l0_0.length c0_0) := (blk_cell BK278.out 0).trans rfl; have hfz15_0 := blk_frozen BK278.out 0) | ((with_reducible refine gate_callee (f := 12) rfl ?_); refine gL_ (some 5) Tryd.func12 #[.agg #[.slice A0_0 l0_0.length c0_0]] ?_; (with_reducible refine (spec_FrobeniusOf.calls k _ _ l0_0 t279 _ ?side1 ?side2 A2.out).mono ?_); (case side1 => exact ce_ ((Kd.C_below HR0_0.out HB.out))); (case side2 => exact HC0_0.out); rintro e w16 ⟨rfl, hb⟩; refine ⟨_, rfl, ?_⟩; replace BK278 := Aside0.mk (blk_below (be_ BK278.out) hb); replace HB := Aside0.mk (below_step (by repeat (first | (with_reducible first | exact HB.out | apply below_alloc | apply pw_below_drewN | apply below_drew1 | refine below_set ?_ GE278.out) | exact HB.out)) hb); (try clear hb); (try clear hb2); (try clear hk); (try clear hi)))
   go_ret
   exact ⟨by first | rfl | (simp [errW_none, errW_some] <;> rfl) | (simp [*, errW_none, errW_some] <;> rfl), by repeat (first | (with_reducible first | exact HB.out | apply below_alloc | apply pw_below_drewN | apply below_drew1 | refine below_set ?_ GE278.out) | exact HB.out)⟩
def spec_l29Kind.f (k : Nat) (l0_0 : List Int) : Option (ByteArray) := (spec_IsSymmetric.f k l0_0).bind fun t282 => (if t282 = true then (some (⟨#[115, 121, 109, 109, 101, 116, 114, 105, 99]⟩ : ByteArray)) else ((spec_IsPseudoSymmetric.f k l0_0).bind fun t283 => (if t283 = true then (some (⟨#[112, 115, 101, 117, 100, 111, 45, 115, 121, 109, 109, 101, 116, 114, 105, 99]⟩ : ByteArray)) else (some (⟨#[114, 101, 100, 117, 99, 105, 98, 108, 101]⟩ : ByteArray)))))
set_option maxHeartbeats 8000000 in
set_option maxRecDepth 100000 in
theorem spec_l29Kind.calls (k : Nat) (A0_0 : Option Addr) (c0_0 : Nat) (l0_0 : List Int) (r : ByteArray) (w : World) (hr0_0 : Kd.C (Kd.int .i64) w A0_0 l0_0.length l0_0) (hc0_0 : l0_0.length ≤ c0_0) (h : spec_l29Kind.f k l0_0 = some r) :
 Calls Tryd.prog 15 #[.agg #[.slice A0_0 l0_0.length c0_0]] w fun e w' => e = .returned (.string r) ∧ Below w.heap.size w w' := by
 have hu27 := Tryd.underlying27
 have HR0_0 := Aside0.mk hr0_0
 have HC0_0 := Aside0.mk hc0_0
 clear hr0_0 hc0_0
 have HB := Aside0.mk (Below.refl w.heap.size w)
 have H : ((spec_IsSymmetric.f k l0_0).bind fun t282 => (if t282 = true then (some (⟨#[115, 121, 109, 109, 101, 116, 114, 105, 99]⟩ : ByteArray)) else ((spec_IsPseudoSymmetric.f k l0_0).bind fun t283 => (if t283 = true then (some (⟨#[112, 115, 101, 117, 100, 111, 45, 115, 121, 109, 109, 101, 116, 114, 105, 99]⟩ : ByteArray)) else (some (⟨#[114, 101, 100, 117, 99, 105, 98, 108, 101]⟩ : ByteArray)))))) = some r := h
 clear h
 replace H := Option.bind_eq_some_iff.mp H
 obtain ⟨t282, A20, H⟩ := H
 have A2 := Aside0.mk A20
 clear A20
 by_cases c3 : t282 = true
 · subst c3
   rw [if_pos rfl] at H
   obtain rfl := Option.some.inj H
   go_enter Tryd.func15, Tryd.ntmps15
   go_wp2_with (first | ((with_reducible refine gate_dst (N := 1) rfl ?_); refine box_event ?hg (N := 1) ?hd (cs := #[.slice A0_0 l0_0.length c0_0]) (t := 27) ?hr ?_; (case hd => rfl); (case hg => rfl); (case hr => first | (go_simp; done) | (go_simp; rfl)); intro gb281 hg w4 hbox hb; have BK281 := Aside0.mk (hbox); have GW281 := Aside0.mk ((by rw [hg]; exact (below_size (bl_ HB.out)) : w.heap.size ≤ gb281)); have GE281 := Aside0.mk ((by rw [hg]; exact (below_size (bl_ HB.out)) : w.heap.size ≤ gb281)); replace HB := Aside0.mk (below_step (bl_ HB.out) hb); clear hb hbox hg; have hcz5_0 : w4.cell? ⟨gb281, 0, none⟩ = some (.slice A0_0 l0_0.length c0_0) := (blk_cell BK281.out 0).trans rfl; have hfz5_0 := blk_frozen BK281.out 0) | ((with_reducible refine gate_callee (f := 44) rfl ?_); refine gL_ (some 4) Tryd.func44 #[.agg #[.slice A0_0 l0_0.length c0_0]] ?_; (with_reducible refine (spec_IsSymmetric.calls k _ _ l0_0 true _ ?side1 ?side2 A2.out).mono ?_); (case side1 => exact ce_ ((Kd.C_below HR0_0.out HB.out))); (case side2 => exact HC0_0.out); rintro e w6 ⟨rfl, hb⟩; refine ⟨_, rfl, ?_⟩; replace BK281 := Aside0.mk (blk_below (be_ BK281.out) hb); replace HB := Aside0.mk (below_step (by repeat (first | (with_reducible first | exact HB.out | apply below_alloc | apply pw_below_drewN | apply below_drew1 | refine below_set ?_ GE281.out) | exact HB.out)) hb); (try clear hb); (try clear hb2); (try clear hk); (try clear hi)))
   go_ret
   exact ⟨by first | rfl | (simp [errW_none, errW_some] <;> rfl) | (simp [*, errW_none, errW_some] <;> rfl), by repeat (first | (with_reducible first | exact HB.out | apply below_alloc | apply pw_below_drewN | apply below_drew1 | refine below_set ?_ GE281.out) | exact HB.out)⟩
 · replace c3 := Bool.eq_false_iff.mpr c3
   subst c3
   rw [if_neg (show ¬ (false = true) by decide)] at H
   replace H := Option.bind_eq_some_iff.mp H
   obtain ⟨t283, A70, H⟩ := H
   have A7 := Aside0.mk A70
   clear A70
   by_cases c8 : t283 = true
   · subst c8
     rw [if_pos rfl] at H
     obtain rfl := Option.some.inj H
     go_enter Tryd.func15, Tryd.ntmps15
     go_wp2_with (first | ((with_reducible refine gate_dst (N := 1) rfl ?_); refine box_event ?hg (N := 1) ?hd (cs := #[.slice A0_0 l0_0.length c0_0]) (t := 27) ?hr ?_; (case hd => rfl); (case hg => rfl); (case hr => first | (go_simp; done) | (go_simp; rfl)); intro gb281 hg w9 hbox hb; have BK281 := Aside0.mk (hbox); have GW281 := Aside0.mk ((by rw [hg]; exact (below_size (bl_ HB.out)) : w.heap.size ≤ gb281)); have GE281 := Aside0.mk ((by rw [hg]; exact (below_size (bl_ HB.out)) : w.heap.size ≤ gb281)); replace HB := Aside0.mk (below_step (bl_ HB.out) hb); clear hb hbox hg; have hcz10_0 : w9.cell? ⟨gb281, 0, none⟩ = some (.slice A0_0 l0_0.length c0_0) := (blk_cell BK281.out 0).trans rfl; have hfz10_0 := blk_frozen BK281.out 0) | ((with_reducible refine gate_callee (f := 44) rfl ?_); refine gL_ (some 4) Tryd.func44 #[.agg #[.slice A0_0 l0_0.length c0_0]] ?_; (with_reducible refine (spec_IsSymmetric.calls k _ _ l0_0 false _ ?side1 ?side2 A2.out).mono ?_); (case side1 => exact ce_ ((Kd.C_below HR0_0.out HB.out))); (case side2 => exact HC0_0.out); rintro e w11 ⟨rfl, hb⟩; refine ⟨_, rfl, ?_⟩; replace BK281 := Aside0.mk (blk_below (be_ BK281.out) hb); replace HB := Aside0.mk (below_step (by repeat (first | (with_reducible first | exact HB.out | apply below_alloc | apply pw_below_drewN | apply below_drew1 | refine below_set ?_ GE281.out) | exact HB.out)) hb); (try clear hb); (try clear hb2); (try clear hk); (try clear hi); have hcz12_0 : w11.cell? ⟨gb281, 0, none⟩ = some (.slice A0_0 l0_0.length c0_0) := (blk_cell BK281.out 0).trans rfl; have hfz12_0 := blk_frozen BK281.out 0) | ((with_reducible refine gate_callee (f := 45) rfl ?_); refine gL_ (some 6) Tryd.func45 #[.agg #[.slice A0_0 l0_0.length c0_0]] ?_; (with_reducible refine (spec_IsPseudoSymmetric.calls k _ _ l0_0 true _ ?side1 ?side2 A7.out).mono ?_); (case side1 => exact ce_ ((Kd.C_below HR0_0.out HB.out))); (case side2 => exact HC0_0.out); rintro e w13 ⟨rfl, hb⟩; refine ⟨_, rfl, ?_⟩; replace BK281 := Aside0.mk (blk_below (be_ BK281.out) hb); replace HB := Aside0.mk (below_step (by repeat (first | (with_reducible first | exact HB.out | apply below_alloc | apply pw_below_drewN | apply below_drew1 | refine below_set ?_ GE281.out) | exact HB.out)) hb); (try clear hb); (try clear hb2); (try clear hk); (try clear hi)))
     go_ret
     exact ⟨by first | rfl | (simp [errW_none, errW_some] <;> rfl) | (simp [*, errW_none, errW_some] <;> rfl), by repeat (first | (with_reducible first | exact HB.out | apply below_alloc | apply pw_below_drewN | apply below_drew1 | refine below_set ?_ GE281.out) | exact HB.out)⟩
   · replace c8 := Bool.eq_false_iff.mpr c8
     subst c8
     rw [if_neg (show ¬ (false = true) by decide)] at H
     obtain rfl := Option.some.inj H
     go_enter Tryd.func15, Tryd.ntmps15
     go_wp2_with (first | ((with_reducible refine gate_dst (N := 1) rfl ?_); refine box_event ?hg (N := 1) ?hd (cs := #[.slice A0_0 l0_0.length c0_0]) (t := 27) ?hr ?_; (case hd => rfl); (case hg => rfl); (case hr => first | (go_simp; done) | (go_simp; rfl)); intro gb281 hg w14 hbox hb; have BK281 := Aside0.mk (hbox); have GW281 := Aside0.mk ((by rw [hg]; exact (below_size (bl_ HB.out)) : w.heap.size ≤ gb281)); have GE281 := Aside0.mk ((by rw [hg]; exact (below_size (bl_ HB.out)) : w.heap.size ≤ gb281)); replace HB := Aside0.mk (below_step (bl_ HB.out) hb); clear hb hbox hg; have hcz15_0 : w14.cell? ⟨gb281, 0, none⟩ = some (.slice A0_0 l0_0.length c0_0) := (blk_cell BK281.out 0).trans rfl; have hfz15_0 := blk_frozen BK281.out 0) | ((with_reducible refine gate_callee (f := 44) rfl ?_); refine gL_ (some 4) Tryd.func44 #[.agg #[.slice A0_0 l0_0.length c0_0]] ?_; (with_reducible refine (spec_IsSymmetric.calls k _ _ l0_0 false _ ?side1 ?side2 A2.out).mono ?_); (case side1 => exact ce_ ((Kd.C_below HR0_0.out HB.out))); (case side2 => exact HC0_0.out); rintro e w16 ⟨rfl, hb⟩; refine ⟨_, rfl, ?_⟩; replace BK281 := Aside0.mk (blk_below (be_ BK281.out) hb); replace HB := Aside0.mk (below_step (by repeat (first | (with_reducible first | exact HB.out | apply below_alloc | apply pw_below_drewN | apply below_drew1 | refine below_set ?_ GE281.out) | exact HB.out)) hb); (try clear hb); (try clear hb2); (try clear hk); (try clear hi); have hcz17_0 : w16.cell? ⟨gb281, 0, none⟩ = some (.slice A0_0 l0_0.length c0_0) := (blk_cell BK281.out 0).trans rfl; have hfz17_0 := blk_frozen BK281.out 0) | ((with_reducible refine gate_callee (f := 45) rfl ?_); refine gL_ (some 6) Tryd.func45 #[.agg #[.slice A0_0 l0_0.length c0_0]] ?_; (with_reducible refine (spec_IsPseudoSymmetric.calls k _ _ l0_0 false _ ?side1 ?side2 A7.out).mono ?_); (case side1 => exact ce_ ((Kd.C_below HR0_0.out HB.out))); (case side2 => exact HC0_0.out); rintro e w18 ⟨rfl, hb⟩; refine ⟨_, rfl, ?_⟩; replace BK281 := Aside0.mk (blk_below (be_ BK281.out) hb); replace HB := Aside0.mk (below_step (by repeat (first | (with_reducible first | exact HB.out | apply below_alloc | apply pw_below_drewN | apply below_drew1 | refine below_set ?_ GE281.out) | exact HB.out)) hb); (try clear hb); (try clear hb2); (try clear hk); (try clear hi)))
     go_ret
     exact ⟨by first | rfl | (simp [errW_none, errW_some] <;> rfl) | (simp [*, errW_none, errW_some] <;> rfl), by repeat (first | (with_reducible first | exact HB.out | apply below_alloc | apply pw_below_drewN | apply below_drew1 | refine below_set ?_ GE281.out) | exact HB.out)⟩
end Go.Proofs.YtjjajcldmkmgkaaDoor.PA
end
section
namespace Go.Proofs.YtjjajcldmkmgkaaDoor.PA
open Go.RowKit Go.Proofs.YtjjajcldmkmgkaaDoorW.PrintWords Go.Proofs.YtjjajcldmkmgkaaDoorW.PrintLast Go.Proofs.YtjjajcldmkmgkaaDoorW.PrintMore
attribute [local go_sem] max2_int min2_int max_two min_two max_three min_three max_four min_four
set_option linter.unusedVariables false
set_option linter.unusedSimpArgs false
def spec_Join.l0 : Nat → List ByteArray → ByteArray → List Int → Int → Option (ByteArray)
 | 0, _, _, _, _ => none
 | k + 1, x0, x1, x5, x6 => if x6 < (x0.length : Int) then (if x6 > 0 then (if x5.length + x1.size < 140737488355328 then ((some (x5 ++ bytesOf x1 : List Int)).bind fun y287 => (if 0 ≤ x6 then (if y287.length + (rdOf ByteArray.empty x0 x6).size < 140737488355328 then (spec_Join.l0 k x0 x1 (y287 ++ bytesOf (rdOf ByteArray.empty x0 x6)) (wrap64 (x6 + 1))) else (none)) else (none))) else (none)) else (if 0 ≤ x6 then (if x5.length + (rdOf ByteArray.empty x0 x6).size < 140737488355328 then (spec_Join.l0 k x0 x1 (x5 ++ bytesOf (rdOf ByteArray.empty x0 x6)) (wrap64 (x6 + 1))) else (none)) else (none))) else (some (strOfNums x5))
def spec_Join.f (k : Nat) (l0 : List ByteArray) (a1 : ByteArray) : Option (ByteArray) := spec_Join.l0 k l0 a1 (([] : List Int)) 0
set_option maxHeartbeats 8000000 in
set_option maxRecDepth 100000 in
theorem spec_Join.calls (k : Nat) (A0 : Option Addr) (c0 : Nat) (l0 : List ByteArray) (a1 : ByteArray) (r : ByteArray) (w : World) (hr0 : Kd.C Kd.string w A0 l0.length l0) (hc0 : l0.length ≤ c0) (h : spec_Join.f k l0 a1 = some r) :
 Calls Tryd.prog 46 #[.slice A0 l0.length c0, .string a1] w fun e w' => e = .returned (.string r) ∧ Below w.heap.size w w' := by
 have HR0 := Aside0.mk hr0
 have HC0 := Aside0.mk hc0
 clear hr0 hc0
 have HB := Aside0.mk (Below.refl w.heap.size w)
 have H : (spec_Join.l0 k l0 a1 (([] : List Int)) 0) = some r := h
 clear h
 obtain ⟨y284, hy284⟩ : ∃ y_ : List Int, y_ = (([] : List Int)) := ⟨_, rfl⟩
 replace H : (spec_Join.l0 k l0 a1 y284 0) = some r := by subst hy284; exact H
 have Ny284 := Aside0.mk hy284
 clear hy284
 have H' := Aside0.mk H
 clear H
 go_enter Tryd.func46, Tryd.ntmps46
 go_wp2_with (first | ((with_reducible refine gate_dst (N := 7) rfl ?_); refine Kd.R_lit (Kd.int .u8) _ 5 ?hg (N := 7) ?hd (xs := ([] : List Int)) (inner := []) (ok := fun _ => True) (okp := fun _ => True) ?hr ?hp (fun _ hk => hk) trivial (Below.refl _ _) (Nat.le_refl _) (by simp) ?_; (case hd => rfl); (case hg => rfl); (case hr => first | (go_simp; done) | (go_simp; rfl)); (case hp => exact (Reps.none _ _)); intro v285 w3 ho4 hb hg_ hnew_; clear hg_ hnew_; (first | rw [← Ny284.out] at ho4 | (simp only [Int.reduceToNat] at ho4; rw [← Ny284.out] at ho4)); have HO286 := Aside0.mk (Kd.R_lower ho4 (below_size (bl_ HB.out))); replace HB := Aside0.mk (below_step (bl_ HB.out) hb); clear hb ho4))
 go_loopg [5, 6] k (fun kq v5 v6 w' => ∃ (x5_1 : List Int) (x6_1 : Int), v6 = .int .i64 x6_1 ∧ Aside0 (spec_Join.l0 kq l0 a1 x5_1 x6_1 = some r) ∧ Aside0 (kq ≤ k) ∧ Aside0 (Kd.R (Kd.int .u8) 5 w' w.heap.size (fun _ => True) v5 x5_1) ∧ Aside0 (Below w.heap.size w w'))
 case atStart => exact ⟨(y284), (0), (by first | rfl | (simp; done) | (simp [*]; done)), H', ⟨Nat.le_refl _⟩, ⟨re_ HO286.out⟩, ⟨bl_ HB.out⟩⟩
 case round =>
  clear H'
  try clear p2
  try clear c4
  obtain ⟨x5_1, x6_1, rfl, HA, HK1, HO_5, HB⟩ := hrel
  cases gk with
  | zero => exact absurd HA.out (by simp [spec_Join.l0])
  | succ k1 =>
   have H := HA.out
   clear HA
   simp only [spec_Join.l0] at H
   by_cases c5 : x6_1 < (l0.length : Int)
   · rw [if_pos c5] at H
     have c5b0 : decide (x6_1 < (l0.length : Int)) = true := decide_eq_true c5
     clear c5
     by_cases c6 : x6_1 > 0
     · rw [if_pos c6] at H
       have c6b0 : decide (0 < x6_1) = true := decide_eq_true c6
       clear c6
       by_cases c7 : x5_1.length + a1.size < 140737488355328
       · rw [if_pos c7] at H
         have LMc7 := Aside0.mk c7
         clear c7
         obtain ⟨y287, hy287⟩ : ∃ y_ : List Int, y_ = (x5_1 ++ bytesOf a1) := ⟨_, rfl⟩
         replace H : (if 0 ≤ x6_1 then (if y287.length + (rdOf ByteArray.empty l0 x6_1).size < 140737488355328 then (spec_Join.l0 k1 l0 a1 (y287 ++ bytesOf (rdOf ByteArray.empty l0 x6_1)) (wrap64 (x6_1 + 1))) else (none)) else (none)) = some r := by subst hy287; exact H
         have Ny287 := Aside0.mk hy287
         clear hy287
         by_cases c8 : 0 ≤ x6_1
         · rw [if_pos c8] at H
           have c8b0 : decide (0 ≤ x6_1) = true := decide_eq_true c8
           clear c8
           by_cases c9 : y287.length + (rdOf ByteArray.empty l0 x6_1).size < 140737488355328
           · rw [if_pos c9] at H
             have LMc9 := Aside0.mk c9
             clear c9
             obtain ⟨y291, hy291⟩ : ∃ y_ : List Int, y_ = (y287 ++ bytesOf (rdOf ByteArray.empty l0 x6_1)) := ⟨_, rfl⟩
             replace H : (spec_Join.l0 k1 l0 a1 y291 (wrap64 (x6_1 + 1))) = some r := by subst hy291; exact H
             have Ny291 := Aside0.mk hy291
             clear hy291
             have H' := Aside0.mk H
             clear H
             go_wp2_with (first | (at_builtin; refine print_append_str (w0 := w) w.heap.size rfl (.tmp 16) _ 43 9 5 rfl Tryd.underlying43 Tryd.underlying9 info5 u5 x5_1 a1 rfl rfl ?aO ?aB ?aS ?aL ?_; (case aB => exact (bl_ HB.out)); (case aO => exact (Kd.own_of_R (re_ HO_5.out))); (case aS => exact (below_size (bl_ HB.out))); (case aL => have := LMc7.out; omega); intro v288 w10 ho0 hb hg; have ho := Kd.R_of_own (h1 := fun _ => rfl) (ok := fun _ => True) ho0 (fun _ _ => trivial); clear ho0; have hat := True.intro; rw [← Ny287.out] at ho; change Kd.R (Kd.int .u8) 5 w10 w.heap.size (fun _ => True) v288 y287 at ho; replace HB := Aside0.mk (hb); have HO289 := Aside0.mk (ho); clear HO_5; clear ho hb hg hat; have p290 : 0 ≤ (x6_1 : Int) := od_; have q290 : x6_1 < (l0.length : Int) := od_; obtain ⟨ad290, e290, hx290_0⟩ := Kd.at_string HR0.out x6_1 p290 q290; cases e290; (try replace hx290_0 := (HB.out.cell (World.block_lt_of_cell? w _ hx290_0)).trans hx290_0); replace p290 := eq_true p290; replace q290 := eq_true q290) | (at_builtin; refine print_append_str (w0 := w) w.heap.size rfl (.tmp 19) _ 43 9 5 rfl Tryd.underlying43 Tryd.underlying9 info5 v288 y287 (rdOf ByteArray.empty l0 x6_1) rfl rfl ?aO ?aB ?aS ?aL ?_; (case aB => exact (bl_ HB.out)); (case aO => exact (Kd.own_of_R (re_ HO289.out))); (case aS => exact (below_size (bl_ HB.out))); (case aL => have := LMc9.out; omega); intro v292 w11 ho0 hb hg; have ho := Kd.R_of_own (h1 := fun _ => rfl) (ok := fun _ => True) ho0 (fun _ _ => trivial); clear ho0; have hat := True.intro; rw [← Ny291.out] at ho; change Kd.R (Kd.int .u8) 5 w11 w.heap.size (fun _ => True) v292 y291 at ho; replace HB := Aside0.mk (hb); have HO293 := Aside0.mk (ho); clear HO289; clear ho hb hg hat))
             go_roundg k1
             case measure => have := HK1.out; omega
             case rel => exact ⟨(y291), (wrap64 (x6_1 + 1)), (by first | rfl | (simp; done) | (simp [*]; done)), H', ⟨by have := HK1.out; omega⟩, ⟨re_ HO293.out⟩, ⟨bl_ HB.out⟩⟩
           · rw [if_neg c9] at H
             exact absurd H (by simp)
         · rw [if_neg c8] at H
           exact absurd H (by simp)
       · rw [if_neg c7] at H
         exact absurd H (by simp)
     · rw [if_neg c6] at H
       have c6b0 : decide (0 < x6_1) = false := decide_eq_false c6
       clear c6
       by_cases c12 : 0 ≤ x6_1
       · rw [if_pos c12] at H
         have c12b0 : decide (0 ≤ x6_1) = true := decide_eq_true c12
         clear c12
         by_cases c13 : x5_1.length + (rdOf ByteArray.empty l0 x6_1).size < 140737488355328
         · rw [if_pos c13] at H
           have LMc13 := Aside0.mk c13
           clear c13
           obtain ⟨y295, hy295⟩ : ∃ y_ : List Int, y_ = (x5_1 ++ bytesOf (rdOf ByteArray.empty l0 x6_1)) := ⟨_, rfl⟩
           replace H : (spec_Join.l0 k1 l0 a1 y295 (wrap64 (x6_1 + 1))) = some r := by subst hy295; exact H
           have Ny295 := Aside0.mk hy295
           clear hy295
           have H' := Aside0.mk H
           clear H
           have p294 : 0 ≤ (x6_1 : Int) := od_
           have q294 : x6_1 < (l0.length : Int) := od_
           obtain ⟨ad294, e294, hx294_0⟩ := Kd.at_string HR0.out x6_1 p294 q294
           cases e294
           (try replace hx294_0 := (HB.out.cell (World.block_lt_of_cell? w _ hx294_0)).trans hx294_0)
           replace p294 := eq_true p294
           replace q294 := eq_true q294
           go_wp2_with (first | (at_builtin; refine print_append_str (w0 := w) w.heap.size rfl (.tmp 19) _ 43 9 5 rfl Tryd.underlying43 Tryd.underlying9 info5 u5 x5_1 (rdOf ByteArray.empty l0 x6_1) rfl rfl ?aO ?aB ?aS ?aL ?_; (case aB => exact (bl_ HB.out)); (case aO => exact (Kd.own_of_R (re_ HO_5.out))); (case aS => exact (below_size (bl_ HB.out))); (case aL => have := LMc13.out; omega); intro v296 w14 ho0 hb hg; have ho := Kd.R_of_own (h1 := fun _ => rfl) (ok := fun _ => True) ho0 (fun _ _ => trivial); clear ho0; have hat := True.intro; rw [← Ny295.out] at ho; change Kd.R (Kd.int .u8) 5 w14 w.heap.size (fun _ => True) v296 y295 at ho; replace HB := Aside0.mk (hb); have HO297 := Aside0.mk (ho); clear HO_5; clear ho hb hg hat))
           go_roundg k1
           case measure => have := HK1.out; omega
           case rel => exact ⟨(y295), (wrap64 (x6_1 + 1)), (by first | rfl | (simp; done) | (simp [*]; done)), H', ⟨by have := HK1.out; omega⟩, ⟨re_ HO297.out⟩, ⟨bl_ HB.out⟩⟩
         · rw [if_neg c13] at H
           exact absurd H (by simp)
       · rw [if_neg c12] at H
         exact absurd H (by simp)
   · rw [if_neg c5] at H
     have c5b0 : decide (x6_1 < (l0.length : Int)) = false := decide_eq_false c5
     clear c5
     obtain rfl := Option.some.inj H
     have hcv15 := own_string (P := Tryd.prog) Tryd.underlying43 Tryd.underlying5 Tryd.underlying9 (Kd.own_of_R HO_5.out)
     go_wp2
     go_ret
     exact ⟨by first | rfl | (simp [errW_none, errW_some] <;> rfl) | (simp [*, errW_none, errW_some] <;> rfl), bl_ HB.out⟩
def spec_ListText.l0 : Nat → List Int → List ByteArray → Int → Option (ByteArray)
 | 0, _, _, _ => none
 | k + 1, x0, x3, x4 => if x4 < (x0.length : Int) then (if 0 ≤ x4 then ((spec_FormatInt.f k (rd x0 x4)).bind fun t302 => (if x3.length < 8796093022208 then (spec_ListText.l0 k x0 (x3 ++ [t302]) (wrap64 (x4 + 1))) else (none))) else (none)) else ((spec_Join.f k x3 (⟨#[44]⟩ : ByteArray)).bind fun t306 => (some t306))
def spec_ListText.f (k : Nat) (l0 : List Int) : Option (ByteArray) := if (l0.length : Int) = 0 then (some (⟨#[110, 111, 110, 101]⟩ : ByteArray)) else (spec_ListText.l0 k l0 (([] : List ByteArray)) 0)
set_option maxHeartbeats 8000000 in
set_option maxRecDepth 100000 in
theorem spec_ListText.calls (k : Nat) (A0 : Option Addr) (c0 : Nat) (l0 : List Int) (r : ByteArray) (w : World) (hr0 : Kd.C (Kd.int .i64) w A0 l0.length l0) (hc0 : l0.length ≤ c0) (h : spec_ListText.f k l0 = some r) :
 Calls Tryd.prog 17 #[.slice A0 l0.length c0] w fun e w' => e = .returned (.string r) ∧ Below w.heap.size w w' := by
 have HR0 := Aside0.mk hr0
 have HC0 := Aside0.mk hc0
 clear hr0 hc0
 have HB := Aside0.mk (Below.refl w.heap.size w)
 have H : (if (l0.length : Int) = 0 then (some (⟨#[110, 111, 110, 101]⟩ : ByteArray)) else (spec_ListText.l0 k l0 (([] : List ByteArray)) 0)) = some r := h
 clear h
 by_cases c2 : (l0.length : Int) = 0
 · rw [if_pos c2] at H
   have c2b0 : ((l0.length : Int) == 0) = true := beq_iff_eq.mpr c2
   have c2b1 : ((l0.length : Int) != 0) = false := bne_eq_false_iff_eq.mpr c2
   clear c2
   obtain rfl := Option.some.inj H
   go_enter Tryd.func17, Tryd.ntmps17
   go_wp2
   go_ret
   exact ⟨by first | rfl | (simp [errW_none, errW_some] <;> rfl) | (simp [*, errW_none, errW_some] <;> rfl), bl_ HB.out⟩
 · rw [if_neg c2] at H
   have c2b0 : ((l0.length : Int) == 0) = false := beq_eq_false_iff_ne.mpr c2
   have c2b1 : ((l0.length : Int) != 0) = true := bne_iff_ne.mpr c2
   have c2b2 : ¬ (l0 = []) := fun h_ => c2 (by rw [h_]; rfl)
   obtain ⟨y298, hy298⟩ : ∃ y_ : List ByteArray, y_ = (([] : List ByteArray)) := ⟨_, rfl⟩
   replace H : (spec_ListText.l0 k l0 y298 0) = some r := by subst hy298; exact H
   have Ny298 := Aside0.mk hy298
   clear hy298
   have H' := Aside0.mk H
   clear H
   go_enter Tryd.func17, Tryd.ntmps17
   go_wp2_with (first | ((with_reducible refine gate_dst (N := 8) rfl ?_); refine Kd.R_lit Kd.string _ 9 ?hg (N := 8) ?hd (xs := ([] : List ByteArray)) (inner := []) (ok := fun _ => True) (okp := fun _ => True) ?hr ?hp (fun _ hk => hk) trivial (Below.refl _ _) (Nat.le_refl _) (by simp) ?_; (case hd => rfl); (case hg => rfl); (case hr => first | (go_simp; done) | (go_simp; rfl)); (case hp => exact (Reps.none _ _)); intro v299 w3 ho4 hb hg_ hnew_; clear hg_ hnew_; (first | rw [← Ny298.out] at ho4 | (simp only [Int.reduceToNat] at ho4; rw [← Ny298.out] at ho4)); have HO300 := Aside0.mk (Kd.R_lower ho4 (below_size (bl_ HB.out))); replace HB := Aside0.mk (below_step (bl_ HB.out) hb); clear hb ho4))
   go_loopg [3, 4] k (fun kq v3 v4 w' => ∃ (x3_1 : List ByteArray) (x4_1 : Int), v4 = .int .i64 x4_1 ∧ Aside0 (spec_ListText.l0 kq l0 x3_1 x4_1 = some r) ∧ Aside0 (kq ≤ k) ∧ Aside0 (Kd.R Kd.string 9 w' w.heap.size (fun _ => True) v3 x3_1) ∧ Aside0 (Below w.heap.size w w'))
   case atStart => exact ⟨(y298), (0), (by first | rfl | (simp; done) | (simp [*]; done)), H', ⟨Nat.le_refl _⟩, ⟨re_ HO300.out⟩, ⟨bl_ HB.out⟩⟩
   case round =>
    clear H'
    try clear c1
    try clear c2
    try clear c2b0
    try clear c2b1
    try clear c2b2
    try clear p2
    obtain ⟨x3_1, x4_1, rfl, HA, HK1, HO_3, HB⟩ := hrel
    cases gk with
    | zero => exact absurd HA.out (by simp [spec_ListText.l0])
    | succ k1 =>
     have H := HA.out
     clear HA
     simp only [spec_ListText.l0] at H
     by_cases c5 : x4_1 < (l0.length : Int)
     · rw [if_pos c5] at H
       have c5b0 : decide (x4_1 < (l0.length : Int)) = true := decide_eq_true c5
       clear c5
       by_cases c6 : 0 ≤ x4_1
       · rw [if_pos c6] at H
         have c6b0 : decide (0 ≤ x4_1) = true := decide_eq_true c6
         clear c6
         replace H := Option.bind_eq_some_iff.mp H
         obtain ⟨t302, A70, H⟩ := H
         have A7 := Aside0.mk A70
         clear A70
         by_cases c8 : x3_1.length < 8796093022208
         · rw [if_pos c8] at H
           have LMc8 := Aside0.mk c8
           clear c8
           obtain ⟨y303, hy303⟩ : ∃ y_ : List ByteArray, y_ = (x3_1 ++ [t302]) := ⟨_, rfl⟩
           replace H : (spec_ListText.l0 k1 l0 y303 (wrap64 (x4_1 + 1))) = some r := by subst hy303; exact H
           have Ny303 := Aside0.mk hy303
           clear hy303
           have H' := Aside0.mk H
           clear H
           have p301 : 0 ≤ (x4_1 : Int) := od_
           have q301 : x4_1 < (l0.length : Int) := od_
           obtain ⟨ad301, e301, hx301_0⟩ := Kd.at_int HR0.out x4_1 p301 q301
           cases e301
           (try replace hx301_0 := (HB.out.cell (World.block_lt_of_cell? w _ hx301_0)).trans hx301_0)
           replace p301 := eq_true p301
           replace q301 := eq_true q301
           go_wp2_with (first | ((with_reducible refine gate_callee (f := 11) rfl ?_); refine gL_ (some 20) Tryd.func11 #[.int .i64 (rd l0 x4_1)] ?_; (with_reducible refine (spec_FormatInt.calls k1 (rd l0 x4_1) t302 _ A7.out).mono ?_); rintro e w9 ⟨rfl, hb⟩; refine ⟨_, rfl, ?_⟩; replace HO_3 := Aside0.mk (Kd.R_below (re_ HO_3.out) hb); replace HB := Aside0.mk (below_step (bl_ HB.out) hb); (try clear hb); (try clear hb2); (try clear hk); (try clear hi)) | ((with_reducible refine gate_builtin (b := .append) (xs := #[.tmp 15, .tmp 21]) rfl ?_); at_builtin; refine Kd.R_append Kd.string (w0 := w) w.heap.size rfl (.tmp 15) (.tmp 21) 39 9 (.string ⟨#[]⟩) 16 rfl Tryd.underlying39 info9 rfl (by decide) (by omega) u3 x3_1 t302 [.string t302] (fun _ => True) (fun _ => False) rfl rfl ?aP (fun _ hk => hk.elim) ?aF ?aO ?aB ?aS ?aL ?_; (case aP => exact rfl); (case aB => exact (bl_ HB.out)); (case aF => exact (fun _ _ => trivial)); (case aO => exact (re_ HO_3.out)); (case aS => exact (below_size (bl_ HB.out))); (case aL => have := LMc8.out; omega); intro v304 w10 ho hb hg hat; rw [← Ny303.out] at ho; replace HB := Aside0.mk (hb); have HO305 := Aside0.mk (ho); clear HO_3; clear ho hb hg hat))
           go_roundg k1
           case measure => have := HK1.out; omega
           case rel => exact ⟨(y303), (wrap64 (x4_1 + 1)), (by first | rfl | (simp; done) | (simp [*]; done)), H', ⟨by have := HK1.out; omega⟩, ⟨re_ HO305.out⟩, ⟨bl_ HB.out⟩⟩
         · rw [if_neg c8] at H
           exact absurd H (by simp)
       · rw [if_neg c6] at H
         exact absurd H (by simp)
     · rw [if_neg c5] at H
       have c5b0 : decide (x4_1 < (l0.length : Int)) = false := decide_eq_false c5
       clear c5
       replace H := Option.bind_eq_some_iff.mp H
       obtain ⟨t306, A110, H⟩ := H
       have A11 := Aside0.mk A110
       clear A110
       obtain rfl := Option.some.inj H
       obtain ⟨Ao12, co12, eo12⟩ := Kd.R_slice HO_3.out
       subst eo12
       go_wp2_with (first | ((with_reducible refine gate_callee (f := 46) rfl ?_); refine gL_ (some 24) Tryd.func46 #[.slice Ao12 x3_1.length co12, .string (⟨#[44]⟩ : ByteArray)] ?_; (with_reducible refine (spec_Join.calls k1 _ _ x3_1 (⟨#[44]⟩ : ByteArray) t306 _ ?side1 ?side2 A11.out).mono ?_); (case side1 => exact ce_ ((Kd.R_reads' HO_3.out).2.2)); (case side2 => exact (Kd.R_reads' HO_3.out).2.1); rintro e w13 ⟨rfl, hb⟩; refine ⟨_, rfl, ?_⟩; replace HO_3 := Aside0.mk (Kd.R_below (re_ HO_3.out) hb); replace HB := Aside0.mk (below_step (bl_ HB.out) hb); (try clear hb); (try clear hb2); (try clear hk); (try clear hi)))
       go_ret
       exact ⟨by first | rfl | (simp [errW_none, errW_some] <;> rfl) | (simp [*, errW_none, errW_some] <;> rfl), bl_ HB.out⟩
def spec_GapText.f (k : Nat) (l0_0 : List Int) : Option (ByteArray) := (spec_IsSemigroup.f k l0_0).bind fun t308 => (if t308 = true then ((spec_Gaps.f k l0_0).bind fun t309 => ((spec_ListText.f k t309).bind fun t312 => (some t312))) else (some (⟨#[]⟩ : ByteArray)))
set_option maxHeartbeats 8000000 in
set_option maxRecDepth 100000 in
theorem spec_GapText.calls (k : Nat) (A0_0 : Option Addr) (c0_0 : Nat) (l0_0 : List Int) (r : ByteArray) (w : World) (hr0_0 : Kd.C (Kd.int .i64) w A0_0 l0_0.length l0_0) (hc0_0 : l0_0.length ≤ c0_0) (h : spec_GapText.f k l0_0 = some r) :
 Calls Tryd.prog 16 #[.agg #[.slice A0_0 l0_0.length c0_0]] w fun e w' => e = .returned (.string r) ∧ Below w.heap.size w w' := by
 have hu27 := Tryd.underlying27
 have HR0_0 := Aside0.mk hr0_0
 have HC0_0 := Aside0.mk hc0_0
 clear hr0_0 hc0_0
 have HB := Aside0.mk (Below.refl w.heap.size w)
 have H : ((spec_IsSemigroup.f k l0_0).bind fun t308 => (if t308 = true then ((spec_Gaps.f k l0_0).bind fun t309 => ((spec_ListText.f k t309).bind fun t312 => (some t312))) else (some (⟨#[]⟩ : ByteArray)))) = some r := h
 clear h
 replace H := Option.bind_eq_some_iff.mp H
 obtain ⟨t308, A20, H⟩ := H
 have A2 := Aside0.mk A20
 clear A20
 by_cases c3 : t308 = true
 · subst c3
   rw [if_pos rfl] at H
   replace H := Option.bind_eq_some_iff.mp H
   obtain ⟨t309, A40, H⟩ := H
   have A4 := Aside0.mk A40
   clear A40
   replace H := Option.bind_eq_some_iff.mp H
   obtain ⟨t312, A50, H⟩ := H
   have A5 := Aside0.mk A50
   clear A50
   obtain rfl := Option.some.inj H
   go_enter Tryd.func16, Tryd.ntmps16
   go_wp2_with (first | ((with_reducible refine gate_dst (N := 1) rfl ?_); refine box_event ?hg (N := 1) ?hd (cs := #[.slice A0_0 l0_0.length c0_0]) (t := 27) ?hr ?_; (case hd => rfl); (case hg => rfl); (case hr => first | (go_simp; done) | (go_simp; rfl)); intro gb307 hg w6 hbox hb; have BK307 := Aside0.mk (hbox); have GW307 := Aside0.mk ((by rw [hg]; exact (below_size (bl_ HB.out)) : w.heap.size ≤ gb307)); have GE307 := Aside0.mk ((by rw [hg]; exact (below_size (bl_ HB.out)) : w.heap.size ≤ gb307)); replace HB := Aside0.mk (below_step (bl_ HB.out) hb); clear hb hbox hg; have hcz7_0 : w6.cell? ⟨gb307, 0, none⟩ = some (.slice A0_0 l0_0.length c0_0) := (blk_cell BK307.out 0).trans rfl; have hfz7_0 := blk_frozen BK307.out 0) | ((with_reducible refine gate_callee (f := 10) rfl ?_); refine gL_ (some 4) Tryd.func10 #[.agg #[.slice A0_0 l0_0.length c0_0]] ?_; (with_reducible refine (spec_IsSemigroup.calls k _ _ l0_0 true _ ?side1 ?side2 A2.out).mono ?_); (case side1 => exact ce_ ((Kd.C_below HR0_0.out HB.out))); (case side2 => exact HC0_0.out); rintro e w8 ⟨rfl, hb⟩; refine ⟨_, rfl, ?_⟩; replace BK307 := Aside0.mk (blk_below (be_ BK307.out) hb); replace HB := Aside0.mk (below_step (by repeat (first | (with_reducible first | exact HB.out | apply below_alloc | apply pw_below_drewN | apply below_drew1 | refine below_set ?_ GE307.out) | exact HB.out)) hb); (try clear hb); (try clear hb2); (try clear hk); (try clear hi); have hcz9_0 : w8.cell? ⟨gb307, 0, none⟩ = some (.slice A0_0 l0_0.length c0_0) := (blk_cell BK307.out 0).trans rfl; have hfz9_0 := blk_frozen BK307.out 0) | ((with_reducible refine gate_callee (f := 40) rfl ?_); refine gL_ (some 7) Tryd.func40 #[.agg #[.slice A0_0 l0_0.length c0_0]] ?_; (with_reducible refine (spec_Gaps.calls k _ _ l0_0 t309 _ ?side1 ?side2 A4.out).mono ?_); (case side1 => exact ce_ ((Kd.C_below HR0_0.out HB.out))); (case side2 => exact HC0_0.out); rintro e w10 ⟨v310, rfl, ho0, hb⟩; refine ⟨_, rfl, ?_⟩; have HO311 := Aside0.mk (Kd.R_lower ho0 (below_size (by repeat (first | (with_reducible first | exact HB.out | apply below_alloc | apply pw_below_drewN | apply below_drew1 | refine below_set ?_ GE307.out) | exact HB.out)))); replace BK307 := Aside0.mk (blk_below (be_ BK307.out) hb); replace HB := Aside0.mk (below_step (by repeat (first | (with_reducible first | exact HB.out | apply below_alloc | apply pw_below_drewN | apply below_drew1 | refine below_set ?_ GE307.out) | exact HB.out)) hb); (try clear hb); (try clear hb2); (try clear hk); (try clear hi); (try clear ho0); obtain ⟨Ao11, co11, eo11⟩ := Kd.R_slice HO311.out; subst eo11) | ((with_reducible refine gate_callee (f := 17) rfl ?_); refine gL_ (some 8) Tryd.func17 #[.slice Ao11 t309.length co11] ?_; (with_reducible refine (spec_ListText.calls k _ _ t309 t312 _ ?side1 ?side2 A5.out).mono ?_); (case side1 => exact ce_ ((Kd.R_reads' HO311.out).2.2)); (case side2 => exact (Kd.R_reads' HO311.out).2.1); rintro e w12 ⟨rfl, hb⟩; refine ⟨_, rfl, ?_⟩; replace HO311 := Aside0.mk (Kd.R_below (re_ HO311.out) hb); replace BK307 := Aside0.mk (blk_below (be_ BK307.out) hb); replace HB := Aside0.mk (below_step (by repeat (first | (with_reducible first | exact HB.out | apply below_alloc | apply pw_below_drewN | apply below_drew1 | refine below_set ?_ GE307.out) | exact HB.out)) hb); (try clear hb); (try clear hb2); (try clear hk); (try clear hi)))
   go_ret
   exact ⟨by first | rfl | (simp [errW_none, errW_some] <;> rfl) | (simp [*, errW_none, errW_some] <;> rfl), by repeat (first | (with_reducible first | exact HB.out | apply below_alloc | apply pw_below_drewN | apply below_drew1 | refine below_set ?_ GE307.out) | exact HB.out)⟩
 · replace c3 := Bool.eq_false_iff.mpr c3
   subst c3
   rw [if_neg (show ¬ (false = true) by decide)] at H
   obtain rfl := Option.some.inj H
   go_enter Tryd.func16, Tryd.ntmps16
   go_wp2_with (first | ((with_reducible refine gate_dst (N := 1) rfl ?_); refine box_event ?hg (N := 1) ?hd (cs := #[.slice A0_0 l0_0.length c0_0]) (t := 27) ?hr ?_; (case hd => rfl); (case hg => rfl); (case hr => first | (go_simp; done) | (go_simp; rfl)); intro gb307 hg w13 hbox hb; have BK307 := Aside0.mk (hbox); have GW307 := Aside0.mk ((by rw [hg]; exact (below_size (bl_ HB.out)) : w.heap.size ≤ gb307)); have GE307 := Aside0.mk ((by rw [hg]; exact (below_size (bl_ HB.out)) : w.heap.size ≤ gb307)); replace HB := Aside0.mk (below_step (bl_ HB.out) hb); clear hb hbox hg; have hcz14_0 : w13.cell? ⟨gb307, 0, none⟩ = some (.slice A0_0 l0_0.length c0_0) := (blk_cell BK307.out 0).trans rfl; have hfz14_0 := blk_frozen BK307.out 0) | ((with_reducible refine gate_callee (f := 10) rfl ?_); refine gL_ (some 4) Tryd.func10 #[.agg #[.slice A0_0 l0_0.length c0_0]] ?_; (with_reducible refine (spec_IsSemigroup.calls k _ _ l0_0 false _ ?side1 ?side2 A2.out).mono ?_); (case side1 => exact ce_ ((Kd.C_below HR0_0.out HB.out))); (case side2 => exact HC0_0.out); rintro e w15 ⟨rfl, hb⟩; refine ⟨_, rfl, ?_⟩; replace BK307 := Aside0.mk (blk_below (be_ BK307.out) hb); replace HB := Aside0.mk (below_step (by repeat (first | (with_reducible first | exact HB.out | apply below_alloc | apply pw_below_drewN | apply below_drew1 | refine below_set ?_ GE307.out) | exact HB.out)) hb); (try clear hb); (try clear hb2); (try clear hk); (try clear hi)))
   go_ret
   exact ⟨by first | rfl | (simp [errW_none, errW_some] <;> rfl) | (simp [*, errW_none, errW_some] <;> rfl), by repeat (first | (with_reducible first | exact HB.out | apply below_alloc | apply pw_below_drewN | apply below_drew1 | refine below_set ?_ GE307.out) | exact HB.out)⟩
def spec_Contains.f (k : Nat) (l0_0 : List Int) (a1 : Int) : Option (Bool) := (spec_IsSemigroup.f k l0_0).bind fun t314 => (if t314 = true then ((spec_l3Has.f k l0_0 a1).bind fun t315 => (some t315)) else (some false))
set_option maxHeartbeats 8000000 in
set_option maxRecDepth 100000 in
theorem spec_Contains.calls (k : Nat) (A0_0 : Option Addr) (c0_0 : Nat) (l0_0 : List Int) (a1 : Int) (r : Bool) (w : World) (hr0_0 : Kd.C (Kd.int .i64) w A0_0 l0_0.length l0_0) (hc0_0 : l0_0.length ≤ c0_0) (h : spec_Contains.f k l0_0 a1 = some r) :
 Calls Tryd.prog 47 #[.agg #[.slice A0_0 l0_0.length c0_0], .int .i64 a1] w fun e w' => e = .returned (.bool r) ∧ Below w.heap.size w w' := by
 have hu27 := Tryd.underlying27
 have HR0_0 := Aside0.mk hr0_0
 have HC0_0 := Aside0.mk hc0_0
 clear hr0_0 hc0_0
 have HB := Aside0.mk (Below.refl w.heap.size w)
 have H : ((spec_IsSemigroup.f k l0_0).bind fun t314 => (if t314 = true then ((spec_l3Has.f k l0_0 a1).bind fun t315 => (some t315)) else (some false))) = some r := h
 clear h
 replace H := Option.bind_eq_some_iff.mp H
 obtain ⟨t314, A30, H⟩ := H
 have A3 := Aside0.mk A30
 clear A30
 by_cases c4 : t314 = true
 · subst c4
   rw [if_pos rfl] at H
   replace H := Option.bind_eq_some_iff.mp H
   obtain ⟨t315, A50, H⟩ := H
   have A5 := Aside0.mk A50
   clear A50
   obtain rfl := Option.some.inj H
   go_enter Tryd.func47, Tryd.ntmps47
   go_wp2_with (first | ((with_reducible refine gate_dst (N := 2) rfl ?_); refine box_event ?hg (N := 2) ?hd (cs := #[.slice A0_0 l0_0.length c0_0]) (t := 27) ?hr ?_; (case hd => rfl); (case hg => rfl); (case hr => first | (go_simp; done) | (go_simp; rfl)); intro gb313 hg w6 hbox hb; have BK313 := Aside0.mk (hbox); have GW313 := Aside0.mk ((by rw [hg]; exact (below_size (bl_ HB.out)) : w.heap.size ≤ gb313)); have GE313 := Aside0.mk ((by rw [hg]; exact (below_size (bl_ HB.out)) : w.heap.size ≤ gb313)); replace HB := Aside0.mk (below_step (bl_ HB.out) hb); clear hb hbox hg; have hcz7_0 : w6.cell? ⟨gb313, 0, none⟩ = some (.slice A0_0 l0_0.length c0_0) := (blk_cell BK313.out 0).trans rfl; have hfz7_0 := blk_frozen BK313.out 0) | ((with_reducible refine gate_callee (f := 10) rfl ?_); refine gL_ (some 6) Tryd.func10 #[.agg #[.slice A0_0 l0_0.length c0_0]] ?_; (with_reducible refine (spec_IsSemigroup.calls k _ _ l0_0 true _ ?side1 ?side2 A3.out).mono ?_); (case side1 => exact ce_ ((Kd.C_below HR0_0.out HB.out))); (case side2 => exact HC0_0.out); rintro e w8 ⟨rfl, hb⟩; refine ⟨_, rfl, ?_⟩; replace BK313 := Aside0.mk (blk_below (be_ BK313.out) hb); replace HB := Aside0.mk (below_step (by repeat (first | (with_reducible first | exact HB.out | apply below_alloc | apply pw_below_drewN | apply below_drew1 | refine below_set ?_ GE313.out) | exact HB.out)) hb); (try clear hb); (try clear hb2); (try clear hk); (try clear hi); have hcz9_0 : w8.cell? ⟨gb313, 0, none⟩ = some (.slice A0_0 l0_0.length c0_0) := (blk_cell BK313.out 0).trans rfl; have hfz9_0 := blk_frozen BK313.out 0) | (go_at_call 72; (with_reducible refine (spec_l3Has.calls k _ _ l0_0 a1 t315 _ ?side1 ?side2 A5.out).mono ?_); (case side1 => exact ce_ ((Kd.C_below HR0_0.out HB.out))); (case side2 => exact HC0_0.out); rintro e w10 ⟨rfl, hb⟩; replace BK313 := Aside0.mk (blk_below (be_ BK313.out) hb); replace HB := Aside0.mk (below_step (by repeat (first | (with_reducible first | exact HB.out | apply below_alloc | apply pw_below_drewN | apply below_drew1 | refine below_set ?_ GE313.out) | exact HB.out)) hb); (try clear hb); (try clear hb2); (try clear hk); (try clear hi)))
   go_ret
   exact ⟨by first | rfl | (simp [errW_none, errW_some] <;> rfl) | (simp [*, errW_none, errW_some] <;> rfl), by repeat (first | (with_reducible first | exact HB.out | apply below_alloc | apply pw_below_drewN | apply below_drew1 | refine below_set ?_ GE313.out) | exact HB.out)⟩
 · replace c4 := Bool.eq_false_iff.mpr c4
   subst c4
   rw [if_neg (show ¬ (false = true) by decide)] at H
   obtain rfl := Option.some.inj H
   go_enter Tryd.func47, Tryd.ntmps47
   go_wp2_with (first | ((with_reducible refine gate_dst (N := 2) rfl ?_); refine box_event ?hg (N := 2) ?hd (cs := #[.slice A0_0 l0_0.length c0_0]) (t := 27) ?hr ?_; (case hd => rfl); (case hg => rfl); (case hr => first | (go_simp; done) | (go_simp; rfl)); intro gb313 hg w11 hbox hb; have BK313 := Aside0.mk (hbox); have GW313 := Aside0.mk ((by rw [hg]; exact (below_size (bl_ HB.out)) : w.heap.size ≤ gb313)); have GE313 := Aside0.mk ((by rw [hg]; exact (below_size (bl_ HB.out)) : w.heap.size ≤ gb313)); replace HB := Aside0.mk (below_step (bl_ HB.out) hb); clear hb hbox hg; have hcz12_0 : w11.cell? ⟨gb313, 0, none⟩ = some (.slice A0_0 l0_0.length c0_0) := (blk_cell BK313.out 0).trans rfl; have hfz12_0 := blk_frozen BK313.out 0) | ((with_reducible refine gate_callee (f := 10) rfl ?_); refine gL_ (some 6) Tryd.func10 #[.agg #[.slice A0_0 l0_0.length c0_0]] ?_; (with_reducible refine (spec_IsSemigroup.calls k _ _ l0_0 false _ ?side1 ?side2 A3.out).mono ?_); (case side1 => exact ce_ ((Kd.C_below HR0_0.out HB.out))); (case side2 => exact HC0_0.out); rintro e w13 ⟨rfl, hb⟩; refine ⟨_, rfl, ?_⟩; replace BK313 := Aside0.mk (blk_below (be_ BK313.out) hb); replace HB := Aside0.mk (below_step (by repeat (first | (with_reducible first | exact HB.out | apply below_alloc | apply pw_below_drewN | apply below_drew1 | refine below_set ?_ GE313.out) | exact HB.out)) hb); (try clear hb); (try clear hb2); (try clear hk); (try clear hi)))
   go_ret
   exact ⟨by first | rfl | (simp [errW_none, errW_some] <;> rfl) | (simp [*, errW_none, errW_some] <;> rfl), by repeat (first | (with_reducible first | exact HB.out | apply below_alloc | apply pw_below_drewN | apply below_drew1 | refine below_set ?_ GE313.out) | exact HB.out)⟩
mutual
def spec_l6Apery.l0 : Nat → Int → List Bool → List Int → Int → Option (List Int)
 | 0, _, _, _, _ => none
 | k + 1, x1, x5, x6, x7 => if x7 < x1 then (spec_l6Apery.l1 k x1 x5 x6 x7 x7) else (some x6)
def spec_l6Apery.l1 : Nat → Int → List Bool → List Int → Int → Int → Option (List Int)
 | 0, _, _, _, _, _ => none
 | k + 1, x1, x5, x6, x7, x8 => if 0 ≤ x8 then (if x8 < (x5.length : Int) then (if rdOf false x5 x8 = true then (if x6.length < 17592186044416 then (spec_l6Apery.l0 k x1 x5 (x6 ++ [x8]) (wrap64 (x7 + 1))) else (none)) else (spec_l6Apery.l1 k x1 x5 x6 x7 (wrap64 (x8 + x1)))) else (none)) else (none)
end
def spec_l6Apery.f (k : Nat) (l0_0 : List Int) (a1 : Int) : Option (List Int) := (spec_l3Table.f k l0_0 260).bind fun t317 => (spec_l6Apery.l0 k a1 t317 (([] : List Int)) 0)
set_option maxHeartbeats 8000000 in
set_option maxRecDepth 100000 in
theorem spec_l6Apery.calls (k : Nat) (A0_0 : Option Addr) (c0_0 : Nat) (l0_0 : List Int) (a1 : Int) (r : List Int) (w : World) (hr0_0 : Kd.C (Kd.int .i64) w A0_0 l0_0.length l0_0) (hc0_0 : l0_0.length ≤ c0_0) (h : spec_l6Apery.f k l0_0 a1 = some r) :
 Calls Tryd.prog 49 #[.agg #[.slice A0_0 l0_0.length c0_0], .int .i64 a1] w fun e w' => ∃ v0_ : Value, e = .returned (v0_) ∧ Kd.R (Kd.int .i64) 3 w' w.heap.size (fun _ => True) v0_ r ∧ Below w.heap.size w w' := by
 have hu27 := Tryd.underlying27
 have HR0_0 := Aside0.mk hr0_0
 have HC0_0 := Aside0.mk hc0_0
 clear hr0_0 hc0_0
 have HB := Aside0.mk (Below.refl w.heap.size w)
 have H : ((spec_l3Table.f k l0_0 260).bind fun t317 => (spec_l6Apery.l0 k a1 t317 (([] : List Int)) 0)) = some r := h
 clear h
 replace H := Option.bind_eq_some_iff.mp H
 obtain ⟨t317, A30, H⟩ := H
 have A3 := Aside0.mk A30
 clear A30
 obtain ⟨y320, hy320⟩ : ∃ y_ : List Int, y_ = (([] : List Int)) := ⟨_, rfl⟩
 replace H : (spec_l6Apery.l0 k a1 t317 y320 0) = some r := by subst hy320; exact H
 have Ny320 := Aside0.mk hy320
 clear hy320
 have H' := Aside0.mk H
 clear H
 go_enter Tryd.func49, Tryd.ntmps49
 go_wp2_with (first | ((with_reducible refine gate_dst (N := 2) rfl ?_); refine box_event ?hg (N := 2) ?hd (cs := #[.slice A0_0 l0_0.length c0_0]) (t := 27) ?hr ?_; (case hd => rfl); (case hg => rfl); (case hr => first | (go_simp; done) | (go_simp; rfl)); intro gb316 hg w4 hbox hb; have BK316 := Aside0.mk (hbox); have GW316 := Aside0.mk ((by rw [hg]; exact (below_size (bl_ HB.out)) : w.heap.size ≤ gb316)); have GE316 := Aside0.mk ((by rw [hg]; exact (below_size (bl_ HB.out)) : w.heap.size ≤ gb316)); replace HB := Aside0.mk (below_step (bl_ HB.out) hb); clear hb hbox hg; have hcz5_0 : w4.cell? ⟨gb316, 0, none⟩ = some (.slice A0_0 l0_0.length c0_0) := (blk_cell BK316.out 0).trans rfl; have hfz5_0 := blk_frozen BK316.out 0) | ((with_reducible refine gate_callee (f := 69) rfl ?_); refine gL_ (some 11) Tryd.func69 #[.slice A0_0 l0_0.length c0_0, .int .i64 260] ?_; (with_reducible refine (spec_l3Table.calls k _ _ l0_0 260 t317 _ ?side1 ?side2 A3.out).mono ?_); (case side1 => exact ce_ ((Kd.C_below HR0_0.out HB.out))); (case side2 => exact HC0_0.out); rintro e w6 ⟨v318, rfl, ho0, hb⟩; refine ⟨_, rfl, ?_⟩; have HO319 := Aside0.mk (Kd.R_lower ho0 (below_size (by repeat (first | (with_reducible first | exact HB.out | apply below_alloc | apply pw_below_drewN | apply below_drew1 | refine below_set ?_ GE316.out) | exact HB.out)))); replace BK316 := Aside0.mk (blk_below (be_ BK316.out) hb); replace HB := Aside0.mk (below_step (by repeat (first | (with_reducible first | exact HB.out | apply below_alloc | apply pw_below_drewN | apply below_drew1 | refine below_set ?_ GE316.out) | exact HB.out)) hb); (try clear hb); (try clear hb2); (try clear hk); (try clear hi); (try clear ho0)) | ((with_reducible refine gate_dst (N := 12) rfl ?_); refine Kd.R_lit (Kd.int .i64) _ 3 ?hg (N := 12) ?hd (xs := ([] : List Int)) (inner := []) (ok := fun _ => True) (okp := fun _ => True) ?hr ?hp (fun _ hk => hk) trivial (Below.refl _ _) (Nat.le_refl _) (by simp) ?_; (case hd => rfl); (case hg => rfl); (case hr => first | (go_simp; done) | (go_simp; rfl)); (case hp => exact (Reps.none _ _)); intro v321 w7 ho8 hb hg_ hnew_; clear hg_ hnew_; (first | rw [← Ny320.out] at ho8 | (simp only [Int.reduceToNat] at ho8; rw [← Ny320.out] at ho8)); replace HO319 := Aside0.mk (Kd.R_below (re_ HO319.out) hb); have HO322 := Aside0.mk (Kd.R_lower ho8 (below_size (by repeat (first | (with_reducible first | exact HB.out | apply below_alloc | apply pw_below_drewN | apply below_drew1 | refine below_set ?_ GE316.out) | exact HB.out)))); replace BK316 := Aside0.mk (blk_below (be_ BK316.out) hb); replace HB := Aside0.mk (below_step (by repeat (first | (with_reducible first | exact HB.out | apply below_alloc | apply pw_below_drewN | apply below_drew1 | refine below_set ?_ GE316.out) | exact HB.out)) hb); clear hb ho8))
 go_loopg [6, 7] k (fun kq v6 v7 w' => ∃ (x6_1 : List Int) (x7_1 : Int), v7 = .int .i64 x7_1 ∧ Aside0 (spec_l6Apery.l0 kq a1 t317 x6_1 x7_1 = some r) ∧ Aside0 (kq ≤ k) ∧ Aside0 (Kd.R Kd.bool 4 w' w.heap.size (fun _ => True) v318 t317) ∧ Aside0 (Kd.R (Kd.int .i64) 3 w' w.heap.size (fun _ => True) v6 x6_1) ∧ Aside0 (w'.heap[gb316]? = some (.cells #[(.slice A0_0 l0_0.length c0_0)] 27 (0, 0))) ∧ Aside0 (Below w.heap.size w w'))
 case atStart => exact ⟨(y320), (0), (by first | rfl | (simp; done) | (simp [*]; done)), H', ⟨Nat.le_refl _⟩, ⟨re_ HO319.out⟩, ⟨re_ HO322.out⟩, ⟨be_ BK316.out⟩, ⟨by repeat (first | (with_reducible first | exact HB.out | apply below_alloc | apply pw_below_drewN | apply below_drew1 | refine below_set ?_ GE316.out) | exact HB.out)⟩⟩
 case round =>
  clear H'
  try clear p2
  try clear c4
  try clear c6
  try clear hcz5_0
  try clear hfz5_0
  obtain ⟨x6_1, x7_1, rfl, HA, HK1, HO_5, HO_6, BK316, HB⟩ := hrel
  cases gk with
  | zero => exact absurd HA.out (by simp [spec_l6Apery.l0])
  | succ k1 =>
   have H := HA.out
   clear HA
   simp only [spec_l6Apery.l0] at H
   by_cases c9 : x7_1 < a1
   · rw [if_pos c9] at H
     have c9b0 : decide (x7_1 < a1) = true := decide_eq_true c9
     clear c9
     have H' := Aside0.mk H
     clear H
     go_wp2
     go_loopg [8] k1 (fun kq v8 w' => ∃ (x8_2 : Int), v8 = .int .i64 x8_2 ∧ Aside0 (spec_l6Apery.l1 kq a1 t317 x6_1 x7_1 x8_2 = some r) ∧ Aside0 (kq ≤ k1) ∧ Aside0 (Kd.R Kd.bool 4 w' w.heap.size (fun _ => True) v318 t317) ∧ Aside0 (Kd.R (Kd.int .i64) 3 w' w.heap.size (fun _ => True) u6 x6_1) ∧ Aside0 (w'.heap[gb316]? = some (.cells #[(.slice A0_0 l0_0.length c0_0)] 27 (0, 0))) ∧ Aside0 (Below w.heap.size w w'))
     case atStart => exact ⟨(x7_1), (by first | rfl | (simp; done) | (simp [*]; done)), H', ⟨Nat.le_refl _⟩, ⟨re_ HO_5.out⟩, ⟨re_ HO_6.out⟩, ⟨be_ BK316.out⟩, ⟨by repeat (first | (with_reducible first | exact HB.out | apply below_alloc | apply pw_below_drewN | apply below_drew1 | refine below_set ?_ GE316.out) | exact HB.out)⟩⟩
     case round =>
      clear H'
      try clear p2
      try clear c4
      try clear c6
      try clear c9
      try clear c9b0
      try clear hcz5_0
      try clear hfz5_0
      try clear p2
      obtain ⟨x8_2, rfl, HA, HK2, HO_5, HO_6, BK316, HB⟩ := hrel
      cases gk with
      | zero => exact absurd HA.out (by simp [spec_l6Apery.l1])
      | succ k2 =>
       have H := HA.out
       clear HA
       simp only [spec_l6Apery.l1] at H
       by_cases c10 : 0 ≤ x8_2
       · rw [if_pos c10] at H
         have c10b0 : decide (0 ≤ x8_2) = true := decide_eq_true c10
         clear c10
         by_cases c11 : x8_2 < (t317.length : Int)
         · rw [if_pos c11] at H
           have c11b0 : decide (x8_2 < (t317.length : Int)) = true := decide_eq_true c11
           clear c11
           obtain ⟨bq12, hbq12⟩ : ∃ b_ : Bool, b_ = (rdOf false t317 x8_2) := ⟨_, rfl⟩
           replace H : (if bq12 = true then (if x6_1.length < 17592186044416 then (spec_l6Apery.l0 k2 a1 t317 (x6_1 ++ [x8_2]) (wrap64 (x7_1 + 1))) else (none)) else (spec_l6Apery.l1 k2 a1 t317 x6_1 x7_1 (wrap64 (x8_2 + a1)))) = some r := by rw [← hbq12] at H; exact H
           have Nbq12 := Aside0.mk hbq12
           clear hbq12
           by_cases c13 : bq12 = true
           · subst c13
             rw [if_pos rfl] at H
             by_cases c14 : x6_1.length < 17592186044416
             · rw [if_pos c14] at H
               have LMc14 := Aside0.mk c14
               clear c14
               obtain ⟨y324, hy324⟩ : ∃ y_ : List Int, y_ = (x6_1 ++ [x8_2]) := ⟨_, rfl⟩
               replace H : (spec_l6Apery.l0 k2 a1 t317 y324 (wrap64 (x7_1 + 1))) = some r := by subst hy324; exact H
               have Ny324 := Aside0.mk hy324
               clear hy324
               have H' := Aside0.mk H
               clear H
               obtain ⟨Ao15, co15, eo15⟩ := Kd.R_slice HO_5.out
               subst eo15
               have p323 : 0 ≤ (x8_2 : Int) := od_
               have q323 : x8_2 < (t317.length : Int) := od_
               obtain ⟨ad323, e323, hx323_0⟩ := Kd.at_bool (Kd.R_reads' HO_5.out).2.2 x8_2 p323 q323
               (try rw [← Nbq12.out] at hx323_0)
               cases e323
               replace p323 := eq_true p323
               replace q323 := eq_true q323
               go_wp2_with (first | ((with_reducible refine gate_builtin (b := .append) (xs := #[.tmp 27, .tmp 29]) rfl ?_); at_builtin; refine Kd.R_append (Kd.int .i64) (w0 := w) w.heap.size rfl (.tmp 27) (.tmp 29) 22 3 (.int .i64 0) 8 rfl Tryd.underlying22 info3 rfl (by decide) (by omega) u6 x6_1 x8_2 [.int .i64 x8_2] (fun _ => True) (fun _ => False) rfl rfl ?aP (fun _ hk => hk.elim) ?aF ?aO ?aB ?aS ?aL ?_; (case aP => exact rfl); (case aB => exact (by repeat (first | (with_reducible first | exact HB.out | apply below_alloc | apply pw_below_drewN | apply below_drew1 | refine below_set ?_ GE316.out) | exact HB.out))); (case aF => exact (fun _ _ => trivial)); (case aO => exact (re_ HO_6.out)); (case aS => exact (below_size (by repeat (first | (with_reducible first | exact HB.out | apply below_alloc | apply pw_below_drewN | apply below_drew1 | refine below_set ?_ GE316.out) | exact HB.out)))); (case aL => have := LMc14.out; omega); intro v325 w16 ho hb hg hat; rw [← Ny324.out] at ho; replace HO_5 := Aside0.mk (Kd.R_over' (re_ HO_5.out) (Kd.R_typed (re_ HO_6.out)) (by decide) hg); replace BK316 := Aside0.mk (blk_grown (be_ BK316.out) hg (Kd.R_ne HO_6.out BK316.out (by decide))); replace HB := Aside0.mk (hb); have HO326 := Aside0.mk (ho); clear HO_6; clear ho hb hg hat))
               go_roundg k2
               case measure => have := HK1.out; have := HK2.out; omega
               case rel => exact ⟨(y324), (wrap64 (x7_1 + 1)), (by first | rfl | (simp; done) | (simp [*]; done)), H', ⟨by have := HK1.out; have := HK2.out; omega⟩, ⟨re_ HO_5.out⟩, ⟨re_ HO326.out⟩, ⟨be_ BK316.out⟩, ⟨by repeat (first | (with_reducible first | exact HB.out | apply below_alloc | apply pw_below_drewN | apply below_drew1 | refine below_set ?_ GE316.out) | exact HB.out)⟩⟩
             · rw [if_neg c14] at H
               exact absurd H (by simp)
           · replace c13 := Bool.eq_false_iff.mpr c13
             subst c13
             rw [if_neg (show ¬ (false = true) by decide)] at H
             have H' := Aside0.mk H
             clear H
             obtain ⟨Ao17, co17, eo17⟩ := Kd.R_slice HO_5.out
             subst eo17
             have p323 : 0 ≤ (x8_2 : Int) := od_
             have q323 : x8_2 < (t317.length : Int) := od_
             obtain ⟨ad323, e323, hx323_0⟩ := Kd.at_bool (Kd.R_reads' HO_5.out).2.2 x8_2 p323 q323
             (try rw [← Nbq12.out] at hx323_0)
             cases e323
             replace p323 := eq_true p323
             replace q323 := eq_true q323
             go_wp2
             go_roundg k2
             case measure => have := HK1.out; have := HK2.out; omega
             case rel => exact ⟨(wrap64 (x8_2 + a1)), (by first | rfl | (simp; done) | (simp [*]; done)), H', ⟨by have := HK1.out; have := HK2.out; omega⟩, ⟨re_ HO_5.out⟩, ⟨re_ HO_6.out⟩, ⟨be_ BK316.out⟩, ⟨by repeat (first | (with_reducible first | exact HB.out | apply below_alloc | apply pw_below_drewN | apply below_drew1 | refine below_set ?_ GE316.out) | exact HB.out)⟩⟩
         · rw [if_neg c11] at H
           exact absurd H (by simp)
       · rw [if_neg c10] at H
         exact absurd H (by simp)
   · rw [if_neg c9] at H
     have c9b0 : decide (x7_1 < a1) = false := decide_eq_false c9
     clear c9
     obtain rfl := Option.some.inj H
     go_wp2
     go_ret
     exact ⟨_, by first | rfl | (simp [errW_none, errW_some] <;> rfl) | (simp [*, errW_none, errW_some] <;> rfl), re_ HO_6.out, by repeat (first | (with_reducible first | exact HB.out | apply below_alloc | apply pw_below_drewN | apply below_drew1 | refine below_set ?_ GE316.out) | exact HB.out)⟩
def spec_AperySet.f (k : Nat) (l0_0 : List Int) (a1 : Int) : Option (List Int) := (spec_Contains.f k l0_0 a1).bind fun t328 => (if t328 = true then ((spec_l1In.f a1 1 60).bind fun t329 => (if t329 = true then ((spec_l6Apery.f k l0_0 a1).bind fun t330 => (some t330)) else (some (([] : List Int))))) else (some (([] : List Int))))
set_option maxHeartbeats 8000000 in
set_option maxRecDepth 100000 in
theorem spec_AperySet.calls (k : Nat) (A0_0 : Option Addr) (c0_0 : Nat) (l0_0 : List Int) (a1 : Int) (r : List Int) (w : World) (hr0_0 : Kd.C (Kd.int .i64) w A0_0 l0_0.length l0_0) (hc0_0 : l0_0.length ≤ c0_0) (h : spec_AperySet.f k l0_0 a1 = some r) :
 Calls Tryd.prog 18 #[.agg #[.slice A0_0 l0_0.length c0_0], .int .i64 a1] w fun e w' => ∃ v0_ : Value, e = .returned (v0_) ∧ Kd.R (Kd.int .i64) 3 w' w.heap.size (fun _ => True) v0_ r ∧ Below w.heap.size w w' := by
 have hu27 := Tryd.underlying27
 have HR0_0 := Aside0.mk hr0_0
 have HC0_0 := Aside0.mk hc0_0
 clear hr0_0 hc0_0
 have HB := Aside0.mk (Below.refl w.heap.size w)
 have H : ((spec_Contains.f k l0_0 a1).bind fun t328 => (if t328 = true then ((spec_l1In.f a1 1 60).bind fun t329 => (if t329 = true then ((spec_l6Apery.f k l0_0 a1).bind fun t330 => (some t330)) else (some (([] : List Int))))) else (some (([] : List Int))))) = some r := h
 clear h
 replace H := Option.bind_eq_some_iff.mp H
 obtain ⟨t328, A30, H⟩ := H
 have A3 := Aside0.mk A30
 clear A30
 by_cases c4 : t328 = true
 · subst c4
   rw [if_pos rfl] at H
   replace H := Option.bind_eq_some_iff.mp H
   obtain ⟨t329, A50, H⟩ := H
   have A5 := Aside0.mk A50
   clear A50
   by_cases c6 : t329 = true
   · subst c6
     rw [if_pos rfl] at H
     replace H := Option.bind_eq_some_iff.mp H
     obtain ⟨t330, A70, H⟩ := H
     have A7 := Aside0.mk A70
     clear A70
     obtain rfl := Option.some.inj H
     go_enter Tryd.func18, Tryd.ntmps18
     go_wp2_with (first | ((with_reducible refine gate_dst (N := 2) rfl ?_); refine box_event ?hg (N := 2) ?hd (cs := #[.slice A0_0 l0_0.length c0_0]) (t := 27) ?hr ?_; (case hd => rfl); (case hg => rfl); (case hr => first | (go_simp; done) | (go_simp; rfl)); intro gb327 hg w8 hbox hb; have BK327 := Aside0.mk (hbox); have GW327 := Aside0.mk ((by rw [hg]; exact (below_size (bl_ HB.out)) : w.heap.size ≤ gb327)); have GE327 := Aside0.mk ((by rw [hg]; exact (below_size (bl_ HB.out)) : w.heap.size ≤ gb327)); replace HB := Aside0.mk (below_step (bl_ HB.out) hb); clear hb hbox hg; have hcz9_0 : w8.cell? ⟨gb327, 0, none⟩ = some (.slice A0_0 l0_0.length c0_0) := (blk_cell BK327.out 0).trans rfl; have hfz9_0 := blk_frozen BK327.out 0) | ((with_reducible refine gate_callee (f := 47) rfl ?_); refine gL_ (some 7) Tryd.func47 #[.agg #[.slice A0_0 l0_0.length c0_0], .int .i64 a1] ?_; (with_reducible refine (spec_Contains.calls k _ _ l0_0 a1 true _ ?side1 ?side2 A3.out).mono ?_); (case side1 => exact ce_ ((Kd.C_below HR0_0.out HB.out))); (case side2 => exact HC0_0.out); rintro e w10 ⟨rfl, hb⟩; refine ⟨_, rfl, ?_⟩; replace BK327 := Aside0.mk (blk_below (be_ BK327.out) hb); replace HB := Aside0.mk (below_step (by repeat (first | (with_reducible first | exact HB.out | apply below_alloc | apply pw_below_drewN | apply below_drew1 | refine below_set ?_ GE327.out) | exact HB.out)) hb); (try clear hb); (try clear hb2); (try clear hk); (try clear hi)) | (go_at_call 48; (with_reducible refine (spec_l1In.calls a1 1 60 true _ A5.out).mono ?_); rintro e w' ⟨rfl, ⟨nd, rfl⟩⟩; have hcz11_0 : w10.cell? ⟨gb327, 0, none⟩ = some (.slice A0_0 l0_0.length c0_0) := (blk_cell BK327.out 0).trans rfl; have hfz11_0 := blk_frozen BK327.out 0) | ((with_reducible refine gate_callee (f := 49) rfl ?_); refine gL_ (some 17) Tryd.func49 #[.agg #[.slice A0_0 l0_0.length c0_0], .int .i64 a1] ?_; (with_reducible refine (spec_l6Apery.calls k _ _ l0_0 a1 t330 _ ?side1 ?side2 A7.out).mono ?_); (case side1 => repeat (first | exact (Kd.C_below HR0_0.out (by repeat (first | (with_reducible first | exact HB.out | apply below_alloc | apply pw_below_drewN | apply below_drew1 | refine below_set ?_ GE327.out) | exact HB.out))) | (with_reducible refine Kd.C_alloc ?_ _) | (with_reducible refine Kd.C_drewN ?_ _) | (with_reducible refine Kd.C_drew ?_))); (case side2 => exact HC0_0.out); rintro e w12 ⟨v331, rfl, ho0, hb⟩; refine ⟨_, rfl, ?_⟩; have HO332 := Aside0.mk (Kd.R_lower ho0 (below_size (by repeat (first | (with_reducible first | exact HB.out | apply below_alloc | apply pw_below_drewN | apply below_drew1 | refine below_set ?_ GE327.out) | exact HB.out)))); replace BK327 := Aside0.mk (blk_below (be_ BK327.out) hb); replace HB := Aside0.mk (below_step (by repeat (first | (with_reducible first | exact HB.out | apply below_alloc | apply pw_below_drewN | apply below_drew1 | refine below_set ?_ GE327.out) | exact HB.out)) hb); (try clear hb); (try clear hb2); (try clear hk); (try clear hi); (try clear ho0)))
     go_ret
     exact ⟨_, by first | rfl | (simp [errW_none, errW_some] <;> rfl) | (simp [*, errW_none, errW_some] <;> rfl), re_ HO332.out, by repeat (first | (with_reducible first | exact HB.out | apply below_alloc | apply pw_below_drewN | apply below_drew1 | refine below_set ?_ GE327.out) | exact HB.out)⟩
   · replace c6 := Bool.eq_false_iff.mpr c6
     subst c6
     rw [if_neg (show ¬ (false = true) by decide)] at H
     obtain ⟨y333, hy333⟩ : ∃ y_ : List Int, y_ = (([] : List Int)) := ⟨_, rfl⟩
     replace H : (some y333) = some r := by subst hy333; exact H
     have Ny333 := Aside0.mk hy333
     clear hy333
     obtain rfl := Option.some.inj H
     go_enter Tryd.func18, Tryd.ntmps18
     go_wp2_with (first | ((with_reducible refine gate_dst (N := 2) rfl ?_); refine box_event ?hg (N := 2) ?hd (cs := #[.slice A0_0 l0_0.length c0_0]) (t := 27) ?hr ?_; (case hd => rfl); (case hg => rfl); (case hr => first | (go_simp; done) | (go_simp; rfl)); intro gb327 hg w13 hbox hb; have BK327 := Aside0.mk (hbox); have GW327 := Aside0.mk ((by rw [hg]; exact (below_size (bl_ HB.out)) : w.heap.size ≤ gb327)); have GE327 := Aside0.mk ((by rw [hg]; exact (below_size (bl_ HB.out)) : w.heap.size ≤ gb327)); replace HB := Aside0.mk (below_step (bl_ HB.out) hb); clear hb hbox hg; have hcz14_0 : w13.cell? ⟨gb327, 0, none⟩ = some (.slice A0_0 l0_0.length c0_0) := (blk_cell BK327.out 0).trans rfl; have hfz14_0 := blk_frozen BK327.out 0) | ((with_reducible refine gate_callee (f := 47) rfl ?_); refine gL_ (some 7) Tryd.func47 #[.agg #[.slice A0_0 l0_0.length c0_0], .int .i64 a1] ?_; (with_reducible refine (spec_Contains.calls k _ _ l0_0 a1 true _ ?side1 ?side2 A3.out).mono ?_); (case side1 => exact ce_ ((Kd.C_below HR0_0.out HB.out))); (case side2 => exact HC0_0.out); rintro e w15 ⟨rfl, hb⟩; refine ⟨_, rfl, ?_⟩; replace BK327 := Aside0.mk (blk_below (be_ BK327.out) hb); replace HB := Aside0.mk (below_step (by repeat (first | (with_reducible first | exact HB.out | apply below_alloc | apply pw_below_drewN | apply below_drew1 | refine below_set ?_ GE327.out) | exact HB.out)) hb); (try clear hb); (try clear hb2); (try clear hk); (try clear hi)) | (go_at_call 48; (with_reducible refine (spec_l1In.calls a1 1 60 false _ A5.out).mono ?_); rintro e w' ⟨rfl, ⟨nd, rfl⟩⟩) | ((with_reducible refine gate_dst (N := 14) rfl ?_); refine Kd.R_lit (Kd.int .i64) _ 3 ?hg (N := 14) ?hd (xs := ([] : List Int)) (inner := []) (ok := fun _ => True) (okp := fun _ => True) ?hr ?hp (fun _ hk => hk) trivial (Below.refl _ _) (Nat.le_refl _) (by simp) ?_; (case hd => rfl); (case hg => rfl); (case hr => first | (go_simp; done) | (go_simp; rfl)); (case hp => exact (Reps.none _ _)); intro v334 w16 ho17 hb hg_ hnew_; clear hg_ hnew_; (first | rw [← Ny333.out] at ho17 | (simp only [Int.reduceToNat] at ho17; rw [← Ny333.out] at ho17)); have HO335 := Aside0.mk (Kd.R_lower ho17 (below_size (by repeat (first | (with_reducible first | exact HB.out | apply below_alloc | apply pw_below_drewN | apply below_drew1 | refine below_set ?_ GE327.out) | exact HB.out)))); replace BK327 := Aside0.mk (blk_below (be_ BK327.out) hb); replace HB := Aside0.mk (below_step (by repeat (first | (with_reducible first | exact HB.out | apply below_alloc | apply pw_below_drewN | apply below_drew1 | refine below_set ?_ GE327.out) | exact HB.out)) hb); clear hb ho17))
     go_ret
     exact ⟨_, by first | rfl | (simp [errW_none, errW_some] <;> rfl) | (simp [*, errW_none, errW_some] <;> rfl), re_ HO335.out, by repeat (first | (with_reducible first | exact HB.out | apply below_alloc | apply pw_below_drewN | apply below_drew1 | refine below_set ?_ GE327.out) | exact HB.out)⟩
 · replace c4 := Bool.eq_false_iff.mpr c4
   subst c4
   rw [if_neg (show ¬ (false = true) by decide)] at H
   obtain ⟨y336, hy336⟩ : ∃ y_ : List Int, y_ = (([] : List Int)) := ⟨_, rfl⟩
   replace H : (some y336) = some r := by subst hy336; exact H
   have Ny336 := Aside0.mk hy336
   clear hy336
   obtain rfl := Option.some.inj H
   go_enter Tryd.func18, Tryd.ntmps18
   go_wp2_with (first | ((with_reducible refine gate_dst (N := 2) rfl ?_); refine box_event ?hg (N := 2) ?hd (cs := #[.slice A0_0 l0_0.length c0_0]) (t := 27) ?hr ?_; (case hd => rfl); (case hg => rfl); (case hr => first | (go_simp; done) | (go_simp; rfl)); intro gb327 hg w18 hbox hb; have BK327 := Aside0.mk (hbox); have GW327 := Aside0.mk ((by rw [hg]; exact (below_size (bl_ HB.out)) : w.heap.size ≤ gb327)); have GE327 := Aside0.mk ((by rw [hg]; exact (below_size (bl_ HB.out)) : w.heap.size ≤ gb327)); replace HB := Aside0.mk (below_step (bl_ HB.out) hb); clear hb hbox hg; have hcz19_0 : w18.cell? ⟨gb327, 0, none⟩ = some (.slice A0_0 l0_0.length c0_0) := (blk_cell BK327.out 0).trans rfl; have hfz19_0 := blk_frozen BK327.out 0) | ((with_reducible refine gate_callee (f := 47) rfl ?_); refine gL_ (some 7) Tryd.func47 #[.agg #[.slice A0_0 l0_0.length c0_0], .int .i64 a1] ?_; (with_reducible refine (spec_Contains.calls k _ _ l0_0 a1 false _ ?side1 ?side2 A3.out).mono ?_); (case side1 => exact ce_ ((Kd.C_below HR0_0.out HB.out))); (case side2 => exact HC0_0.out); rintro e w20 ⟨rfl, hb⟩; refine ⟨_, rfl, ?_⟩; replace BK327 := Aside0.mk (blk_below (be_ BK327.out) hb); replace HB := Aside0.mk (below_step (by repeat (first | (with_reducible first | exact HB.out | apply below_alloc | apply pw_below_drewN | apply below_drew1 | refine below_set ?_ GE327.out) | exact HB.out)) hb); (try clear hb); (try clear hb2); (try clear hk); (try clear hi)) | ((with_reducible refine gate_dst (N := 14) rfl ?_); refine Kd.R_lit (Kd.int .i64) _ 3 ?hg (N := 14) ?hd (xs := ([] : List Int)) (inner := []) (ok := fun _ => True) (okp := fun _ => True) ?hr ?hp (fun _ hk => hk) trivial (Below.refl _ _) (Nat.le_refl _) (by simp) ?_; (case hd => rfl); (case hg => rfl); (case hr => first | (go_simp; done) | (go_simp; rfl)); (case hp => exact (Reps.none _ _)); intro v337 w21 ho22 hb hg_ hnew_; clear hg_ hnew_; (first | rw [← Ny336.out] at ho22 | (simp only [Int.reduceToNat] at ho22; rw [← Ny336.out] at ho22)); have HO338 := Aside0.mk (Kd.R_lower ho22 (below_size (by repeat (first | (with_reducible first | exact HB.out | apply below_alloc | apply pw_below_drewN | apply below_drew1 | refine below_set ?_ GE327.out) | exact HB.out)))); replace BK327 := Aside0.mk (blk_below (be_ BK327.out) hb); replace HB := Aside0.mk (below_step (by repeat (first | (with_reducible first | exact HB.out | apply below_alloc | apply pw_below_drewN | apply below_drew1 | refine below_set ?_ GE327.out) | exact HB.out)) hb); clear hb ho22))
   go_ret
   exact ⟨_, by first | rfl | (simp [errW_none, errW_some] <;> rfl) | (simp [*, errW_none, errW_some] <;> rfl), re_ HO338.out, by repeat (first | (with_reducible first | exact HB.out | apply below_alloc | apply pw_below_drewN | apply below_drew1 | refine below_set ?_ GE327.out) | exact HB.out)⟩
def spec_ConductorOf.f (k : Nat) (l0_0 : List Int) : Option (Int) := (spec_FrobeniusOf.f k l0_0).bind fun t340 => (some (wrap64 (t340 + 1)))
set_option maxHeartbeats 8000000 in
set_option maxRecDepth 100000 in
theorem spec_ConductorOf.calls (k : Nat) (A0_0 : Option Addr) (c0_0 : Nat) (l0_0 : List Int) (r : Int) (w : World) (hr0_0 : Kd.C (Kd.int .i64) w A0_0 l0_0.length l0_0) (hc0_0 : l0_0.length ≤ c0_0) (h : spec_ConductorOf.f k l0_0 = some r) :
 Calls Tryd.prog 51 #[.agg #[.slice A0_0 l0_0.length c0_0]] w fun e w' => e = .returned (.int .i64 r) ∧ Below w.heap.size w w' := by
 have hu27 := Tryd.underlying27
 have HR0_0 := Aside0.mk hr0_0
 have HC0_0 := Aside0.mk hc0_0
 clear hr0_0 hc0_0
 have HB := Aside0.mk (Below.refl w.heap.size w)
 have H : ((spec_FrobeniusOf.f k l0_0).bind fun t340 => (some (wrap64 (t340 + 1)))) = some r := h
 clear h
 replace H := Option.bind_eq_some_iff.mp H
 obtain ⟨t340, A20, H⟩ := H
 have A2 := Aside0.mk A20
 clear A20
 obtain rfl := Option.some.inj H
 go_enter Tryd.func51, Tryd.ntmps51
 go_wp2_with (first | ((with_reducible refine gate_dst (N := 1) rfl ?_); refine box_event ?hg (N := 1) ?hd (cs := #[.slice A0_0 l0_0.length c0_0]) (t := 27) ?hr ?_; (case hd => rfl); (case hg => rfl); (case hr => first | (go_simp; done) | (go_simp; rfl)); intro gb339 hg w3 hbox hb; have BK339 := Aside0.mk (hbox); have GW339 := Aside0.mk ((by rw [hg]; exact (below_size (bl_ HB.out)) : w.heap.size ≤ gb339)); have GE339 := Aside0.mk ((by rw [hg]; exact (below_size (bl_ HB.out)) : w.heap.size ≤ gb339)); replace HB := Aside0.mk (below_step (bl_ HB.out) hb); clear hb hbox hg; have hcz4_0 : w3.cell? ⟨gb339, 0, none⟩ = some (.slice A0_0 l0_0.length c0_0) := (blk_cell BK339.out 0).trans rfl; have hfz4_0 := blk_frozen BK339.out 0) | ((with_reducible refine gate_callee (f := 12) rfl ?_); refine gL_ (some 4) Tryd.func12 #[.agg #[.slice A0_0 l0_0.length c0_0]] ?_; (with_reducible refine (spec_FrobeniusOf.calls k _ _ l0_0 t340 _ ?side1 ?side2 A2.out).mono ?_); (case side1 => exact ce_ ((Kd.C_below HR0_0.out HB.out))); (case side2 => exact HC0_0.out); rintro e w5 ⟨rfl, hb⟩; refine ⟨_, rfl, ?_⟩; replace BK339 := Aside0.mk (blk_below (be_ BK339.out) hb); replace HB := Aside0.mk (below_step (by repeat (first | (with_reducible first | exact HB.out | apply below_alloc | apply pw_below_drewN | apply below_drew1 | refine below_set ?_ GE339.out) | exact HB.out)) hb); (try clear hb); (try clear hb2); (try clear hk); (try clear hi)))
 go_ret
 exact ⟨by first | rfl | (simp [errW_none, errW_some] <;> rfl) | (simp [*, errW_none, errW_some] <;> rfl), by repeat (first | (with_reducible first | exact HB.out | apply below_alloc | apply pw_below_drewN | apply below_drew1 | refine below_set ?_ GE339.out) | exact HB.out)⟩
end Go.Proofs.YtjjajcldmkmgkaaDoor.PA
end
