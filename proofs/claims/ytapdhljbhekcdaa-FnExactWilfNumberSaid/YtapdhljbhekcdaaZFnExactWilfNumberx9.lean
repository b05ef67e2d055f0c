-- Bundled by shake.py from this session's printed and written texts; Lean checks it.
import Derived.Test.YtapdhljbhekcdaaZFnExactWilfNumberx1
import Derived.Test.YtapdhljbhekcdaaZFnExactWilfNumberx5
import Derived.Test.YtapdhljbhekcdaaZFnExactWilfNumberx7
import Derived.Test.YtapdhljbhekcdaaZFnExactWilfNumberx8
section
namespace Go.Proofs.Ytapdhljbhekcdaa.PA
open Go.RowKit Go.Proofs.YtapdhljbhekcdaaW.PrintWords Go.Proofs.YtapdhljbhekcdaaW.PrintLast Go.Proofs.YtapdhljbhekcdaaW.PrintMore
set_option linter.unusedVariables false
set_option linter.unusedSimpArgs false
def impl_WilfNumber.f (k : Nat) (l0_0 : List Int) : Option (Int) := (impl_IsSemigroup.f k l0_0).bind fun t439 => (if t439 = true then ((impl_LeftCount.f k l0_0).bind fun t440 => ((impl_ConductorOf.f k l0_0).bind fun t441 => (some (wrap64 ((wrap64 ((l0_0.length : Int) * t440)) - t441))))) else (some (-1)))
def impl_WilfNumber.T3 : Bool × List (List Nat × List Nat) := (true, [([], []), ([0], [0]), ([1], [1]), ([], []), ([3], [3]), ([2, 4], [2, 4]), ([], []), ([6, 4], [6]), ([5, 7], [5, 7]), ([8, 7, 0, 1, 2, 3, 4, 5, 6, 7, 8], [8])])
def impl_WilfNumber.B3 : List Nat := [0, 1, 3, 0, 8, 31, 0, 88, 255, 511]
theorem impl_WilfNumber.tab3 : rtab .any (opsOf Try.f25 3) = impl_WilfNumber.T3 := by kernel_rfl
theorem impl_WilfNumber.bits3 : waitsOk impl_WilfNumber.T3.2 impl_WilfNumber.B3 = true := by kernel_rfl
set_option maxHeartbeats 8000000 in
set_option maxRecDepth 100000 in
theorem impl_WilfNumber.calls (k : Nat) (A0_0 : Option Addr) (c0_0 : Nat) (l0_0 : List Int) (r : Int) (w : World) (hr0_0 : Kd.C (Kd.int .i64) w A0_0 l0_0.length l0_0) (hc0_0 : l0_0.length ≤ c0_0) (h : impl_WilfNumber.f k l0_0 = some r) :
    Calls Try.prog 25 #[.agg #[.slice A0_0 l0_0.length c0_0]] w fun e w' => e = .returned (.int .i64 r) ∧ Below w.heap.size w w' := by
  have hu27 := Try.underlying27
  have HR0_0 := Aside0.mk hr0_0
  have HC0_0 := Aside0.mk hc0_0
  clear hr0_0 hc0_0
  have HB := Aside0.mk (Below.refl w.heap.size w)
  have H : ((impl_IsSemigroup.f k l0_0).bind fun t439 => (if t439 = true then ((impl_LeftCount.f k l0_0).bind fun t440 => ((impl_ConductorOf.f k l0_0).bind fun t441 => (some (wrap64 ((wrap64 ((l0_0.length : Int) * t440)) - t441))))) else (some (-1)))) = some r := h
  clear h
  replace H := Option.bind_eq_some_iff.mp H
  obtain ⟨t439, A20, H⟩ := H
  replace H : (if t439 = true then ((impl_LeftCount.f k l0_0).bind fun t440 => ((impl_ConductorOf.f k l0_0).bind fun t441 => (some (wrap64 ((wrap64 ((l0_0.length : Int) * t440)) - t441))))) else (some (-1))) = some r := H
  have A2 := Aside0.mk A20
  clear A20
  by_cases c3 : t439 = true
  · subst c3
    have H1 : ((impl_LeftCount.f k l0_0).bind fun t440 => ((impl_ConductorOf.f k l0_0).bind fun t441 => (some (wrap64 ((wrap64 ((l0_0.length : Int) * t440)) - t441))))) = some r := by rw [if_pos rfl] at H; exact H
    clear H
    have H := H1
    clear H1
    replace H := Option.bind_eq_some_iff.mp H
    obtain ⟨t440, A40, H⟩ := H
    replace H : ((impl_ConductorOf.f k l0_0).bind fun t441 => (some (wrap64 ((wrap64 ((l0_0.length : Int) * t440)) - t441)))) = some r := H
    have A4 := Aside0.mk A40
    clear A40
    replace H := Option.bind_eq_some_iff.mp H
    obtain ⟨t441, A50, H⟩ := H
    replace H : (some (wrap64 ((wrap64 ((l0_0.length : Int) * t440)) - t441))) = some r := H
    have A5 := Aside0.mk A50
    clear A50
    obtain rfl := Option.some.inj H
    go_enter Try.func25, Try.ntmps25
    try go_wp2_with (first | ((with_reducible refine gate_dst (N := 1) rfl ?_); refine box_event ?hg (N := 1) ?hd (cs := #[.slice A0_0 l0_0.length c0_0]) (t := 27) ?hr ?_; (case hd => rfl); (case hg => rfl); (case hr => first | (go_simp; done) | (go_simp; rfl)); intro gb438 hg w6 hbox hb; have n0_ := Aside0.mk (below_step (by repeat (first | (with_reducible first | exact HB.out | apply below_alloc | apply pw_below_drewN | apply below_drew1) | exact HB.out)) hb); have n1_ := Aside0.mk (hbox); have n2_ := Aside0.mk ((by rw [hg]; exact (below_size (by repeat (first | (with_reducible first | exact HB.out | apply below_alloc | apply pw_below_drewN | apply below_drew1) | exact HB.out))) : w.heap.size ≤ gb438)); have n3_ := Aside0.mk ((by rw [hg]; exact (below_size (by repeat (first | (with_reducible first | exact HB.out | apply below_alloc | apply pw_below_drewN | apply below_drew1) | exact HB.out))) : w.heap.size ≤ gb438)); clear HB; have HB := n0_; have BK438 := n1_; have GW438 := n2_; have GE438 := n3_; clear n0_ n1_ n2_ n3_; clear hb hbox hg; have hcz7_0 : w6.cell? ⟨gb438, 0, none⟩ = some (.slice A0_0 l0_0.length c0_0) := (blk_cell BK438.out 0).trans rfl; have hfz7_0 := blk_frozen BK438.out 0) | ((with_reducible refine gate_callee (f := 56) rfl ?_); refine goesL_ (some 4) rfl rfl Try.func56 (by kernel_rfl) rfl #[.agg #[.slice A0_0 l0_0.length c0_0]] rfl (by (try simp only [List.map_toArray, List.map_cons, List.map_nil]); first | done | rfl | (simp only [List.length_drop, List.length_take]; rfl)) ?_; (with_reducible refine (impl_IsSemigroup.calls k _ _ l0_0 true _ ?side1 ?side2 A2.out).mono ?_); (case side1 => repeat (first | exact (Kd.C_below HR0_0.out HB.out) | (with_reducible refine Kd.C_alloc ?_ _) | (with_reducible refine Kd.C_drewN ?_ _) | (with_reducible refine Kd.C_drew ?_))); (case side2 => exact HC0_0.out); rintro e w8 ⟨rfl, hb⟩; refine ⟨_, rfl, ?_⟩; have n0_ := Aside0.mk (blk_below (g := gb438) (o := .cells #[.slice A0_0 l0_0.length c0_0] 27 (0, 0)) (by (with_reducible repeat (first | refine blk_drewN ?_ _ | refine blk_drew ?_ | refine blk_alloc ?_ _)); exact BK438.out) hb); have n1_ := Aside0.mk (below_step (by repeat (first | (with_reducible first | exact HB.out | apply below_alloc | apply pw_below_drewN | apply below_drew1 | refine below_set ?_ GE438.out) | exact HB.out)) hb); clear BK438; clear HB; have BK438 := n0_; have HB := n1_; clear n0_ n1_; (try clear hb); (try clear hb2); (try clear hk); (try clear hi)))
    have n0_ := Aside0.mk (blk_drew BK438.out)
    have n1_ := Aside0.mk (below_drew1 HB.out)
    clear BK438
    clear HB
    have BK438 := n0_
    have HB := n1_
    clear n0_ n1_
    refine start_ (n := 10) (S := fun w' => w'.cell? ⟨gb438, 0, none⟩ = some (.slice A0_0 l0_0.length c0_0)) (ds := []) #[false, false, false, false, false, false, false, false, false, false] (by kernel_rfl) rfl rfl ((blk_cell BK438.out 0).trans rfl) (fun hHeld => ?_); refine with_tabW impl_WilfNumber.tab3 impl_WilfNumber.bits3 (fun HT_ HW_ => ?_)
    generalize w8.drew = w9 at BK438 HB hHeld ⊢
    refine pure_ (i := 0) (N := some 6) (v := ?_) (a' := ?_) #[true, false, false, false, false, false, false, false, false, false] rfl rfl (any_of HT_.out (by kernel_rfl)) (fun _ _ _ h => h) (Or.inl ⟨by rfl, ?_⟩) ?_ ?_
    rotate_left
    · intro w'
      go_simp
      with_reducible rfl
    rotate_left
    · simp only [Act.put, List.setIfInBounds_toArray, List.set_cons_zero, List.set_cons_succ, i64_w, i32_w]
      rfl
    refine take_ (i := 1) (N := some 7) (v := ?_) (a' := ?_) #[true, true, false, false, false, false, false, false, false, false] rfl rfl (take_ofW HT_.out HW_.out (by kernel_rfl)) (fun _ _ _ h => h) (Or.inl ⟨by rfl, ?_⟩) hHeld ?_ ?_
    rotate_left
    · intro w' s0
      go_simp
      with_reducible rfl
    rotate_left
    · simp only [Act.put, List.setIfInBounds_toArray, List.set_cons_zero, List.set_cons_succ, i64_w, i32_w]
      rfl
    refine pure_ (i := 2) (N := some 8) (v := ?_) (a' := ?_) #[true, true, true, false, false, false, false, false, false, false] rfl rfl (any_of HT_.out (by kernel_rfl)) (fun _ _ _ h => h) (Or.inl ⟨by rfl, ?_⟩) ?_ ?_
    rotate_left
    · intro w'
      go_simp
      with_reducible rfl
    rotate_left
    · simp only [Act.put, List.setIfInBounds_toArray, List.set_cons_zero, List.set_cons_succ, i64_w, i32_w]
      rfl
    refine take_ (i := 3) (N := some 9) (v := ?_) (a' := ?_) #[true, true, true, true, false, false, false, false, false, false] rfl rfl (take_ofW HT_.out HW_.out (by kernel_rfl)) (fun _ _ _ h => h) (Or.inl ⟨by rfl, ?_⟩) hHeld ?_ ?_
    rotate_left
    · intro w' s0
      go_simp
      with_reducible rfl
    rotate_left
    · simp only [Act.put, List.setIfInBounds_toArray, List.set_cons_zero, List.set_cons_succ, i64_w, i32_w]
      rfl
    refine take_ (i := 6) (N := some 12) (v := ?_) (a' := ?_) #[true, true, true, true, false, false, true, false, false, false] rfl rfl (take_ofW HT_.out HW_.out (by kernel_rfl)) (fun _ _ _ h => h) (Or.inl ⟨by rfl, ?_⟩) hHeld ?_ ?_
    rotate_left
    · intro w' s0
      go_simp
      with_reducible rfl
    rotate_left
    · simp only [Act.put, List.setIfInBounds_toArray, List.set_cons_zero, List.set_cons_succ, i64_w, i32_w]
      rfl
    refine one_ (i := 4) (N := some 10) #[true, true, true, true, true, false, true, false, false, false] rfl rfl (one_of HT_.out (by kernel_rfl)) (by decide) (fun K hK => ?_)
    refine goes_ Try.func23 (by kernel_rfl) rfl #[.agg #[.slice A0_0 l0_0.length c0_0]] (by rfl) rfl rfl (by (try simp only [List.map_toArray, List.map_cons, List.map_nil]); first | done | rfl | (simp only [List.length_drop, List.length_take]; rfl)) ?_
    with_reducible refine (impl_LeftCount.calls k _ _ l0_0 t440 _ ?side1 ?side2 A4.out).mono ?_
    (case side1 => repeat (first | exact (Kd.C_below HR0_0.out HB.out) | (with_reducible refine Kd.C_alloc ?_ _) | (with_reducible refine Kd.C_drewN ?_ _) | (with_reducible refine Kd.C_drew ?_)))
    (case side2 => exact HC0_0.out)
    rintro e w10 ⟨rfl, hb⟩
    refine ⟨_, rfl, ?_⟩
    have n0_ := Aside0.mk (blk_below (g := gb438) (o := .cells #[.slice A0_0 l0_0.length c0_0] 27 (0, 0)) (by (with_reducible repeat (first | refine blk_drewN ?_ _ | refine blk_drew ?_ | refine blk_alloc ?_ _)); exact BK438.out) hb)
    have n1_ := Aside0.mk (below_step (by repeat (first | (with_reducible first | exact HB.out | apply below_alloc | apply pw_below_drewN | apply below_drew1 | refine below_set ?_ GE438.out) | exact HB.out)) hb)
    clear BK438
    clear HB
    have BK438 := n0_
    have HB := n1_
    clear n0_ n1_
    (try clear hb)
    (try clear hb2)
    (try clear hk)
    (try clear hi)
    refine hK.out _ _ ((blk_cell BK438.out 0).trans rfl) (fun hHeld => ?_)
    clear hK K
    refine norm_ (a' := ?_) ?_ ?_
    rotate_left
    · show Act.put _ (some 10) _ = _
      simp only [Act.put, List.setIfInBounds_toArray, List.set_cons_zero, List.set_cons_succ, i64_w, i32_w]
      rfl
    refine pure_ (i := 5) (N := some 11) (v := ?_) (a' := ?_) #[true, true, true, true, true, true, true, false, false, false] rfl rfl (any_of HT_.out (by kernel_rfl)) (fun _ _ _ h => h) (Or.inl ⟨by rfl, ?_⟩) ?_ ?_
    rotate_left
    · intro w'
      go_simp
      with_reducible rfl
    rotate_left
    · simp only [Act.put, List.setIfInBounds_toArray, List.set_cons_zero, List.set_cons_succ, i64_w, i32_w]
      rfl
    refine one_ (i := 7) (N := some 13) #[true, true, true, true, true, true, true, true, false, false] rfl rfl (one_of HT_.out (by kernel_rfl)) (by decide) (fun K hK => ?_)
    refine goes_ Try.func57 (by kernel_rfl) rfl #[.agg #[.slice A0_0 l0_0.length c0_0]] (by rfl) rfl rfl (by (try simp only [List.map_toArray, List.map_cons, List.map_nil]); first | done | rfl | (simp only [List.length_drop, List.length_take]; rfl)) ?_
    with_reducible refine (impl_ConductorOf.calls k _ _ l0_0 t441 _ ?side1 ?side2 A5.out).mono ?_
    (case side1 => repeat (first | exact (Kd.C_below HR0_0.out HB.out) | (with_reducible refine Kd.C_alloc ?_ _) | (with_reducible refine Kd.C_drewN ?_ _) | (with_reducible refine Kd.C_drew ?_)))
    (case side2 => exact HC0_0.out)
    rintro e w11 ⟨rfl, hb⟩
    refine ⟨_, rfl, ?_⟩
    have n0_ := Aside0.mk (blk_below (g := gb438) (o := .cells #[.slice A0_0 l0_0.length c0_0] 27 (0, 0)) (by (with_reducible repeat (first | refine blk_drewN ?_ _ | refine blk_drew ?_ | refine blk_alloc ?_ _)); exact BK438.out) hb)
    have n1_ := Aside0.mk (below_step (by repeat (first | (with_reducible first | exact HB.out | apply below_alloc | apply pw_below_drewN | apply below_drew1 | refine below_set ?_ GE438.out) | exact HB.out)) hb)
    clear BK438
    clear HB
    have BK438 := n0_
    have HB := n1_
    clear n0_ n1_
    (try clear hb)
    (try clear hb2)
    (try clear hk)
    (try clear hi)
    refine hK.out _ _ ((blk_cell BK438.out 0).trans rfl) (fun hHeld => ?_)
    clear hK K
    refine norm_ (a' := ?_) ?_ ?_
    rotate_left
    · show Act.put _ (some 13) _ = _
      simp only [Act.put, List.setIfInBounds_toArray, List.set_cons_zero, List.set_cons_succ, i64_w, i32_w]
      rfl
    refine pure_ (i := 8) (N := some 14) (v := ?_) (a' := ?_) #[true, true, true, true, true, true, true, true, true, false] rfl rfl (any_of HT_.out (by kernel_rfl)) (fun _ _ _ h => h) (Or.inl ⟨by rfl, ?_⟩) ?_ ?_
    rotate_left
    · intro w'
      go_simp
      with_reducible rfl
    rotate_left
    · simp only [Act.put, List.setIfInBounds_toArray, List.set_cons_zero, List.set_cons_succ, i64_w, i32_w]
      rfl
    refine pure_ (i := 9) (N := some 2) (v := ?_) (a' := ?_) #[true, true, true, true, true, true, true, true, true, true] rfl rfl (any_of HT_.out (by kernel_rfl)) (fun _ _ _ h => h) (Or.inl ⟨by rfl, ?_⟩) ?_ ?_
    rotate_left
    · intro w'
      go_simp
      with_reducible rfl
    rotate_left
    · simp only [Act.put, List.setIfInBounds_toArray, List.set_cons_zero, List.set_cons_succ, i64_w, i32_w]
      rfl
    refine done_ (done_of HT_.out (by kernel_rfl)) ?_
    try go_wp2
    go_ret
    exact ⟨by first | rfl | (simp [errW_none, errW_some] <;> rfl) | (simp [*, errW_none, errW_some] <;> rfl), by repeat (first | (with_reducible first | exact HB.out | apply below_alloc | apply pw_below_drewN | apply below_drew1 | refine below_set ?_ GE438.out) | exact HB.out)⟩
  · replace c3 := Bool.eq_false_iff.mpr c3
    subst c3
    have H1 : (some (-1)) = some r := by rw [if_neg (show ¬ (false = true) by decide)] at H; exact H
    clear H
    have H := H1
    clear H1
    obtain rfl := Option.some.inj H
    go_enter Try.func25, Try.ntmps25
    go_wp2_with (first | ((with_reducible refine gate_dst (N := 1) rfl ?_); refine box_event ?hg (N := 1) ?hd (cs := #[.slice A0_0 l0_0.length c0_0]) (t := 27) ?hr ?_; (case hd => rfl); (case hg => rfl); (case hr => first | (go_simp; done) | (go_simp; rfl)); intro gb438 hg w12 hbox hb; have n0_ := Aside0.mk (below_step (by repeat (first | (with_reducible first | exact HB.out | apply below_alloc | apply pw_below_drewN | apply below_drew1) | exact HB.out)) hb); have n1_ := Aside0.mk (hbox); have n2_ := Aside0.mk ((by rw [hg]; exact (below_size (by repeat (first | (with_reducible first | exact HB.out | apply below_alloc | apply pw_below_drewN | apply below_drew1) | exact HB.out))) : w.heap.size ≤ gb438)); have n3_ := Aside0.mk ((by rw [hg]; exact (below_size (by repeat (first | (with_reducible first | exact HB.out | apply below_alloc | apply pw_below_drewN | apply below_drew1) | exact HB.out))) : w.heap.size ≤ gb438)); clear HB; have HB := n0_; have BK438 := n1_; have GW438 := n2_; have GE438 := n3_; clear n0_ n1_ n2_ n3_; clear hb hbox hg; have hcz13_0 : w12.cell? ⟨gb438, 0, none⟩ = some (.slice A0_0 l0_0.length c0_0) := (blk_cell BK438.out 0).trans rfl; have hfz13_0 := blk_frozen BK438.out 0) | ((with_reducible refine gate_callee (f := 56) rfl ?_); refine goesL_ (some 4) rfl rfl Try.func56 (by kernel_rfl) rfl #[.agg #[.slice A0_0 l0_0.length c0_0]] rfl (by (try simp only [List.map_toArray, List.map_cons, List.map_nil]); first | done | rfl | (simp only [List.length_drop, List.length_take]; rfl)) ?_; (with_reducible refine (impl_IsSemigroup.calls k _ _ l0_0 false _ ?side1 ?side2 A2.out).mono ?_); (case side1 => repeat (first | exact (Kd.C_below HR0_0.out HB.out) | (with_reducible refine Kd.C_alloc ?_ _) | (with_reducible refine Kd.C_drewN ?_ _) | (with_reducible refine Kd.C_drew ?_))); (case side2 => exact HC0_0.out); rintro e w14 ⟨rfl, hb⟩; refine ⟨_, rfl, ?_⟩; have n0_ := Aside0.mk (blk_below (g := gb438) (o := .cells #[.slice A0_0 l0_0.length c0_0] 27 (0, 0)) (by (with_reducible repeat (first | refine blk_drewN ?_ _ | refine blk_drew ?_ | refine blk_alloc ?_ _)); exact BK438.out) hb); have n1_ := Aside0.mk (below_step (by repeat (first | (with_reducible first | exact HB.out | apply below_alloc | apply pw_below_drewN | apply below_drew1 | refine below_set ?_ GE438.out) | exact HB.out)) hb); clear BK438; clear HB; have BK438 := n0_; have HB := n1_; clear n0_ n1_; (try clear hb); (try clear hb2); (try clear hk); (try clear hi)))
    go_ret
    exact ⟨by first | rfl | (simp [errW_none, errW_some] <;> rfl) | (simp [*, errW_none, errW_some] <;> rfl), by repeat (first | (with_reducible first | exact HB.out | apply below_alloc | apply pw_below_drewN | apply below_drew1 | refine below_set ?_ GE438.out) | exact HB.out)⟩
def laws_FnExactWilfNumber.f (k : Nat) (l0_0 : List Int) : Option (Bool) := (laws_szSemigroup.f l0_0 1048576).bind fun t443 => (if t443 < 0 then (some true) else ((laws_toSemigroup.f k l0_0).bind fun t444 => ((spec_WilfNumber.f k t444).bind fun t447 => ((laws_toSemigroup.f k l0_0).bind fun t448 => ((impl_WilfNumber.f k t448).bind fun t452 => (if t452 = t447 then ((laws_toSemigroup.f k l0_0).bind fun t453 => ((laws_eqSemigroup.f k t448 t453).bind fun t456 => (if t456 = true then (some true) else (some false)))) else (some false)))))))
set_option maxHeartbeats 8000000 in
set_option maxRecDepth 100000 in
theorem laws_FnExactWilfNumber.calls (k : Nat) (A0_0 : Option Addr) (c0_0 : Nat) (l0_0 : List Int) (r : Bool) (w : World) (hr0_0 : Kd.C (Kd.int .i64) w A0_0 l0_0.length l0_0) (hc0_0 : l0_0.length ≤ c0_0) (h : laws_FnExactWilfNumber.f k l0_0 = some r) :
    Calls Try.prog 6 #[.agg #[.slice A0_0 l0_0.length c0_0]] w fun e w' => e = .returned (.bool r) ∧ Below w.heap.size w w' := by
  have hu24 := Try.underlying24
  have hu27 := Try.underlying27
  have HR0_0 := Aside0.mk hr0_0
  have HC0_0 := Aside0.mk hc0_0
  clear hr0_0 hc0_0
  have HB := Aside0.mk (Below.refl w.heap.size w)
  have H : ((laws_szSemigroup.f l0_0 1048576).bind fun t443 => (if t443 < 0 then (some true) else ((laws_toSemigroup.f k l0_0).bind fun t444 => ((spec_WilfNumber.f k t444).bind fun t447 => ((laws_toSemigroup.f k l0_0).bind fun t448 => ((impl_WilfNumber.f k t448).bind fun t452 => (if t452 = t447 then ((laws_toSemigroup.f k l0_0).bind fun t453 => ((laws_eqSemigroup.f k t448 t453).bind fun t456 => (if t456 = true then (some true) else (some false)))) else (some false)))))))) = some r := h
  clear h
  replace H := Option.bind_eq_some_iff.mp H
  obtain ⟨t443, A20, H⟩ := H
  replace H : (if t443 < 0 then (some true) else ((laws_toSemigroup.f k l0_0).bind fun t444 => ((spec_WilfNumber.f k t444).bind fun t447 => ((laws_toSemigroup.f k l0_0).bind fun t448 => ((impl_WilfNumber.f k t448).bind fun t452 => (if t452 = t447 then ((laws_toSemigroup.f k l0_0).bind fun t453 => ((laws_eqSemigroup.f k t448 t453).bind fun t456 => (if t456 = true then (some true) else (some false)))) else (some false))))))) = some r := H
  have A2 := Aside0.mk A20
  clear A20
  by_cases c3 : t443 < 0
  · rw [if_pos c3] at H
    have c3b0 : decide (t443 < 0) = true := decide_eq_true c3
    clear c3
    obtain rfl := Option.some.inj H
    go_enter Try.func6, Try.ntmps6
    go_wp2_with (first | ((with_reducible refine gate_dst (N := 1) rfl ?_); refine box_event ?hg (N := 1) ?hd (cs := #[.slice A0_0 l0_0.length c0_0]) (t := 24) ?hr ?_; (case hd => rfl); (case hg => rfl); (case hr => first | (go_simp; done) | (go_simp; rfl)); intro gb442 hg w4 hbox hb; have n0_ := Aside0.mk (below_step (by repeat (first | (with_reducible first | exact HB.out | apply below_alloc | apply pw_below_drewN | apply below_drew1) | exact HB.out)) hb); have n1_ := Aside0.mk (hbox); have n2_ := Aside0.mk ((by rw [hg]; exact (below_size (by repeat (first | (with_reducible first | exact HB.out | apply below_alloc | apply pw_below_drewN | apply below_drew1) | exact HB.out))) : w.heap.size ≤ gb442)); have n3_ := Aside0.mk ((by rw [hg]; exact (below_size (by repeat (first | (with_reducible first | exact HB.out | apply below_alloc | apply pw_below_drewN | apply below_drew1) | exact HB.out))) : w.heap.size ≤ gb442)); clear HB; have HB := n0_; have BK442 := n1_; have GW442 := n2_; have GE442 := n3_; clear n0_ n1_ n2_ n3_; clear hb hbox hg; have hcz5_0 : w4.cell? ⟨gb442, 0, none⟩ = some (.slice A0_0 l0_0.length c0_0) := (blk_cell BK442.out 0).trans rfl; have hfz5_0 := blk_frozen BK442.out 0) | ((with_reducible refine gate_callee (f := 15) rfl ?_); refine goesL_ (some 9) rfl rfl Try.func15 (by kernel_rfl) rfl #[.agg #[.slice A0_0 l0_0.length c0_0], .int .i64 1048576] rfl (by (try simp only [List.map_toArray, List.map_cons, List.map_nil]); first | done | rfl | (simp only [List.length_drop, List.length_take]; rfl)) ?_; (with_reducible refine (laws_szSemigroup.calls _ _ l0_0 1048576 t443 _ ?side1 ?side2 A2.out).mono ?_); (case side1 => repeat (first | exact (Kd.C_below HR0_0.out HB.out) | (with_reducible refine Kd.C_alloc ?_ _) | (with_reducible refine Kd.C_drewN ?_ _) | (with_reducible refine Kd.C_drew ?_))); (case side2 => exact HC0_0.out); rintro e w6 ⟨rfl, hb⟩; refine ⟨_, rfl, ?_⟩; have n0_ := Aside0.mk (blk_below (g := gb442) (o := .cells #[.slice A0_0 l0_0.length c0_0] 24 (0, 0)) (by (with_reducible repeat (first | refine blk_drewN ?_ _ | refine blk_drew ?_ | refine blk_alloc ?_ _)); exact BK442.out) hb); have n1_ := Aside0.mk (below_step (by repeat (first | (with_reducible first | exact HB.out | apply below_alloc | apply pw_below_drewN | apply below_drew1 | refine below_set ?_ GE442.out) | exact HB.out)) hb); clear BK442; clear HB; have BK442 := n0_; have HB := n1_; clear n0_ n1_; (try clear hb); (try clear hb2); (try clear hk); (try clear hi)))
    go_ret
    exact ⟨by first | rfl | (simp [errW_none, errW_some] <;> rfl) | (simp [*, errW_none, errW_some] <;> rfl), by repeat (first | (with_reducible first | exact HB.out | apply below_alloc | apply pw_below_drewN | apply below_drew1 | refine below_set ?_ GE442.out) | exact HB.out)⟩
  · rw [if_neg c3] at H
    have c3b0 : decide (t443 < 0) = false := decide_eq_false c3
    clear c3
    replace H := Option.bind_eq_some_iff.mp H
    obtain ⟨t444, A70, H⟩ := H
    replace H : ((spec_WilfNumber.f k t444).bind fun t447 => ((laws_toSemigroup.f k l0_0).bind fun t448 => ((impl_WilfNumber.f k t448).bind fun t452 => (if t452 = t447 then ((laws_toSemigroup.f k l0_0).bind fun t453 => ((laws_eqSemigroup.f k t448 t453).bind fun t456 => (if t456 = true then (some true) else (some false)))) else (some false))))) = some r := H
    have A7 := Aside0.mk A70
    clear A70
    replace H := Option.bind_eq_some_iff.mp H
    obtain ⟨t447, A80, H⟩ := H
    replace H : ((laws_toSemigroup.f k l0_0).bind fun t448 => ((impl_WilfNumber.f k t448).bind fun t452 => (if t452 = t447 then ((laws_toSemigroup.f k l0_0).bind fun t453 => ((laws_eqSemigroup.f k t448 t453).bind fun t456 => (if t456 = true then (some true) else (some false)))) else (some false)))) = some r := H
    have A8 := Aside0.mk A80
    clear A80
    replace H := Option.bind_eq_some_iff.mp H
    obtain ⟨t448, A90, H⟩ := H
    replace H : ((impl_WilfNumber.f k t448).bind fun t452 => (if t452 = t447 then ((laws_toSemigroup.f k l0_0).bind fun t453 => ((laws_eqSemigroup.f k t448 t453).bind fun t456 => (if t456 = true then (some true) else (some false)))) else (some false))) = some r := H
    have A9 := Aside0.mk A90
    clear A90
    replace H := Option.bind_eq_some_iff.mp H
    obtain ⟨t452, A100, H⟩ := H
    replace H : (if t452 = t447 then ((laws_toSemigroup.f k l0_0).bind fun t453 => ((laws_eqSemigroup.f k t448 t453).bind fun t456 => (if t456 = true then (some true) else (some false)))) else (some false)) = some r := H
    have A10 := Aside0.mk A100
    clear A100
    by_cases c11 : t452 = t447
    · rw [if_pos c11] at H
      have c11b0 : (t452 == t447) = true := beq_iff_eq.mpr c11
      have c11b1 : (t452 != t447) = false := bne_eq_false_iff_eq.mpr c11
      clear c11
      replace H := Option.bind_eq_some_iff.mp H
      obtain ⟨t453, A120, H⟩ := H
      replace H : ((laws_eqSemigroup.f k t448 t453).bind fun t456 => (if t456 = true then (some true) else (some false))) = some r := H
      have A12 := Aside0.mk A120
      clear A120
      replace H := Option.bind_eq_some_iff.mp H
      obtain ⟨t456, A130, H⟩ := H
      replace H : (if t456 = true then (some true) else (some false)) = some r := H
      have A13 := Aside0.mk A130
      clear A130
      by_cases c14 : t456 = true
      · subst c14
        have H1 : (some true) = some r := by rw [if_pos rfl] at H; exact H
        clear H
        have H := H1
        clear H1
        obtain rfl := Option.some.inj H
        go_enter Try.func6, Try.ntmps6
        try go_wp2_with (first | ((with_reducible refine gate_dst (N := 1) rfl ?_); refine box_event ?hg (N := 1) ?hd (cs := #[.slice A0_0 l0_0.length c0_0]) (t := 24) ?hr ?_; (case hd => rfl); (case hg => rfl); (case hr => first | (go_simp; done) | (go_simp; rfl)); intro gb442 hg w15 hbox hb; have n0_ := Aside0.mk (below_step (by repeat (first | (with_reducible first | exact HB.out | apply below_alloc | apply pw_below_drewN | apply below_drew1) | exact HB.out)) hb); have n1_ := Aside0.mk (hbox); have n2_ := Aside0.mk ((by rw [hg]; exact (below_size (by repeat (first | (with_reducible first | exact HB.out | apply below_alloc | apply pw_below_drewN | apply below_drew1) | exact HB.out))) : w.heap.size ≤ gb442)); have n3_ := Aside0.mk ((by rw [hg]; exact (below_size (by repeat (first | (with_reducible first | exact HB.out | apply below_alloc | apply pw_below_drewN | apply below_drew1) | exact HB.out))) : w.heap.size ≤ gb442)); clear HB; have HB := n0_; have BK442 := n1_; have GW442 := n2_; have GE442 := n3_; clear n0_ n1_ n2_ n3_; clear hb hbox hg; have hcz16_0 : w15.cell? ⟨gb442, 0, none⟩ = some (.slice A0_0 l0_0.length c0_0) := (blk_cell BK442.out 0).trans rfl; have hfz16_0 := blk_frozen BK442.out 0) | ((with_reducible refine gate_callee (f := 15) rfl ?_); refine goesL_ (some 9) rfl rfl Try.func15 (by kernel_rfl) rfl #[.agg #[.slice A0_0 l0_0.length c0_0], .int .i64 1048576] rfl (by (try simp only [List.map_toArray, List.map_cons, List.map_nil]); first | done | rfl | (simp only [List.length_drop, List.length_take]; rfl)) ?_; (with_reducible refine (laws_szSemigroup.calls _ _ l0_0 1048576 t443 _ ?side1 ?side2 A2.out).mono ?_); (case side1 => repeat (first | exact (Kd.C_below HR0_0.out HB.out) | (with_reducible refine Kd.C_alloc ?_ _) | (with_reducible refine Kd.C_drewN ?_ _) | (with_reducible refine Kd.C_drew ?_))); (case side2 => exact HC0_0.out); rintro e w17 ⟨rfl, hb⟩; refine ⟨_, rfl, ?_⟩; have n0_ := Aside0.mk (blk_below (g := gb442) (o := .cells #[.slice A0_0 l0_0.length c0_0] 24 (0, 0)) (by (with_reducible repeat (first | refine blk_drewN ?_ _ | refine blk_drew ?_ | refine blk_alloc ?_ _)); exact BK442.out) hb); have n1_ := Aside0.mk (below_step (by repeat (first | (with_reducible first | exact HB.out | apply below_alloc | apply pw_below_drewN | apply below_drew1 | refine below_set ?_ GE442.out) | exact HB.out)) hb); clear BK442; clear HB; have BK442 := n0_; have HB := n1_; clear n0_ n1_; (try clear hb); (try clear hb2); (try clear hk); (try clear hi); have hcz18_0 : w17.cell? ⟨gb442, 0, none⟩ = some (.slice A0_0 l0_0.length c0_0) := (blk_cell BK442.out 0).trans rfl; have hfz18_0 := blk_frozen BK442.out 0) | ((with_reducible refine gate_callee (f := 17) rfl ?_); refine goesL_ (some 13) rfl rfl Try.func17 (by kernel_rfl) rfl #[.agg #[.slice A0_0 l0_0.length c0_0]] rfl (by (try simp only [List.map_toArray, List.map_cons, List.map_nil]); first | done | rfl | (simp only [List.length_drop, List.length_take]; rfl)) ?_; (with_reducible refine (laws_toSemigroup.calls k _ _ l0_0 t444 _ ?side1 ?side2 A7.out).mono ?_); (case side1 => repeat (first | exact (Kd.C_below HR0_0.out HB.out) | (with_reducible refine Kd.C_alloc ?_ _) | (with_reducible refine Kd.C_drewN ?_ _) | (with_reducible refine Kd.C_drew ?_))); (case side2 => exact HC0_0.out); rintro e w19 ⟨v445, rfl, ho0, hb⟩; refine ⟨_, rfl, ?_⟩; have n0_ := Aside0.mk (Kd.R_lower ho0 (below_size (by repeat (first | (with_reducible first | exact HB.out | apply below_alloc | apply pw_below_drewN | apply below_drew1 | refine below_set ?_ GE442.out) | exact HB.out)))); have n1_ := Aside0.mk (blk_below (g := gb442) (o := .cells #[.slice A0_0 l0_0.length c0_0] 24 (0, 0)) (by (with_reducible repeat (first | refine blk_drewN ?_ _ | refine blk_drew ?_ | refine blk_alloc ?_ _)); exact BK442.out) hb); have n2_ := Aside0.mk (below_step (by repeat (first | (with_reducible first | exact HB.out | apply below_alloc | apply pw_below_drewN | apply below_drew1 | refine below_set ?_ GE442.out) | exact HB.out)) hb); clear BK442; clear HB; have HO446 := n0_; have BK442 := n1_; have HB := n2_; clear n0_ n1_ n2_; (try clear hb); (try clear hb2); (try clear hk); (try clear hi); (try clear ho0); obtain ⟨Ao20, co20, eo20⟩ := Kd.R_slice HO446.out; subst eo20) | ((with_reducible refine gate_callee (f := 24) rfl ?_); refine goesL_ (some 14) rfl rfl Try.func24 (by kernel_rfl) rfl #[.agg #[.slice Ao20 t444.length co20]] rfl (by (try simp only [List.map_toArray, List.map_cons, List.map_nil]); first | done | rfl | (simp only [List.length_drop, List.length_take]; rfl)) ?_; (with_reducible refine (spec_WilfNumber.calls k _ _ t444 t447 _ ?side1 ?side2 A8.out).mono ?_); (case side1 => repeat (first | exact (Kd.R_reads' HO446.out).2.2 | (with_reducible refine Kd.C_alloc ?_ _) | (with_reducible refine Kd.C_drewN ?_ _) | (with_reducible refine Kd.C_drew ?_))); (case side2 => exact (Kd.R_reads' HO446.out).2.1); rintro e w21 ⟨rfl, hb⟩; refine ⟨_, rfl, ?_⟩; have n0_ := Aside0.mk (Kd.R_below (by (with_reducible repeat (first | apply Kd.R_alloc | apply Kd.R_drewN | apply Kd.R_drew)); exact HO446.out) hb); have n1_ := Aside0.mk (blk_below (g := gb442) (o := .cells #[.slice A0_0 l0_0.length c0_0] 24 (0, 0)) (by (with_reducible repeat (first | refine blk_drewN ?_ _ | refine blk_drew ?_ | refine blk_alloc ?_ _)); exact BK442.out) hb); have n2_ := Aside0.mk (below_step (by repeat (first | (with_reducible first | exact HB.out | apply below_alloc | apply pw_below_drewN | apply below_drew1 | refine below_set ?_ GE442.out) | exact HB.out)) hb); clear HO446; clear BK442; clear HB; have HO446 := n0_; have BK442 := n1_; have HB := n2_; clear n0_ n1_ n2_; (try clear hb); (try clear hb2); (try clear hk); (try clear hi); have hcz22_0 : w21.cell? ⟨gb442, 0, none⟩ = some (.slice A0_0 l0_0.length c0_0) := (blk_cell BK442.out 0).trans rfl; have hfz22_0 := blk_frozen BK442.out 0) | ((with_reducible refine gate_callee (f := 17) rfl ?_); refine goesL_ (some 16) rfl rfl Try.func17 (by kernel_rfl) rfl #[.agg #[.slice A0_0 l0_0.length c0_0]] rfl (by (try simp only [List.map_toArray, List.map_cons, List.map_nil]); first | done | rfl | (simp only [List.length_drop, List.length_take]; rfl)) ?_; (with_reducible refine (laws_toSemigroup.calls k _ _ l0_0 t448 _ ?side1 ?side2 A9.out).mono ?_); (case side1 => repeat (first | exact (Kd.C_below HR0_0.out HB.out) | (with_reducible refine Kd.C_alloc ?_ _) | (with_reducible refine Kd.C_drewN ?_ _) | (with_reducible refine Kd.C_drew ?_))); (case side2 => exact HC0_0.out); rintro e w23 ⟨v449, rfl, ho0, hb⟩; refine ⟨_, rfl, ?_⟩; have n0_ := Aside0.mk (Kd.R_elder' (by (with_reducible repeat (first | apply Kd.R_alloc | apply Kd.R_drewN | apply Kd.R_drew)); exact HO446.out) (Kd.R_base ho0) hb); have n1_ := Aside0.mk (Kd.R_lower (Kd.R_new' ho0 (Kd.R_lt (by (with_reducible repeat (first | apply Kd.R_alloc | apply Kd.R_drewN | apply Kd.R_drew)); exact HO446.out))) (below_size (by repeat (first | (with_reducible first | exact HB.out | apply below_alloc | apply pw_below_drewN | apply below_drew1 | refine below_set ?_ GE442.out) | exact HB.out)))); have n2_ := Aside0.mk (blk_below (g := gb442) (o := .cells #[.slice A0_0 l0_0.length c0_0] 24 (0, 0)) (by (with_reducible repeat (first | refine blk_drewN ?_ _ | refine blk_drew ?_ | refine blk_alloc ?_ _)); exact BK442.out) hb); have n3_ := Aside0.mk (below_step (by repeat (first | (with_reducible first | exact HB.out | apply below_alloc | apply pw_below_drewN | apply below_drew1 | refine below_set ?_ GE442.out) | exact HB.out)) hb); clear HO446; clear BK442; clear HB; have HO446 := n0_; have HO450 := n1_; have BK442 := n2_; have HB := n3_; clear n0_ n1_ n2_ n3_; (try clear hb); (try clear hb2); (try clear hk); (try clear hi); (try clear ho0)) | ((with_reducible refine gate_dst (N := 5) rfl ?_); refine box_event ?hg (N := 5) ?hd (cs := #[.slice none 0 0]) (t := 27) ?hr ?_; (case hd => rfl); (case hg => rfl); (case hr => first | (go_simp; done) | (go_simp; rfl)); intro gb451 hg w24 hbox hb; have n0_ := Aside0.mk (Kd.R_below (by (with_reducible repeat (first | apply Kd.R_alloc | apply Kd.R_drewN | apply Kd.R_drew)); exact HO446.out) hb); have n1_ := Aside0.mk (Kd.R_below (by (with_reducible repeat (first | apply Kd.R_alloc | apply Kd.R_drewN | apply Kd.R_drew)); exact HO450.out) hb); have n2_ := Aside0.mk (blk_below (g := gb442) (o := .cells #[.slice A0_0 l0_0.length c0_0] 24 (0, 0)) (by (with_reducible repeat (first | refine blk_drewN ?_ _ | refine blk_drew ?_ | refine blk_alloc ?_ _)); exact BK442.out) hb); have n3_ := Aside0.mk (below_step (by repeat (first | (with_reducible first | exact HB.out | apply below_alloc | apply pw_below_drewN | apply below_drew1 | refine below_set ?_ GE442.out) | exact HB.out)) hb); have n4_ := Aside0.mk (hbox); have n5_ := Aside0.mk ((by rw [hg]; exact (below_size (by repeat (first | (with_reducible first | exact HB.out | apply below_alloc | apply pw_below_drewN | apply below_drew1 | refine below_set ?_ GE442.out) | exact HB.out))) : w.heap.size ≤ gb451)); have n6_ := Aside0.mk ((by rw [hg]; exact (below_size (by repeat (first | (with_reducible first | exact HB.out | apply below_alloc | apply pw_below_drewN | apply below_drew1 | refine below_set ?_ GE442.out) | exact HB.out))) : w.heap.size ≤ gb451)); have n7_ := Aside0.mk ((by rw [hg]; exact Nat.ne_of_lt (blk_lt (g := gb442) (o := .cells #[.slice A0_0 l0_0.length c0_0] 24 (0, 0)) (by (with_reducible repeat (first | refine blk_drewN ?_ _ | refine blk_drew ?_ | refine blk_alloc ?_ _)); exact BK442.out)) : gb442 ≠ gb451)); have n8_ := Aside0.mk ((by rw [hg]; exact Nat.ne_of_gt (blk_lt (g := gb442) (o := .cells #[.slice A0_0 l0_0.length c0_0] 24 (0, 0)) (by (with_reducible repeat (first | refine blk_drewN ?_ _ | refine blk_drew ?_ | refine blk_alloc ?_ _)); exact BK442.out)) : gb451 ≠ gb442)); clear HO446; clear HO450; clear BK442; clear HB; have HO446 := n0_; have HO450 := n1_; have BK442 := n2_; have HB := n3_; have BK451 := n4_; have GW451 := n5_; have GE451 := n6_; have NB442_451 := n7_; have NB451_442 := n8_; clear n0_ n1_ n2_ n3_ n4_ n5_ n6_ n7_ n8_; clear hb hbox hg; obtain ⟨Ao25, co25, eo25⟩ := Kd.R_slice HO450.out; subst eo25; have hnb26 := NB451_442.out; have hnc26 := NB442_451.out; have hcz27_0 : w24.cell? ⟨gb451, 0, none⟩ = some (.slice none 0 0) := (blk_cell BK451.out 0).trans rfl; have hfz27_0 := blk_frozen BK451.out 0) | ((with_reducible refine gate_callee (f := 25) rfl ?_); refine goesL_ (some 18) rfl rfl Try.func25 (by kernel_rfl) rfl #[.agg #[.slice Ao25 t448.length co25]] rfl (by (try simp only [List.map_toArray, List.map_cons, List.map_nil]); first | done | rfl | (simp only [List.length_drop, List.length_take]; rfl)) ?_; (with_reducible refine (impl_WilfNumber.calls k _ _ t448 t452 _ ?side1 ?side2 A10.out).mono ?_); (case side1 => refine (Kd.R_reads' (e := 3) (base := w.heap.size) (ok := fun k_ => (True ∧ some k_ ≠ (.slice Ao20 t444.length co20 : Value).ownBlock)) (n := t448.length) (c := co25) ?_).2.2; exact (by (with_reducible repeat (first | apply Kd.R_alloc | apply Kd.R_drewN | apply Kd.R_drew)); exact (Kd.R_mono (Kd.R_far (p := ⟨gb451, 0, none⟩) (Kd.R_types HO450.out BK451.out (by decide)) (fun _ hk => hk.2) (.slice Ao25 t448.length co25)) (fun _ h_ => h_.1)))); (case side2 => exact (Kd.R_reads' HO450.out).2.1); rintro e w28 ⟨rfl, hb⟩; refine ⟨_, rfl, ?_⟩; have n0_ := Aside0.mk (Kd.R_below (by (with_reducible repeat (first | apply Kd.R_alloc | apply Kd.R_drewN | apply Kd.R_drew)); exact (Kd.R_mono (Kd.R_far (p := ⟨gb451, 0, none⟩) (Kd.R_types HO446.out BK451.out (by decide)) (fun _ hk => hk.2) (.slice Ao25 t448.length co25)) (fun _ h_ => h_.1))) hb); have n1_ := Aside0.mk (Kd.R_below (by (with_reducible repeat (first | apply Kd.R_alloc | apply Kd.R_drewN | apply Kd.R_drew)); exact (Kd.R_mono (Kd.R_far (p := ⟨gb451, 0, none⟩) (Kd.R_types HO450.out BK451.out (by decide)) (fun _ hk => hk.2) (.slice Ao25 t448.length co25)) (fun _ h_ => h_.1))) hb); have n2_ := Aside0.mk (blk_below (g := gb442) (o := .cells #[.slice A0_0 l0_0.length c0_0] 24 (0, 0)) (by (with_reducible repeat (first | refine blk_drewN ?_ _ | refine blk_drew ?_ | refine blk_alloc ?_ _)); refine blk_far ?_ NB442_451.out _; (with_reducible repeat (first | refine blk_drewN ?_ _ | refine blk_drew ?_ | refine blk_alloc ?_ _)); exact BK442.out) hb); have n3_ := Aside0.mk (blk_below (g := gb451) (o := .cells #[.slice Ao25 t448.length co25] 27 (0, 0)) (by (with_reducible repeat (first | refine blk_drewN ?_ _ | refine blk_drew ?_ | refine blk_alloc ?_ _)); refine blk_put (cs := #[.slice none 0 0]) ?_ 0 _ rfl; (with_reducible repeat (first | refine blk_drewN ?_ _ | refine blk_drew ?_ | refine blk_alloc ?_ _)); exact BK451.out) hb); have n4_ := Aside0.mk (below_step (by repeat (first | (with_reducible first | exact HB.out | apply below_alloc | apply pw_below_drewN | apply below_drew1 | refine below_set ?_ GE442.out | refine below_set ?_ GE451.out) | exact HB.out)) hb); clear HO446; clear HO450; clear BK442; clear BK451; clear HB; have HO446 := n0_; have HO450 := n1_; have BK442 := n2_; have BK451 := n3_; have HB := n4_; clear n0_ n1_ n2_ n3_ n4_; (try clear hb); (try clear hb2); (try clear hk); (try clear hi)))
        have n0_ := Aside0.mk (Kd.R_drew HO446.out)
        have n1_ := Aside0.mk (Kd.R_drew HO450.out)
        have n2_ := Aside0.mk (blk_drew BK442.out)
        have n3_ := Aside0.mk (blk_drew BK451.out)
        have n4_ := Aside0.mk (below_drew1 HB.out)
        clear HO446
        clear HO450
        clear BK442
        clear BK451
        clear HB
        have HO446 := n0_
        have HO450 := n1_
        have BK442 := n2_
        have BK451 := n3_
        have HB := n4_
        clear n0_ n1_ n2_ n3_ n4_
        refine start_ (n := 5) (S := fun w' => w'.cell? ⟨gb451, 0, none⟩ = some (.slice Ao25 t448.length co25) ∧ w'.cell? ⟨gb442, 0, none⟩ = some (.slice A0_0 l0_0.length c0_0)) (ds := []) #[false, false, false, false, false] (by kernel_rfl) rfl rfl ⟨(blk_cell BK451.out 0).trans rfl, (blk_cell BK442.out 0).trans rfl⟩ (fun hHeld => ?_)
        generalize w28.drew = w29 at HO446 HO450 BK442 BK451 HB hHeld ⊢
        refine take_ (i := 0) (N := some 22) (v := ?_) (a' := ?_) #[true, false, false, false, false] rfl rfl (by kernel_rfl) (fun _ _ _ h => h) (Or.inl ⟨by rfl, ?_⟩) hHeld ?_ ?_
        rotate_left
        · rintro w' ⟨s0, s1⟩
          go_simp
          with_reducible rfl
        rotate_left
        · simp only [Act.put, List.setIfInBounds_toArray, List.set_cons_zero, List.set_cons_succ, i64_w, i32_w]
          rfl
        refine take_ (i := 1) (N := some 23) (v := ?_) (a' := ?_) #[true, true, false, false, false] rfl rfl (by kernel_rfl) (fun _ _ _ h => h) (Or.inl ⟨by rfl, ?_⟩) hHeld ?_ ?_
        rotate_left
        · rintro w' ⟨s0, s1⟩
          go_simp
          with_reducible rfl
        rotate_left
        · simp only [Act.put, List.setIfInBounds_toArray, List.set_cons_zero, List.set_cons_succ, i64_w, i32_w]
          rfl
        refine one_ (i := 2) (N := some 24) #[true, true, true, false, false] rfl rfl (by kernel_rfl) (by decide) (fun K hK => ?_)
        refine goes_ Try.func17 (by kernel_rfl) rfl #[.agg #[.slice A0_0 l0_0.length c0_0]] (by rfl) rfl rfl (by (try simp only [List.map_toArray, List.map_cons, List.map_nil]); first | done | rfl | (simp only [List.length_drop, List.length_take]; rfl)) ?_
        with_reducible refine (laws_toSemigroup.calls k _ _ l0_0 t453 _ ?side1 ?side2 A12.out).mono ?_
        (case side1 => repeat (first | exact (Kd.C_below HR0_0.out HB.out) | (with_reducible refine Kd.C_alloc ?_ _) | (with_reducible refine Kd.C_drewN ?_ _) | (with_reducible refine Kd.C_drew ?_)))
        (case side2 => exact HC0_0.out)
        rintro e w30 ⟨v454, rfl, ho0, hb⟩
        refine ⟨_, rfl, ?_⟩
        have n0_ := Aside0.mk (Kd.R_elder' (by (with_reducible repeat (first | apply Kd.R_alloc | apply Kd.R_drewN | apply Kd.R_drew)); exact HO446.out) (Kd.R_base ho0) hb)
        have n1_ := Aside0.mk (Kd.R_elder' (by (with_reducible repeat (first | apply Kd.R_alloc | apply Kd.R_drewN | apply Kd.R_drew)); exact HO450.out) (Kd.R_base ho0) hb)
        have n2_ := Aside0.mk (Kd.R_lower (Kd.R_new' (Kd.R_new' ho0 (Kd.R_lt (by (with_reducible repeat (first | apply Kd.R_alloc | apply Kd.R_drewN | apply Kd.R_drew)); exact HO446.out))) (Kd.R_lt (by (with_reducible repeat (first | apply Kd.R_alloc | apply Kd.R_drewN | apply Kd.R_drew)); exact HO450.out))) (below_size (by repeat (first | (with_reducible first | exact HB.out | apply below_alloc | apply pw_below_drewN | apply below_drew1 | refine below_set ?_ GE442.out | refine below_set ?_ GE451.out) | exact HB.out))))
        have n3_ := Aside0.mk (blk_below (g := gb442) (o := .cells #[.slice A0_0 l0_0.length c0_0] 24 (0, 0)) (by (with_reducible repeat (first | refine blk_drewN ?_ _ | refine blk_drew ?_ | refine blk_alloc ?_ _)); exact BK442.out) hb)
        have n4_ := Aside0.mk (blk_below (g := gb451) (o := .cells #[.slice Ao25 t448.length co25] 27 (0, 0)) (by (with_reducible repeat (first | refine blk_drewN ?_ _ | refine blk_drew ?_ | refine blk_alloc ?_ _)); exact BK451.out) hb)
        have n5_ := Aside0.mk (below_step (by repeat (first | (with_reducible first | exact HB.out | apply below_alloc | apply pw_below_drewN | apply below_drew1 | refine below_set ?_ GE442.out | refine below_set ?_ GE451.out) | exact HB.out)) hb)
        clear HO446
        clear HO450
        clear BK442
        clear BK451
        clear HB
        have HO446 := n0_
        have HO450 := n1_
        have HO455 := n2_
        have BK442 := n3_
        have BK451 := n4_
        have HB := n5_
        clear n0_ n1_ n2_ n3_ n4_ n5_
        (try clear hb)
        (try clear hb2)
        (try clear hk)
        (try clear hi)
        (try clear ho0)
        obtain ⟨Ao31, co31, eo31⟩ := Kd.R_slice HO455.out
        (first | subst eo31 | (injection eo31 with f1_ f2_ f3_; have f4_ := f1_.symm; have f5_ := f3_.symm; clear f1_ f2_ f3_; subst f4_; subst f5_))
        refine hK.out _ _ ⟨(blk_cell BK451.out 0).trans rfl, (blk_cell BK442.out 0).trans rfl⟩ (fun hHeld => ?_)
        clear hK K
        refine norm_ (a' := ?_) ?_ ?_
        rotate_left
        · show Act.put _ (some 24) _ = _
          simp only [Act.put, List.setIfInBounds_toArray, List.set_cons_zero, List.set_cons_succ, i64_w, i32_w]
          rfl
        refine one_ (i := 3) (N := some 25) #[true, true, true, true, false] rfl rfl (by kernel_rfl) (by decide) (fun K hK => ?_)
        refine goes_ Try.func19 (by kernel_rfl) rfl #[.agg #[.slice Ao25 t448.length co25], .agg #[.slice Ao31 t453.length co31]] (by rfl) rfl rfl (by (try simp only [List.map_toArray, List.map_cons, List.map_nil]); first | done | rfl | (simp only [List.length_drop, List.length_take]; rfl)) ?_
        with_reducible refine (laws_eqSemigroup.calls k _ _ t448 _ _ t453 true _ ?side1 ?side2 ?side3 ?side4 A13.out).mono ?_
        (case side1 => repeat (first | exact (Kd.R_reads' HO450.out).2.2 | (with_reducible refine Kd.C_alloc ?_ _) | (with_reducible refine Kd.C_drewN ?_ _) | (with_reducible refine Kd.C_drew ?_)))
        (case side2 => exact (Kd.R_reads' HO450.out).2.1)
        (case side3 => repeat (first | exact (Kd.R_reads' HO455.out).2.2 | (with_reducible refine Kd.C_alloc ?_ _) | (with_reducible refine Kd.C_drewN ?_ _) | (with_reducible refine Kd.C_drew ?_)))
        (case side4 => exact (Kd.R_reads' HO455.out).2.1)
        rintro e w32 ⟨rfl, hb⟩
        refine ⟨_, rfl, ?_⟩
        have n0_ := Aside0.mk (Kd.R_below (by (with_reducible repeat (first | apply Kd.R_alloc | apply Kd.R_drewN | apply Kd.R_drew)); exact HO446.out) hb)
        have n1_ := Aside0.mk (Kd.R_below (by (with_reducible repeat (first | apply Kd.R_alloc | apply Kd.R_drewN | apply Kd.R_drew)); exact HO450.out) hb)
        have n2_ := Aside0.mk (Kd.R_below (by (with_reducible repeat (first | apply Kd.R_alloc | apply Kd.R_drewN | apply Kd.R_drew)); exact HO455.out) hb)
        have n3_ := Aside0.mk (blk_below (g := gb442) (o := .cells #[.slice A0_0 l0_0.length c0_0] 24 (0, 0)) (by (with_reducible repeat (first | refine blk_drewN ?_ _ | refine blk_drew ?_ | refine blk_alloc ?_ _)); exact BK442.out) hb)
        have n4_ := Aside0.mk (blk_below (g := gb451) (o := .cells #[.slice Ao25 t448.length co25] 27 (0, 0)) (by (with_reducible repeat (first | refine blk_drewN ?_ _ | refine blk_drew ?_ | refine blk_alloc ?_ _)); exact BK451.out) hb)
        have n5_ := Aside0.mk (below_step (by repeat (first | (with_reducible first | exact HB.out | apply below_alloc | apply pw_below_drewN | apply below_drew1 | refine below_set ?_ GE442.out | refine below_set ?_ GE451.out) | exact HB.out)) hb)
        clear HO446
        clear HO450
        clear HO455
        clear BK442
        clear BK451
        clear HB
        have HO446 := n0_
        have HO450 := n1_
        have HO455 := n2_
        have BK442 := n3_
        have BK451 := n4_
        have HB := n5_
        clear n0_ n1_ n2_ n3_ n4_ n5_
        (try clear hb)
        (try clear hb2)
        (try clear hk)
        (try clear hi)
        refine hK.out _ _ ⟨(blk_cell BK451.out 0).trans rfl, (blk_cell BK442.out 0).trans rfl⟩ (fun hHeld => ?_)
        clear hK K
        refine norm_ (a' := ?_) ?_ ?_
        rotate_left
        · show Act.put _ (some 25) _ = _
          simp only [Act.put, List.setIfInBounds_toArray, List.set_cons_zero, List.set_cons_succ, i64_w, i32_w]
          rfl
        refine pure_ (i := 4) (N := some 26) (v := ?_) (a' := ?_) #[true, true, true, true, true] rfl rfl (by kernel_rfl) (fun _ _ _ h => h) (Or.inl ⟨by rfl, ?_⟩) ?_ ?_
        rotate_left
        · intro w'
          go_simp
          with_reducible rfl
        rotate_left
        · simp only [Act.put, List.setIfInBounds_toArray, List.set_cons_zero, List.set_cons_succ, i64_w, i32_w]
          rfl
        refine done_ (by kernel_rfl) ?_
        try go_wp2
        go_ret
        exact ⟨by first | rfl | (simp [errW_none, errW_some] <;> rfl) | (simp [*, errW_none, errW_some] <;> rfl), by repeat (first | (with_reducible first | exact HB.out | apply below_alloc | apply pw_below_drewN | apply below_drew1 | refine below_set ?_ GE442.out | refine below_set ?_ GE451.out) | exact HB.out)⟩
      · replace c14 := Bool.eq_false_iff.mpr c14
        subst c14
        have H1 : (some false) = some r := by rw [if_neg (show ¬ (false = true) by decide)] at H; exact H
        clear H
        have H := H1
        clear H1
        obtain rfl := Option.some.inj H
        go_enter Try.func6, Try.ntmps6
        try go_wp2_with (first | ((with_reducible refine gate_dst (N := 1) rfl ?_); refine box_event ?hg (N := 1) ?hd (cs := #[.slice A0_0 l0_0.length c0_0]) (t := 24) ?hr ?_; (case hd => rfl); (case hg => rfl); (case hr => first | (go_simp; done) | (go_simp; rfl)); intro gb442 hg w33 hbox hb; have n0_ := Aside0.mk (below_step (by repeat (first | (with_reducible first | exact HB.out | apply below_alloc | apply pw_below_drewN | apply below_drew1) | exact HB.out)) hb); have n1_ := Aside0.mk (hbox); have n2_ := Aside0.mk ((by rw [hg]; exact (below_size (by repeat (first | (with_reducible first | exact HB.out | apply below_alloc | apply pw_below_drewN | apply below_drew1) | exact HB.out))) : w.heap.size ≤ gb442)); have n3_ := Aside0.mk ((by rw [hg]; exact (below_size (by repeat (first | (with_reducible first | exact HB.out | apply below_alloc | apply pw_below_drewN | apply below_drew1) | exact HB.out))) : w.heap.size ≤ gb442)); clear HB; have HB := n0_; have BK442 := n1_; have GW442 := n2_; have GE442 := n3_; clear n0_ n1_ n2_ n3_; clear hb hbox hg; have hcz34_0 : w33.cell? ⟨gb442, 0, none⟩ = some (.slice A0_0 l0_0.length c0_0) := (blk_cell BK442.out 0).trans rfl; have hfz34_0 := blk_frozen BK442.out 0) | ((with_reducible refine gate_callee (f := 15) rfl ?_); refine goesL_ (some 9) rfl rfl Try.func15 (by kernel_rfl) rfl #[.agg #[.slice A0_0 l0_0.length c0_0], .int .i64 1048576] rfl (by (try simp only [List.map_toArray, List.map_cons, List.map_nil]); first | done | rfl | (simp only [List.length_drop, List.length_take]; rfl)) ?_; (with_reducible refine (laws_szSemigroup.calls _ _ l0_0 1048576 t443 _ ?side1 ?side2 A2.out).mono ?_); (case side1 => repeat (first | exact (Kd.C_below HR0_0.out HB.out) | (with_reducible refine Kd.C_alloc ?_ _) | (with_reducible refine Kd.C_drewN ?_ _) | (with_reducible refine Kd.C_drew ?_))); (case side2 => exact HC0_0.out); rintro e w35 ⟨rfl, hb⟩; refine ⟨_, rfl, ?_⟩; have n0_ := Aside0.mk (blk_below (g := gb442) (o := .cells #[.slice A0_0 l0_0.length c0_0] 24 (0, 0)) (by (with_reducible repeat (first | refine blk_drewN ?_ _ | refine blk_drew ?_ | refine blk_alloc ?_ _)); exact BK442.out) hb); have n1_ := Aside0.mk (below_step (by repeat (first | (with_reducible first | exact HB.out | apply below_alloc | apply pw_below_drewN | apply below_drew1 | refine below_set ?_ GE442.out) | exact HB.out)) hb); clear BK442; clear HB; have BK442 := n0_; have HB := n1_; clear n0_ n1_; (try clear hb); (try clear hb2); (try clear hk); (try clear hi); have hcz36_0 : w35.cell? ⟨gb442, 0, none⟩ = some (.slice A0_0 l0_0.length c0_0) := (blk_cell BK442.out 0).trans rfl; have hfz36_0 := blk_frozen BK442.out 0) | ((with_reducible refine gate_callee (f := 17) rfl ?_); refine goesL_ (some 13) rfl rfl Try.func17 (by kernel_rfl) rfl #[.agg #[.slice A0_0 l0_0.length c0_0]] rfl (by (try simp only [List.map_toArray, List.map_cons, List.map_nil]); first | done | rfl | (simp only [List.length_drop, List.length_take]; rfl)) ?_; (with_reducible refine (laws_toSemigroup.calls k _ _ l0_0 t444 _ ?side1 ?side2 A7.out).mono ?_); (case side1 => repeat (first | exact (Kd.C_below HR0_0.out HB.out) | (with_reducible refine Kd.C_alloc ?_ _) | (with_reducible refine Kd.C_drewN ?_ _) | (with_reducible refine Kd.C_drew ?_))); (case side2 => exact HC0_0.out); rintro e w37 ⟨v445, rfl, ho0, hb⟩; refine ⟨_, rfl, ?_⟩; have n0_ := Aside0.mk (Kd.R_lower ho0 (below_size (by repeat (first | (with_reducible first | exact HB.out | apply below_alloc | apply pw_below_drewN | apply below_drew1 | refine below_set ?_ GE442.out) | exact HB.out)))); have n1_ := Aside0.mk (blk_below (g := gb442) (o := .cells #[.slice A0_0 l0_0.length c0_0] 24 (0, 0)) (by (with_reducible repeat (first | refine blk_drewN ?_ _ | refine blk_drew ?_ | refine blk_alloc ?_ _)); exact BK442.out) hb); have n2_ := Aside0.mk (below_step (by repeat (first | (with_reducible first | exact HB.out | apply below_alloc | apply pw_below_drewN | apply below_drew1 | refine below_set ?_ GE442.out) | exact HB.out)) hb); clear BK442; clear HB; have HO446 := n0_; have BK442 := n1_; have HB := n2_; clear n0_ n1_ n2_; (try clear hb); (try clear hb2); (try clear hk); (try clear hi); (try clear ho0); obtain ⟨Ao38, co38, eo38⟩ := Kd.R_slice HO446.out; subst eo38) | ((with_reducible refine gate_callee (f := 24) rfl ?_); refine goesL_ (some 14) rfl rfl Try.func24 (by kernel_rfl) rfl #[.agg #[.slice Ao38 t444.length co38]] rfl (by (try simp only [List.map_toArray, List.map_cons, List.map_nil]); first | done | rfl | (simp only [List.length_drop, List.length_take]; rfl)) ?_; (with_reducible refine (spec_WilfNumber.calls k _ _ t444 t447 _ ?side1 ?side2 A8.out).mono ?_); (case side1 => repeat (first | exact (Kd.R_reads' HO446.out).2.2 | (with_reducible refine Kd.C_alloc ?_ _) | (with_reducible refine Kd.C_drewN ?_ _) | (with_reducible refine Kd.C_drew ?_))); (case side2 => exact (Kd.R_reads' HO446.out).2.1); rintro e w39 ⟨rfl, hb⟩; refine ⟨_, rfl, ?_⟩; have n0_ := Aside0.mk (Kd.R_below (by (with_reducible repeat (first | apply Kd.R_alloc | apply Kd.R_drewN | apply Kd.R_drew)); exact HO446.out) hb); have n1_ := Aside0.mk (blk_below (g := gb442) (o := .cells #[.slice A0_0 l0_0.length c0_0] 24 (0, 0)) (by (with_reducible repeat (first | refine blk_drewN ?_ _ | refine blk_drew ?_ | refine blk_alloc ?_ _)); exact BK442.out) hb); have n2_ := Aside0.mk (below_step (by repeat (first | (with_reducible first | exact HB.out | apply below_alloc | apply pw_below_drewN | apply below_drew1 | refine below_set ?_ GE442.out) | exact HB.out)) hb); clear HO446; clear BK442; clear HB; have HO446 := n0_; have BK442 := n1_; have HB := n2_; clear n0_ n1_ n2_; (try clear hb); (try clear hb2); (try clear hk); (try clear hi); have hcz40_0 : w39.cell? ⟨gb442, 0, none⟩ = some (.slice A0_0 l0_0.length c0_0) := (blk_cell BK442.out 0).trans rfl; have hfz40_0 := blk_frozen BK442.out 0) | ((with_reducible refine gate_callee (f := 17) rfl ?_); refine goesL_ (some 16) rfl rfl Try.func17 (by kernel_rfl) rfl #[.agg #[.slice A0_0 l0_0.length c0_0]] rfl (by (try simp only [List.map_toArray, List.map_cons, List.map_nil]); first | done | rfl | (simp only [List.length_drop, List.length_take]; rfl)) ?_; (with_reducible refine (laws_toSemigroup.calls k _ _ l0_0 t448 _ ?side1 ?side2 A9.out).mono ?_); (case side1 => repeat (first | exact (Kd.C_below HR0_0.out HB.out) | (with_reducible refine Kd.C_alloc ?_ _) | (with_reducible refine Kd.C_drewN ?_ _) | (with_reducible refine Kd.C_drew ?_))); (case side2 => exact HC0_0.out); rintro e w41 ⟨v449, rfl, ho0, hb⟩; refine ⟨_, rfl, ?_⟩; have n0_ := Aside0.mk (Kd.R_elder' (by (with_reducible repeat (first | apply Kd.R_alloc | apply Kd.R_drewN | apply Kd.R_drew)); exact HO446.out) (Kd.R_base ho0) hb); have n1_ := Aside0.mk (Kd.R_lower (Kd.R_new' ho0 (Kd.R_lt (by (with_reducible repeat (first | apply Kd.R_alloc | apply Kd.R_drewN | apply Kd.R_drew)); exact HO446.out))) (below_size (by repeat (first | (with_reducible first | exact HB.out | apply below_alloc | apply pw_below_drewN | apply below_drew1 | refine below_set ?_ GE442.out) | exact HB.out)))); have n2_ := Aside0.mk (blk_below (g := gb442) (o := .cells #[.slice A0_0 l0_0.length c0_0] 24 (0, 0)) (by (with_reducible repeat (first | refine blk_drewN ?_ _ | refine blk_drew ?_ | refine blk_alloc ?_ _)); exact BK442.out) hb); have n3_ := Aside0.mk (below_step (by repeat (first | (with_reducible first | exact HB.out | apply below_alloc | apply pw_below_drewN | apply below_drew1 | refine below_set ?_ GE442.out) | exact HB.out)) hb); clear HO446; clear BK442; clear HB; have HO446 := n0_; have HO450 := n1_; have BK442 := n2_; have HB := n3_; clear n0_ n1_ n2_ n3_; (try clear hb); (try clear hb2); (try clear hk); (try clear hi); (try clear ho0)) | ((with_reducible refine gate_dst (N := 5) rfl ?_); refine box_event ?hg (N := 5) ?hd (cs := #[.slice none 0 0]) (t := 27) ?hr ?_; (case hd => rfl); (case hg => rfl); (case hr => first | (go_simp; done) | (go_simp; rfl)); intro gb451 hg w42 hbox hb; have n0_ := Aside0.mk (Kd.R_below (by (with_reducible repeat (first | apply Kd.R_alloc | apply Kd.R_drewN | apply Kd.R_drew)); exact HO446.out) hb); have n1_ := Aside0.mk (Kd.R_below (by (with_reducible repeat (first | apply Kd.R_alloc | apply Kd.R_drewN | apply Kd.R_drew)); exact HO450.out) hb); have n2_ := Aside0.mk (blk_below (g := gb442) (o := .cells #[.slice A0_0 l0_0.length c0_0] 24 (0, 0)) (by (with_reducible repeat (first | refine blk_drewN ?_ _ | refine blk_drew ?_ | refine blk_alloc ?_ _)); exact BK442.out) hb); have n3_ := Aside0.mk (below_step (by repeat (first | (with_reducible first | exact HB.out | apply below_alloc | apply pw_below_drewN | apply below_drew1 | refine below_set ?_ GE442.out) | exact HB.out)) hb); have n4_ := Aside0.mk (hbox); have n5_ := Aside0.mk ((by rw [hg]; exact (below_size (by repeat (first | (with_reducible first | exact HB.out | apply below_alloc | apply pw_below_drewN | apply below_drew1 | refine below_set ?_ GE442.out) | exact HB.out))) : w.heap.size ≤ gb451)); have n6_ := Aside0.mk ((by rw [hg]; exact (below_size (by repeat (first | (with_reducible first | exact HB.out | apply below_alloc | apply pw_below_drewN | apply below_drew1 | refine below_set ?_ GE442.out) | exact HB.out))) : w.heap.size ≤ gb451)); have n7_ := Aside0.mk ((by rw [hg]; exact Nat.ne_of_lt (blk_lt (g := gb442) (o := .cells #[.slice A0_0 l0_0.length c0_0] 24 (0, 0)) (by (with_reducible repeat (first | refine blk_drewN ?_ _ | refine blk_drew ?_ | refine blk_alloc ?_ _)); exact BK442.out)) : gb442 ≠ gb451)); have n8_ := Aside0.mk ((by rw [hg]; exact Nat.ne_of_gt (blk_lt (g := gb442) (o := .cells #[.slice A0_0 l0_0.length c0_0] 24 (0, 0)) (by (with_reducible repeat (first | refine blk_drewN ?_ _ | refine blk_drew ?_ | refine blk_alloc ?_ _)); exact BK442.out)) : gb451 ≠ gb442)); clear HO446; clear HO450; clear BK442; clear HB; have HO446 := n0_; have HO450 := n1_; have BK442 := n2_; have HB := n3_; have BK451 := n4_; have GW451 := n5_; have GE451 := n6_; have NB442_451 := n7_; have NB451_442 := n8_; clear n0_ n1_ n2_ n3_ n4_ n5_ n6_ n7_ n8_; clear hb hbox hg; obtain ⟨Ao43, co43, eo43⟩ := Kd.R_slice HO450.out; subst eo43; have hnb44 := NB451_442.out; have hnc44 := NB442_451.out; have hcz45_0 : w42.cell? ⟨gb451, 0, none⟩ = some (.slice none 0 0) := (blk_cell BK451.out 0).trans rfl; have hfz45_0 := blk_frozen BK451.out 0) | ((with_reducible refine gate_callee (f := 25) rfl ?_); refine goesL_ (some 18) rfl rfl Try.func25 (by kernel_rfl) rfl #[.agg #[.slice Ao43 t448.length co43]] rfl (by (try simp only [List.map_toArray, List.map_cons, List.map_nil]); first | done | rfl | (simp only [List.length_drop, List.length_take]; rfl)) ?_; (with_reducible refine (impl_WilfNumber.calls k _ _ t448 t452 _ ?side1 ?side2 A10.out).mono ?_); (case side1 => refine (Kd.R_reads' (e := 3) (base := w.heap.size) (ok := fun k_ => (True ∧ some k_ ≠ (.slice Ao38 t444.length co38 : Value).ownBlock)) (n := t448.length) (c := co43) ?_).2.2; exact (by (with_reducible repeat (first | apply Kd.R_alloc | apply Kd.R_drewN | apply Kd.R_drew)); exact (Kd.R_mono (Kd.R_far (p := ⟨gb451, 0, none⟩) (Kd.R_types HO450.out BK451.out (by decide)) (fun _ hk => hk.2) (.slice Ao43 t448.length co43)) (fun _ h_ => h_.1)))); (case side2 => exact (Kd.R_reads' HO450.out).2.1); rintro e w46 ⟨rfl, hb⟩; refine ⟨_, rfl, ?_⟩; have n0_ := Aside0.mk (Kd.R_below (by (with_reducible repeat (first | apply Kd.R_alloc | apply Kd.R_drewN | apply Kd.R_drew)); exact (Kd.R_mono (Kd.R_far (p := ⟨gb451, 0, none⟩) (Kd.R_types HO446.out BK451.out (by decide)) (fun _ hk => hk.2) (.slice Ao43 t448.length co43)) (fun _ h_ => h_.1))) hb); have n1_ := Aside0.mk (Kd.R_below (by (with_reducible repeat (first | apply Kd.R_alloc | apply Kd.R_drewN | apply Kd.R_drew)); exact (Kd.R_mono (Kd.R_far (p := ⟨gb451, 0, none⟩) (Kd.R_types HO450.out BK451.out (by decide)) (fun _ hk => hk.2) (.slice Ao43 t448.length co43)) (fun _ h_ => h_.1))) hb); have n2_ := Aside0.mk (blk_below (g := gb442) (o := .cells #[.slice A0_0 l0_0.length c0_0] 24 (0, 0)) (by (with_reducible repeat (first | refine blk_drewN ?_ _ | refine blk_drew ?_ | refine blk_alloc ?_ _)); refine blk_far ?_ NB442_451.out _; (with_reducible repeat (first | refine blk_drewN ?_ _ | refine blk_drew ?_ | refine blk_alloc ?_ _)); exact BK442.out) hb); have n3_ := Aside0.mk (blk_below (g := gb451) (o := .cells #[.slice Ao43 t448.length co43] 27 (0, 0)) (by (with_reducible repeat (first | refine blk_drewN ?_ _ | refine blk_drew ?_ | refine blk_alloc ?_ _)); refine blk_put (cs := #[.slice none 0 0]) ?_ 0 _ rfl; (with_reducible repeat (first | refine blk_drewN ?_ _ | refine blk_drew ?_ | refine blk_alloc ?_ _)); exact BK451.out) hb); have n4_ := Aside0.mk (below_step (by repeat (first | (with_reducible first | exact HB.out | apply below_alloc | apply pw_below_drewN | apply below_drew1 | refine below_set ?_ GE442.out | refine below_set ?_ GE451.out) | exact HB.out)) hb); clear HO446; clear HO450; clear BK442; clear BK451; clear HB; have HO446 := n0_; have HO450 := n1_; have BK442 := n2_; have BK451 := n3_; have HB := n4_; clear n0_ n1_ n2_ n3_ n4_; (try clear hb); (try clear hb2); (try clear hk); (try clear hi)))
        have n0_ := Aside0.mk (Kd.R_drew HO446.out)
        have n1_ := Aside0.mk (Kd.R_drew HO450.out)
        have n2_ := Aside0.mk (blk_drew BK442.out)
        have n3_ := Aside0.mk (blk_drew BK451.out)
        have n4_ := Aside0.mk (below_drew1 HB.out)
        clear HO446
        clear HO450
        clear BK442
        clear BK451
        clear HB
        have HO446 := n0_
        have HO450 := n1_
        have BK442 := n2_
        have BK451 := n3_
        have HB := n4_
        clear n0_ n1_ n2_ n3_ n4_
        refine start_ (n := 5) (S := fun w' => w'.cell? ⟨gb451, 0, none⟩ = some (.slice Ao43 t448.length co43) ∧ w'.cell? ⟨gb442, 0, none⟩ = some (.slice A0_0 l0_0.length c0_0)) (ds := []) #[false, false, false, false, false] (by kernel_rfl) rfl rfl ⟨(blk_cell BK451.out 0).trans rfl, (blk_cell BK442.out 0).trans rfl⟩ (fun hHeld => ?_)
        generalize w46.drew = w47 at HO446 HO450 BK442 BK451 HB hHeld ⊢
        refine take_ (i := 0) (N := some 22) (v := ?_) (a' := ?_) #[true, false, false, false, false] rfl rfl (by kernel_rfl) (fun _ _ _ h => h) (Or.inl ⟨by rfl, ?_⟩) hHeld ?_ ?_
        rotate_left
        · rintro w' ⟨s0, s1⟩
          go_simp
          with_reducible rfl
        rotate_left
        · simp only [Act.put, List.setIfInBounds_toArray, List.set_cons_zero, List.set_cons_succ, i64_w, i32_w]
          rfl
        refine take_ (i := 1) (N := some 23) (v := ?_) (a' := ?_) #[true, true, false, false, false] rfl rfl (by kernel_rfl) (fun _ _ _ h => h) (Or.inl ⟨by rfl, ?_⟩) hHeld ?_ ?_
        rotate_left
        · rintro w' ⟨s0, s1⟩
          go_simp
          with_reducible rfl
        rotate_left
        · simp only [Act.put, List.setIfInBounds_toArray, List.set_cons_zero, List.set_cons_succ, i64_w, i32_w]
          rfl
        refine one_ (i := 2) (N := some 24) #[true, true, true, false, false] rfl rfl (by kernel_rfl) (by decide) (fun K hK => ?_)
        refine goes_ Try.func17 (by kernel_rfl) rfl #[.agg #[.slice A0_0 l0_0.length c0_0]] (by rfl) rfl rfl (by (try simp only [List.map_toArray, List.map_cons, List.map_nil]); first | done | rfl | (simp only [List.length_drop, List.length_take]; rfl)) ?_
        with_reducible refine (laws_toSemigroup.calls k _ _ l0_0 t453 _ ?side1 ?side2 A12.out).mono ?_
        (case side1 => repeat (first | exact (Kd.C_below HR0_0.out HB.out) | (with_reducible refine Kd.C_alloc ?_ _) | (with_reducible refine Kd.C_drewN ?_ _) | (with_reducible refine Kd.C_drew ?_)))
        (case side2 => exact HC0_0.out)
        rintro e w48 ⟨v454, rfl, ho0, hb⟩
        refine ⟨_, rfl, ?_⟩
        have n0_ := Aside0.mk (Kd.R_elder' (by (with_reducible repeat (first | apply Kd.R_alloc | apply Kd.R_drewN | apply Kd.R_drew)); exact HO446.out) (Kd.R_base ho0) hb)
        have n1_ := Aside0.mk (Kd.R_elder' (by (with_reducible repeat (first | apply Kd.R_alloc | apply Kd.R_drewN | apply Kd.R_drew)); exact HO450.out) (Kd.R_base ho0) hb)
        have n2_ := Aside0.mk (Kd.R_lower (Kd.R_new' (Kd.R_new' ho0 (Kd.R_lt (by (with_reducible repeat (first | apply Kd.R_alloc | apply Kd.R_drewN | apply Kd.R_drew)); exact HO446.out))) (Kd.R_lt (by (with_reducible repeat (first | apply Kd.R_alloc | apply Kd.R_drewN | apply Kd.R_drew)); exact HO450.out))) (below_size (by repeat (first | (with_reducible first | exact HB.out | apply below_alloc | apply pw_below_drewN | apply below_drew1 | refine below_set ?_ GE442.out | refine below_set ?_ GE451.out) | exact HB.out))))
        have n3_ := Aside0.mk (blk_below (g := gb442) (o := .cells #[.slice A0_0 l0_0.length c0_0] 24 (0, 0)) (by (with_reducible repeat (first | refine blk_drewN ?_ _ | refine blk_drew ?_ | refine blk_alloc ?_ _)); exact BK442.out) hb)
        have n4_ := Aside0.mk (blk_below (g := gb451) (o := .cells #[.slice Ao43 t448.length co43] 27 (0, 0)) (by (with_reducible repeat (first | refine blk_drewN ?_ _ | refine blk_drew ?_ | refine blk_alloc ?_ _)); exact BK451.out) hb)
        have n5_ := Aside0.mk (below_step (by repeat (first | (with_reducible first | exact HB.out | apply below_alloc | apply pw_below_drewN | apply below_drew1 | refine below_set ?_ GE442.out | refine below_set ?_ GE451.out) | exact HB.out)) hb)
        clear HO446
        clear HO450
        clear BK442
        clear BK451
        clear HB
        have HO446 := n0_
        have HO450 := n1_
        have HO455 := n2_
        have BK442 := n3_
        have BK451 := n4_
        have HB := n5_
        clear n0_ n1_ n2_ n3_ n4_ n5_
        (try clear hb)
        (try clear hb2)
        (try clear hk)
        (try clear hi)
        (try clear ho0)
        obtain ⟨Ao49, co49, eo49⟩ := Kd.R_slice HO455.out
        (first | subst eo49 | (injection eo49 with f1_ f2_ f3_; have f4_ := f1_.symm; have f5_ := f3_.symm; clear f1_ f2_ f3_; subst f4_; subst f5_))
        refine hK.out _ _ ⟨(blk_cell BK451.out 0).trans rfl, (blk_cell BK442.out 0).trans rfl⟩ (fun hHeld => ?_)
        clear hK K
        refine norm_ (a' := ?_) ?_ ?_
        rotate_left
        · show Act.put _ (some 24) _ = _
          simp only [Act.put, List.setIfInBounds_toArray, List.set_cons_zero, List.set_cons_succ, i64_w, i32_w]
          rfl
        refine one_ (i := 3) (N := some 25) #[true, true, true, true, false] rfl rfl (by kernel_rfl) (by decide) (fun K hK => ?_)
        refine goes_ Try.func19 (by kernel_rfl) rfl #[.agg #[.slice Ao43 t448.length co43], .agg #[.slice Ao49 t453.length co49]] (by rfl) rfl rfl (by (try simp only [List.map_toArray, List.map_cons, List.map_nil]); first | done | rfl | (simp only [List.length_drop, List.length_take]; rfl)) ?_
        with_reducible refine (laws_eqSemigroup.calls k _ _ t448 _ _ t453 false _ ?side1 ?side2 ?side3 ?side4 A13.out).mono ?_
        (case side1 => repeat (first | exact (Kd.R_reads' HO450.out).2.2 | (with_reducible refine Kd.C_alloc ?_ _) | (with_reducible refine Kd.C_drewN ?_ _) | (with_reducible refine Kd.C_drew ?_)))
        (case side2 => exact (Kd.R_reads' HO450.out).2.1)
        (case side3 => repeat (first | exact (Kd.R_reads' HO455.out).2.2 | (with_reducible refine Kd.C_alloc ?_ _) | (with_reducible refine Kd.C_drewN ?_ _) | (with_reducible refine Kd.C_drew ?_)))
        (case side4 => exact (Kd.R_reads' HO455.out).2.1)
        rintro e w50 ⟨rfl, hb⟩
        refine ⟨_, rfl, ?_⟩
        have n0_ := Aside0.mk (Kd.R_below (by (with_reducible repeat (first | apply Kd.R_alloc | apply Kd.R_drewN | apply Kd.R_drew)); exact HO446.out) hb)
        have n1_ := Aside0.mk (Kd.R_below (by (with_reducible repeat (first | apply Kd.R_alloc | apply Kd.R_drewN | apply Kd.R_drew)); exact HO450.out) hb)
        have n2_ := Aside0.mk (Kd.R_below (by (with_reducible repeat (first | apply Kd.R_alloc | apply Kd.R_drewN | apply Kd.R_drew)); exact HO455.out) hb)
        have n3_ := Aside0.mk (blk_below (g := gb442) (o := .cells #[.slice A0_0 l0_0.length c0_0] 24 (0, 0)) (by (with_reducible repeat (first | refine blk_drewN ?_ _ | refine blk_drew ?_ | refine blk_alloc ?_ _)); exact BK442.out) hb)
        have n4_ := Aside0.mk (blk_below (g := gb451) (o := .cells #[.slice Ao43 t448.length co43] 27 (0, 0)) (by (with_reducible repeat (first | refine blk_drewN ?_ _ | refine blk_drew ?_ | refine blk_alloc ?_ _)); exact BK451.out) hb)
        have n5_ := Aside0.mk (below_step (by repeat (first | (with_reducible first | exact HB.out | apply below_alloc | apply pw_below_drewN | apply below_drew1 | refine below_set ?_ GE442.out | refine below_set ?_ GE451.out) | exact HB.out)) hb)
        clear HO446
        clear HO450
        clear HO455
        clear BK442
        clear BK451
        clear HB
        have HO446 := n0_
        have HO450 := n1_
        have HO455 := n2_
        have BK442 := n3_
        have BK451 := n4_
        have HB := n5_
        clear n0_ n1_ n2_ n3_ n4_ n5_
        (try clear hb)
        (try clear hb2)
        (try clear hk)
        (try clear hi)
        refine hK.out _ _ ⟨(blk_cell BK451.out 0).trans rfl, (blk_cell BK442.out 0).trans rfl⟩ (fun hHeld => ?_)
        clear hK K
        refine norm_ (a' := ?_) ?_ ?_
        rotate_left
        · show Act.put _ (some 25) _ = _
          simp only [Act.put, List.setIfInBounds_toArray, List.set_cons_zero, List.set_cons_succ, i64_w, i32_w]
          rfl
        refine pure_ (i := 4) (N := some 26) (v := ?_) (a' := ?_) #[true, true, true, true, true] rfl rfl (by kernel_rfl) (fun _ _ _ h => h) (Or.inl ⟨by rfl, ?_⟩) ?_ ?_
        rotate_left
        · intro w'
          go_simp
          with_reducible rfl
        rotate_left
        · simp only [Act.put, List.setIfInBounds_toArray, List.set_cons_zero, List.set_cons_succ, i64_w, i32_w]
          rfl
        refine done_ (by kernel_rfl) ?_
        try go_wp2
        go_ret
        exact ⟨by first | rfl | (simp [errW_none, errW_some] <;> rfl) | (simp [*, errW_none, errW_some] <;> rfl), by repeat (first | (with_reducible first | exact HB.out | apply below_alloc | apply pw_below_drewN | apply below_drew1 | refine below_set ?_ GE442.out | refine below_set ?_ GE451.out) | exact HB.out)⟩
    · rw [if_neg c11] at H
      have c11b0 : (t452 == t447) = false := beq_eq_false_iff_ne.mpr c11
      have c11b1 : (t452 != t447) = true := bne_iff_ne.mpr c11
      obtain rfl := Option.some.inj H
      go_enter Try.func6, Try.ntmps6
      go_wp2_with (first | ((with_reducible refine gate_dst (N := 1) rfl ?_); refine box_event ?hg (N := 1) ?hd (cs := #[.slice A0_0 l0_0.length c0_0]) (t := 24) ?hr ?_; (case hd => rfl); (case hg => rfl); (case hr => first | (go_simp; done) | (go_simp; rfl)); intro gb442 hg w51 hbox hb; have n0_ := Aside0.mk (below_step (by repeat (first | (with_reducible first | exact HB.out | apply below_alloc | apply pw_below_drewN | apply below_drew1) | exact HB.out)) hb); have n1_ := Aside0.mk (hbox); have n2_ := Aside0.mk ((by rw [hg]; exact (below_size (by repeat (first | (with_reducible first | exact HB.out | apply below_alloc | apply pw_below_drewN | apply below_drew1) | exact HB.out))) : w.heap.size ≤ gb442)); have n3_ := Aside0.mk ((by rw [hg]; exact (below_size (by repeat (first | (with_reducible first | exact HB.out | apply below_alloc | apply pw_below_drewN | apply below_drew1) | exact HB.out))) : w.heap.size ≤ gb442)); clear HB; have HB := n0_; have BK442 := n1_; have GW442 := n2_; have GE442 := n3_; clear n0_ n1_ n2_ n3_; clear hb hbox hg; have hcz52_0 : w51.cell? ⟨gb442, 0, none⟩ = some (.slice A0_0 l0_0.length c0_0) := (blk_cell BK442.out 0).trans rfl; have hfz52_0 := blk_frozen BK442.out 0) | ((with_reducible refine gate_callee (f := 15) rfl ?_); refine goesL_ (some 9) rfl rfl Try.func15 (by kernel_rfl) rfl #[.agg #[.slice A0_0 l0_0.length c0_0], .int .i64 1048576] rfl (by (try simp only [List.map_toArray, List.map_cons, List.map_nil]); first | done | rfl | (simp only [List.length_drop, List.length_take]; rfl)) ?_; (with_reducible refine (laws_szSemigroup.calls _ _ l0_0 1048576 t443 _ ?side1 ?side2 A2.out).mono ?_); (case side1 => repeat (first | exact (Kd.C_below HR0_0.out HB.out) | (with_reducible refine Kd.C_alloc ?_ _) | (with_reducible refine Kd.C_drewN ?_ _) | (with_reducible refine Kd.C_drew ?_))); (case side2 => exact HC0_0.out); rintro e w53 ⟨rfl, hb⟩; refine ⟨_, rfl, ?_⟩; have n0_ := Aside0.mk (blk_below (g := gb442) (o := .cells #[.slice A0_0 l0_0.length c0_0] 24 (0, 0)) (by (with_reducible repeat (first | refine blk_drewN ?_ _ | refine blk_drew ?_ | refine blk_alloc ?_ _)); exact BK442.out) hb); have n1_ := Aside0.mk (below_step (by repeat (first | (with_reducible first | exact HB.out | apply below_alloc | apply pw_below_drewN | apply below_drew1 | refine below_set ?_ GE442.out) | exact HB.out)) hb); clear BK442; clear HB; have BK442 := n0_; have HB := n1_; clear n0_ n1_; (try clear hb); (try clear hb2); (try clear hk); (try clear hi); have hcz54_0 : w53.cell? ⟨gb442, 0, none⟩ = some (.slice A0_0 l0_0.length c0_0) := (blk_cell BK442.out 0).trans rfl; have hfz54_0 := blk_frozen BK442.out 0) | ((with_reducible refine gate_callee (f := 17) rfl ?_); refine goesL_ (some 13) rfl rfl Try.func17 (by kernel_rfl) rfl #[.agg #[.slice A0_0 l0_0.length c0_0]] rfl (by (try simp only [List.map_toArray, List.map_cons, List.map_nil]); first | done | rfl | (simp only [List.length_drop, List.length_take]; rfl)) ?_; (with_reducible refine (laws_toSemigroup.calls k _ _ l0_0 t444 _ ?side1 ?side2 A7.out).mono ?_); (case side1 => repeat (first | exact (Kd.C_below HR0_0.out HB.out) | (with_reducible refine Kd.C_alloc ?_ _) | (with_reducible refine Kd.C_drewN ?_ _) | (with_reducible refine Kd.C_drew ?_))); (case side2 => exact HC0_0.out); rintro e w55 ⟨v445, rfl, ho0, hb⟩; refine ⟨_, rfl, ?_⟩; have n0_ := Aside0.mk (Kd.R_lower ho0 (below_size (by repeat (first | (with_reducible first | exact HB.out | apply below_alloc | apply pw_below_drewN | apply below_drew1 | refine below_set ?_ GE442.out) | exact HB.out)))); have n1_ := Aside0.mk (blk_below (g := gb442) (o := .cells #[.slice A0_0 l0_0.length c0_0] 24 (0, 0)) (by (with_reducible repeat (first | refine blk_drewN ?_ _ | refine blk_drew ?_ | refine blk_alloc ?_ _)); exact BK442.out) hb); have n2_ := Aside0.mk (below_step (by repeat (first | (with_reducible first | exact HB.out | apply below_alloc | apply pw_below_drewN | apply below_drew1 | refine below_set ?_ GE442.out) | exact HB.out)) hb); clear BK442; clear HB; have HO446 := n0_; have BK442 := n1_; have HB := n2_; clear n0_ n1_ n2_; (try clear hb); (try clear hb2); (try clear hk); (try clear hi); (try clear ho0); obtain ⟨Ao56, co56, eo56⟩ := Kd.R_slice HO446.out; subst eo56) | ((with_reducible refine gate_callee (f := 24) rfl ?_); refine goesL_ (some 14) rfl rfl Try.func24 (by kernel_rfl) rfl #[.agg #[.slice Ao56 t444.length co56]] rfl (by (try simp only [List.map_toArray, List.map_cons, List.map_nil]); first | done | rfl | (simp only [List.length_drop, List.length_take]; rfl)) ?_; (with_reducible refine (spec_WilfNumber.calls k _ _ t444 t447 _ ?side1 ?side2 A8.out).mono ?_); (case side1 => repeat (first | exact (Kd.R_reads' HO446.out).2.2 | (with_reducible refine Kd.C_alloc ?_ _) | (with_reducible refine Kd.C_drewN ?_ _) | (with_reducible refine Kd.C_drew ?_))); (case side2 => exact (Kd.R_reads' HO446.out).2.1); rintro e w57 ⟨rfl, hb⟩; refine ⟨_, rfl, ?_⟩; have n0_ := Aside0.mk (Kd.R_below (by (with_reducible repeat (first | apply Kd.R_alloc | apply Kd.R_drewN | apply Kd.R_drew)); exact HO446.out) hb); have n1_ := Aside0.mk (blk_below (g := gb442) (o := .cells #[.slice A0_0 l0_0.length c0_0] 24 (0, 0)) (by (with_reducible repeat (first | refine blk_drewN ?_ _ | refine blk_drew ?_ | refine blk_alloc ?_ _)); exact BK442.out) hb); have n2_ := Aside0.mk (below_step (by repeat (first | (with_reducible first | exact HB.out | apply below_alloc | apply pw_below_drewN | apply below_drew1 | refine below_set ?_ GE442.out) | exact HB.out)) hb); clear HO446; clear BK442; clear HB; have HO446 := n0_; have BK442 := n1_; have HB := n2_; clear n0_ n1_ n2_; (try clear hb); (try clear hb2); (try clear hk); (try clear hi); have hcz58_0 : w57.cell? ⟨gb442, 0, none⟩ = some (.slice A0_0 l0_0.length c0_0) := (blk_cell BK442.out 0).trans rfl; have hfz58_0 := blk_frozen BK442.out 0) | ((with_reducible refine gate_callee (f := 17) rfl ?_); refine goesL_ (some 16) rfl rfl Try.func17 (by kernel_rfl) rfl #[.agg #[.slice A0_0 l0_0.length c0_0]] rfl (by (try simp only [List.map_toArray, List.map_cons, List.map_nil]); first | done | rfl | (simp only [List.length_drop, List.length_take]; rfl)) ?_; (with_reducible refine (laws_toSemigroup.calls k _ _ l0_0 t448 _ ?side1 ?side2 A9.out).mono ?_); (case side1 => repeat (first | exact (Kd.C_below HR0_0.out HB.out) | (with_reducible refine Kd.C_alloc ?_ _) | (with_reducible refine Kd.C_drewN ?_ _) | (with_reducible refine Kd.C_drew ?_))); (case side2 => exact HC0_0.out); rintro e w59 ⟨v449, rfl, ho0, hb⟩; refine ⟨_, rfl, ?_⟩; have n0_ := Aside0.mk (Kd.R_elder' (by (with_reducible repeat (first | apply Kd.R_alloc | apply Kd.R_drewN | apply Kd.R_drew)); exact HO446.out) (Kd.R_base ho0) hb); have n1_ := Aside0.mk (Kd.R_lower (Kd.R_new' ho0 (Kd.R_lt (by (with_reducible repeat (first | apply Kd.R_alloc | apply Kd.R_drewN | apply Kd.R_drew)); exact HO446.out))) (below_size (by repeat (first | (with_reducible first | exact HB.out | apply below_alloc | apply pw_below_drewN | apply below_drew1 | refine below_set ?_ GE442.out) | exact HB.out)))); have n2_ := Aside0.mk (blk_below (g := gb442) (o := .cells #[.slice A0_0 l0_0.length c0_0] 24 (0, 0)) (by (with_reducible repeat (first | refine blk_drewN ?_ _ | refine blk_drew ?_ | refine blk_alloc ?_ _)); exact BK442.out) hb); have n3_ := Aside0.mk (below_step (by repeat (first | (with_reducible first | exact HB.out | apply below_alloc | apply pw_below_drewN | apply below_drew1 | refine below_set ?_ GE442.out) | exact HB.out)) hb); clear HO446; clear BK442; clear HB; have HO446 := n0_; have HO450 := n1_; have BK442 := n2_; have HB := n3_; clear n0_ n1_ n2_ n3_; (try clear hb); (try clear hb2); (try clear hk); (try clear hi); (try clear ho0)) | ((with_reducible refine gate_dst (N := 5) rfl ?_); refine box_event ?hg (N := 5) ?hd (cs := #[.slice none 0 0]) (t := 27) ?hr ?_; (case hd => rfl); (case hg => rfl); (case hr => first | (go_simp; done) | (go_simp; rfl)); intro gb451 hg w60 hbox hb; have n0_ := Aside0.mk (Kd.R_below (by (with_reducible repeat (first | apply Kd.R_alloc | apply Kd.R_drewN | apply Kd.R_drew)); exact HO446.out) hb); have n1_ := Aside0.mk (Kd.R_below (by (with_reducible repeat (first | apply Kd.R_alloc | apply Kd.R_drewN | apply Kd.R_drew)); exact HO450.out) hb); have n2_ := Aside0.mk (blk_below (g := gb442) (o := .cells #[.slice A0_0 l0_0.length c0_0] 24 (0, 0)) (by (with_reducible repeat (first | refine blk_drewN ?_ _ | refine blk_drew ?_ | refine blk_alloc ?_ _)); exact BK442.out) hb); have n3_ := Aside0.mk (below_step (by repeat (first | (with_reducible first | exact HB.out | apply below_alloc | apply pw_below_drewN | apply below_drew1 | refine below_set ?_ GE442.out) | exact HB.out)) hb); have n4_ := Aside0.mk (hbox); have n5_ := Aside0.mk ((by rw [hg]; exact (below_size (by repeat (first | (with_reducible first | exact HB.out | apply below_alloc | apply pw_below_drewN | apply below_drew1 | refine below_set ?_ GE442.out) | exact HB.out))) : w.heap.size ≤ gb451)); have n6_ := Aside0.mk ((by rw [hg]; exact (below_size (by repeat (first | (with_reducible first | exact HB.out | apply below_alloc | apply pw_below_drewN | apply below_drew1 | refine below_set ?_ GE442.out) | exact HB.out))) : w.heap.size ≤ gb451)); have n7_ := Aside0.mk ((by rw [hg]; exact Nat.ne_of_lt (blk_lt (g := gb442) (o := .cells #[.slice A0_0 l0_0.length c0_0] 24 (0, 0)) (by (with_reducible repeat (first | refine blk_drewN ?_ _ | refine blk_drew ?_ | refine blk_alloc ?_ _)); exact BK442.out)) : gb442 ≠ gb451)); have n8_ := Aside0.mk ((by rw [hg]; exact Nat.ne_of_gt (blk_lt (g := gb442) (o := .cells #[.slice A0_0 l0_0.length c0_0] 24 (0, 0)) (by (with_reducible repeat (first | refine blk_drewN ?_ _ | refine blk_drew ?_ | refine blk_alloc ?_ _)); exact BK442.out)) : gb451 ≠ gb442)); clear HO446; clear HO450; clear BK442; clear HB; have HO446 := n0_; have HO450 := n1_; have BK442 := n2_; have HB := n3_; have BK451 := n4_; have GW451 := n5_; have GE451 := n6_; have NB442_451 := n7_; have NB451_442 := n8_; clear n0_ n1_ n2_ n3_ n4_ n5_ n6_ n7_ n8_; clear hb hbox hg; obtain ⟨Ao61, co61, eo61⟩ := Kd.R_slice HO450.out; subst eo61; have hnb62 := NB451_442.out; have hnc62 := NB442_451.out; have hcz63_0 : w60.cell? ⟨gb451, 0, none⟩ = some (.slice none 0 0) := (blk_cell BK451.out 0).trans rfl; have hfz63_0 := blk_frozen BK451.out 0) | ((with_reducible refine gate_callee (f := 25) rfl ?_); refine goesL_ (some 18) rfl rfl Try.func25 (by kernel_rfl) rfl #[.agg #[.slice Ao61 t448.length co61]] rfl (by (try simp only [List.map_toArray, List.map_cons, List.map_nil]); first | done | rfl | (simp only [List.length_drop, List.length_take]; rfl)) ?_; (with_reducible refine (impl_WilfNumber.calls k _ _ t448 t452 _ ?side1 ?side2 A10.out).mono ?_); (case side1 => refine (Kd.R_reads' (e := 3) (base := w.heap.size) (ok := fun k_ => (True ∧ some k_ ≠ (.slice Ao56 t444.length co56 : Value).ownBlock)) (n := t448.length) (c := co61) ?_).2.2; exact (by (with_reducible repeat (first | apply Kd.R_alloc | apply Kd.R_drewN | apply Kd.R_drew)); exact (Kd.R_mono (Kd.R_far (p := ⟨gb451, 0, none⟩) (Kd.R_types HO450.out BK451.out (by decide)) (fun _ hk => hk.2) (.slice Ao61 t448.length co61)) (fun _ h_ => h_.1)))); (case side2 => exact (Kd.R_reads' HO450.out).2.1); rintro e w64 ⟨rfl, hb⟩; refine ⟨_, rfl, ?_⟩; have n0_ := Aside0.mk (Kd.R_below (by (with_reducible repeat (first | apply Kd.R_alloc | apply Kd.R_drewN | apply Kd.R_drew)); exact (Kd.R_mono (Kd.R_far (p := ⟨gb451, 0, none⟩) (Kd.R_types HO446.out BK451.out (by decide)) (fun _ hk => hk.2) (.slice Ao61 t448.length co61)) (fun _ h_ => h_.1))) hb); have n1_ := Aside0.mk (Kd.R_below (by (with_reducible repeat (first | apply Kd.R_alloc | apply Kd.R_drewN | apply Kd.R_drew)); exact (Kd.R_mono (Kd.R_far (p := ⟨gb451, 0, none⟩) (Kd.R_types HO450.out BK451.out (by decide)) (fun _ hk => hk.2) (.slice Ao61 t448.length co61)) (fun _ h_ => h_.1))) hb); have n2_ := Aside0.mk (blk_below (g := gb442) (o := .cells #[.slice A0_0 l0_0.length c0_0] 24 (0, 0)) (by (with_reducible repeat (first | refine blk_drewN ?_ _ | refine blk_drew ?_ | refine blk_alloc ?_ _)); refine blk_far ?_ NB442_451.out _; (with_reducible repeat (first | refine blk_drewN ?_ _ | refine blk_drew ?_ | refine blk_alloc ?_ _)); exact BK442.out) hb); have n3_ := Aside0.mk (blk_below (g := gb451) (o := .cells #[.slice Ao61 t448.length co61] 27 (0, 0)) (by (with_reducible repeat (first | refine blk_drewN ?_ _ | refine blk_drew ?_ | refine blk_alloc ?_ _)); refine blk_put (cs := #[.slice none 0 0]) ?_ 0 _ rfl; (with_reducible repeat (first | refine blk_drewN ?_ _ | refine blk_drew ?_ | refine blk_alloc ?_ _)); exact BK451.out) hb); have n4_ := Aside0.mk (below_step (by repeat (first | (with_reducible first | exact HB.out | apply below_alloc | apply pw_below_drewN | apply below_drew1 | refine below_set ?_ GE442.out | refine below_set ?_ GE451.out) | exact HB.out)) hb); clear HO446; clear HO450; clear BK442; clear BK451; clear HB; have HO446 := n0_; have HO450 := n1_; have BK442 := n2_; have BK451 := n3_; have HB := n4_; clear n0_ n1_ n2_ n3_ n4_; (try clear hb); (try clear hb2); (try clear hk); (try clear hi)))
      go_ret
      exact ⟨by first | rfl | (simp [errW_none, errW_some] <;> rfl) | (simp [*, errW_none, errW_some] <;> rfl), by repeat (first | (with_reducible first | exact HB.out | apply below_alloc | apply pw_below_drewN | apply below_drew1 | refine below_set ?_ GE442.out | refine below_set ?_ GE451.out) | exact HB.out)⟩
end Go.Proofs.Ytapdhljbhekcdaa.PA
end
section
namespace Go.Proofs.Ytapdhljbhekcdaa.E
open Go.RowKit Go.Proofs.YtapdhljbhekcdaaW.PrintWords Go.Proofs.YtapdhljbhekcdaaW.PrintLast Go.Proofs.YtapdhljbhekcdaaW.PrintMore
set_option linter.unusedVariables false
set_option linter.unusedSimpArgs false
theorem w64 {x : Int} (h1 : -9223372036854775808 ≤ x) (h2 : x ≤ 9223372036854775807) : wrap64 x = x := by
  unfold wrap64; omega
theorem nd_t {p : Prop} [Decidable p] (h : ¬ p) : (!decide p) = true := by simp [h]
theorem emod_le_self {n x : Int} (h : 0 ≤ n) (hx : 0 < x) : n % x ≤ n := by
  have h1 := Int.mul_ediv_add_emod n x
  have h2 : 0 ≤ x * (n / x) := Int.mul_nonneg (by omega) (Int.ediv_nonneg h (by omega))
  omega
theorem ev_ifp {α : Type} {c : Prop} [Decidable c] {a b : Nat → Option α} {r : α} (h : c) (k : Ev a r) : Ev (fun n => if c then a n else b n) r :=
  Ev.congr (fun _ => if_pos h) k
theorem ev_ifn {α : Type} {c : Prop} [Decidable c] {a b : Nat → Option α} {r : α} (h : ¬ c) (k : Ev b r) : Ev (fun n => if c then a n else b n) r :=
  Ev.congr (fun _ => if_neg h) k
theorem ev_bind {α β : Type} {g : Nat → Option α} {f : Nat → α → Option β} (a : α) {r : β} (h : Ev g a) (k : Ev (fun n => f n a) r) : Ev (fun n => (g n).bind (f n)) r := Ev.bind h k
theorem ev_to {α : Type} {g : Nat → Option α} {a b : α} (h : Ev g a) (e : a = b) : Ev g b := e ▸ h
theorem rd_lt {l : List Int} {i : Int} (h0 : 0 ≤ i) (h : i < l.length) : rd l i = l[i.toNat]'(by omega) := by
  unfold rd; rw [List.getD_eq_getElem?_getD, List.getElem?_eq_getElem (by omega)]; rfl
theorem rd_mem {l : List Int} {i : Int} (h0 : 0 ≤ i) (h : i < l.length) : rd l i ∈ l := by
  rw [rd_lt h0 h]; exact List.getElem_mem _
theorem drop_rd {l : List Int} {i : Int} (h0 : 0 ≤ i) (h : i < l.length) : l.drop i.toNat = rd l i :: l.drop (i + 1).toNat := by
  rw [rd_lt h0 h, List.drop_eq_getElem_cons (by omega)]
  congr 2; omega
theorem take_rd {l : List Int} {i : Int} (h0 : 0 ≤ i) (h : i < l.length) : l.take (i + 1).toNat = l.take i.toNat ++ [rd l i] := by
  rw [rd_lt h0 h, show (i + 1).toNat = i.toNat + 1 from by omega, List.take_succ_eq_append_getElem (by omega)]
theorem rd_ext {l m : List Int} (hl : l.length = m.length) (h : ∀ i : Int, 0 ≤ i → i < l.length → rd l i = rd m i) : l = m := by
  refine List.ext_getElem hl fun n h1 h2 => ?_
  have := h n (by omega) (by omega)
  rw [rd_lt (by omega) (by omega), rd_lt (by omega) (by omega)] at this
  simpa using this
theorem rd_set {l : List Int} {i j : Int} (x : Int) (hi : 0 ≤ i) (hi' : i < l.length) (hj : 0 ≤ j) : rd (l.set i.toNat x) j = if j = i then x else rd l j := by
  unfold rd
  rw [List.getD_eq_getElem?_getD, List.getD_eq_getElem?_getD, List.getElem?_set]
  by_cases h : j = i
  · subst h; rw [if_pos rfl, if_pos rfl, if_pos (by omega)]; rfl
  · rw [if_neg h, if_neg (by omega)]
theorem rd_append {l m : List Int} {i : Int} (hi : 0 ≤ i) : rd (l ++ m) i = if i < l.length then rd l i else rd m (i - l.length) := by
  unfold rd
  rw [List.getD_eq_getElem?_getD, List.getD_eq_getElem?_getD, List.getD_eq_getElem?_getD, List.getElem?_append]
  by_cases h : i < l.length
  · rw [if_pos h, if_pos (by omega)]
  · rw [if_neg h, if_neg (by omega), show i.toNat - l.length = (i - l.length).toNat from by omega]
theorem rd_rep {n : Nat} {x : Int} {i : Int} (hi : 0 ≤ i) (h : i < n) : rd (List.replicate n x) i = x := by
  rw [rd_lt hi (by simpa using h)]; simp
theorem mem_rd {l : List Int} {x : Int} (h : x ∈ l) : ∃ i : Int, 0 ≤ i ∧ i < l.length ∧ rd l i = x := by
  obtain ⟨n, hn, rfl⟩ := List.mem_iff_getElem.1 h
  exact ⟨n, by omega, by omega, by rw [rd_lt (by omega) (by omega)]; simp⟩
end Go.Proofs.Ytapdhljbhekcdaa.E
end
section
namespace Go.Proofs.Ytapdhljbhekcdaa.E
open Go.RowKit Go.Proofs.Ytapdhljbhekcdaa.PA Go.Proofs.YtapdhljbhekcdaaW.PrintWords Go.Proofs.YtapdhljbhekcdaaW.PrintLast Go.Proofs.YtapdhljbhekcdaaW.PrintMore
set_option linter.unusedVariables false
set_option linter.unusedSimpArgs false
theorem toIntS_l {l : List Int} (hl : l.length ≤ 1048576) (d : Nat) : ∀ (i : Int) (out : List Int), 0 ≤ i → i + d = l.length → out.length = l.length → out.take i.toNat = l.take i.toNat → Ev (fun k => laws_toIntS.l0 k l out i) l := by
  induction d with
  | zero =>
    intro i out h0 h1 h2 h3
    refine Ev.step (fun k => by rw [laws_toIntS.l0]) ?_
    simp (disch := omega) only [if_neg]
    rw [List.take_of_length_le (by omega), List.take_of_length_le (by omega)] at h3
    subst h3
    exact Ev.now _
  | succ d ih =>
    intro i out h0 h1 h2 h3
    refine Ev.step (fun k => by rw [laws_toIntS.l0]) ?_
    simp (disch := omega) only [if_pos, w64]
    refine ih _ _ (by omega) (by omega) (by simpa using h2) ?_
    rw [take_rd h0 (by simp; omega), take_rd h0 (by omega), rd_set _ h0 (by omega) h0, if_pos rfl, ← h3]
    congr 1
    rw [List.take_set_of_le (Nat.le_refl _)]
theorem toIntS_ev {l : List Int} (hl : l.length ≤ 1048576) : Ev (fun k => laws_toIntS.f k l) l := by
  unfold laws_toIntS.f
  simp (disch := omega) only [if_pos]
  exact toIntS_l hl l.length _ _ (by omega) (by omega) (by simp) (by simp)
theorem eqIntS_l {l m : List Int} (hl : l.length ≤ 1099511627776) (e : l.length = m.length) (d : Nat) : ∀ (i : Int), 0 ≤ i → i + d = l.length → Ev (fun k => laws_eqIntS.l0 k l m i) (decide (l.drop i.toNat = m.drop i.toNat)) := by
  induction d with
  | zero =>
    intro i h0 h1
    refine Ev.step (fun k => by rw [laws_eqIntS.l0]) ?_
    simp (disch := omega) only [if_neg]
    refine ev_to (Ev.now _) ?_
    rw [List.drop_of_length_le (by omega), List.drop_of_length_le (by omega)]; simp
  | succ d ih =>
    intro i h0 h1
    refine Ev.step (fun k => by rw [laws_eqIntS.l0]) ?_
    simp (disch := omega) only [if_pos, w64]
    rw [drop_rd h0 (by omega), drop_rd (l := m) h0 (by omega)]
    by_cases h : rd l i = rd m i
    · refine ev_ifp h (ev_to (ih (i + 1) (by omega) (by omega)) ?_)
      simp [h]
    · refine ev_ifn h (ev_to (Ev.now _) ?_)
      simp [h]
theorem eqIntS_ev {l m : List Int} (hl : l.length ≤ 1099511627776) : Ev (fun k => laws_eqIntS.f k l m) (decide (l = m)) := by
  unfold laws_eqIntS.f
  by_cases e : l.length = m.length
  · refine ev_ifp (by omega) (ev_to (eqIntS_l hl e l.length 0 (by omega) (by omega)) ?_)
    simp
  · refine ev_ifn (by omega) (ev_to (Ev.now _) ?_)
    simp; intro h; exact e (by rw [h])
end Go.Proofs.Ytapdhljbhekcdaa.E
end
section
namespace Go.Proofs.Ytapdhljbhekcdaa.E
open Go.RowKit Go.Proofs.Ytapdhljbhekcdaa.PA Go.Proofs.YtapdhljbhekcdaaW.PrintWords Go.Proofs.YtapdhljbhekcdaaW.PrintLast Go.Proofs.YtapdhljbhekcdaaW.PrintMore
set_option linter.unusedVariables false
set_option linter.unusedSimpArgs false
theorem szSg_small {l : List Int} {a : Int} (h : (l.length : Int) ≤ a) (ha : a ≤ 1048576) : laws_szSemigroup.f l a = some (a - l.length) := by
  unfold laws_szSemigroup.f laws_szIntS.f
  rw [w64 (x := a - l.length) (by omega) (by omega), if_neg (by omega)]
  simp only [Option.bind_some]
  rw [if_neg (by omega)]
theorem szSg_big {l : List Int} {a : Int} (h : ¬ (l.length : Int) ≤ a) (h0 : 0 ≤ a) (ha : a ≤ 1048576) (hl : l.length ≤ 1152921504606846976) : laws_szSemigroup.f l a = some (-1) := by
  unfold laws_szSemigroup.f laws_szIntS.f
  rw [w64 (x := a - l.length) (by omega) (by omega), if_pos (by omega)]
  rfl
theorem toSg_ev {l : List Int} (hl : l.length ≤ 1048576) : Ev (fun k => laws_toSemigroup.f k l) l := by
  unfold laws_toSemigroup.f
  exact ev_bind _ (toIntS_ev hl) (Ev.now _)
theorem eqSg_ev {l m : List Int} (hl : l.length ≤ 1099511627776) : Ev (fun k => laws_eqSemigroup.f k l m) (decide (l = m)) := by
  unfold laws_eqSemigroup.f
  refine ev_bind _ (eqIntS_ev hl) ?_
  by_cases e : l = m
  · exact ev_ifp (by simpa using e) (ev_to (Ev.now _) (by simp [e]))
  · exact ev_ifn (by simpa using e) (ev_to (Ev.now _) (by simp [e]))
theorem eqSg_same {l : List Int} (hl : l.length ≤ 1099511627776) : Ev (fun k => laws_eqSemigroup.f k l l) true := ev_to (eqSg_ev hl) (by simp)
end Go.Proofs.Ytapdhljbhekcdaa.E
end
section
namespace Go.Proofs.Ytapdhljbhekcdaa.E
open Go.RowKit Go.Proofs.Ytapdhljbhekcdaa.PA Go.Proofs.YtapdhljbhekcdaaW.PrintWords Go.Proofs.YtapdhljbhekcdaaW.PrintLast Go.Proofs.YtapdhljbhekcdaaW.PrintMore
set_option linter.unusedVariables false
set_option linter.unusedSimpArgs false
theorem l1In_eq (n lo hi : Int) : spec_l1In.f n lo hi = some (decide (lo ≤ n ∧ n ≤ hi)) := by
  unfold spec_l1In.f; by_cases h : n ≥ lo
  · rw [if_pos h]; simp [h]
  · rw [if_neg h]; simp [show ¬ lo ≤ n from h]
theorem within_eq (n lo hi : Int) : impl_within.f n lo hi = some (decide (lo ≤ n ∧ n ≤ hi)) := l1In_eq n lo hi
theorem allWithin_l {l : List Int} {lo hi : Int} (hl : l.length ≤ 1099511627776) (d : Nat) : ∀ (i : Int), 0 ≤ i → i + d = l.length → Ev (fun k => impl_allWithin.l0 k lo hi l l.length i) (decide (∀ x ∈ l.drop i.toNat, lo ≤ x ∧ x ≤ hi)) := by
  induction d with
  | zero =>
    intro i h0 h1
    refine Ev.step (fun k => by rw [impl_allWithin.l0]) ?_
    simp (disch := omega) only [if_neg]
    refine ev_to (Ev.now _) ?_
    rw [List.drop_of_length_le (by omega)]; simp
  | succ d ih =>
    intro i h0 h1
    refine Ev.step (fun k => by rw [impl_allWithin.l0]) ?_
    simp (disch := omega) only [if_pos, w64, within_eq, Option.bind_some]
    rw [drop_rd h0 (by omega)]
    by_cases h : lo ≤ rd l i ∧ rd l i ≤ hi
    · refine ev_ifp (by simpa using h) (ev_to (ih (i + 1) (by omega) (by omega)) ?_)
      simp [h]
    · refine ev_ifn (by simpa using h) (ev_to (Ev.now _) ?_)
      simp only [List.mem_cons, forall_eq_or_imp, h, false_and, decide_false]
theorem allWithin_ev {l : List Int} (lo hi : Int) (hl : l.length ≤ 1099511627776) : Ev (fun k => impl_allWithin.f k l lo hi) (decide (∀ x ∈ l, lo ≤ x ∧ x ≤ hi)) :=
  ev_to (allWithin_l hl l.length 0 (by omega) (by omega)) (by simp)
def Asc (l : List Int) : Prop := ∀ i : Int, 0 < i → i < l.length → rd l (i - 1) < rd l i
noncomputable instance (l : List Int) : Decidable (Asc l) := Classical.propDecidable _
theorem asc_l {l : List Int} (hl : l.length ≤ 1099511627776) (d : Nat) : ∀ (i : Int), 0 < i → i + d = max 1 l.length → (∀ j, 0 < j → j < i → rd l (j - 1) < rd l j) → Ev (fun k => impl_IsAscending.l0 k l i) (decide (Asc l)) ∧ Ev (fun k => spec_IsAscending.l0 k l i) (decide (Asc l)) := by
  induction d with
  | zero =>
    intro i h0 h1 h2
    have ha : Asc l := fun j hj hj' => h2 j hj (by omega)
    constructor
    · refine Ev.step (fun k => by rw [impl_IsAscending.l0]) ?_
      simp (disch := omega) only [if_neg]
      exact ev_to (Ev.now _) (by simp [ha])
    · refine Ev.step (fun k => by rw [spec_IsAscending.l0]) ?_
      simp (disch := omega) only [if_neg]
      exact ev_to (Ev.now _) (by simp [ha])
  | succ d ih =>
    intro i h0 h1 h2
    by_cases h : rd l (i - 1) < rd l i
    · obtain ⟨a, b⟩ := ih (i + 1) (by omega) (by omega) (fun j hj hj' => by
        by_cases e : j = i
        · subst e; exact h
        · exact h2 j hj (by omega))
      constructor
      · refine Ev.step (fun k => by rw [impl_IsAscending.l0]) ?_
        simp (disch := omega) only [if_pos, if_neg, w64]
        exact a
      · refine Ev.step (fun k => by rw [spec_IsAscending.l0]) ?_
        simp (disch := omega) only [if_pos, if_neg, w64]
        exact b
    · have hn : ¬ Asc l := fun ha => h (ha i h0 (by omega))
      constructor
      · refine Ev.step (fun k => by rw [impl_IsAscending.l0]) ?_
        simp (disch := omega) only [if_pos, w64]
        exact ev_to (Ev.now _) (by simp [hn])
      · refine Ev.step (fun k => by rw [spec_IsAscending.l0]) ?_
        simp (disch := omega) only [if_pos, w64]
        exact ev_to (Ev.now _) (by simp [hn])
theorem ascI_ev {l : List Int} (hl : l.length ≤ 1099511627776) : Ev (fun k => impl_IsAscending.f k l) (decide (Asc l)) :=
  (asc_l hl (l.length - 1) 1 (by omega) (by omega) (fun j h h' => by omega)).1
theorem ascS_ev {l : List Int} (hl : l.length ≤ 1099511627776) : Ev (fun k => spec_IsAscending.f k l) (decide (Asc l)) :=
  (asc_l hl (l.length - 1) 1 (by omega) (by omega) (fun j h h' => by omega)).2
end Go.Proofs.Ytapdhljbhekcdaa.E
end
section
namespace Go.Proofs.Ytapdhljbhekcdaa.E
open Go.RowKit Go.Proofs.YtapdhljbhekcdaaW.PrintWords Go.Proofs.YtapdhljbhekcdaaW.PrintLast Go.Proofs.YtapdhljbhekcdaaW.PrintMore
set_option linter.unusedVariables false
set_option linter.unusedSimpArgs false
def fl (p : Int → Bool) (i : Int) : Nat → List Int
  | 0 => []
  | d + 1 => if p i = true then i :: fl p (i + 1) d else fl p (i + 1) d
theorem fl_yes {p : Int → Bool} {i : Int} {d : Nat} (h : p i = true) : fl p i (d + 1) = i :: fl p (i + 1) d := by rw [fl, if_pos h]
theorem fl_no {p : Int → Bool} {i : Int} {d : Nat} (h : ¬ p i = true) : fl p i (d + 1) = fl p (i + 1) d := by rw [fl, if_neg h]
theorem fl_app (p : Int → Bool) (d e : Nat) : ∀ i : Int, fl p i (d + e) = fl p i d ++ fl p (i + d) e := by
  induction d with
  | zero => intro i; simp [fl]
  | succ d ih =>
    intro i
    rw [show d + 1 + e = (d + e) + 1 from by omega, show i + ((d + 1 : Nat) : Int) = i + 1 + d from by omega]
    by_cases h : p i = true
    · rw [fl_yes h, fl_yes h, ih, List.cons_append]
    · rw [fl_no h, fl_no h, ih]
theorem fl_mem {p : Int → Bool} {x : Int} (d : Nat) : ∀ i : Int, x ∈ fl p i d ↔ i ≤ x ∧ x < i + d ∧ p x = true := by
  induction d with
  | zero => intro i; simp [fl]; omega
  | succ d ih =>
    intro i
    by_cases h : p i = true
    · rw [fl_yes h, List.mem_cons, ih]
      constructor
      · rintro (rfl | ⟨a, b, c⟩)
        · exact ⟨Int.le_refl _, by omega, h⟩
        · exact ⟨by omega, by omega, c⟩
      · rintro ⟨a, b, c⟩
        by_cases e : x = i
        · exact .inl e
        · exact .inr ⟨by omega, by omega, c⟩
    · rw [fl_no h, ih]
      constructor
      · rintro ⟨a, b, c⟩; exact ⟨by omega, by omega, c⟩
      · rintro ⟨a, b, c⟩
        by_cases e : x = i
        · subst e; exact absurd c h
        · exact ⟨by omega, by omega, c⟩
theorem fl_len (p : Int → Bool) (d : Nat) : ∀ i : Int, (fl p i d).length ≤ d := by
  induction d with
  | zero => intro i; simp [fl]
  | succ d ih =>
    intro i
    have := ih (i + 1)
    by_cases h : p i = true
    · rw [fl_yes h, List.length_cons]; omega
    · rw [fl_no h]; omega
theorem fl_last {p : Int → Bool} {i : Int} {d : Nat} (h : fl p i d ≠ []) : ∃ x, i ≤ x ∧ x < i + d ∧ p x = true ∧ (∀ y, x < y → y < i + d → ¬ p y = true) ∧ rd (fl p i d) ((fl p i d).length - 1) = x := by
  induction d with
  | zero => exact absurd rfl h
  | succ d ih =>
    rw [show d + 1 = d + 1 from rfl, fl_app p d 1 i] at h ⊢
    by_cases c : p (i + d) = true
    · refine ⟨i + d, by omega, by omega, c, fun y a b => by omega, ?_⟩
      rw [show fl p (i + d) 1 = [i + d] from by rw [show (1 : Nat) = 0 + 1 from rfl, fl_yes c]; rfl]
      rw [rd_append (by simp), if_neg (by simp)]
      simp [rd]
    · have e : fl p (i + d) 1 = [] := by rw [show (1 : Nat) = 0 + 1 from rfl, fl_no c]; rfl
      rw [e, List.append_nil] at h ⊢
      obtain ⟨x, a, b, q, r, s⟩ := ih h
      refine ⟨x, a, by omega, q, fun y hy hy' => ?_, s⟩
      by_cases ey : y = i + d
      · rw [ey]; exact c
      · exact r y hy (by omega)
end Go.Proofs.Ytapdhljbhekcdaa.E
end
section
namespace Go.Proofs.Ytapdhljbhekcdaa.E
open Go.RowKit Go.Proofs.Ytapdhljbhekcdaa.PA Go.Proofs.YtapdhljbhekcdaaW.PrintWords Go.Proofs.YtapdhljbhekcdaaW.PrintLast Go.Proofs.YtapdhljbhekcdaaW.PrintMore
set_option linter.unusedVariables false
set_option linter.unusedSimpArgs false
theorem l2Small_eq (n : Int) : spec_l2Small.f n = some (decide (-1000000 ≤ n ∧ n ≤ 1000000)) := by
  unfold spec_l2Small.f; rw [l1In_eq]; rfl
theorem l1Max_eq (a b : Int) : spec_l1Max.f a b = some (max a b) := by
  unfold spec_l1Max.f
  by_cases h : a > b
  · rw [if_pos h, Int.max_eq_left (by omega)]
  · rw [if_neg h, Int.max_eq_right (by omega)]
theorem mx_eq (a b : Int) : mx a b = max a b := by unfold mx; omega
theorem gcdI_l (m : Nat) : ∀ n : Nat, Ev (fun k => impl_GcdOf.l0 k (m : Int) (n : Int)) (Nat.gcd m n : Int) := by
  induction m using Nat.strongRecOn with
  | _ m ih =>
    intro n
    refine Ev.step (fun k => by rw [impl_GcdOf.l0]) ?_
    by_cases h : m = 0
    · subst h
      refine ev_ifp (by rfl) (ev_to (Ev.now _) (by simp))
    · refine ev_ifn (by omega) ?_
      rw [show Int.tmod (n : Int) (m : Int) = ((n % m : Nat) : Int) from rfl, Nat.gcd_rec]
      exact ih _ (Nat.mod_lt _ (by omega)) m
theorem gcdS_l (n : Nat) : ∀ m : Nat, Ev (fun k => spec_GcdOf.l0 k (m : Int) (n : Int)) (Nat.gcd m n : Int) := by
  induction n using Nat.strongRecOn with
  | _ n ih =>
    intro m
    refine Ev.step (fun k => by rw [spec_GcdOf.l0]) ?_
    by_cases h : n = 0
    · subst h
      refine ev_ifn (by simp) (ev_to (Ev.now _) (by simp))
    · refine ev_ifp (by omega) (ev_ifn (by omega) ?_)
      rw [show Int.tmod (m : Int) (n : Int) = ((m % n : Nat) : Int) from rfl, Nat.gcd_comm, Nat.gcd_rec, Nat.gcd_comm]
      exact ih _ (Nat.mod_lt _ (by omega)) n
def gcdOf (a b : Int) : Int := if (-1000000 ≤ a ∧ a ≤ 1000000) ∧ -1000000 ≤ b ∧ b ≤ 1000000 then (Int.gcd a b : Int) else 0
theorem abs_cast (a : Int) : max a (-a) = ((a.natAbs : Nat) : Int) := by omega
theorem gcdI_ev (a b : Int) : Ev (fun k => impl_GcdOf.f k a b) (gcdOf a b) := by
  unfold impl_GcdOf.f gcdOf
  refine ev_bind _ (allWithin_ev _ _ (by simp)) ?_
  by_cases h : (-1000000 ≤ a ∧ a ≤ 1000000) ∧ -1000000 ≤ b ∧ b ≤ 1000000
  · rw [if_pos h]
    refine ev_ifp (by simpa using h) ?_
    obtain ⟨h1, h2⟩ := h
    rw [w64 (by omega) (by omega), w64 (by omega) (by omega), mx_eq, mx_eq, abs_cast, abs_cast]
    exact gcdI_l _ _
  · rw [if_neg h]
    refine ev_ifn (by simpa using h) (Ev.now _)
theorem gcdS_ev (a b : Int) : Ev (fun k => spec_GcdOf.f k a b) (gcdOf a b) := by
  unfold spec_GcdOf.f gcdOf
  simp only [l2Small_eq, Option.bind_some]
  by_cases h1 : -1000000 ≤ a ∧ a ≤ 1000000
  · refine ev_ifp (by simpa using h1) (Ev.step (fun k => by rw [spec_GcdOf.j0]) ?_)
    by_cases h2 : -1000000 ≤ b ∧ b ≤ 1000000
    · rw [if_pos ⟨h1, h2⟩]
      refine ev_ifn (by simpa using h2) ?_
      simp only [l1Max_eq, Option.bind_some]
      rw [w64 (by omega) (by omega), w64 (by omega) (by omega), abs_cast, abs_cast]
      exact gcdS_l _ _
    · rw [if_neg (fun h => h2 h.2)]
      exact ev_ifp (nd_t h2) (Ev.now _)
  · rw [if_neg (fun h => h1 h.1)]
    refine ev_ifn (by simpa using h1) (Ev.step (fun k => by rw [spec_GcdOf.j0]) ?_)
    exact ev_ifp rfl (Ev.now _)
end Go.Proofs.Ytapdhljbhekcdaa.E
end
section
namespace Go.Proofs.Ytapdhljbhekcdaa.E
open Go.RowKit Go.Proofs.Ytapdhljbhekcdaa.PA Go.Proofs.YtapdhljbhekcdaaW.PrintWords Go.Proofs.YtapdhljbhekcdaaW.PrintLast Go.Proofs.YtapdhljbhekcdaaW.PrintMore
set_option linter.unusedVariables false
set_option linter.unusedSimpArgs false
def gl (l : List Int) : Int := l.foldl gcdOf 0
theorem gcdListI_l {l : List Int} (hl : l.length ≤ 1099511627776) (d : Nat) : ∀ (i acc : Int), 0 ≤ i → i + d = l.length → Ev (fun k => impl_GcdOfList.l0 k acc l l.length i) ((l.drop i.toNat).foldl gcdOf acc) := by
  induction d with
  | zero =>
    intro i acc h0 h1
    refine Ev.step (fun k => by rw [impl_GcdOfList.l0]) ?_
    rw [List.drop_of_length_le (by omega)]
    exact ev_ifn (by omega) (Ev.now _)
  | succ d ih =>
    intro i acc h0 h1
    refine Ev.step (fun k => by rw [impl_GcdOfList.l0]) ?_
    rw [drop_rd h0 (by omega), List.foldl_cons, w64 (by omega) (by omega)]
    exact ev_ifp (by omega) (ev_ifp h0 (ev_ifp (by omega) (ev_bind _ (gcdI_ev _ _) (ih (i + 1) _ (by omega) (by omega)))))
theorem gcdListI_ev {l : List Int} (hl : l.length ≤ 1099511627776) : Ev (fun k => impl_GcdOfList.f k l) (gl l) := by
  unfold impl_GcdOfList.f
  have := gcdListI_l hl l.length 0 0 (by omega) (by omega)
  simpa [gl] using this
theorem gcdListS_l {l : List Int} (hl : l.length ≤ 1099511627776) (d : Nat) : ∀ (i acc : Int), 0 ≤ i → i + d = l.length → Ev (fun k => spec_GcdOfList.l0 k l acc i) ((l.drop i.toNat).foldl gcdOf acc) := by
  induction d with
  | zero =>
    intro i acc h0 h1
    refine Ev.step (fun k => by rw [spec_GcdOfList.l0]) ?_
    rw [List.drop_of_length_le (by omega)]
    exact ev_ifn (by omega) (Ev.now _)
  | succ d ih =>
    intro i acc h0 h1
    refine Ev.step (fun k => by rw [spec_GcdOfList.l0]) ?_
    rw [drop_rd h0 (by omega), List.foldl_cons, w64 (by omega) (by omega)]
    exact ev_ifp (by omega) (ev_ifp h0 (ev_bind _ (gcdS_ev _ _) (ih (i + 1) _ (by omega) (by omega))))
theorem gcdListS_ev {l : List Int} (hl : l.length ≤ 1099511627776) : Ev (fun k => spec_GcdOfList.f k l) (gl l) := by
  unfold spec_GcdOfList.f
  have := gcdListS_l hl l.length 0 0 (by omega) (by omega)
  simpa [gl] using this
theorem gcdOf_small {a x : Int} (h0 : 0 ≤ a) (h1 : a ≤ 60) (hx : 1 ≤ x ∧ x ≤ 60) : 1 ≤ gcdOf a x ∧ gcdOf a x ≤ 60 ∧ gcdOf a x ∣ a ∧ gcdOf a x ∣ x := by
  have e : gcdOf a x = (Int.gcd a x : Int) := by unfold gcdOf; rw [if_pos ⟨⟨by omega, by omega⟩, by omega, by omega⟩]
  have d1 := Int.gcd_dvd_left a x
  have d2 := Int.gcd_dvd_right a x
  have p : 0 < Int.gcd a x := Int.gcd_pos_of_ne_zero_right _ (by omega)
  have le := Int.le_of_dvd (by omega) d2
  rw [e]
  exact ⟨by omega, by omega, d1, d2⟩
end Go.Proofs.Ytapdhljbhekcdaa.E
end
section
namespace Go.Proofs.Ytapdhljbhekcdaa.E
open Go.RowKit Go.Proofs.YtapdhljbhekcdaaW.PrintWords Go.Proofs.YtapdhljbhekcdaaW.PrintLast Go.Proofs.YtapdhljbhekcdaaW.PrintMore
set_option linter.unusedVariables false
set_option linter.unusedSimpArgs false
inductive Way (v : List Int) : Int → Int → Prop
  | zero : Way v 0 0
  | add {x k c : Int} : x ∈ v → Way v k c → Way v (k + x) (c + 1)
theorem Way.mono {v u : List Int} (h : ∀ x ∈ v, x ∈ u) {k c : Int} (w : Way v k c) : Way u k c := by
  induction w with
  | zero => exact .zero
  | add hx _ ih => exact .add (h _ hx) ih
theorem Way.pos {v : List Int} (h : ∀ x ∈ v, 1 ≤ x) {k c : Int} (w : Way v k c) : 0 ≤ c ∧ c ≤ k := by
  induction w with
  | zero => omega
  | add hx _ ih => have := h _ hx; omega
theorem Way.plus {v : List Int} {k c : Int} (w : Way v k c) {k' c' : Int} (w' : Way v k' c') : Way v (k + k') (c + c') := by
  induction w' with
  | zero => simpa using w
  | @add x k1 c1 hx _ ih =>
    rw [← Int.add_assoc, ← Int.add_assoc]
    exact .add hx ih
theorem Way.times {v : List Int} {x : Int} (hx : x ∈ v) (j : Nat) : Way v (j * x) j := by
  induction j with
  | zero => simpa using Way.zero
  | succ j ih =>
    have := Way.add hx ih
    rw [show ((j + 1 : Nat) : Int) * x = j * x + x from by rw [Int.natCast_add, Int.add_mul]; simp]
    exact this
theorem Way.last {v : List Int} {k c : Int} (w : Way v k c) : (k = 0 ∧ c = 0) ∨ ∃ x ∈ v, Way v (k - x) (c - 1) := by
  cases w with
  | zero => exact .inl ⟨rfl, rfl⟩
  | @add x k c hx hw => exact .inr ⟨x, hx, by rwa [show k + x - x = k from by omega, show c + 1 - 1 = c from by omega]⟩
theorem Way.split {u : List Int} {x : Int} {k c : Int} (w : Way (u ++ [x]) k c) : ∃ j : Nat, Way u (k - j * x) (c - j) := by
  induction w with
  | zero => exact ⟨0, by simpa using Way.zero⟩
  | @add y k c hy _ ih =>
    obtain ⟨j, h⟩ := ih
    rcases List.mem_append.1 hy with hu | hx
    · refine ⟨j, ?_⟩
      have := Way.add hu h
      rwa [show k - j * x + y = k + y - j * x from by omega, show c - (j : Int) + 1 = c + 1 - j from by omega] at this
    · obtain rfl : y = x := by simpa using hx
      refine ⟨j + 1, ?_⟩
      rw [show ((j + 1 : Nat) : Int) * y = j * y + y from by rw [Int.natCast_add, Int.add_mul]; simp, show k + y - (j * y + y) = k - j * y from by omega, show c + 1 - ((j + 1 : Nat) : Int) = c - j from by omega]
      exact h
def Fw (v : List Int) (k m : Int) : Prop := (m = -1 ∧ ∀ c, ¬ Way v k c) ∨ (Way v k m ∧ ∀ c, Way v k c → m ≤ c)
theorem Fw.one {v : List Int} (hv : ∀ x ∈ v, 1 ≤ x) {k m m' : Int} (h : Fw v k m) (h' : Fw v k m') : m = m' := by
  rcases h with ⟨h1, h2⟩ | ⟨h1, h2⟩ <;> rcases h' with ⟨h3, h4⟩ | ⟨h3, h4⟩
  · omega
  · exact absurd h3 (h2 _)
  · exact absurd h1 (h4 _)
  · have := h2 _ h3; have := h4 _ h1; omega
theorem Fw.ge {v : List Int} (hv : ∀ x ∈ v, 1 ≤ x) {k m : Int} (h : Fw v k m) : -1 ≤ m := by
  rcases h with ⟨h1, h2⟩ | ⟨h1, h2⟩
  · omega
  · have := h1.pos hv; omega
theorem Fw.le {v : List Int} (hv : ∀ x ∈ v, 1 ≤ x) {k m : Int} (h : Fw v k m) (hk : 0 ≤ k) : m ≤ k := by
  rcases h with ⟨h1, h2⟩ | ⟨h1, h2⟩
  · omega
  · have := h1.pos hv; omega
theorem Fw.way {v : List Int} {k m : Int} (h : Fw v k m) (hm : 0 ≤ m) : Way v k m ∧ ∀ c, Way v k c → m ≤ c := by
  rcases h with ⟨h1, h2⟩ | h
  · omega
  · exact h
theorem Fw.nil {k : Int} (hk : 0 ≤ k) : Fw [] k (if k = 0 then 0 else -1) := by
  by_cases h : k = 0
  · subst h
    exact .inr ⟨.zero, fun c w => (w.pos (by simp)).1⟩
  · rw [if_neg h]
    refine .inl ⟨rfl, fun c w => ?_⟩
    rcases w.last with ⟨h1, _⟩ | ⟨x, hx, _⟩
    · exact h h1
    · simp at hx
theorem Fw.below {u : List Int} {x k m : Int} (hu : ∀ y ∈ u, 1 ≤ y) (hk : k < x) (h : Fw u k m) (h0 : 0 ≤ k) : Fw (u ++ [x]) k m := by
  have hv : ∀ y ∈ u ++ [x], 1 ≤ y := by
    intro y hy
    rcases List.mem_append.1 hy with hy | hy
    · exact hu y hy
    · have : y = x := by simpa using hy
      omega
  have key : ∀ c, Way (u ++ [x]) k c → Way u k c := by
    intro c w
    obtain ⟨j, hj⟩ := w.split
    by_cases h : j = 0
    · subst h; simpa using hj
    · exfalso
      have := hj.pos hu
      have hj1 : x ≤ (j : Int) * x := by
        have := Int.mul_le_mul_of_nonneg_right (show (1 : Int) ≤ j from by omega) (show 0 ≤ x from by omega)
        omega
      omega
  rcases h with ⟨h1, h2⟩ | ⟨h1, h2⟩
  · exact .inl ⟨h1, fun c w => h2 c (key c w)⟩
  · exact .inr ⟨h1.mono (fun y hy => List.mem_append.2 (.inl hy)), fun c w => h2 c (key c w)⟩
end Go.Proofs.Ytapdhljbhekcdaa.E
end
section
namespace Go.Proofs.Ytapdhljbhekcdaa.E
open Go.RowKit Go.Proofs.YtapdhljbhekcdaaW.PrintWords Go.Proofs.YtapdhljbhekcdaaW.PrintLast Go.Proofs.YtapdhljbhekcdaaW.PrintMore
set_option linter.unusedVariables false
set_option linter.unusedSimpArgs false
structure Lst (v : List Int) (a G : Int) (t : List Int) : Prop where
  len : (t.length : Int) = a
  ge : ∀ r, 0 ≤ r → r < a → -1 ≤ rd t r
  way : ∀ r, 0 ≤ r → r < a → 0 ≤ rd t r → (∃ c, Way v (rd t r) c) ∧ rd t r % a = r
  least : ∀ n c, Way v n c → 0 ≤ rd t (n % a) ∧ rd t (n % a) ≤ n
  bound : ∀ r, 0 ≤ r → r < a → rd t r ≤ (a - 1) * G
def sets (t : List Int) : Nat := t.countP (fun x => decide (0 ≤ x))
theorem sets_le (t : List Int) : sets t ≤ t.length := List.countP_le_length
def weight (B : Int) (t : List Int) : Int := (t.map fun x => if x < 0 then B else x).sum
theorem weight_nonneg {B : Int} (hB : 0 ≤ B) (t : List Int) : 0 ≤ weight B t := by
  induction t with
  | nil => simp [weight]
  | cons x t ih =>
    unfold weight at *
    rw [List.map_cons, List.sum_cons]
    by_cases h : x < 0
    · rw [if_pos h]; omega
    · rw [if_neg h]; omega
theorem weight_set (B : Int) (t : List Int) (i : Nat) (h : i < t.length) (x : Int) : weight B (t.set i x) + (if t[i] < 0 then B else t[i]) = weight B t + (if x < 0 then B else x) := by
  induction t generalizing i with
  | nil => simp at h
  | cons y t ih =>
    unfold weight at *
    cases i with
    | zero => simp only [List.set_cons_zero, List.map_cons, List.sum_cons, List.getElem_cons_zero]; omega
    | succ i =>
      have := ih i (by simpa using h)
      simp only [List.set_cons_succ, List.map_cons, List.sum_cons, List.getElem_cons_succ]
      omega
theorem sets_set (t : List Int) (i : Nat) (h : i < t.length) (x : Int) (hx : 0 ≤ x) : sets (t.set i x) + (if 0 ≤ t[i] then 1 else 0) = sets t + 1 := by
  induction t generalizing i with
  | nil => simp at h
  | cons y t ih =>
    unfold sets at *
    cases i with
    | zero =>
      simp only [List.set_cons_zero, List.countP_cons, List.getElem_cons_zero]
      by_cases e : 0 ≤ y <;> simp [e, hx]
    | succ i =>
      have := ih i (by simpa using h)
      simp only [List.set_cons_succ, List.countP_cons, List.getElem_cons_succ]
      omega
structure LInv (v : List Int) (a G : Int) (t : List Int) : Prop where
  len : (t.length : Int) = a
  zero : rd t 0 = 0
  ge : ∀ r, 0 ≤ r → r < a → -1 ≤ rd t r
  way : ∀ r, 0 ≤ r → r < a → 0 ≤ rd t r → (∃ c, Way v (rd t r) c) ∧ rd t r % a = r
  bound : ∀ r, 0 ≤ r → r < a → rd t r ≤ ((sets t : Int) - 1) * G
theorem mul_le_of {x y G : Int} (hG : 0 ≤ G) (h : x ≤ y) : x * G ≤ y * G := Int.mul_le_mul_of_nonneg_right h hG
theorem LInv.top {v : List Int} {a G : Int} {t : List Int} (hG : 0 ≤ G) (h : LInv v a G t) {r : Int} (h0 : 0 ≤ r) (h1 : r < a) : rd t r ≤ (a - 1) * G := by
  have := h.bound r h0 h1
  have := sets_le t
  have := h.len
  have := mul_le_of (x := (sets t : Int) - 1) (y := a - 1) hG (by omega)
  omega
theorem LInv.step {v : List Int} {a G : Int} {t : List Int} (hv : ∀ x ∈ v, 1 ≤ x ∧ x ≤ G) (ha : 1 ≤ a) (h : LInv v a G t) {r g : Int} (hr0 : 0 ≤ r) (hr1 : r < a) (hg : g ∈ v) (hs : 0 ≤ rd t r)
    (hc : rd t ((rd t r + g) % a) < 0 ∨ rd t r + g < rd t ((rd t r + g) % a)) :
    LInv v a G (t.set ((rd t r + g) % a).toNat (rd t r + g)) ∧ weight (a * G + 1) (t.set ((rd t r + g) % a).toNat (rd t r + g)) < weight (a * G + 1) t ∧ rd t r + g ≤ a * G ∧ (rd t r + g) % a ≠ r := by
  have hgv := hv g hg
  have hG : 0 ≤ G := by omega
  have q0 := Int.emod_nonneg (rd t r + g) (b := a) (by omega)
  have q1 := Int.emod_lt_of_pos (rd t r + g) (b := a) (by omega)
  generalize hto : (rd t r + g) % a = y0 at *
  have hl := h.len
  have hb := h.bound r hr0 hr1
  have hbt := h.bound y0 q0 q1
  have hsl := sets_le t
  have hne : y0 ≠ r := by rintro rfl; omega
  have h00 : y0 ≠ 0 := by rintro rfl; rw [h.zero] at hc; omega
  have hrd : rd t y0 = t[y0.toNat]'(by omega) := rd_lt q0 (by omega)
  have hss := sets_set t y0.toNat (by omega) (rd t r + g) (by omega)
  have hws := weight_set (a * G + 1) t y0.toNat (by omega) (rd t r + g)
  rw [← hrd] at hss hws
  have hset0 : (sets (t.set y0.toNat (rd t r + g)) : Int) + (if 0 ≤ rd t y0 then 1 else 0) = sets t + 1 := by
    split at hss <;> omega
  have hm : a * G = (a - 1) * G + G := by rw [Int.sub_mul]; omega
  have hm2 : ((sets t : Int)) * G = ((sets t : Int) - 1) * G + G := by rw [Int.sub_mul]; omega
  have hm3 := mul_le_of (x := (sets t : Int) - 1) (y := a - 1) hG (by omega)
  obtain ⟨⟨c, hw⟩, hmod⟩ := h.way r hr0 hr1 hs
  have hset : (sets (t.set y0.toNat (rd t r + g)) : Int) = if rd t y0 < 0 then (sets t : Int) + 1 else sets t := by
    by_cases e : rd t y0 < 0
    · rw [if_pos e]; rw [if_neg (by omega)] at hset0; omega
    · rw [if_neg e]; rw [if_pos (by omega)] at hset0; omega
  have hsets : (sets t : Int) ≤ sets (t.set y0.toNat (rd t r + g)) := by rw [hset]; split <;> omega
  have hup : ((sets t : Int) - 1) * G ≤ ((sets (t.set y0.toNat (rd t r + g)) : Int) - 1) * G := mul_le_of hG (by omega)
  have hy : rd t r + g ≤ ((sets (t.set y0.toNat (rd t r + g)) : Int) - 1) * G := by
    by_cases e : rd t y0 < 0
    · rw [hset, if_pos e, show (sets t : Int) + 1 - 1 = sets t from by omega]; omega
    · omega
  refine ⟨⟨by simpa using hl, ?_, ?_, ?_, ?_⟩, ?_, by omega, hne⟩
  · have := rd_set (l := t) (rd t r + g) q0 (by omega) (show (0 : Int) ≤ 0 by omega)
    rw [this, if_neg (fun e => h00 e.symm)]; exact h.zero
  · intro s hs0 hs1
    rw [rd_set _ q0 (by omega) hs0]
    by_cases e : s = y0
    · rw [if_pos e]; omega
    · rw [if_neg e]; exact h.ge s hs0 hs1
  · intro s hs0 hs1 hpos
    rw [rd_set _ q0 (by omega) hs0] at hpos ⊢
    by_cases e : s = y0
    · rw [if_pos e] at hpos ⊢
      exact ⟨⟨c + 1, .add hg hw⟩, by rw [hto, e]⟩
    · rw [if_neg e] at hpos ⊢; exact h.way s hs0 hs1 hpos
  · intro s hs0 hs1
    rw [rd_set _ q0 (by omega) hs0]
    by_cases e : s = y0
    · rw [if_pos e]; exact hy
    · rw [if_neg e]; have := h.bound s hs0 hs1; omega
  · rw [if_neg (show ¬ rd t r + g < 0 by omega)] at hws
    by_cases e : rd t y0 < 0
    · rw [if_pos e] at hws; omega
    · rw [if_neg e] at hws; omega
def Closed (v : List Int) (a : Int) (t : List Int) : Prop := ∀ r, 0 ≤ r → r < a → 0 ≤ rd t r → ∀ g ∈ v, 0 ≤ rd t ((rd t r + g) % a) ∧ rd t ((rd t r + g) % a) ≤ rd t r + g
theorem LInv.done {v : List Int} {a G : Int} {t : List Int} (hv : ∀ x ∈ v, 1 ≤ x ∧ x ≤ G) (hG : 0 ≤ G) (ha : 1 ≤ a) (h : LInv v a G t) (hc : Closed v a t) : Lst v a G t := by
  refine ⟨h.len, h.ge, h.way, fun n c w => ?_, fun r h0 h1 => h.top hG h0 h1⟩
  induction w with
  | zero => simp [h.zero]
  | @add g k c hg hw ih =>
    have q0 := Int.emod_nonneg k (b := a) (by omega)
    have q1 := Int.emod_lt_of_pos k (b := a) (by omega)
    obtain ⟨c1, c2⟩ := hc (k % a) q0 q1 ih.1 g hg
    have hmod := (h.way (k % a) q0 q1 ih.1).2
    have e : (rd t (k % a) + g) % a = (k + g) % a := by
      rw [Int.add_emod, hmod, ← Int.add_emod]
    rw [e] at c1 c2
    exact ⟨c1, by omega⟩
theorem Lst.one {v : List Int} {a G G' : Int} {t u : List Int} (h : Lst v a G t) (k : Lst v a G' u) : t = u := by
  refine rd_ext (by have := h.len; have := k.len; omega) fun r h0 h1 => ?_
  have ha : r < a := by have := h.len; omega
  have g1 := h.ge r h0 ha
  have g2 := k.ge r h0 ha
  have l1 : 0 ≤ rd t r → 0 ≤ rd u r ∧ rd u r ≤ rd t r := fun hs => by
    obtain ⟨⟨c, w⟩, e⟩ := h.way r h0 ha hs
    have := k.least _ _ w
    rwa [e] at this
  have l2 : 0 ≤ rd u r → 0 ≤ rd t r ∧ rd t r ≤ rd u r := fun hs => by
    obtain ⟨⟨c, w⟩, e⟩ := k.way r h0 ha hs
    have := h.least _ _ w
    rwa [e] at this
  by_cases e1 : 0 ≤ rd t r
  · have := l1 e1; have := l2 (by omega); omega
  · by_cases e2 : 0 ≤ rd u r
    · have := l2 e2; omega
    · omega
theorem LInv.first {v : List Int} {a G : Int} (ha : 1 ≤ a) (hG : 0 ≤ G) : LInv v a G ((List.replicate a.toNat (-1)).set 0 0) := by
  have hl : ((List.replicate a.toNat (-1 : Int)).length : Int) = a := by simp; omega
  have hr : ∀ r, 0 ≤ r → r < a → rd ((List.replicate a.toNat (-1)).set 0 0) r = if r = 0 then 0 else -1 := fun r h0 h1 => by
    have := rd_set (l := List.replicate a.toNat (-1)) (i := 0) (j := r) 0 (by omega) (by omega) h0
    rw [show (0 : Int).toNat = 0 from rfl] at this
    rw [this]
    by_cases e : r = 0
    · rw [if_pos e, if_pos e]
    · rw [if_neg e, if_neg e, rd_rep h0 (by omega)]
  have hs : 1 ≤ sets ((List.replicate a.toNat (-1)).set 0 0) := by
    have := sets_set (List.replicate a.toNat (-1)) 0 (by simp; omega) 0 (by omega)
    simp at this
    omega
  have hp : 0 ≤ ((sets ((List.replicate a.toNat (-1)).set 0 0) : Int) - 1) * G := Int.mul_nonneg (by omega) hG
  refine ⟨by simp; omega, by rw [hr 0 (by omega) (by omega)]; rfl, fun r h0 h1 => ?_, fun r h0 h1 h2 => ?_, fun r h0 h1 => ?_⟩
  · rw [hr r h0 h1]; split <;> omega
  · rw [hr r h0 h1] at h2 ⊢
    by_cases e : r = 0
    · rw [if_pos e]; exact ⟨⟨0, .zero⟩, by rw [e]; rfl⟩
    · rw [if_neg e] at h2; omega
  · rw [hr r h0 h1]; split <;> omega
end Go.Proofs.Ytapdhljbhekcdaa.E
end
