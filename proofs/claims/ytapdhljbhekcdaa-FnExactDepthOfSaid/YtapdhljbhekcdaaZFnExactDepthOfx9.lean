-- Bundled by shake.py from this session's printed and written texts; Lean checks it.
import Derived.Test.YtapdhljbhekcdaaZFnExactDepthOfx1
import Derived.Test.YtapdhljbhekcdaaZFnExactDepthOfx4
import Derived.Test.YtapdhljbhekcdaaZFnExactDepthOfx5
import Derived.Test.YtapdhljbhekcdaaZFnExactDepthOfx6
import Derived.Test.YtapdhljbhekcdaaZFnExactDepthOfx8
section
namespace Go.Proofs.Ytapdhljbhekcdaa.PA
open Go.RowKit Go.Proofs.YtapdhljbhekcdaaW.PrintWords Go.Proofs.YtapdhljbhekcdaaW.PrintLast Go.Proofs.YtapdhljbhekcdaaW.PrintMore
set_option linter.unusedVariables false
set_option linter.unusedSimpArgs false
def laws_eqIntS.l0 : Nat → List Int → List Int → Int → Option (Bool)
  | 0, _, _, _ => none
  | k + 1, x0, x1, x5 => if x5 < (x0.length : Int) then (if 0 ≤ x5 then (if x5 < (x1.length : Int) then (if (rd x0 x5) = (rd x1 x5) then (laws_eqIntS.l0 k x0 x1 (wrap64 (x5 + 1))) else (some false)) else (none)) else (none)) else (some true)
def laws_eqIntS.f (k : Nat) (l0 : List Int) (l1 : List Int) : Option (Bool) := if (l0.length : Int) = (l1.length : Int) then (laws_eqIntS.l0 k l0 l1 0) else (some false)
set_option maxHeartbeats 8000000 in
set_option maxRecDepth 100000 in
theorem laws_eqIntS.calls (k : Nat) (A0 : Option Addr) (c0 : Nat) (l0 : List Int) (A1 : Option Addr) (c1 : Nat) (l1 : List Int) (r : Bool) (w : World) (hr0 : Kd.C (Kd.int .i64) w A0 l0.length l0) (hc0 : l0.length ≤ c0) (hr1 : Kd.C (Kd.int .i64) w A1 l1.length l1) (hc1 : l1.length ≤ c1) (h : laws_eqIntS.f k l0 l1 = some r) :
    Calls Try.prog 58 #[.slice A0 l0.length c0, .slice A1 l1.length c1] w fun e w' => e = .returned (.bool r) ∧ Drawn0 w w' := by
  have HR0 := Aside0.mk hr0
  have HC0 := Aside0.mk hc0
  clear hr0 hc0
  have HR1 := Aside0.mk hr1
  have HC1 := Aside0.mk hc1
  clear hr1 hc1
  have H : (if (l0.length : Int) = (l1.length : Int) then (laws_eqIntS.l0 k l0 l1 0) else (some false)) = some r := h
  clear h
  by_cases c3 : (l0.length : Int) = (l1.length : Int)
  · rw [if_pos c3] at H
    have c3b0 : ((l0.length : Int) == (l1.length : Int)) = true := beq_iff_eq.mpr c3
    have c3b1 : ((l0.length : Int) != (l1.length : Int)) = false := bne_eq_false_iff_eq.mpr c3
    have c3b2 : (l0.length == l1.length) = true := by first | simpa using c3 | (simp at c3 ⊢; omega)
    clear c3
    have H' := Aside0.mk H
    clear H
    go_enter Try.func58, Try.ntmps58
    go_wp2
    repeat (go_quiet (fail); try go_wp2)
    go_loopg [5] k (fun kq v5 w' => ∃ (x5_1 : Int), v5 = .int .i64 x5_1 ∧ Aside0 (laws_eqIntS.l0 kq l0 l1 x5_1 = some r) ∧ Aside0 (kq ≤ k) ∧ Drawn0 w w')
    case atStart => exact ⟨(0), (by first | rfl | (simp; done) | (simp [*]; done)), H', ⟨Nat.le_refl _⟩, by repeat (first | exact Drawn0.refl _ | apply Drawn0.step)⟩
    case round =>
      clear H'
      try clear c1
      try clear p2
      try clear c3
      try clear c3b0
      try clear c3b1
      try clear c3b2
      obtain ⟨x5_1, rfl, HA, HK1, ⟨m1, rfl⟩⟩ := hrel
      cases gk with
      | zero => exact absurd HA.out (by simp [laws_eqIntS.l0])
      | succ k1 =>
        have H := HA.out
        clear HA
        simp only [laws_eqIntS.l0] at H
        by_cases c4 : x5_1 < (l0.length : Int)
        · rw [if_pos c4] at H
          have c4b0 : decide (x5_1 < (l0.length : Int)) = true := decide_eq_true c4
          clear c4
          by_cases c5 : 0 ≤ x5_1
          · rw [if_pos c5] at H
            have c5b0 : decide (0 ≤ x5_1) = true := decide_eq_true c5
            clear c5
            by_cases c6 : x5_1 < (l1.length : Int)
            · rw [if_pos c6] at H
              have c6b0 : decide (x5_1 < (l1.length : Int)) = true := decide_eq_true c6
              clear c6
              by_cases c7 : (rd l0 x5_1) = (rd l1 x5_1)
              · rw [if_pos c7] at H
                have c7b0 : ((rd l0 x5_1) == (rd l1 x5_1)) = true := beq_iff_eq.mpr c7
                have c7b1 : ((rd l0 x5_1) != (rd l1 x5_1)) = false := bne_eq_false_iff_eq.mpr c7
                clear c7
                have H' := Aside0.mk H
                clear H
                have p332 : 0 ≤ (x5_1 : Int) := of_decide_eq_true (by first | (with_reducible assumption) | assumption)
                have q332 : x5_1 < (l0.length : Int) := of_decide_eq_true (by first | (with_reducible assumption) | assumption)
                obtain ⟨ad332, e332, hx332_0⟩ := Kd.at_int HR0.out x5_1 p332 q332
                cases e332
                replace p332 := eq_true p332
                replace q332 := eq_true q332
                have p333 : 0 ≤ (x5_1 : Int) := of_decide_eq_true (by first | (with_reducible assumption) | assumption)
                have q333 : x5_1 < (l1.length : Int) := of_decide_eq_true (by first | (with_reducible assumption) | assumption)
                obtain ⟨ad333, e333, hx333_0⟩ := Kd.at_int HR1.out x5_1 p333 q333
                cases e333
                replace p333 := eq_true p333
                replace q333 := eq_true q333
                go_wp2
                repeat (go_quiet (fail); try go_wp2)
                go_roundg k1
                case measure => have := HK1.out; omega
                case rel => exact ⟨(wrap64 (x5_1 + 1)), (by first | rfl | (simp; done) | (simp [*]; done)), H', ⟨by have := HK1.out; omega⟩, by repeat (first | exact Drawn0.refl _ | apply Drawn0.step)⟩
              · rw [if_neg c7] at H
                have c7b0 : ((rd l0 x5_1) == (rd l1 x5_1)) = false := beq_eq_false_iff_ne.mpr c7
                have c7b1 : ((rd l0 x5_1) != (rd l1 x5_1)) = true := bne_iff_ne.mpr c7
                obtain rfl := Option.some.inj H
                have p332 : 0 ≤ (x5_1 : Int) := of_decide_eq_true (by first | (with_reducible assumption) | assumption)
                have q332 : x5_1 < (l0.length : Int) := of_decide_eq_true (by first | (with_reducible assumption) | assumption)
                obtain ⟨ad332, e332, hx332_0⟩ := Kd.at_int HR0.out x5_1 p332 q332
                cases e332
                replace p332 := eq_true p332
                replace q332 := eq_true q332
                have p333 : 0 ≤ (x5_1 : Int) := of_decide_eq_true (by first | (with_reducible assumption) | assumption)
                have q333 : x5_1 < (l1.length : Int) := of_decide_eq_true (by first | (with_reducible assumption) | assumption)
                obtain ⟨ad333, e333, hx333_0⟩ := Kd.at_int HR1.out x5_1 p333 q333
                cases e333
                replace p333 := eq_true p333
                replace q333 := eq_true q333
                go_wp2
                repeat (go_quiet (fail); try go_wp2)
                go_ret
                exact ⟨by first | rfl | (simp; done) | (simp [*]; done), by repeat (first | exact Drawn0.refl _ | apply Drawn0.step)⟩
            · rw [if_neg c6] at H
              exact absurd H (by simp)
          · rw [if_neg c5] at H
            exact absurd H (by simp)
        · rw [if_neg c4] at H
          have c4b0 : decide (x5_1 < (l0.length : Int)) = false := decide_eq_false c4
          clear c4
          obtain rfl := Option.some.inj H
          go_wp2
          repeat (go_quiet (fail); try go_wp2)
          go_ret
          exact ⟨by first | rfl | (simp; done) | (simp [*]; done), by repeat (first | exact Drawn0.refl _ | apply Drawn0.step)⟩
  · rw [if_neg c3] at H
    have c3b0 : ((l0.length : Int) == (l1.length : Int)) = false := beq_eq_false_iff_ne.mpr c3
    have c3b1 : ((l0.length : Int) != (l1.length : Int)) = true := bne_iff_ne.mpr c3
    have c3b2 : (l0.length == l1.length) = false := by first | simpa using c3 | (simp at c3 ⊢; omega)
    obtain rfl := Option.some.inj H
    go_enter Try.func58, Try.ntmps58
    go_wp2
    repeat (go_quiet (fail); try go_wp2)
    go_ret
    exact ⟨by first | rfl | (simp; done) | (simp [*]; done), by repeat (first | exact Drawn0.refl _ | apply Drawn0.step)⟩
def laws_eqSemigroup.f (k : Nat) (l0_0 : List Int) (l1_0 : List Int) : Option (Bool) := (laws_eqIntS.f k l0_0 l1_0).bind fun t336 => (if t336 = true then (some true) else (some false))
set_option maxHeartbeats 8000000 in
set_option maxRecDepth 100000 in
theorem laws_eqSemigroup.calls (k : Nat) (A0_0 : Option Addr) (c0_0 : Nat) (l0_0 : List Int) (A1_0 : Option Addr) (c1_0 : Nat) (l1_0 : List Int) (r : Bool) (w : World) (hr0_0 : Kd.C (Kd.int .i64) w A0_0 l0_0.length l0_0) (hc0_0 : l0_0.length ≤ c0_0) (hr1_0 : Kd.C (Kd.int .i64) w A1_0 l1_0.length l1_0) (hc1_0 : l1_0.length ≤ c1_0) (h : laws_eqSemigroup.f k l0_0 l1_0 = some r) :
    Calls Try.prog 19 #[.agg #[.slice A0_0 l0_0.length c0_0], .agg #[.slice A1_0 l1_0.length c1_0]] w fun e w' => e = .returned (.bool r) ∧ Below w.heap.size w w' := by
  have hu27 := Try.underlying27
  have HR0_0 := Aside0.mk hr0_0
  have HC0_0 := Aside0.mk hc0_0
  clear hr0_0 hc0_0
  have HR1_0 := Aside0.mk hr1_0
  have HC1_0 := Aside0.mk hc1_0
  clear hr1_0 hc1_0
  have HB := Aside0.mk (Below.refl w.heap.size w)
  have H : ((laws_eqIntS.f k l0_0 l1_0).bind fun t336 => (if t336 = true then (some true) else (some false))) = some r := h
  clear h
  replace H := Option.bind_eq_some_iff.mp H
  obtain ⟨t336, A30, H⟩ := H
  replace H : (if t336 = true then (some true) else (some false)) = some r := H
  have A3 := Aside0.mk A30
  clear A30
  by_cases c4 : t336 = true
  · subst c4
    have H1 : (some true) = some r := by rw [if_pos rfl] at H; exact H
    clear H
    have H := H1
    clear H1
    obtain rfl := Option.some.inj H
    go_enter Try.func19, Try.ntmps19
    go_wp2_with (first | ((with_reducible refine gate_dst (N := 2) rfl ?_); refine box_event ?hg (N := 2) ?hd (cs := #[.slice A0_0 l0_0.length c0_0]) (t := 27) ?hr ?_; (case hd => rfl); (case hg => rfl); (case hr => first | (go_simp; done) | (go_simp; rfl)); intro gb334 hg w5 hbox hb; have n0_ := Aside0.mk (below_step (by repeat (first | (with_reducible first | exact HB.out | apply below_alloc | apply pw_below_drewN | apply below_drew1) | exact HB.out)) hb); have n1_ := Aside0.mk (hbox); have n2_ := Aside0.mk ((by rw [hg]; exact (below_size (by repeat (first | (with_reducible first | exact HB.out | apply below_alloc | apply pw_below_drewN | apply below_drew1) | exact HB.out))) : w.heap.size ≤ gb334)); have n3_ := Aside0.mk ((by rw [hg]; exact (below_size (by repeat (first | (with_reducible first | exact HB.out | apply below_alloc | apply pw_below_drewN | apply below_drew1) | exact HB.out))) : w.heap.size ≤ gb334)); clear HB; have HB := n0_; have BK334 := n1_; have GW334 := n2_; have GE334 := n3_; clear n0_ n1_ n2_ n3_; clear hb hbox hg) | ((with_reducible refine gate_dst (N := 3) rfl ?_); refine box_event ?hg (N := 3) ?hd (cs := #[.slice A1_0 l1_0.length c1_0]) (t := 27) ?hr ?_; (case hd => rfl); (case hg => rfl); (case hr => first | (go_simp; done) | (go_simp; rfl)); intro gb335 hg w6 hbox hb; have n0_ := Aside0.mk (blk_below (g := gb334) (o := .cells #[.slice A0_0 l0_0.length c0_0] 27 (0, 0)) (by (with_reducible repeat (first | refine blk_drewN ?_ _ | refine blk_drew ?_ | refine blk_alloc ?_ _)); exact BK334.out) hb); have n1_ := Aside0.mk (below_step (by repeat (first | (with_reducible first | exact HB.out | apply below_alloc | apply pw_below_drewN | apply below_drew1 | refine below_set ?_ GE334.out) | exact HB.out)) hb); have n2_ := Aside0.mk (hbox); have n3_ := Aside0.mk ((by rw [hg]; exact (below_size (by repeat (first | (with_reducible first | exact HB.out | apply below_alloc | apply pw_below_drewN | apply below_drew1 | refine below_set ?_ GE334.out) | exact HB.out))) : w.heap.size ≤ gb335)); have n4_ := Aside0.mk ((by rw [hg]; exact (below_size (by repeat (first | (with_reducible first | exact HB.out | apply below_alloc | apply pw_below_drewN | apply below_drew1 | refine below_set ?_ GE334.out) | exact HB.out))) : w.heap.size ≤ gb335)); have n5_ := Aside0.mk ((by rw [hg]; exact Nat.ne_of_lt (blk_lt (g := gb334) (o := .cells #[.slice A0_0 l0_0.length c0_0] 27 (0, 0)) (by (with_reducible repeat (first | refine blk_drewN ?_ _ | refine blk_drew ?_ | refine blk_alloc ?_ _)); exact BK334.out)) : gb334 ≠ gb335)); have n6_ := Aside0.mk ((by rw [hg]; exact Nat.ne_of_gt (blk_lt (g := gb334) (o := .cells #[.slice A0_0 l0_0.length c0_0] 27 (0, 0)) (by (with_reducible repeat (first | refine blk_drewN ?_ _ | refine blk_drew ?_ | refine blk_alloc ?_ _)); exact BK334.out)) : gb335 ≠ gb334)); clear BK334; clear HB; have BK334 := n0_; have HB := n1_; have BK335 := n2_; have GW335 := n3_; have GE335 := n4_; have NB334_335 := n5_; have NB335_334 := n6_; clear n0_ n1_ n2_ n3_ n4_ n5_ n6_; clear hb hbox hg; have hnb7 := NB334_335.out; have hnc7 := NB335_334.out; have hcz8_0 : w6.cell? ⟨gb334, 0, none⟩ = some (.slice A0_0 l0_0.length c0_0) := (blk_cell BK334.out 0).trans rfl; have hfz8_0 := blk_frozen BK334.out 0; have hcz9_0 : w6.cell? ⟨gb335, 0, none⟩ = some (.slice A1_0 l1_0.length c1_0) := (blk_cell BK335.out 0).trans rfl; have hfz9_0 := blk_frozen BK335.out 0) | ((with_reducible refine gate_callee (f := 58) rfl ?_); refine goesL_ (some 9) rfl rfl Try.func58 (by kernel_rfl) rfl #[.slice A0_0 l0_0.length c0_0, .slice A1_0 l1_0.length c1_0] rfl (by (try simp only [List.map_toArray, List.map_cons, List.map_nil]); first | done | rfl | (simp only [List.length_drop, List.length_take]; rfl)) ?_; (with_reducible refine (laws_eqIntS.calls k _ _ l0_0 _ _ l1_0 true _ ?side1 ?side2 ?side3 ?side4 A3.out).mono ?_); (case side1 => repeat (first | exact (Kd.C_below HR0_0.out HB.out) | (with_reducible refine Kd.C_alloc ?_ _) | (with_reducible refine Kd.C_drewN ?_ _) | (with_reducible refine Kd.C_drew ?_))); (case side2 => exact HC0_0.out); (case side3 => repeat (first | exact (Kd.C_below HR1_0.out HB.out) | (with_reducible refine Kd.C_alloc ?_ _) | (with_reducible refine Kd.C_drewN ?_ _) | (with_reducible refine Kd.C_drew ?_))); (case side4 => exact HC1_0.out); rintro e w' ⟨rfl, ⟨nd, rfl⟩⟩; refine ⟨_, rfl, ?_⟩))
    go_ret
    exact ⟨by first | rfl | (simp [errW_none, errW_some] <;> rfl) | (simp [*, errW_none, errW_some] <;> rfl), by repeat (first | (with_reducible first | exact HB.out | apply below_alloc | apply pw_below_drewN | apply below_drew1 | refine below_set ?_ GE334.out | refine below_set ?_ GE335.out) | exact HB.out)⟩
  · replace c4 := Bool.eq_false_iff.mpr c4
    subst c4
    have H1 : (some false) = some r := by rw [if_neg (show ¬ (false = true) by decide)] at H; exact H
    clear H
    have H := H1
    clear H1
    obtain rfl := Option.some.inj H
    go_enter Try.func19, Try.ntmps19
    go_wp2_with (first | ((with_reducible refine gate_dst (N := 2) rfl ?_); refine box_event ?hg (N := 2) ?hd (cs := #[.slice A0_0 l0_0.length c0_0]) (t := 27) ?hr ?_; (case hd => rfl); (case hg => rfl); (case hr => first | (go_simp; done) | (go_simp; rfl)); intro gb334 hg w10 hbox hb; have n0_ := Aside0.mk (below_step (by repeat (first | (with_reducible first | exact HB.out | apply below_alloc | apply pw_below_drewN | apply below_drew1) | exact HB.out)) hb); have n1_ := Aside0.mk (hbox); have n2_ := Aside0.mk ((by rw [hg]; exact (below_size (by repeat (first | (with_reducible first | exact HB.out | apply below_alloc | apply pw_below_drewN | apply below_drew1) | exact HB.out))) : w.heap.size ≤ gb334)); have n3_ := Aside0.mk ((by rw [hg]; exact (below_size (by repeat (first | (with_reducible first | exact HB.out | apply below_alloc | apply pw_below_drewN | apply below_drew1) | exact HB.out))) : w.heap.size ≤ gb334)); clear HB; have HB := n0_; have BK334 := n1_; have GW334 := n2_; have GE334 := n3_; clear n0_ n1_ n2_ n3_; clear hb hbox hg) | ((with_reducible refine gate_dst (N := 3) rfl ?_); refine box_event ?hg (N := 3) ?hd (cs := #[.slice A1_0 l1_0.length c1_0]) (t := 27) ?hr ?_; (case hd => rfl); (case hg => rfl); (case hr => first | (go_simp; done) | (go_simp; rfl)); intro gb335 hg w11 hbox hb; have n0_ := Aside0.mk (blk_below (g := gb334) (o := .cells #[.slice A0_0 l0_0.length c0_0] 27 (0, 0)) (by (with_reducible repeat (first | refine blk_drewN ?_ _ | refine blk_drew ?_ | refine blk_alloc ?_ _)); exact BK334.out) hb); have n1_ := Aside0.mk (below_step (by repeat (first | (with_reducible first | exact HB.out | apply below_alloc | apply pw_below_drewN | apply below_drew1 | refine below_set ?_ GE334.out) | exact HB.out)) hb); have n2_ := Aside0.mk (hbox); have n3_ := Aside0.mk ((by rw [hg]; exact (below_size (by repeat (first | (with_reducible first | exact HB.out | apply below_alloc | apply pw_below_drewN | apply below_drew1 | refine below_set ?_ GE334.out) | exact HB.out))) : w.heap.size ≤ gb335)); have n4_ := Aside0.mk ((by rw [hg]; exact (below_size (by repeat (first | (with_reducible first | exact HB.out | apply below_alloc | apply pw_below_drewN | apply below_drew1 | refine below_set ?_ GE334.out) | exact HB.out))) : w.heap.size ≤ gb335)); have n5_ := Aside0.mk ((by rw [hg]; exact Nat.ne_of_lt (blk_lt (g := gb334) (o := .cells #[.slice A0_0 l0_0.length c0_0] 27 (0, 0)) (by (with_reducible repeat (first | refine blk_drewN ?_ _ | refine blk_drew ?_ | refine blk_alloc ?_ _)); exact BK334.out)) : gb334 ≠ gb335)); have n6_ := Aside0.mk ((by rw [hg]; exact Nat.ne_of_gt (blk_lt (g := gb334) (o := .cells #[.slice A0_0 l0_0.length c0_0] 27 (0, 0)) (by (with_reducible repeat (first | refine blk_drewN ?_ _ | refine blk_drew ?_ | refine blk_alloc ?_ _)); exact BK334.out)) : gb335 ≠ gb334)); clear BK334; clear HB; have BK334 := n0_; have HB := n1_; have BK335 := n2_; have GW335 := n3_; have GE335 := n4_; have NB334_335 := n5_; have NB335_334 := n6_; clear n0_ n1_ n2_ n3_ n4_ n5_ n6_; clear hb hbox hg; have hnb12 := NB334_335.out; have hnc12 := NB335_334.out; have hcz13_0 : w11.cell? ⟨gb334, 0, none⟩ = some (.slice A0_0 l0_0.length c0_0) := (blk_cell BK334.out 0).trans rfl; have hfz13_0 := blk_frozen BK334.out 0; have hcz14_0 : w11.cell? ⟨gb335, 0, none⟩ = some (.slice A1_0 l1_0.length c1_0) := (blk_cell BK335.out 0).trans rfl; have hfz14_0 := blk_frozen BK335.out 0) | ((with_reducible refine gate_callee (f := 58) rfl ?_); refine goesL_ (some 9) rfl rfl Try.func58 (by kernel_rfl) rfl #[.slice A0_0 l0_0.length c0_0, .slice A1_0 l1_0.length c1_0] rfl (by (try simp only [List.map_toArray, List.map_cons, List.map_nil]); first | done | rfl | (simp only [List.length_drop, List.length_take]; rfl)) ?_; (with_reducible refine (laws_eqIntS.calls k _ _ l0_0 _ _ l1_0 false _ ?side1 ?side2 ?side3 ?side4 A3.out).mono ?_); (case side1 => repeat (first | exact (Kd.C_below HR0_0.out HB.out) | (with_reducible refine Kd.C_alloc ?_ _) | (with_reducible refine Kd.C_drewN ?_ _) | (with_reducible refine Kd.C_drew ?_))); (case side2 => exact HC0_0.out); (case side3 => repeat (first | exact (Kd.C_below HR1_0.out HB.out) | (with_reducible refine Kd.C_alloc ?_ _) | (with_reducible refine Kd.C_drewN ?_ _) | (with_reducible refine Kd.C_drew ?_))); (case side4 => exact HC1_0.out); rintro e w' ⟨rfl, ⟨nd, rfl⟩⟩; refine ⟨_, rfl, ?_⟩))
    go_ret
    exact ⟨by first | rfl | (simp [errW_none, errW_some] <;> rfl) | (simp [*, errW_none, errW_some] <;> rfl), by repeat (first | (with_reducible first | exact HB.out | apply below_alloc | apply pw_below_drewN | apply below_drew1 | refine below_set ?_ GE334.out | refine below_set ?_ GE335.out) | exact HB.out)⟩
def laws_FnExactDepthOf.f (k : Nat) (l0_0 : List Int) : Option (Bool) := (laws_szSemigroup.f l0_0 1048576).bind fun t338 => (if t338 < 0 then (some true) else ((laws_toSemigroup.f k l0_0).bind fun t339 => ((spec_DepthOf.f k t339).bind fun t342 => ((laws_toSemigroup.f k l0_0).bind fun t343 => ((impl_DepthOf.f k t343).bind fun t347 => (if t347 = t342 then ((laws_toSemigroup.f k l0_0).bind fun t348 => ((laws_eqSemigroup.f k t343 t348).bind fun t351 => (if t351 = true then (some true) else (some false)))) else (some false)))))))
set_option maxHeartbeats 8000000 in
set_option maxRecDepth 100000 in
theorem laws_FnExactDepthOf.calls (k : Nat) (A0_0 : Option Addr) (c0_0 : Nat) (l0_0 : List Int) (r : Bool) (w : World) (hr0_0 : Kd.C (Kd.int .i64) w A0_0 l0_0.length l0_0) (hc0_0 : l0_0.length ≤ c0_0) (h : laws_FnExactDepthOf.f k l0_0 = some r) :
    Calls Try.prog 3 #[.agg #[.slice A0_0 l0_0.length c0_0]] w fun e w' => e = .returned (.bool r) ∧ Below w.heap.size w w' := by
  have hu24 := Try.underlying24
  have hu27 := Try.underlying27
  have HR0_0 := Aside0.mk hr0_0
  have HC0_0 := Aside0.mk hc0_0
  clear hr0_0 hc0_0
  have HB := Aside0.mk (Below.refl w.heap.size w)
  have H : ((laws_szSemigroup.f l0_0 1048576).bind fun t338 => (if t338 < 0 then (some true) else ((laws_toSemigroup.f k l0_0).bind fun t339 => ((spec_DepthOf.f k t339).bind fun t342 => ((laws_toSemigroup.f k l0_0).bind fun t343 => ((impl_DepthOf.f k t343).bind fun t347 => (if t347 = t342 then ((laws_toSemigroup.f k l0_0).bind fun t348 => ((laws_eqSemigroup.f k t343 t348).bind fun t351 => (if t351 = true then (some true) else (some false)))) else (some false)))))))) = some r := h
  clear h
  replace H := Option.bind_eq_some_iff.mp H
  obtain ⟨t338, A20, H⟩ := H
  replace H : (if t338 < 0 then (some true) else ((laws_toSemigroup.f k l0_0).bind fun t339 => ((spec_DepthOf.f k t339).bind fun t342 => ((laws_toSemigroup.f k l0_0).bind fun t343 => ((impl_DepthOf.f k t343).bind fun t347 => (if t347 = t342 then ((laws_toSemigroup.f k l0_0).bind fun t348 => ((laws_eqSemigroup.f k t343 t348).bind fun t351 => (if t351 = true then (some true) else (some false)))) else (some false))))))) = some r := H
  have A2 := Aside0.mk A20
  clear A20
  by_cases c3 : t338 < 0
  · rw [if_pos c3] at H
    have c3b0 : decide (t338 < 0) = true := decide_eq_true c3
    clear c3
    obtain rfl := Option.some.inj H
    go_enter Try.func3, Try.ntmps3
    go_wp2_with (first | ((with_reducible refine gate_dst (N := 1) rfl ?_); refine box_event ?hg (N := 1) ?hd (cs := #[.slice A0_0 l0_0.length c0_0]) (t := 24) ?hr ?_; (case hd => rfl); (case hg => rfl); (case hr => first | (go_simp; done) | (go_simp; rfl)); intro gb337 hg w4 hbox hb; have n0_ := Aside0.mk (below_step (by repeat (first | (with_reducible first | exact HB.out | apply below_alloc | apply pw_below_drewN | apply below_drew1) | exact HB.out)) hb); have n1_ := Aside0.mk (hbox); have n2_ := Aside0.mk ((by rw [hg]; exact (below_size (by repeat (first | (with_reducible first | exact HB.out | apply below_alloc | apply pw_below_drewN | apply below_drew1) | exact HB.out))) : w.heap.size ≤ gb337)); have n3_ := Aside0.mk ((by rw [hg]; exact (below_size (by repeat (first | (with_reducible first | exact HB.out | apply below_alloc | apply pw_below_drewN | apply below_drew1) | exact HB.out))) : w.heap.size ≤ gb337)); clear HB; have HB := n0_; have BK337 := n1_; have GW337 := n2_; have GE337 := n3_; clear n0_ n1_ n2_ n3_; clear hb hbox hg; have hcz5_0 : w4.cell? ⟨gb337, 0, none⟩ = some (.slice A0_0 l0_0.length c0_0) := (blk_cell BK337.out 0).trans rfl; have hfz5_0 := blk_frozen BK337.out 0) | ((with_reducible refine gate_callee (f := 15) rfl ?_); refine goesL_ (some 9) rfl rfl Try.func15 (by kernel_rfl) rfl #[.agg #[.slice A0_0 l0_0.length c0_0], .int .i64 1048576] rfl (by (try simp only [List.map_toArray, List.map_cons, List.map_nil]); first | done | rfl | (simp only [List.length_drop, List.length_take]; rfl)) ?_; (with_reducible refine (laws_szSemigroup.calls _ _ l0_0 1048576 t338 _ ?side1 ?side2 A2.out).mono ?_); (case side1 => repeat (first | exact (Kd.C_below HR0_0.out HB.out) | (with_reducible refine Kd.C_alloc ?_ _) | (with_reducible refine Kd.C_drewN ?_ _) | (with_reducible refine Kd.C_drew ?_))); (case side2 => exact HC0_0.out); rintro e w6 ⟨rfl, hb⟩; refine ⟨_, rfl, ?_⟩; have n0_ := Aside0.mk (blk_below (g := gb337) (o := .cells #[.slice A0_0 l0_0.length c0_0] 24 (0, 0)) (by (with_reducible repeat (first | refine blk_drewN ?_ _ | refine blk_drew ?_ | refine blk_alloc ?_ _)); exact BK337.out) hb); have n1_ := Aside0.mk (below_step (by repeat (first | (with_reducible first | exact HB.out | apply below_alloc | apply pw_below_drewN | apply below_drew1 | refine below_set ?_ GE337.out) | exact HB.out)) hb); clear BK337; clear HB; have BK337 := n0_; have HB := n1_; clear n0_ n1_; (try clear hb); (try clear hb2); (try clear hk); (try clear hi)))
    go_ret
    exact ⟨by first | rfl | (simp [errW_none, errW_some] <;> rfl) | (simp [*, errW_none, errW_some] <;> rfl), by repeat (first | (with_reducible first | exact HB.out | apply below_alloc | apply pw_below_drewN | apply below_drew1 | refine below_set ?_ GE337.out) | exact HB.out)⟩
  · rw [if_neg c3] at H
    have c3b0 : decide (t338 < 0) = false := decide_eq_false c3
    clear c3
    replace H := Option.bind_eq_some_iff.mp H
    obtain ⟨t339, A70, H⟩ := H
    replace H : ((spec_DepthOf.f k t339).bind fun t342 => ((laws_toSemigroup.f k l0_0).bind fun t343 => ((impl_DepthOf.f k t343).bind fun t347 => (if t347 = t342 then ((laws_toSemigroup.f k l0_0).bind fun t348 => ((laws_eqSemigroup.f k t343 t348).bind fun t351 => (if t351 = true then (some true) else (some false)))) else (some false))))) = some r := H
    have A7 := Aside0.mk A70
    clear A70
    replace H := Option.bind_eq_some_iff.mp H
    obtain ⟨t342, A80, H⟩ := H
    replace H : ((laws_toSemigroup.f k l0_0).bind fun t343 => ((impl_DepthOf.f k t343).bind fun t347 => (if t347 = t342 then ((laws_toSemigroup.f k l0_0).bind fun t348 => ((laws_eqSemigroup.f k t343 t348).bind fun t351 => (if t351 = true then (some true) else (some false)))) else (some false)))) = some r := H
    have A8 := Aside0.mk A80
    clear A80
    replace H := Option.bind_eq_some_iff.mp H
    obtain ⟨t343, A90, H⟩ := H
    replace H : ((impl_DepthOf.f k t343).bind fun t347 => (if t347 = t342 then ((laws_toSemigroup.f k l0_0).bind fun t348 => ((laws_eqSemigroup.f k t343 t348).bind fun t351 => (if t351 = true then (some true) else (some false)))) else (some false))) = some r := H
    have A9 := Aside0.mk A90
    clear A90
    replace H := Option.bind_eq_some_iff.mp H
    obtain ⟨t347, A100, H⟩ := H
    replace H : (if t347 = t342 then ((laws_toSemigroup.f k l0_0).bind fun t348 => ((laws_eqSemigroup.f k t343 t348).bind fun t351 => (if t351 = true then (some true) else (some false)))) else (some false)) = some r := H
    have A10 := Aside0.mk A100
    clear A100
    by_cases c11 : t347 = t342
    · rw [if_pos c11] at H
      have c11b0 : (t347 == t342) = true := beq_iff_eq.mpr c11
      have c11b1 : (t347 != t342) = false := bne_eq_false_iff_eq.mpr c11
      clear c11
      replace H := Option.bind_eq_some_iff.mp H
      obtain ⟨t348, A120, H⟩ := H
      replace H : ((laws_eqSemigroup.f k t343 t348).bind fun t351 => (if t351 = true then (some true) else (some false))) = some r := H
      have A12 := Aside0.mk A120
      clear A120
      replace H := Option.bind_eq_some_iff.mp H
      obtain ⟨t351, A130, H⟩ := H
      replace H : (if t351 = true then (some true) else (some false)) = some r := H
      have A13 := Aside0.mk A130
      clear A130
      by_cases c14 : t351 = true
      · subst c14
        have H1 : (some true) = some r := by rw [if_pos rfl] at H; exact H
        clear H
        have H := H1
        clear H1
        obtain rfl := Option.some.inj H
        go_enter Try.func3, Try.ntmps3
        try go_wp2_with (first | ((with_reducible refine gate_dst (N := 1) rfl ?_); refine box_event ?hg (N := 1) ?hd (cs := #[.slice A0_0 l0_0.length c0_0]) (t := 24) ?hr ?_; (case hd => rfl); (case hg => rfl); (case hr => first | (go_simp; done) | (go_simp; rfl)); intro gb337 hg w15 hbox hb; have n0_ := Aside0.mk (below_step (by repeat (first | (with_reducible first | exact HB.out | apply below_alloc | apply pw_below_drewN | apply below_drew1) | exact HB.out)) hb); have n1_ := Aside0.mk (hbox); have n2_ := Aside0.mk ((by rw [hg]; exact (below_size (by repeat (first | (with_reducible first | exact HB.out | apply below_alloc | apply pw_below_drewN | apply below_drew1) | exact HB.out))) : w.heap.size ≤ gb337)); have n3_ := Aside0.mk ((by rw [hg]; exact (below_size (by repeat (first | (with_reducible first | exact HB.out | apply below_alloc | apply pw_below_drewN | apply below_drew1) | exact HB.out))) : w.heap.size ≤ gb337)); clear HB; have HB := n0_; have BK337 := n1_; have GW337 := n2_; have GE337 := n3_; clear n0_ n1_ n2_ n3_; clear hb hbox hg; have hcz16_0 : w15.cell? ⟨gb337, 0, none⟩ = some (.slice A0_0 l0_0.length c0_0) := (blk_cell BK337.out 0).trans rfl; have hfz16_0 := blk_frozen BK337.out 0) | ((with_reducible refine gate_callee (f := 15) rfl ?_); refine goesL_ (some 9) rfl rfl Try.func15 (by kernel_rfl) rfl #[.agg #[.slice A0_0 l0_0.length c0_0], .int .i64 1048576] rfl (by (try simp only [List.map_toArray, List.map_cons, List.map_nil]); first | done | rfl | (simp only [List.length_drop, List.length_take]; rfl)) ?_; (with_reducible refine (laws_szSemigroup.calls _ _ l0_0 1048576 t338 _ ?side1 ?side2 A2.out).mono ?_); (case side1 => repeat (first | exact (Kd.C_below HR0_0.out HB.out) | (with_reducible refine Kd.C_alloc ?_ _) | (with_reducible refine Kd.C_drewN ?_ _) | (with_reducible refine Kd.C_drew ?_))); (case side2 => exact HC0_0.out); rintro e w17 ⟨rfl, hb⟩; refine ⟨_, rfl, ?_⟩; have n0_ := Aside0.mk (blk_below (g := gb337) (o := .cells #[.slice A0_0 l0_0.length c0_0] 24 (0, 0)) (by (with_reducible repeat (first | refine blk_drewN ?_ _ | refine blk_drew ?_ | refine blk_alloc ?_ _)); exact BK337.out) hb); have n1_ := Aside0.mk (below_step (by repeat (first | (with_reducible first | exact HB.out | apply below_alloc | apply pw_below_drewN | apply below_drew1 | refine below_set ?_ GE337.out) | exact HB.out)) hb); clear BK337; clear HB; have BK337 := n0_; have HB := n1_; clear n0_ n1_; (try clear hb); (try clear hb2); (try clear hk); (try clear hi); have hcz18_0 : w17.cell? ⟨gb337, 0, none⟩ = some (.slice A0_0 l0_0.length c0_0) := (blk_cell BK337.out 0).trans rfl; have hfz18_0 := blk_frozen BK337.out 0) | ((with_reducible refine gate_callee (f := 17) rfl ?_); refine goesL_ (some 13) rfl rfl Try.func17 (by kernel_rfl) rfl #[.agg #[.slice A0_0 l0_0.length c0_0]] rfl (by (try simp only [List.map_toArray, List.map_cons, List.map_nil]); first | done | rfl | (simp only [List.length_drop, List.length_take]; rfl)) ?_; (with_reducible refine (laws_toSemigroup.calls k _ _ l0_0 t339 _ ?side1 ?side2 A7.out).mono ?_); (case side1 => repeat (first | exact (Kd.C_below HR0_0.out HB.out) | (with_reducible refine Kd.C_alloc ?_ _) | (with_reducible refine Kd.C_drewN ?_ _) | (with_reducible refine Kd.C_drew ?_))); (case side2 => exact HC0_0.out); rintro e w19 ⟨v340, rfl, ho0, hb⟩; refine ⟨_, rfl, ?_⟩; have n0_ := Aside0.mk (Kd.R_lower ho0 (below_size (by repeat (first | (with_reducible first | exact HB.out | apply below_alloc | apply pw_below_drewN | apply below_drew1 | refine below_set ?_ GE337.out) | exact HB.out)))); have n1_ := Aside0.mk (blk_below (g := gb337) (o := .cells #[.slice A0_0 l0_0.length c0_0] 24 (0, 0)) (by (with_reducible repeat (first | refine blk_drewN ?_ _ | refine blk_drew ?_ | refine blk_alloc ?_ _)); exact BK337.out) hb); have n2_ := Aside0.mk (below_step (by repeat (first | (with_reducible first | exact HB.out | apply below_alloc | apply pw_below_drewN | apply below_drew1 | refine below_set ?_ GE337.out) | exact HB.out)) hb); clear BK337; clear HB; have HO341 := n0_; have BK337 := n1_; have HB := n2_; clear n0_ n1_ n2_; (try clear hb); (try clear hb2); (try clear hk); (try clear hi); (try clear ho0); obtain ⟨Ao20, co20, eo20⟩ := Kd.R_slice HO341.out; subst eo20) | ((with_reducible refine gate_callee (f := 16) rfl ?_); refine goesL_ (some 14) rfl rfl Try.func16 (by kernel_rfl) rfl #[.agg #[.slice Ao20 t339.length co20]] rfl (by (try simp only [List.map_toArray, List.map_cons, List.map_nil]); first | done | rfl | (simp only [List.length_drop, List.length_take]; rfl)) ?_; (with_reducible refine (spec_DepthOf.calls k _ _ t339 t342 _ ?side1 ?side2 A8.out).mono ?_); (case side1 => repeat (first | exact (Kd.R_reads' HO341.out).2.2 | (with_reducible refine Kd.C_alloc ?_ _) | (with_reducible refine Kd.C_drewN ?_ _) | (with_reducible refine Kd.C_drew ?_))); (case side2 => exact (Kd.R_reads' HO341.out).2.1); rintro e w21 ⟨rfl, hb⟩; refine ⟨_, rfl, ?_⟩; have n0_ := Aside0.mk (Kd.R_below (by (with_reducible repeat (first | apply Kd.R_alloc | apply Kd.R_drewN | apply Kd.R_drew)); exact HO341.out) hb); have n1_ := Aside0.mk (blk_below (g := gb337) (o := .cells #[.slice A0_0 l0_0.length c0_0] 24 (0, 0)) (by (with_reducible repeat (first | refine blk_drewN ?_ _ | refine blk_drew ?_ | refine blk_alloc ?_ _)); exact BK337.out) hb); have n2_ := Aside0.mk (below_step (by repeat (first | (with_reducible first | exact HB.out | apply below_alloc | apply pw_below_drewN | apply below_drew1 | refine below_set ?_ GE337.out) | exact HB.out)) hb); clear HO341; clear BK337; clear HB; have HO341 := n0_; have BK337 := n1_; have HB := n2_; clear n0_ n1_ n2_; (try clear hb); (try clear hb2); (try clear hk); (try clear hi); have hcz22_0 : w21.cell? ⟨gb337, 0, none⟩ = some (.slice A0_0 l0_0.length c0_0) := (blk_cell BK337.out 0).trans rfl; have hfz22_0 := blk_frozen BK337.out 0) | ((with_reducible refine gate_callee (f := 17) rfl ?_); refine goesL_ (some 16) rfl rfl Try.func17 (by kernel_rfl) rfl #[.agg #[.slice A0_0 l0_0.length c0_0]] rfl (by (try simp only [List.map_toArray, List.map_cons, List.map_nil]); first | done | rfl | (simp only [List.length_drop, List.length_take]; rfl)) ?_; (with_reducible refine (laws_toSemigroup.calls k _ _ l0_0 t343 _ ?side1 ?side2 A9.out).mono ?_); (case side1 => repeat (first | exact (Kd.C_below HR0_0.out HB.out) | (with_reducible refine Kd.C_alloc ?_ _) | (with_reducible refine Kd.C_drewN ?_ _) | (with_reducible refine Kd.C_drew ?_))); (case side2 => exact HC0_0.out); rintro e w23 ⟨v344, rfl, ho0, hb⟩; refine ⟨_, rfl, ?_⟩; have n0_ := Aside0.mk (Kd.R_elder' (by (with_reducible repeat (first | apply Kd.R_alloc | apply Kd.R_drewN | apply Kd.R_drew)); exact HO341.out) (Kd.R_base ho0) hb); have n1_ := Aside0.mk (Kd.R_lower (Kd.R_new' ho0 (Kd.R_lt (by (with_reducible repeat (first | apply Kd.R_alloc | apply Kd.R_drewN | apply Kd.R_drew)); exact HO341.out))) (below_size (by repeat (first | (with_reducible first | exact HB.out | apply below_alloc | apply pw_below_drewN | apply below_drew1 | refine below_set ?_ GE337.out) | exact HB.out)))); have n2_ := Aside0.mk (blk_below (g := gb337) (o := .cells #[.slice A0_0 l0_0.length c0_0] 24 (0, 0)) (by (with_reducible repeat (first | refine blk_drewN ?_ _ | refine blk_drew ?_ | refine blk_alloc ?_ _)); exact BK337.out) hb); have n3_ := Aside0.mk (below_step (by repeat (first | (with_reducible first | exact HB.out | apply below_alloc | apply pw_below_drewN | apply below_drew1 | refine below_set ?_ GE337.out) | exact HB.out)) hb); clear HO341; clear BK337; clear HB; have HO341 := n0_; have HO345 := n1_; have BK337 := n2_; have HB := n3_; clear n0_ n1_ n2_ n3_; (try clear hb); (try clear hb2); (try clear hk); (try clear hi); (try clear ho0)) | ((with_reducible refine gate_dst (N := 5) rfl ?_); refine box_event ?hg (N := 5) ?hd (cs := #[.slice none 0 0]) (t := 27) ?hr ?_; (case hd => rfl); (case hg => rfl); (case hr => first | (go_simp; done) | (go_simp; rfl)); intro gb346 hg w24 hbox hb; have n0_ := Aside0.mk (Kd.R_below (by (with_reducible repeat (first | apply Kd.R_alloc | apply Kd.R_drewN | apply Kd.R_drew)); exact HO341.out) hb); have n1_ := Aside0.mk (Kd.R_below (by (with_reducible repeat (first | apply Kd.R_alloc | apply Kd.R_drewN | apply Kd.R_drew)); exact HO345.out) hb); have n2_ := Aside0.mk (blk_below (g := gb337) (o := .cells #[.slice A0_0 l0_0.length c0_0] 24 (0, 0)) (by (with_reducible repeat (first | refine blk_drewN ?_ _ | refine blk_drew ?_ | refine blk_alloc ?_ _)); exact BK337.out) hb); have n3_ := Aside0.mk (below_step (by repeat (first | (with_reducible first | exact HB.out | apply below_alloc | apply pw_below_drewN | apply below_drew1 | refine below_set ?_ GE337.out) | exact HB.out)) hb); have n4_ := Aside0.mk (hbox); have n5_ := Aside0.mk ((by rw [hg]; exact (below_size (by repeat (first | (with_reducible first | exact HB.out | apply below_alloc | apply pw_below_drewN | apply below_drew1 | refine below_set ?_ GE337.out) | exact HB.out))) : w.heap.size ≤ gb346)); have n6_ := Aside0.mk ((by rw [hg]; exact (below_size (by repeat (first | (with_reducible first | exact HB.out | apply below_alloc | apply pw_below_drewN | apply below_drew1 | refine below_set ?_ GE337.out) | exact HB.out))) : w.heap.size ≤ gb346)); have n7_ := Aside0.mk ((by rw [hg]; exact Nat.ne_of_lt (blk_lt (g := gb337) (o := .cells #[.slice A0_0 l0_0.length c0_0] 24 (0, 0)) (by (with_reducible repeat (first | refine blk_drewN ?_ _ | refine blk_drew ?_ | refine blk_alloc ?_ _)); exact BK337.out)) : gb337 ≠ gb346)); have n8_ := Aside0.mk ((by rw [hg]; exact Nat.ne_of_gt (blk_lt (g := gb337) (o := .cells #[.slice A0_0 l0_0.length c0_0] 24 (0, 0)) (by (with_reducible repeat (first | refine blk_drewN ?_ _ | refine blk_drew ?_ | refine blk_alloc ?_ _)); exact BK337.out)) : gb346 ≠ gb337)); clear HO341; clear HO345; clear BK337; clear HB; have HO341 := n0_; have HO345 := n1_; have BK337 := n2_; have HB := n3_; have BK346 := n4_; have GW346 := n5_; have GE346 := n6_; have NB337_346 := n7_; have NB346_337 := n8_; clear n0_ n1_ n2_ n3_ n4_ n5_ n6_ n7_ n8_; clear hb hbox hg; obtain ⟨Ao25, co25, eo25⟩ := Kd.R_slice HO345.out; subst eo25; have hnb26 := NB346_337.out; have hnc26 := NB337_346.out; have hcz27_0 : w24.cell? ⟨gb346, 0, none⟩ = some (.slice none 0 0) := (blk_cell BK346.out 0).trans rfl; have hfz27_0 := blk_frozen BK346.out 0) | ((with_reducible refine gate_callee (f := 18) rfl ?_); refine goesL_ (some 18) rfl rfl Try.func18 (by kernel_rfl) rfl #[.agg #[.slice Ao25 t343.length co25]] rfl (by (try simp only [List.map_toArray, List.map_cons, List.map_nil]); first | done | rfl | (simp only [List.length_drop, List.length_take]; rfl)) ?_; (with_reducible refine (impl_DepthOf.calls k _ _ t343 t347 _ ?side1 ?side2 A10.out).mono ?_); (case side1 => refine (Kd.R_reads' (e := 3) (base := w.heap.size) (ok := fun k_ => (True ∧ some k_ ≠ (.slice Ao20 t339.length co20 : Value).ownBlock)) (n := t343.length) (c := co25) ?_).2.2; exact (by (with_reducible repeat (first | apply Kd.R_alloc | apply Kd.R_drewN | apply Kd.R_drew)); exact (Kd.R_mono (Kd.R_far (p := ⟨gb346, 0, none⟩) (Kd.R_types HO345.out BK346.out (by decide)) (fun _ hk => hk.2) (.slice Ao25 t343.length co25)) (fun _ h_ => h_.1)))); (case side2 => exact (Kd.R_reads' HO345.out).2.1); rintro e w28 ⟨rfl, hb⟩; refine ⟨_, rfl, ?_⟩; have n0_ := Aside0.mk (Kd.R_below (by (with_reducible repeat (first | apply Kd.R_alloc | apply Kd.R_drewN | apply Kd.R_drew)); exact (Kd.R_mono (Kd.R_far (p := ⟨gb346, 0, none⟩) (Kd.R_types HO341.out BK346.out (by decide)) (fun _ hk => hk.2) (.slice Ao25 t343.length co25)) (fun _ h_ => h_.1))) hb); have n1_ := Aside0.mk (Kd.R_below (by (with_reducible repeat (first | apply Kd.R_alloc | apply Kd.R_drewN | apply Kd.R_drew)); exact (Kd.R_mono (Kd.R_far (p := ⟨gb346, 0, none⟩) (Kd.R_types HO345.out BK346.out (by decide)) (fun _ hk => hk.2) (.slice Ao25 t343.length co25)) (fun _ h_ => h_.1))) hb); have n2_ := Aside0.mk (blk_below (g := gb337) (o := .cells #[.slice A0_0 l0_0.length c0_0] 24 (0, 0)) (by (with_reducible repeat (first | refine blk_drewN ?_ _ | refine blk_drew ?_ | refine blk_alloc ?_ _)); refine blk_far ?_ NB337_346.out _; (with_reducible repeat (first | refine blk_drewN ?_ _ | refine blk_drew ?_ | refine blk_alloc ?_ _)); exact BK337.out) hb); have n3_ := Aside0.mk (blk_below (g := gb346) (o := .cells #[.slice Ao25 t343.length co25] 27 (0, 0)) (by (with_reducible repeat (first | refine blk_drewN ?_ _ | refine blk_drew ?_ | refine blk_alloc ?_ _)); refine blk_put (cs := #[.slice none 0 0]) ?_ 0 _ rfl; (with_reducible repeat (first | refine blk_drewN ?_ _ | refine blk_drew ?_ | refine blk_alloc ?_ _)); exact BK346.out) hb); have n4_ := Aside0.mk (below_step (by repeat (first | (with_reducible first | exact HB.out | apply below_alloc | apply pw_below_drewN | apply below_drew1 | refine below_set ?_ GE337.out | refine below_set ?_ GE346.out) | exact HB.out)) hb); clear HO341; clear HO345; clear BK337; clear BK346; clear HB; have HO341 := n0_; have HO345 := n1_; have BK337 := n2_; have BK346 := n3_; have HB := n4_; clear n0_ n1_ n2_ n3_ n4_; (try clear hb); (try clear hb2); (try clear hk); (try clear hi)))
        have n0_ := Aside0.mk (Kd.R_drew HO341.out)
        have n1_ := Aside0.mk (Kd.R_drew HO345.out)
        have n2_ := Aside0.mk (blk_drew BK337.out)
        have n3_ := Aside0.mk (blk_drew BK346.out)
        have n4_ := Aside0.mk (below_drew1 HB.out)
        clear HO341
        clear HO345
        clear BK337
        clear BK346
        clear HB
        have HO341 := n0_
        have HO345 := n1_
        have BK337 := n2_
        have BK346 := n3_
        have HB := n4_
        clear n0_ n1_ n2_ n3_ n4_
        refine start_ (n := 5) (S := fun w' => w'.cell? ⟨gb346, 0, none⟩ = some (.slice Ao25 t343.length co25) ∧ w'.cell? ⟨gb337, 0, none⟩ = some (.slice A0_0 l0_0.length c0_0)) (ds := []) #[false, false, false, false, false] (by kernel_rfl) rfl rfl ⟨(blk_cell BK346.out 0).trans rfl, (blk_cell BK337.out 0).trans rfl⟩ (fun hHeld => ?_)
        generalize w28.drew = w29 at HO341 HO345 BK337 BK346 HB hHeld ⊢
        refine take_ (i := 0) (N := some 22) (v := ?_) (a' := ?_) #[true, false, false, false, false] rfl rfl (by kernel_rfl) (fun _ _ _ h => h) (Or.inl ⟨by rfl, ?_⟩) hHeld ?_ ?_
        rotate_left
        · rintro w' ⟨s0, s1⟩
          go_simp
          with_reducible rfl
        rotate_left
        · simp only [Act.put, List.setIfInBounds_toArray, List.set_cons_zero, List.set_cons_succ, i64_w, i32_w]
          rfl
        refine take_ (i := 1) (N := some 23) (v := ?_) (a' := ?_) #[true, true, false, false, false] rfl rfl (by kernel_rfl) (fun _ _ _ h => h) (Or.inl ⟨by rfl, ?_⟩) hHeld ?_ ?_
        rotate_left
        · rintro w' ⟨s0, s1⟩
          go_simp
          with_reducible rfl
        rotate_left
        · simp only [Act.put, List.setIfInBounds_toArray, List.set_cons_zero, List.set_cons_succ, i64_w, i32_w]
          rfl
        refine one_ (i := 2) (N := some 24) #[true, true, true, false, false] rfl rfl (by kernel_rfl) (by decide) (fun K hK => ?_)
        refine goes_ Try.func17 (by kernel_rfl) rfl #[.agg #[.slice A0_0 l0_0.length c0_0]] (by rfl) rfl rfl (by (try simp only [List.map_toArray, List.map_cons, List.map_nil]); first | done | rfl | (simp only [List.length_drop, List.length_take]; rfl)) ?_
        with_reducible refine (laws_toSemigroup.calls k _ _ l0_0 t348 _ ?side1 ?side2 A12.out).mono ?_
        (case side1 => repeat (first | exact (Kd.C_below HR0_0.out HB.out) | (with_reducible refine Kd.C_alloc ?_ _) | (with_reducible refine Kd.C_drewN ?_ _) | (with_reducible refine Kd.C_drew ?_)))
        (case side2 => exact HC0_0.out)
        rintro e w30 ⟨v349, rfl, ho0, hb⟩
        refine ⟨_, rfl, ?_⟩
        have n0_ := Aside0.mk (Kd.R_elder' (by (with_reducible repeat (first | apply Kd.R_alloc | apply Kd.R_drewN | apply Kd.R_drew)); exact HO341.out) (Kd.R_base ho0) hb)
        have n1_ := Aside0.mk (Kd.R_elder' (by (with_reducible repeat (first | apply Kd.R_alloc | apply Kd.R_drewN | apply Kd.R_drew)); exact HO345.out) (Kd.R_base ho0) hb)
        have n2_ := Aside0.mk (Kd.R_lower (Kd.R_new' (Kd.R_new' ho0 (Kd.R_lt (by (with_reducible repeat (first | apply Kd.R_alloc | apply Kd.R_drewN | apply Kd.R_drew)); exact HO341.out))) (Kd.R_lt (by (with_reducible repeat (first | apply Kd.R_alloc | apply Kd.R_drewN | apply Kd.R_drew)); exact HO345.out))) (below_size (by repeat (first | (with_reducible first | exact HB.out | apply below_alloc | apply pw_below_drewN | apply below_drew1 | refine below_set ?_ GE337.out | refine below_set ?_ GE346.out) | exact HB.out))))
        have n3_ := Aside0.mk (blk_below (g := gb337) (o := .cells #[.slice A0_0 l0_0.length c0_0] 24 (0, 0)) (by (with_reducible repeat (first | refine blk_drewN ?_ _ | refine blk_drew ?_ | refine blk_alloc ?_ _)); exact BK337.out) hb)
        have n4_ := Aside0.mk (blk_below (g := gb346) (o := .cells #[.slice Ao25 t343.length co25] 27 (0, 0)) (by (with_reducible repeat (first | refine blk_drewN ?_ _ | refine blk_drew ?_ | refine blk_alloc ?_ _)); exact BK346.out) hb)
        have n5_ := Aside0.mk (below_step (by repeat (first | (with_reducible first | exact HB.out | apply below_alloc | apply pw_below_drewN | apply below_drew1 | refine below_set ?_ GE337.out | refine below_set ?_ GE346.out) | exact HB.out)) hb)
        clear HO341
        clear HO345
        clear BK337
        clear BK346
        clear HB
        have HO341 := n0_
        have HO345 := n1_
        have HO350 := n2_
        have BK337 := n3_
        have BK346 := n4_
        have HB := n5_
        clear n0_ n1_ n2_ n3_ n4_ n5_
        (try clear hb)
        (try clear hb2)
        (try clear hk)
        (try clear hi)
        (try clear ho0)
        obtain ⟨Ao31, co31, eo31⟩ := Kd.R_slice HO350.out
        (first | subst eo31 | (injection eo31 with f1_ f2_ f3_; have f4_ := f1_.symm; have f5_ := f3_.symm; clear f1_ f2_ f3_; subst f4_; subst f5_))
        refine hK.out _ _ ⟨(blk_cell BK346.out 0).trans rfl, (blk_cell BK337.out 0).trans rfl⟩ (fun hHeld => ?_)
        clear hK K
        refine norm_ (a' := ?_) ?_ ?_
        rotate_left
        · show Act.put _ (some 24) _ = _
          simp only [Act.put, List.setIfInBounds_toArray, List.set_cons_zero, List.set_cons_succ, i64_w, i32_w]
          rfl
        refine one_ (i := 3) (N := some 25) #[true, true, true, true, false] rfl rfl (by kernel_rfl) (by decide) (fun K hK => ?_)
        refine goes_ Try.func19 (by kernel_rfl) rfl #[.agg #[.slice Ao25 t343.length co25], .agg #[.slice Ao31 t348.length co31]] (by rfl) rfl rfl (by (try simp only [List.map_toArray, List.map_cons, List.map_nil]); first | done | rfl | (simp only [List.length_drop, List.length_take]; rfl)) ?_
        with_reducible refine (laws_eqSemigroup.calls k _ _ t343 _ _ t348 true _ ?side1 ?side2 ?side3 ?side4 A13.out).mono ?_
        (case side1 => repeat (first | exact (Kd.R_reads' HO345.out).2.2 | (with_reducible refine Kd.C_alloc ?_ _) | (with_reducible refine Kd.C_drewN ?_ _) | (with_reducible refine Kd.C_drew ?_)))
        (case side2 => exact (Kd.R_reads' HO345.out).2.1)
        (case side3 => repeat (first | exact (Kd.R_reads' HO350.out).2.2 | (with_reducible refine Kd.C_alloc ?_ _) | (with_reducible refine Kd.C_drewN ?_ _) | (with_reducible refine Kd.C_drew ?_)))
        (case side4 => exact (Kd.R_reads' HO350.out).2.1)
        rintro e w32 ⟨rfl, hb⟩
        refine ⟨_, rfl, ?_⟩
        have n0_ := Aside0.mk (Kd.R_below (by (with_reducible repeat (first | apply Kd.R_alloc | apply Kd.R_drewN | apply Kd.R_drew)); exact HO341.out) hb)
        have n1_ := Aside0.mk (Kd.R_below (by (with_reducible repeat (first | apply Kd.R_alloc | apply Kd.R_drewN | apply Kd.R_drew)); exact HO345.out) hb)
        have n2_ := Aside0.mk (Kd.R_below (by (with_reducible repeat (first | apply Kd.R_alloc | apply Kd.R_drewN | apply Kd.R_drew)); exact HO350.out) hb)
        have n3_ := Aside0.mk (blk_below (g := gb337) (o := .cells #[.slice A0_0 l0_0.length c0_0] 24 (0, 0)) (by (with_reducible repeat (first | refine blk_drewN ?_ _ | refine blk_drew ?_ | refine blk_alloc ?_ _)); exact BK337.out) hb)
        have n4_ := Aside0.mk (blk_below (g := gb346) (o := .cells #[.slice Ao25 t343.length co25] 27 (0, 0)) (by (with_reducible repeat (first | refine blk_drewN ?_ _ | refine blk_drew ?_ | refine blk_alloc ?_ _)); exact BK346.out) hb)
        have n5_ := Aside0.mk (below_step (by repeat (first | (with_reducible first | exact HB.out | apply below_alloc | apply pw_below_drewN | apply below_drew1 | refine below_set ?_ GE337.out | refine below_set ?_ GE346.out) | exact HB.out)) hb)
        clear HO341
        clear HO345
        clear HO350
        clear BK337
        clear BK346
        clear HB
        have HO341 := n0_
        have HO345 := n1_
        have HO350 := n2_
        have BK337 := n3_
        have BK346 := n4_
        have HB := n5_
        clear n0_ n1_ n2_ n3_ n4_ n5_
        (try clear hb)
        (try clear hb2)
        (try clear hk)
        (try clear hi)
        refine hK.out _ _ ⟨(blk_cell BK346.out 0).trans rfl, (blk_cell BK337.out 0).trans rfl⟩ (fun hHeld => ?_)
        clear hK K
        refine norm_ (a' := ?_) ?_ ?_
        rotate_left
        · show Act.put _ (some 25) _ = _
          simp only [Act.put, List.setIfInBounds_toArray, List.set_cons_zero, List.set_cons_succ, i64_w, i32_w]
          rfl
        refine pure_ (i := 4) (N := some 26) (v := ?_) (a' := ?_) #[true, true, true, true, true] rfl rfl (by kernel_rfl) (fun _ _ _ h => h) (Or.inl ⟨by rfl, ?_⟩) ?_ ?_
        rotate_left
        · intro w'
          go_simp
          with_reducible rfl
        rotate_left
        · simp only [Act.put, List.setIfInBounds_toArray, List.set_cons_zero, List.set_cons_succ, i64_w, i32_w]
          rfl
        refine done_ (by kernel_rfl) ?_
        try go_wp2
        go_ret
        exact ⟨by first | rfl | (simp [errW_none, errW_some] <;> rfl) | (simp [*, errW_none, errW_some] <;> rfl), by repeat (first | (with_reducible first | exact HB.out | apply below_alloc | apply pw_below_drewN | apply below_drew1 | refine below_set ?_ GE337.out | refine below_set ?_ GE346.out) | exact HB.out)⟩
      · replace c14 := Bool.eq_false_iff.mpr c14
        subst c14
        have H1 : (some false) = some r := by rw [if_neg (show ¬ (false = true) by decide)] at H; exact H
        clear H
        have H := H1
        clear H1
        obtain rfl := Option.some.inj H
        go_enter Try.func3, Try.ntmps3
        try go_wp2_with (first | ((with_reducible refine gate_dst (N := 1) rfl ?_); refine box_event ?hg (N := 1) ?hd (cs := #[.slice A0_0 l0_0.length c0_0]) (t := 24) ?hr ?_; (case hd => rfl); (case hg => rfl); (case hr => first | (go_simp; done) | (go_simp; rfl)); intro gb337 hg w33 hbox hb; have n0_ := Aside0.mk (below_step (by repeat (first | (with_reducible first | exact HB.out | apply below_alloc | apply pw_below_drewN | apply below_drew1) | exact HB.out)) hb); have n1_ := Aside0.mk (hbox); have n2_ := Aside0.mk ((by rw [hg]; exact (below_size (by repeat (first | (with_reducible first | exact HB.out | apply below_alloc | apply pw_below_drewN | apply below_drew1) | exact HB.out))) : w.heap.size ≤ gb337)); have n3_ := Aside0.mk ((by rw [hg]; exact (below_size (by repeat (first | (with_reducible first | exact HB.out | apply below_alloc | apply pw_below_drewN | apply below_drew1) | exact HB.out))) : w.heap.size ≤ gb337)); clear HB; have HB := n0_; have BK337 := n1_; have GW337 := n2_; have GE337 := n3_; clear n0_ n1_ n2_ n3_; clear hb hbox hg; have hcz34_0 : w33.cell? ⟨gb337, 0, none⟩ = some (.slice A0_0 l0_0.length c0_0) := (blk_cell BK337.out 0).trans rfl; have hfz34_0 := blk_frozen BK337.out 0) | ((with_reducible refine gate_callee (f := 15) rfl ?_); refine goesL_ (some 9) rfl rfl Try.func15 (by kernel_rfl) rfl #[.agg #[.slice A0_0 l0_0.length c0_0], .int .i64 1048576] rfl (by (try simp only [List.map_toArray, List.map_cons, List.map_nil]); first | done | rfl | (simp only [List.length_drop, List.length_take]; rfl)) ?_; (with_reducible refine (laws_szSemigroup.calls _ _ l0_0 1048576 t338 _ ?side1 ?side2 A2.out).mono ?_); (case side1 => repeat (first | exact (Kd.C_below HR0_0.out HB.out) | (with_reducible refine Kd.C_alloc ?_ _) | (with_reducible refine Kd.C_drewN ?_ _) | (with_reducible refine Kd.C_drew ?_))); (case side2 => exact HC0_0.out); rintro e w35 ⟨rfl, hb⟩; refine ⟨_, rfl, ?_⟩; have n0_ := Aside0.mk (blk_below (g := gb337) (o := .cells #[.slice A0_0 l0_0.length c0_0] 24 (0, 0)) (by (with_reducible repeat (first | refine blk_drewN ?_ _ | refine blk_drew ?_ | refine blk_alloc ?_ _)); exact BK337.out) hb); have n1_ := Aside0.mk (below_step (by repeat (first | (with_reducible first | exact HB.out | apply below_alloc | apply pw_below_drewN | apply below_drew1 | refine below_set ?_ GE337.out) | exact HB.out)) hb); clear BK337; clear HB; have BK337 := n0_; have HB := n1_; clear n0_ n1_; (try clear hb); (try clear hb2); (try clear hk); (try clear hi); have hcz36_0 : w35.cell? ⟨gb337, 0, none⟩ = some (.slice A0_0 l0_0.length c0_0) := (blk_cell BK337.out 0).trans rfl; have hfz36_0 := blk_frozen BK337.out 0) | ((with_reducible refine gate_callee (f := 17) rfl ?_); refine goesL_ (some 13) rfl rfl Try.func17 (by kernel_rfl) rfl #[.agg #[.slice A0_0 l0_0.length c0_0]] rfl (by (try simp only [List.map_toArray, List.map_cons, List.map_nil]); first | done | rfl | (simp only [List.length_drop, List.length_take]; rfl)) ?_; (with_reducible refine (laws_toSemigroup.calls k _ _ l0_0 t339 _ ?side1 ?side2 A7.out).mono ?_); (case side1 => repeat (first | exact (Kd.C_below HR0_0.out HB.out) | (with_reducible refine Kd.C_alloc ?_ _) | (with_reducible refine Kd.C_drewN ?_ _) | (with_reducible refine Kd.C_drew ?_))); (case side2 => exact HC0_0.out); rintro e w37 ⟨v340, rfl, ho0, hb⟩; refine ⟨_, rfl, ?_⟩; have n0_ := Aside0.mk (Kd.R_lower ho0 (below_size (by repeat (first | (with_reducible first | exact HB.out | apply below_alloc | apply pw_below_drewN | apply below_drew1 | refine below_set ?_ GE337.out) | exact HB.out)))); have n1_ := Aside0.mk (blk_below (g := gb337) (o := .cells #[.slice A0_0 l0_0.length c0_0] 24 (0, 0)) (by (with_reducible repeat (first | refine blk_drewN ?_ _ | refine blk_drew ?_ | refine blk_alloc ?_ _)); exact BK337.out) hb); have n2_ := Aside0.mk (below_step (by repeat (first | (with_reducible first | exact HB.out | apply below_alloc | apply pw_below_drewN | apply below_drew1 | refine below_set ?_ GE337.out) | exact HB.out)) hb); clear BK337; clear HB; have HO341 := n0_; have BK337 := n1_; have HB := n2_; clear n0_ n1_ n2_; (try clear hb); (try clear hb2); (try clear hk); (try clear hi); (try clear ho0); obtain ⟨Ao38, co38, eo38⟩ := Kd.R_slice HO341.out; subst eo38) | ((with_reducible refine gate_callee (f := 16) rfl ?_); refine goesL_ (some 14) rfl rfl Try.func16 (by kernel_rfl) rfl #[.agg #[.slice Ao38 t339.length co38]] rfl (by (try simp only [List.map_toArray, List.map_cons, List.map_nil]); first | done | rfl | (simp only [List.length_drop, List.length_take]; rfl)) ?_; (with_reducible refine (spec_DepthOf.calls k _ _ t339 t342 _ ?side1 ?side2 A8.out).mono ?_); (case side1 => repeat (first | exact (Kd.R_reads' HO341.out).2.2 | (with_reducible refine Kd.C_alloc ?_ _) | (with_reducible refine Kd.C_drewN ?_ _) | (with_reducible refine Kd.C_drew ?_))); (case side2 => exact (Kd.R_reads' HO341.out).2.1); rintro e w39 ⟨rfl, hb⟩; refine ⟨_, rfl, ?_⟩; have n0_ := Aside0.mk (Kd.R_below (by (with_reducible repeat (first | apply Kd.R_alloc | apply Kd.R_drewN | apply Kd.R_drew)); exact HO341.out) hb); have n1_ := Aside0.mk (blk_below (g := gb337) (o := .cells #[.slice A0_0 l0_0.length c0_0] 24 (0, 0)) (by (with_reducible repeat (first | refine blk_drewN ?_ _ | refine blk_drew ?_ | refine blk_alloc ?_ _)); exact BK337.out) hb); have n2_ := Aside0.mk (below_step (by repeat (first | (with_reducible first | exact HB.out | apply below_alloc | apply pw_below_drewN | apply below_drew1 | refine below_set ?_ GE337.out) | exact HB.out)) hb); clear HO341; clear BK337; clear HB; have HO341 := n0_; have BK337 := n1_; have HB := n2_; clear n0_ n1_ n2_; (try clear hb); (try clear hb2); (try clear hk); (try clear hi); have hcz40_0 : w39.cell? ⟨gb337, 0, none⟩ = some (.slice A0_0 l0_0.length c0_0) := (blk_cell BK337.out 0).trans rfl; have hfz40_0 := blk_frozen BK337.out 0) | ((with_reducible refine gate_callee (f := 17) rfl ?_); refine goesL_ (some 16) rfl rfl Try.func17 (by kernel_rfl) rfl #[.agg #[.slice A0_0 l0_0.length c0_0]] rfl (by (try simp only [List.map_toArray, List.map_cons, List.map_nil]); first | done | rfl | (simp only [List.length_drop, List.length_take]; rfl)) ?_; (with_reducible refine (laws_toSemigroup.calls k _ _ l0_0 t343 _ ?side1 ?side2 A9.out).mono ?_); (case side1 => repeat (first | exact (Kd.C_below HR0_0.out HB.out) | (with_reducible refine Kd.C_alloc ?_ _) | (with_reducible refine Kd.C_drewN ?_ _) | (with_reducible refine Kd.C_drew ?_))); (case side2 => exact HC0_0.out); rintro e w41 ⟨v344, rfl, ho0, hb⟩; refine ⟨_, rfl, ?_⟩; have n0_ := Aside0.mk (Kd.R_elder' (by (with_reducible repeat (first | apply Kd.R_alloc | apply Kd.R_drewN | apply Kd.R_drew)); exact HO341.out) (Kd.R_base ho0) hb); have n1_ := Aside0.mk (Kd.R_lower (Kd.R_new' ho0 (Kd.R_lt (by (with_reducible repeat (first | apply Kd.R_alloc | apply Kd.R_drewN | apply Kd.R_drew)); exact HO341.out))) (below_size (by repeat (first | (with_reducible first | exact HB.out | apply below_alloc | apply pw_below_drewN | apply below_drew1 | refine below_set ?_ GE337.out) | exact HB.out)))); have n2_ := Aside0.mk (blk_below (g := gb337) (o := .cells #[.slice A0_0 l0_0.length c0_0] 24 (0, 0)) (by (with_reducible repeat (first | refine blk_drewN ?_ _ | refine blk_drew ?_ | refine blk_alloc ?_ _)); exact BK337.out) hb); have n3_ := Aside0.mk (below_step (by repeat (first | (with_reducible first | exact HB.out | apply below_alloc | apply pw_below_drewN | apply below_drew1 | refine below_set ?_ GE337.out) | exact HB.out)) hb); clear HO341; clear BK337; clear HB; have HO341 := n0_; have HO345 := n1_; have BK337 := n2_; have HB := n3_; clear n0_ n1_ n2_ n3_; (try clear hb); (try clear hb2); (try clear hk); (try clear hi); (try clear ho0)) | ((with_reducible refine gate_dst (N := 5) rfl ?_); refine box_event ?hg (N := 5) ?hd (cs := #[.slice none 0 0]) (t := 27) ?hr ?_; (case hd => rfl); (case hg => rfl); (case hr => first | (go_simp; done) | (go_simp; rfl)); intro gb346 hg w42 hbox hb; have n0_ := Aside0.mk (Kd.R_below (by (with_reducible repeat (first | apply Kd.R_alloc | apply Kd.R_drewN | apply Kd.R_drew)); exact HO341.out) hb); have n1_ := Aside0.mk (Kd.R_below (by (with_reducible repeat (first | apply Kd.R_alloc | apply Kd.R_drewN | apply Kd.R_drew)); exact HO345.out) hb); have n2_ := Aside0.mk (blk_below (g := gb337) (o := .cells #[.slice A0_0 l0_0.length c0_0] 24 (0, 0)) (by (with_reducible repeat (first | refine blk_drewN ?_ _ | refine blk_drew ?_ | refine blk_alloc ?_ _)); exact BK337.out) hb); have n3_ := Aside0.mk (below_step (by repeat (first | (with_reducible first | exact HB.out | apply below_alloc | apply pw_below_drewN | apply below_drew1 | refine below_set ?_ GE337.out) | exact HB.out)) hb); have n4_ := Aside0.mk (hbox); have n5_ := Aside0.mk ((by rw [hg]; exact (below_size (by repeat (first | (with_reducible first | exact HB.out | apply below_alloc | apply pw_below_drewN | apply below_drew1 | refine below_set ?_ GE337.out) | exact HB.out))) : w.heap.size ≤ gb346)); have n6_ := Aside0.mk ((by rw [hg]; exact (below_size (by repeat (first | (with_reducible first | exact HB.out | apply below_alloc | apply pw_below_drewN | apply below_drew1 | refine below_set ?_ GE337.out) | exact HB.out))) : w.heap.size ≤ gb346)); have n7_ := Aside0.mk ((by rw [hg]; exact Nat.ne_of_lt (blk_lt (g := gb337) (o := .cells #[.slice A0_0 l0_0.length c0_0] 24 (0, 0)) (by (with_reducible repeat (first | refine blk_drewN ?_ _ | refine blk_drew ?_ | refine blk_alloc ?_ _)); exact BK337.out)) : gb337 ≠ gb346)); have n8_ := Aside0.mk ((by rw [hg]; exact Nat.ne_of_gt (blk_lt (g := gb337) (o := .cells #[.slice A0_0 l0_0.length c0_0] 24 (0, 0)) (by (with_reducible repeat (first | refine blk_drewN ?_ _ | refine blk_drew ?_ | refine blk_alloc ?_ _)); exact BK337.out)) : gb346 ≠ gb337)); clear HO341; clear HO345; clear BK337; clear HB; have HO341 := n0_; have HO345 := n1_; have BK337 := n2_; have HB := n3_; have BK346 := n4_; have GW346 := n5_; have GE346 := n6_; have NB337_346 := n7_; have NB346_337 := n8_; clear n0_ n1_ n2_ n3_ n4_ n5_ n6_ n7_ n8_; clear hb hbox hg; obtain ⟨Ao43, co43, eo43⟩ := Kd.R_slice HO345.out; subst eo43; have hnb44 := NB346_337.out; have hnc44 := NB337_346.out; have hcz45_0 : w42.cell? ⟨gb346, 0, none⟩ = some (.slice none 0 0) := (blk_cell BK346.out 0).trans rfl; have hfz45_0 := blk_frozen BK346.out 0) | ((with_reducible refine gate_callee (f := 18) rfl ?_); refine goesL_ (some 18) rfl rfl Try.func18 (by kernel_rfl) rfl #[.agg #[.slice Ao43 t343.length co43]] rfl (by (try simp only [List.map_toArray, List.map_cons, List.map_nil]); first | done | rfl | (simp only [List.length_drop, List.length_take]; rfl)) ?_; (with_reducible refine (impl_DepthOf.calls k _ _ t343 t347 _ ?side1 ?side2 A10.out).mono ?_); (case side1 => refine (Kd.R_reads' (e := 3) (base := w.heap.size) (ok := fun k_ => (True ∧ some k_ ≠ (.slice Ao38 t339.length co38 : Value).ownBlock)) (n := t343.length) (c := co43) ?_).2.2; exact (by (with_reducible repeat (first | apply Kd.R_alloc | apply Kd.R_drewN | apply Kd.R_drew)); exact (Kd.R_mono (Kd.R_far (p := ⟨gb346, 0, none⟩) (Kd.R_types HO345.out BK346.out (by decide)) (fun _ hk => hk.2) (.slice Ao43 t343.length co43)) (fun _ h_ => h_.1)))); (case side2 => exact (Kd.R_reads' HO345.out).2.1); rintro e w46 ⟨rfl, hb⟩; refine ⟨_, rfl, ?_⟩; have n0_ := Aside0.mk (Kd.R_below (by (with_reducible repeat (first | apply Kd.R_alloc | apply Kd.R_drewN | apply Kd.R_drew)); exact (Kd.R_mono (Kd.R_far (p := ⟨gb346, 0, none⟩) (Kd.R_types HO341.out BK346.out (by decide)) (fun _ hk => hk.2) (.slice Ao43 t343.length co43)) (fun _ h_ => h_.1))) hb); have n1_ := Aside0.mk (Kd.R_below (by (with_reducible repeat (first | apply Kd.R_alloc | apply Kd.R_drewN | apply Kd.R_drew)); exact (Kd.R_mono (Kd.R_far (p := ⟨gb346, 0, none⟩) (Kd.R_types HO345.out BK346.out (by decide)) (fun _ hk => hk.2) (.slice Ao43 t343.length co43)) (fun _ h_ => h_.1))) hb); have n2_ := Aside0.mk (blk_below (g := gb337) (o := .cells #[.slice A0_0 l0_0.length c0_0] 24 (0, 0)) (by (with_reducible repeat (first | refine blk_drewN ?_ _ | refine blk_drew ?_ | refine blk_alloc ?_ _)); refine blk_far ?_ NB337_346.out _; (with_reducible repeat (first | refine blk_drewN ?_ _ | refine blk_drew ?_ | refine blk_alloc ?_ _)); exact BK337.out) hb); have n3_ := Aside0.mk (blk_below (g := gb346) (o := .cells #[.slice Ao43 t343.length co43] 27 (0, 0)) (by (with_reducible repeat (first | refine blk_drewN ?_ _ | refine blk_drew ?_ | refine blk_alloc ?_ _)); refine blk_put (cs := #[.slice none 0 0]) ?_ 0 _ rfl; (with_reducible repeat (first | refine blk_drewN ?_ _ | refine blk_drew ?_ | refine blk_alloc ?_ _)); exact BK346.out) hb); have n4_ := Aside0.mk (below_step (by repeat (first | (with_reducible first | exact HB.out | apply below_alloc | apply pw_below_drewN | apply below_drew1 | refine below_set ?_ GE337.out | refine below_set ?_ GE346.out) | exact HB.out)) hb); clear HO341; clear HO345; clear BK337; clear BK346; clear HB; have HO341 := n0_; have HO345 := n1_; have BK337 := n2_; have BK346 := n3_; have HB := n4_; clear n0_ n1_ n2_ n3_ n4_; (try clear hb); (try clear hb2); (try clear hk); (try clear hi)))
        have n0_ := Aside0.mk (Kd.R_drew HO341.out)
        have n1_ := Aside0.mk (Kd.R_drew HO345.out)
        have n2_ := Aside0.mk (blk_drew BK337.out)
        have n3_ := Aside0.mk (blk_drew BK346.out)
        have n4_ := Aside0.mk (below_drew1 HB.out)
        clear HO341
        clear HO345
        clear BK337
        clear BK346
        clear HB
        have HO341 := n0_
        have HO345 := n1_
        have BK337 := n2_
        have BK346 := n3_
        have HB := n4_
        clear n0_ n1_ n2_ n3_ n4_
        refine start_ (n := 5) (S := fun w' => w'.cell? ⟨gb346, 0, none⟩ = some (.slice Ao43 t343.length co43) ∧ w'.cell? ⟨gb337, 0, none⟩ = some (.slice A0_0 l0_0.length c0_0)) (ds := []) #[false, false, false, false, false] (by kernel_rfl) rfl rfl ⟨(blk_cell BK346.out 0).trans rfl, (blk_cell BK337.out 0).trans rfl⟩ (fun hHeld => ?_)
        generalize w46.drew = w47 at HO341 HO345 BK337 BK346 HB hHeld ⊢
        refine take_ (i := 0) (N := some 22) (v := ?_) (a' := ?_) #[true, false, false, false, false] rfl rfl (by kernel_rfl) (fun _ _ _ h => h) (Or.inl ⟨by rfl, ?_⟩) hHeld ?_ ?_
        rotate_left
        · rintro w' ⟨s0, s1⟩
          go_simp
          with_reducible rfl
        rotate_left
        · simp only [Act.put, List.setIfInBounds_toArray, List.set_cons_zero, List.set_cons_succ, i64_w, i32_w]
          rfl
        refine take_ (i := 1) (N := some 23) (v := ?_) (a' := ?_) #[true, true, false, false, false] rfl rfl (by kernel_rfl) (fun _ _ _ h => h) (Or.inl ⟨by rfl, ?_⟩) hHeld ?_ ?_
        rotate_left
        · rintro w' ⟨s0, s1⟩
          go_simp
          with_reducible rfl
        rotate_left
        · simp only [Act.put, List.setIfInBounds_toArray, List.set_cons_zero, List.set_cons_succ, i64_w, i32_w]
          rfl
        refine one_ (i := 2) (N := some 24) #[true, true, true, false, false] rfl rfl (by kernel_rfl) (by decide) (fun K hK => ?_)
        refine goes_ Try.func17 (by kernel_rfl) rfl #[.agg #[.slice A0_0 l0_0.length c0_0]] (by rfl) rfl rfl (by (try simp only [List.map_toArray, List.map_cons, List.map_nil]); first | done | rfl | (simp only [List.length_drop, List.length_take]; rfl)) ?_
        with_reducible refine (laws_toSemigroup.calls k _ _ l0_0 t348 _ ?side1 ?side2 A12.out).mono ?_
        (case side1 => repeat (first | exact (Kd.C_below HR0_0.out HB.out) | (with_reducible refine Kd.C_alloc ?_ _) | (with_reducible refine Kd.C_drewN ?_ _) | (with_reducible refine Kd.C_drew ?_)))
        (case side2 => exact HC0_0.out)
        rintro e w48 ⟨v349, rfl, ho0, hb⟩
        refine ⟨_, rfl, ?_⟩
        have n0_ := Aside0.mk (Kd.R_elder' (by (with_reducible repeat (first | apply Kd.R_alloc | apply Kd.R_drewN | apply Kd.R_drew)); exact HO341.out) (Kd.R_base ho0) hb)
        have n1_ := Aside0.mk (Kd.R_elder' (by (with_reducible repeat (first | apply Kd.R_alloc | apply Kd.R_drewN | apply Kd.R_drew)); exact HO345.out) (Kd.R_base ho0) hb)
        have n2_ := Aside0.mk (Kd.R_lower (Kd.R_new' (Kd.R_new' ho0 (Kd.R_lt (by (with_reducible repeat (first | apply Kd.R_alloc | apply Kd.R_drewN | apply Kd.R_drew)); exact HO341.out))) (Kd.R_lt (by (with_reducible repeat (first | apply Kd.R_alloc | apply Kd.R_drewN | apply Kd.R_drew)); exact HO345.out))) (below_size (by repeat (first | (with_reducible first | exact HB.out | apply below_alloc | apply pw_below_drewN | apply below_drew1 | refine below_set ?_ GE337.out | refine below_set ?_ GE346.out) | exact HB.out))))
        have n3_ := Aside0.mk (blk_below (g := gb337) (o := .cells #[.slice A0_0 l0_0.length c0_0] 24 (0, 0)) (by (with_reducible repeat (first | refine blk_drewN ?_ _ | refine blk_drew ?_ | refine blk_alloc ?_ _)); exact BK337.out) hb)
        have n4_ := Aside0.mk (blk_below (g := gb346) (o := .cells #[.slice Ao43 t343.length co43] 27 (0, 0)) (by (with_reducible repeat (first | refine blk_drewN ?_ _ | refine blk_drew ?_ | refine blk_alloc ?_ _)); exact BK346.out) hb)
        have n5_ := Aside0.mk (below_step (by repeat (first | (with_reducible first | exact HB.out | apply below_alloc | apply pw_below_drewN | apply below_drew1 | refine below_set ?_ GE337.out | refine below_set ?_ GE346.out) | exact HB.out)) hb)
        clear HO341
        clear HO345
        clear BK337
        clear BK346
        clear HB
        have HO341 := n0_
        have HO345 := n1_
        have HO350 := n2_
        have BK337 := n3_
        have BK346 := n4_
        have HB := n5_
        clear n0_ n1_ n2_ n3_ n4_ n5_
        (try clear hb)
        (try clear hb2)
        (try clear hk)
        (try clear hi)
        (try clear ho0)
        obtain ⟨Ao49, co49, eo49⟩ := Kd.R_slice HO350.out
        (first | subst eo49 | (injection eo49 with f1_ f2_ f3_; have f4_ := f1_.symm; have f5_ := f3_.symm; clear f1_ f2_ f3_; subst f4_; subst f5_))
        refine hK.out _ _ ⟨(blk_cell BK346.out 0).trans rfl, (blk_cell BK337.out 0).trans rfl⟩ (fun hHeld => ?_)
        clear hK K
        refine norm_ (a' := ?_) ?_ ?_
        rotate_left
        · show Act.put _ (some 24) _ = _
          simp only [Act.put, List.setIfInBounds_toArray, List.set_cons_zero, List.set_cons_succ, i64_w, i32_w]
          rfl
        refine one_ (i := 3) (N := some 25) #[true, true, true, true, false] rfl rfl (by kernel_rfl) (by decide) (fun K hK => ?_)
        refine goes_ Try.func19 (by kernel_rfl) rfl #[.agg #[.slice Ao43 t343.length co43], .agg #[.slice Ao49 t348.length co49]] (by rfl) rfl rfl (by (try simp only [List.map_toArray, List.map_cons, List.map_nil]); first | done | rfl | (simp only [List.length_drop, List.length_take]; rfl)) ?_
        with_reducible refine (laws_eqSemigroup.calls k _ _ t343 _ _ t348 false _ ?side1 ?side2 ?side3 ?side4 A13.out).mono ?_
        (case side1 => repeat (first | exact (Kd.R_reads' HO345.out).2.2 | (with_reducible refine Kd.C_alloc ?_ _) | (with_reducible refine Kd.C_drewN ?_ _) | (with_reducible refine Kd.C_drew ?_)))
        (case side2 => exact (Kd.R_reads' HO345.out).2.1)
        (case side3 => repeat (first | exact (Kd.R_reads' HO350.out).2.2 | (with_reducible refine Kd.C_alloc ?_ _) | (with_reducible refine Kd.C_drewN ?_ _) | (with_reducible refine Kd.C_drew ?_)))
        (case side4 => exact (Kd.R_reads' HO350.out).2.1)
        rintro e w50 ⟨rfl, hb⟩
        refine ⟨_, rfl, ?_⟩
        have n0_ := Aside0.mk (Kd.R_below (by (with_reducible repeat (first | apply Kd.R_alloc | apply Kd.R_drewN | apply Kd.R_drew)); exact HO341.out) hb)
        have n1_ := Aside0.mk (Kd.R_below (by (with_reducible repeat (first | apply Kd.R_alloc | apply Kd.R_drewN | apply Kd.R_drew)); exact HO345.out) hb)
        have n2_ := Aside0.mk (Kd.R_below (by (with_reducible repeat (first | apply Kd.R_alloc | apply Kd.R_drewN | apply Kd.R_drew)); exact HO350.out) hb)
        have n3_ := Aside0.mk (blk_below (g := gb337) (o := .cells #[.slice A0_0 l0_0.length c0_0] 24 (0, 0)) (by (with_reducible repeat (first | refine blk_drewN ?_ _ | refine blk_drew ?_ | refine blk_alloc ?_ _)); exact BK337.out) hb)
        have n4_ := Aside0.mk (blk_below (g := gb346) (o := .cells #[.slice Ao43 t343.length co43] 27 (0, 0)) (by (with_reducible repeat (first | refine blk_drewN ?_ _ | refine blk_drew ?_ | refine blk_alloc ?_ _)); exact BK346.out) hb)
        have n5_ := Aside0.mk (below_step (by repeat (first | (with_reducible first | exact HB.out | apply below_alloc | apply pw_below_drewN | apply below_drew1 | refine below_set ?_ GE337.out | refine below_set ?_ GE346.out) | exact HB.out)) hb)
        clear HO341
        clear HO345
        clear HO350
        clear BK337
        clear BK346
        clear HB
        have HO341 := n0_
        have HO345 := n1_
        have HO350 := n2_
        have BK337 := n3_
        have BK346 := n4_
        have HB := n5_
        clear n0_ n1_ n2_ n3_ n4_ n5_
        (try clear hb)
        (try clear hb2)
        (try clear hk)
        (try clear hi)
        refine hK.out _ _ ⟨(blk_cell BK346.out 0).trans rfl, (blk_cell BK337.out 0).trans rfl⟩ (fun hHeld => ?_)
        clear hK K
        refine norm_ (a' := ?_) ?_ ?_
        rotate_left
        · show Act.put _ (some 25) _ = _
          simp only [Act.put, List.setIfInBounds_toArray, List.set_cons_zero, List.set_cons_succ, i64_w, i32_w]
          rfl
        refine pure_ (i := 4) (N := some 26) (v := ?_) (a' := ?_) #[true, true, true, true, true] rfl rfl (by kernel_rfl) (fun _ _ _ h => h) (Or.inl ⟨by rfl, ?_⟩) ?_ ?_
        rotate_left
        · intro w'
          go_simp
          with_reducible rfl
        rotate_left
        · simp only [Act.put, List.setIfInBounds_toArray, List.set_cons_zero, List.set_cons_succ, i64_w, i32_w]
          rfl
        refine done_ (by kernel_rfl) ?_
        try go_wp2
        go_ret
        exact ⟨by first | rfl | (simp [errW_none, errW_some] <;> rfl) | (simp [*, errW_none, errW_some] <;> rfl), by repeat (first | (with_reducible first | exact HB.out | apply below_alloc | apply pw_below_drewN | apply below_drew1 | refine below_set ?_ GE337.out | refine below_set ?_ GE346.out) | exact HB.out)⟩
    · rw [if_neg c11] at H
      have c11b0 : (t347 == t342) = false := beq_eq_false_iff_ne.mpr c11
      have c11b1 : (t347 != t342) = true := bne_iff_ne.mpr c11
      obtain rfl := Option.some.inj H
      go_enter Try.func3, Try.ntmps3
      go_wp2_with (first | ((with_reducible refine gate_dst (N := 1) rfl ?_); refine box_event ?hg (N := 1) ?hd (cs := #[.slice A0_0 l0_0.length c0_0]) (t := 24) ?hr ?_; (case hd => rfl); (case hg => rfl); (case hr => first | (go_simp; done) | (go_simp; rfl)); intro gb337 hg w51 hbox hb; have n0_ := Aside0.mk (below_step (by repeat (first | (with_reducible first | exact HB.out | apply below_alloc | apply pw_below_drewN | apply below_drew1) | exact HB.out)) hb); have n1_ := Aside0.mk (hbox); have n2_ := Aside0.mk ((by rw [hg]; exact (below_size (by repeat (first | (with_reducible first | exact HB.out | apply below_alloc | apply pw_below_drewN | apply below_drew1) | exact HB.out))) : w.heap.size ≤ gb337)); have n3_ := Aside0.mk ((by rw [hg]; exact (below_size (by repeat (first | (with_reducible first | exact HB.out | apply below_alloc | apply pw_below_drewN | apply below_drew1) | exact HB.out))) : w.heap.size ≤ gb337)); clear HB; have HB := n0_; have BK337 := n1_; have GW337 := n2_; have GE337 := n3_; clear n0_ n1_ n2_ n3_; clear hb hbox hg; have hcz52_0 : w51.cell? ⟨gb337, 0, none⟩ = some (.slice A0_0 l0_0.length c0_0) := (blk_cell BK337.out 0).trans rfl; have hfz52_0 := blk_frozen BK337.out 0) | ((with_reducible refine gate_callee (f := 15) rfl ?_); refine goesL_ (some 9) rfl rfl Try.func15 (by kernel_rfl) rfl #[.agg #[.slice A0_0 l0_0.length c0_0], .int .i64 1048576] rfl (by (try simp only [List.map_toArray, List.map_cons, List.map_nil]); first | done | rfl | (simp only [List.length_drop, List.length_take]; rfl)) ?_; (with_reducible refine (laws_szSemigroup.calls _ _ l0_0 1048576 t338 _ ?side1 ?side2 A2.out).mono ?_); (case side1 => repeat (first | exact (Kd.C_below HR0_0.out HB.out) | (with_reducible refine Kd.C_alloc ?_ _) | (with_reducible refine Kd.C_drewN ?_ _) | (with_reducible refine Kd.C_drew ?_))); (case side2 => exact HC0_0.out); rintro e w53 ⟨rfl, hb⟩; refine ⟨_, rfl, ?_⟩; have n0_ := Aside0.mk (blk_below (g := gb337) (o := .cells #[.slice A0_0 l0_0.length c0_0] 24 (0, 0)) (by (with_reducible repeat (first | refine blk_drewN ?_ _ | refine blk_drew ?_ | refine blk_alloc ?_ _)); exact BK337.out) hb); have n1_ := Aside0.mk (below_step (by repeat (first | (with_reducible first | exact HB.out | apply below_alloc | apply pw_below_drewN | apply below_drew1 | refine below_set ?_ GE337.out) | exact HB.out)) hb); clear BK337; clear HB; have BK337 := n0_; have HB := n1_; clear n0_ n1_; (try clear hb); (try clear hb2); (try clear hk); (try clear hi); have hcz54_0 : w53.cell? ⟨gb337, 0, none⟩ = some (.slice A0_0 l0_0.length c0_0) := (blk_cell BK337.out 0).trans rfl; have hfz54_0 := blk_frozen BK337.out 0) | ((with_reducible refine gate_callee (f := 17) rfl ?_); refine goesL_ (some 13) rfl rfl Try.func17 (by kernel_rfl) rfl #[.agg #[.slice A0_0 l0_0.length c0_0]] rfl (by (try simp only [List.map_toArray, List.map_cons, List.map_nil]); first | done | rfl | (simp only [List.length_drop, List.length_take]; rfl)) ?_; (with_reducible refine (laws_toSemigroup.calls k _ _ l0_0 t339 _ ?side1 ?side2 A7.out).mono ?_); (case side1 => repeat (first | exact (Kd.C_below HR0_0.out HB.out) | (with_reducible refine Kd.C_alloc ?_ _) | (with_reducible refine Kd.C_drewN ?_ _) | (with_reducible refine Kd.C_drew ?_))); (case side2 => exact HC0_0.out); rintro e w55 ⟨v340, rfl, ho0, hb⟩; refine ⟨_, rfl, ?_⟩; have n0_ := Aside0.mk (Kd.R_lower ho0 (below_size (by repeat (first | (with_reducible first | exact HB.out | apply below_alloc | apply pw_below_drewN | apply below_drew1 | refine below_set ?_ GE337.out) | exact HB.out)))); have n1_ := Aside0.mk (blk_below (g := gb337) (o := .cells #[.slice A0_0 l0_0.length c0_0] 24 (0, 0)) (by (with_reducible repeat (first | refine blk_drewN ?_ _ | refine blk_drew ?_ | refine blk_alloc ?_ _)); exact BK337.out) hb); have n2_ := Aside0.mk (below_step (by repeat (first | (with_reducible first | exact HB.out | apply below_alloc | apply pw_below_drewN | apply below_drew1 | refine below_set ?_ GE337.out) | exact HB.out)) hb); clear BK337; clear HB; have HO341 := n0_; have BK337 := n1_; have HB := n2_; clear n0_ n1_ n2_; (try clear hb); (try clear hb2); (try clear hk); (try clear hi); (try clear ho0); obtain ⟨Ao56, co56, eo56⟩ := Kd.R_slice HO341.out; subst eo56) | ((with_reducible refine gate_callee (f := 16) rfl ?_); refine goesL_ (some 14) rfl rfl Try.func16 (by kernel_rfl) rfl #[.agg #[.slice Ao56 t339.length co56]] rfl (by (try simp only [List.map_toArray, List.map_cons, List.map_nil]); first | done | rfl | (simp only [List.length_drop, List.length_take]; rfl)) ?_; (with_reducible refine (spec_DepthOf.calls k _ _ t339 t342 _ ?side1 ?side2 A8.out).mono ?_); (case side1 => repeat (first | exact (Kd.R_reads' HO341.out).2.2 | (with_reducible refine Kd.C_alloc ?_ _) | (with_reducible refine Kd.C_drewN ?_ _) | (with_reducible refine Kd.C_drew ?_))); (case side2 => exact (Kd.R_reads' HO341.out).2.1); rintro e w57 ⟨rfl, hb⟩; refine ⟨_, rfl, ?_⟩; have n0_ := Aside0.mk (Kd.R_below (by (with_reducible repeat (first | apply Kd.R_alloc | apply Kd.R_drewN | apply Kd.R_drew)); exact HO341.out) hb); have n1_ := Aside0.mk (blk_below (g := gb337) (o := .cells #[.slice A0_0 l0_0.length c0_0] 24 (0, 0)) (by (with_reducible repeat (first | refine blk_drewN ?_ _ | refine blk_drew ?_ | refine blk_alloc ?_ _)); exact BK337.out) hb); have n2_ := Aside0.mk (below_step (by repeat (first | (with_reducible first | exact HB.out | apply below_alloc | apply pw_below_drewN | apply below_drew1 | refine below_set ?_ GE337.out) | exact HB.out)) hb); clear HO341; clear BK337; clear HB; have HO341 := n0_; have BK337 := n1_; have HB := n2_; clear n0_ n1_ n2_; (try clear hb); (try clear hb2); (try clear hk); (try clear hi); have hcz58_0 : w57.cell? ⟨gb337, 0, none⟩ = some (.slice A0_0 l0_0.length c0_0) := (blk_cell BK337.out 0).trans rfl; have hfz58_0 := blk_frozen BK337.out 0) | ((with_reducible refine gate_callee (f := 17) rfl ?_); refine goesL_ (some 16) rfl rfl Try.func17 (by kernel_rfl) rfl #[.agg #[.slice A0_0 l0_0.length c0_0]] rfl (by (try simp only [List.map_toArray, List.map_cons, List.map_nil]); first | done | rfl | (simp only [List.length_drop, List.length_take]; rfl)) ?_; (with_reducible refine (laws_toSemigroup.calls k _ _ l0_0 t343 _ ?side1 ?side2 A9.out).mono ?_); (case side1 => repeat (first | exact (Kd.C_below HR0_0.out HB.out) | (with_reducible refine Kd.C_alloc ?_ _) | (with_reducible refine Kd.C_drewN ?_ _) | (with_reducible refine Kd.C_drew ?_))); (case side2 => exact HC0_0.out); rintro e w59 ⟨v344, rfl, ho0, hb⟩; refine ⟨_, rfl, ?_⟩; have n0_ := Aside0.mk (Kd.R_elder' (by (with_reducible repeat (first | apply Kd.R_alloc | apply Kd.R_drewN | apply Kd.R_drew)); exact HO341.out) (Kd.R_base ho0) hb); have n1_ := Aside0.mk (Kd.R_lower (Kd.R_new' ho0 (Kd.R_lt (by (with_reducible repeat (first | apply Kd.R_alloc | apply Kd.R_drewN | apply Kd.R_drew)); exact HO341.out))) (below_size (by repeat (first | (with_reducible first | exact HB.out | apply below_alloc | apply pw_below_drewN | apply below_drew1 | refine below_set ?_ GE337.out) | exact HB.out)))); have n2_ := Aside0.mk (blk_below (g := gb337) (o := .cells #[.slice A0_0 l0_0.length c0_0] 24 (0, 0)) (by (with_reducible repeat (first | refine blk_drewN ?_ _ | refine blk_drew ?_ | refine blk_alloc ?_ _)); exact BK337.out) hb); have n3_ := Aside0.mk (below_step (by repeat (first | (with_reducible first | exact HB.out | apply below_alloc | apply pw_below_drewN | apply below_drew1 | refine below_set ?_ GE337.out) | exact HB.out)) hb); clear HO341; clear BK337; clear HB; have HO341 := n0_; have HO345 := n1_; have BK337 := n2_; have HB := n3_; clear n0_ n1_ n2_ n3_; (try clear hb); (try clear hb2); (try clear hk); (try clear hi); (try clear ho0)) | ((with_reducible refine gate_dst (N := 5) rfl ?_); refine box_event ?hg (N := 5) ?hd (cs := #[.slice none 0 0]) (t := 27) ?hr ?_; (case hd => rfl); (case hg => rfl); (case hr => first | (go_simp; done) | (go_simp; rfl)); intro gb346 hg w60 hbox hb; have n0_ := Aside0.mk (Kd.R_below (by (with_reducible repeat (first | apply Kd.R_alloc | apply Kd.R_drewN | apply Kd.R_drew)); exact HO341.out) hb); have n1_ := Aside0.mk (Kd.R_below (by (with_reducible repeat (first | apply Kd.R_alloc | apply Kd.R_drewN | apply Kd.R_drew)); exact HO345.out) hb); have n2_ := Aside0.mk (blk_below (g := gb337) (o := .cells #[.slice A0_0 l0_0.length c0_0] 24 (0, 0)) (by (with_reducible repeat (first | refine blk_drewN ?_ _ | refine blk_drew ?_ | refine blk_alloc ?_ _)); exact BK337.out) hb); have n3_ := Aside0.mk (below_step (by repeat (first | (with_reducible first | exact HB.out | apply below_alloc | apply pw_below_drewN | apply below_drew1 | refine below_set ?_ GE337.out) | exact HB.out)) hb); have n4_ := Aside0.mk (hbox); have n5_ := Aside0.mk ((by rw [hg]; exact (below_size (by repeat (first | (with_reducible first | exact HB.out | apply below_alloc | apply pw_below_drewN | apply below_drew1 | refine below_set ?_ GE337.out) | exact HB.out))) : w.heap.size ≤ gb346)); have n6_ := Aside0.mk ((by rw [hg]; exact (below_size (by repeat (first | (with_reducible first | exact HB.out | apply below_alloc | apply pw_below_drewN | apply below_drew1 | refine below_set ?_ GE337.out) | exact HB.out))) : w.heap.size ≤ gb346)); have n7_ := Aside0.mk ((by rw [hg]; exact Nat.ne_of_lt (blk_lt (g := gb337) (o := .cells #[.slice A0_0 l0_0.length c0_0] 24 (0, 0)) (by (with_reducible repeat (first | refine blk_drewN ?_ _ | refine blk_drew ?_ | refine blk_alloc ?_ _)); exact BK337.out)) : gb337 ≠ gb346)); have n8_ := Aside0.mk ((by rw [hg]; exact Nat.ne_of_gt (blk_lt (g := gb337) (o := .cells #[.slice A0_0 l0_0.length c0_0] 24 (0, 0)) (by (with_reducible repeat (first | refine blk_drewN ?_ _ | refine blk_drew ?_ | refine blk_alloc ?_ _)); exact BK337.out)) : gb346 ≠ gb337)); clear HO341; clear HO345; clear BK337; clear HB; have HO341 := n0_; have HO345 := n1_; have BK337 := n2_; have HB := n3_; have BK346 := n4_; have GW346 := n5_; have GE346 := n6_; have NB337_346 := n7_; have NB346_337 := n8_; clear n0_ n1_ n2_ n3_ n4_ n5_ n6_ n7_ n8_; clear hb hbox hg; obtain ⟨Ao61, co61, eo61⟩ := Kd.R_slice HO345.out; subst eo61; have hnb62 := NB346_337.out; have hnc62 := NB337_346.out; have hcz63_0 : w60.cell? ⟨gb346, 0, none⟩ = some (.slice none 0 0) := (blk_cell BK346.out 0).trans rfl; have hfz63_0 := blk_frozen BK346.out 0) | ((with_reducible refine gate_callee (f := 18) rfl ?_); refine goesL_ (some 18) rfl rfl Try.func18 (by kernel_rfl) rfl #[.agg #[.slice Ao61 t343.length co61]] rfl (by (try simp only [List.map_toArray, List.map_cons, List.map_nil]); first | done | rfl | (simp only [List.length_drop, List.length_take]; rfl)) ?_; (with_reducible refine (impl_DepthOf.calls k _ _ t343 t347 _ ?side1 ?side2 A10.out).mono ?_); (case side1 => refine (Kd.R_reads' (e := 3) (base := w.heap.size) (ok := fun k_ => (True ∧ some k_ ≠ (.slice Ao56 t339.length co56 : Value).ownBlock)) (n := t343.length) (c := co61) ?_).2.2; exact (by (with_reducible repeat (first | apply Kd.R_alloc | apply Kd.R_drewN | apply Kd.R_drew)); exact (Kd.R_mono (Kd.R_far (p := ⟨gb346, 0, none⟩) (Kd.R_types HO345.out BK346.out (by decide)) (fun _ hk => hk.2) (.slice Ao61 t343.length co61)) (fun _ h_ => h_.1)))); (case side2 => exact (Kd.R_reads' HO345.out).2.1); rintro e w64 ⟨rfl, hb⟩; refine ⟨_, rfl, ?_⟩; have n0_ := Aside0.mk (Kd.R_below (by (with_reducible repeat (first | apply Kd.R_alloc | apply Kd.R_drewN | apply Kd.R_drew)); exact (Kd.R_mono (Kd.R_far (p := ⟨gb346, 0, none⟩) (Kd.R_types HO341.out BK346.out (by decide)) (fun _ hk => hk.2) (.slice Ao61 t343.length co61)) (fun _ h_ => h_.1))) hb); have n1_ := Aside0.mk (Kd.R_below (by (with_reducible repeat (first | apply Kd.R_alloc | apply Kd.R_drewN | apply Kd.R_drew)); exact (Kd.R_mono (Kd.R_far (p := ⟨gb346, 0, none⟩) (Kd.R_types HO345.out BK346.out (by decide)) (fun _ hk => hk.2) (.slice Ao61 t343.length co61)) (fun _ h_ => h_.1))) hb); have n2_ := Aside0.mk (blk_below (g := gb337) (o := .cells #[.slice A0_0 l0_0.length c0_0] 24 (0, 0)) (by (with_reducible repeat (first | refine blk_drewN ?_ _ | refine blk_drew ?_ | refine blk_alloc ?_ _)); refine blk_far ?_ NB337_346.out _; (with_reducible repeat (first | refine blk_drewN ?_ _ | refine blk_drew ?_ | refine blk_alloc ?_ _)); exact BK337.out) hb); have n3_ := Aside0.mk (blk_below (g := gb346) (o := .cells #[.slice Ao61 t343.length co61] 27 (0, 0)) (by (with_reducible repeat (first | refine blk_drewN ?_ _ | refine blk_drew ?_ | refine blk_alloc ?_ _)); refine blk_put (cs := #[.slice none 0 0]) ?_ 0 _ rfl; (with_reducible repeat (first | refine blk_drewN ?_ _ | refine blk_drew ?_ | refine blk_alloc ?_ _)); exact BK346.out) hb); have n4_ := Aside0.mk (below_step (by repeat (first | (with_reducible first | exact HB.out | apply below_alloc | apply pw_below_drewN | apply below_drew1 | refine below_set ?_ GE337.out | refine below_set ?_ GE346.out) | exact HB.out)) hb); clear HO341; clear HO345; clear BK337; clear BK346; clear HB; have HO341 := n0_; have HO345 := n1_; have BK337 := n2_; have BK346 := n3_; have HB := n4_; clear n0_ n1_ n2_ n3_ n4_; (try clear hb); (try clear hb2); (try clear hk); (try clear hi)))
      go_ret
      exact ⟨by first | rfl | (simp [errW_none, errW_some] <;> rfl) | (simp [*, errW_none, errW_some] <;> rfl), by repeat (first | (with_reducible first | exact HB.out | apply below_alloc | apply pw_below_drewN | apply below_drew1 | refine below_set ?_ GE337.out | refine below_set ?_ GE346.out) | exact HB.out)⟩
end Go.Proofs.Ytapdhljbhekcdaa.PA
end
section
namespace Go.Proofs.Ytapdhljbhekcdaa.E
open Go.RowKit Go.Proofs.YtapdhljbhekcdaaW.PrintWords Go.Proofs.YtapdhljbhekcdaaW.PrintLast Go.Proofs.YtapdhljbhekcdaaW.PrintMore
set_option linter.unusedVariables false
set_option linter.unusedSimpArgs false
theorem w64 {x : Int} (h1 : -9223372036854775808 ≤ x) (h2 : x ≤ 9223372036854775807) : wrap64 x = x := by
  unfold wrap64; omega
theorem nd_t {p : Prop} [Decidable p] (h : ¬ p) : (!decide p) = true := by simp [h]
theorem emod_le_self {n x : Int} (h : 0 ≤ n) (hx : 0 < x) : n % x ≤ n := by
  have h1 := Int.mul_ediv_add_emod n x
  have h2 : 0 ≤ x * (n / x) := Int.mul_nonneg (by omega) (Int.ediv_nonneg h (by omega))
  omega
theorem ev_ifp {α : Type} {c : Prop} [Decidable c] {a b : Nat → Option α} {r : α} (h : c) (k : Ev a r) : Ev (fun n => if c then a n else b n) r :=
  Ev.congr (fun _ => if_pos h) k
theorem ev_ifn {α : Type} {c : Prop} [Decidable c] {a b : Nat → Option α} {r : α} (h : ¬ c) (k : Ev b r) : Ev (fun n => if c then a n else b n) r :=
  Ev.congr (fun _ => if_neg h) k
theorem ev_bind {α β : Type} {g : Nat → Option α} {f : Nat → α → Option β} (a : α) {r : β} (h : Ev g a) (k : Ev (fun n => f n a) r) : Ev (fun n => (g n).bind (f n)) r := Ev.bind h k
theorem ev_to {α : Type} {g : Nat → Option α} {a b : α} (h : Ev g a) (e : a = b) : Ev g b := e ▸ h
theorem rd_lt {l : List Int} {i : Int} (h0 : 0 ≤ i) (h : i < l.length) : rd l i = l[i.toNat]'(by omega) := by
  unfold rd; rw [List.getD_eq_getElem?_getD, List.getElem?_eq_getElem (by omega)]; rfl
theorem rd_mem {l : List Int} {i : Int} (h0 : 0 ≤ i) (h : i < l.length) : rd l i ∈ l := by
  rw [rd_lt h0 h]; exact List.getElem_mem _
theorem drop_rd {l : List Int} {i : Int} (h0 : 0 ≤ i) (h : i < l.length) : l.drop i.toNat = rd l i :: l.drop (i + 1).toNat := by
  rw [rd_lt h0 h, List.drop_eq_getElem_cons (by omega)]
  congr 2; omega
theorem take_rd {l : List Int} {i : Int} (h0 : 0 ≤ i) (h : i < l.length) : l.take (i + 1).toNat = l.take i.toNat ++ [rd l i] := by
  rw [rd_lt h0 h, show (i + 1).toNat = i.toNat + 1 from by omega, List.take_succ_eq_append_getElem (by omega)]
theorem rd_ext {l m : List Int} (hl : l.length = m.length) (h : ∀ i : Int, 0 ≤ i → i < l.length → rd l i = rd m i) : l = m := by
  refine List.ext_getElem hl fun n h1 h2 => ?_
  have := h n (by omega) (by omega)
  rw [rd_lt (by omega) (by omega), rd_lt (by omega) (by omega)] at this
  simpa using this
theorem rd_set {l : List Int} {i j : Int} (x : Int) (hi : 0 ≤ i) (hi' : i < l.length) (hj : 0 ≤ j) : rd (l.set i.toNat x) j = if j = i then x else rd l j := by
  unfold rd
  rw [List.getD_eq_getElem?_getD, List.getD_eq_getElem?_getD, List.getElem?_set]
  by_cases h : j = i
  · subst h; rw [if_pos rfl, if_pos rfl, if_pos (by omega)]; rfl
  · rw [if_neg h, if_neg (by omega)]
theorem rd_append {l m : List Int} {i : Int} (hi : 0 ≤ i) : rd (l ++ m) i = if i < l.length then rd l i else rd m (i - l.length) := by
  unfold rd
  rw [List.getD_eq_getElem?_getD, List.getD_eq_getElem?_getD, List.getD_eq_getElem?_getD, List.getElem?_append]
  by_cases h : i < l.length
  · rw [if_pos h, if_pos (by omega)]
  · rw [if_neg h, if_neg (by omega), show i.toNat - l.length = (i - l.length).toNat from by omega]
theorem rd_rep {n : Nat} {x : Int} {i : Int} (hi : 0 ≤ i) (h : i < n) : rd (List.replicate n x) i = x := by
  rw [rd_lt hi (by simpa using h)]; simp
theorem mem_rd {l : List Int} {x : Int} (h : x ∈ l) : ∃ i : Int, 0 ≤ i ∧ i < l.length ∧ rd l i = x := by
  obtain ⟨n, hn, rfl⟩ := List.mem_iff_getElem.1 h
  exact ⟨n, by omega, by omega, by rw [rd_lt (by omega) (by omega)]; simp⟩
end Go.Proofs.Ytapdhljbhekcdaa.E
end
section
namespace Go.Proofs.Ytapdhljbhekcdaa.E
open Go.RowKit Go.Proofs.Ytapdhljbhekcdaa.PA Go.Proofs.YtapdhljbhekcdaaW.PrintWords Go.Proofs.YtapdhljbhekcdaaW.PrintLast Go.Proofs.YtapdhljbhekcdaaW.PrintMore
set_option linter.unusedVariables false
set_option linter.unusedSimpArgs false
theorem l1In_eq (n lo hi : Int) : spec_l1In.f n lo hi = some (decide (lo ≤ n ∧ n ≤ hi)) := by
  unfold spec_l1In.f; by_cases h : n ≥ lo
  · rw [if_pos h]; simp [h]
  · rw [if_neg h]; simp [show ¬ lo ≤ n from h]
theorem within_eq (n lo hi : Int) : impl_within.f n lo hi = some (decide (lo ≤ n ∧ n ≤ hi)) := l1In_eq n lo hi
theorem allWithin_l {l : List Int} {lo hi : Int} (hl : l.length ≤ 1099511627776) (d : Nat) : ∀ (i : Int), 0 ≤ i → i + d = l.length → Ev (fun k => impl_allWithin.l0 k lo hi l l.length i) (decide (∀ x ∈ l.drop i.toNat, lo ≤ x ∧ x ≤ hi)) := by
  induction d with
  | zero =>
    intro i h0 h1
    refine Ev.step (fun k => by rw [impl_allWithin.l0]) ?_
    simp (disch := omega) only [if_neg]
    refine ev_to (Ev.now _) ?_
    rw [List.drop_of_length_le (by omega)]; simp
  | succ d ih =>
    intro i h0 h1
    refine Ev.step (fun k => by rw [impl_allWithin.l0]) ?_
    simp (disch := omega) only [if_pos, w64, within_eq, Option.bind_some]
    rw [drop_rd h0 (by omega)]
    by_cases h : lo ≤ rd l i ∧ rd l i ≤ hi
    · refine ev_ifp (by simpa using h) (ev_to (ih (i + 1) (by omega) (by omega)) ?_)
      simp [h]
    · refine ev_ifn (by simpa using h) (ev_to (Ev.now _) ?_)
      simp only [List.mem_cons, forall_eq_or_imp, h, false_and, decide_false]
theorem allWithin_ev {l : List Int} (lo hi : Int) (hl : l.length ≤ 1099511627776) : Ev (fun k => impl_allWithin.f k l lo hi) (decide (∀ x ∈ l, lo ≤ x ∧ x ≤ hi)) :=
  ev_to (allWithin_l hl l.length 0 (by omega) (by omega)) (by simp)
def Asc (l : List Int) : Prop := ∀ i : Int, 0 < i → i < l.length → rd l (i - 1) < rd l i
noncomputable instance (l : List Int) : Decidable (Asc l) := Classical.propDecidable _
theorem asc_l {l : List Int} (hl : l.length ≤ 1099511627776) (d : Nat) : ∀ (i : Int), 0 < i → i + d = max 1 l.length → (∀ j, 0 < j → j < i → rd l (j - 1) < rd l j) → Ev (fun k => impl_IsAscending.l0 k l i) (decide (Asc l)) ∧ Ev (fun k => spec_IsAscending.l0 k l i) (decide (Asc l)) := by
  induction d with
  | zero =>
    intro i h0 h1 h2
    have ha : Asc l := fun j hj hj' => h2 j hj (by omega)
    constructor
    · refine Ev.step (fun k => by rw [impl_IsAscending.l0]) ?_
      simp (disch := omega) only [if_neg]
      exact ev_to (Ev.now _) (by simp [ha])
    · refine Ev.step (fun k => by rw [spec_IsAscending.l0]) ?_
      simp (disch := omega) only [if_neg]
      exact ev_to (Ev.now _) (by simp [ha])
  | succ d ih =>
    intro i h0 h1 h2
    by_cases h : rd l (i - 1) < rd l i
    · obtain ⟨a, b⟩ := ih (i + 1) (by omega) (by omega) (fun j hj hj' => by
        by_cases e : j = i
        · subst e; exact h
        · exact h2 j hj (by omega))
      constructor
      · refine Ev.step (fun k => by rw [impl_IsAscending.l0]) ?_
        simp (disch := omega) only [if_pos, if_neg, w64]
        exact a
      · refine Ev.step (fun k => by rw [spec_IsAscending.l0]) ?_
        simp (disch := omega) only [if_pos, if_neg, w64]
        exact b
    · have hn : ¬ Asc l := fun ha => h (ha i h0 (by omega))
      constructor
      · refine Ev.step (fun k => by rw [impl_IsAscending.l0]) ?_
        simp (disch := omega) only [if_pos, w64]
        exact ev_to (Ev.now _) (by simp [hn])
      · refine Ev.step (fun k => by rw [spec_IsAscending.l0]) ?_
        simp (disch := omega) only [if_pos, w64]
        exact ev_to (Ev.now _) (by simp [hn])
theorem ascI_ev {l : List Int} (hl : l.length ≤ 1099511627776) : Ev (fun k => impl_IsAscending.f k l) (decide (Asc l)) :=
  (asc_l hl (l.length - 1) 1 (by omega) (by omega) (fun j h h' => by omega)).1
theorem ascS_ev {l : List Int} (hl : l.length ≤ 1099511627776) : Ev (fun k => spec_IsAscending.f k l) (decide (Asc l)) :=
  (asc_l hl (l.length - 1) 1 (by omega) (by omega) (fun j h h' => by omega)).2
end Go.Proofs.Ytapdhljbhekcdaa.E
end
section
namespace Go.Proofs.Ytapdhljbhekcdaa.E
open Go.RowKit Go.Proofs.YtapdhljbhekcdaaW.PrintWords Go.Proofs.YtapdhljbhekcdaaW.PrintLast Go.Proofs.YtapdhljbhekcdaaW.PrintMore
set_option linter.unusedVariables false
set_option linter.unusedSimpArgs false
def fl (p : Int → Bool) (i : Int) : Nat → List Int
  | 0 => []
  | d + 1 => if p i = true then i :: fl p (i + 1) d else fl p (i + 1) d
theorem fl_yes {p : Int → Bool} {i : Int} {d : Nat} (h : p i = true) : fl p i (d + 1) = i :: fl p (i + 1) d := by rw [fl, if_pos h]
theorem fl_no {p : Int → Bool} {i : Int} {d : Nat} (h : ¬ p i = true) : fl p i (d + 1) = fl p (i + 1) d := by rw [fl, if_neg h]
theorem fl_app (p : Int → Bool) (d e : Nat) : ∀ i : Int, fl p i (d + e) = fl p i d ++ fl p (i + d) e := by
  induction d with
  | zero => intro i; simp [fl]
  | succ d ih =>
    intro i
    rw [show d + 1 + e = (d + e) + 1 from by omega, show i + ((d + 1 : Nat) : Int) = i + 1 + d from by omega]
    by_cases h : p i = true
    · rw [fl_yes h, fl_yes h, ih, List.cons_append]
    · rw [fl_no h, fl_no h, ih]
theorem fl_mem {p : Int → Bool} {x : Int} (d : Nat) : ∀ i : Int, x ∈ fl p i d ↔ i ≤ x ∧ x < i + d ∧ p x = true := by
  induction d with
  | zero => intro i; simp [fl]; omega
  | succ d ih =>
    intro i
    by_cases h : p i = true
    · rw [fl_yes h, List.mem_cons, ih]
      constructor
      · rintro (rfl | ⟨a, b, c⟩)
        · exact ⟨Int.le_refl _, by omega, h⟩
        · exact ⟨by omega, by omega, c⟩
      · rintro ⟨a, b, c⟩
        by_cases e : x = i
        · exact .inl e
        · exact .inr ⟨by omega, by omega, c⟩
    · rw [fl_no h, ih]
      constructor
      · rintro ⟨a, b, c⟩; exact ⟨by omega, by omega, c⟩
      · rintro ⟨a, b, c⟩
        by_cases e : x = i
        · subst e; exact absurd c h
        · exact ⟨by omega, by omega, c⟩
theorem fl_len (p : Int → Bool) (d : Nat) : ∀ i : Int, (fl p i d).length ≤ d := by
  induction d with
  | zero => intro i; simp [fl]
  | succ d ih =>
    intro i
    have := ih (i + 1)
    by_cases h : p i = true
    · rw [fl_yes h, List.length_cons]; omega
    · rw [fl_no h]; omega
theorem fl_last {p : Int → Bool} {i : Int} {d : Nat} (h : fl p i d ≠ []) : ∃ x, i ≤ x ∧ x < i + d ∧ p x = true ∧ (∀ y, x < y → y < i + d → ¬ p y = true) ∧ rd (fl p i d) ((fl p i d).length - 1) = x := by
  induction d with
  | zero => exact absurd rfl h
  | succ d ih =>
    rw [show d + 1 = d + 1 from rfl, fl_app p d 1 i] at h ⊢
    by_cases c : p (i + d) = true
    · refine ⟨i + d, by omega, by omega, c, fun y a b => by omega, ?_⟩
      rw [show fl p (i + d) 1 = [i + d] from by rw [show (1 : Nat) = 0 + 1 from rfl, fl_yes c]; rfl]
      rw [rd_append (by simp), if_neg (by simp)]
      simp [rd]
    · have e : fl p (i + d) 1 = [] := by rw [show (1 : Nat) = 0 + 1 from rfl, fl_no c]; rfl
      rw [e, List.append_nil] at h ⊢
      obtain ⟨x, a, b, q, r, s⟩ := ih h
      refine ⟨x, a, by omega, q, fun y hy hy' => ?_, s⟩
      by_cases ey : y = i + d
      · rw [ey]; exact c
      · exact r y hy (by omega)
end Go.Proofs.Ytapdhljbhekcdaa.E
end
section
namespace Go.Proofs.Ytapdhljbhekcdaa.E
open Go.RowKit Go.Proofs.Ytapdhljbhekcdaa.PA Go.Proofs.YtapdhljbhekcdaaW.PrintWords Go.Proofs.YtapdhljbhekcdaaW.PrintLast Go.Proofs.YtapdhljbhekcdaaW.PrintMore
set_option linter.unusedVariables false
set_option linter.unusedSimpArgs false
theorem l2Small_eq (n : Int) : spec_l2Small.f n = some (decide (-1000000 ≤ n ∧ n ≤ 1000000)) := by
  unfold spec_l2Small.f; rw [l1In_eq]; rfl
theorem l1Max_eq (a b : Int) : spec_l1Max.f a b = some (max a b) := by
  unfold spec_l1Max.f
  by_cases h : a > b
  · rw [if_pos h, Int.max_eq_left (by omega)]
  · rw [if_neg h, Int.max_eq_right (by omega)]
theorem mx_eq (a b : Int) : mx a b = max a b := by unfold mx; omega
theorem gcdI_l (m : Nat) : ∀ n : Nat, Ev (fun k => impl_GcdOf.l0 k (m : Int) (n : Int)) (Nat.gcd m n : Int) := by
  induction m using Nat.strongRecOn with
  | _ m ih =>
    intro n
    refine Ev.step (fun k => by rw [impl_GcdOf.l0]) ?_
    by_cases h : m = 0
    · subst h
      refine ev_ifp (by rfl) (ev_to (Ev.now _) (by simp))
    · refine ev_ifn (by omega) ?_
      rw [show Int.tmod (n : Int) (m : Int) = ((n % m : Nat) : Int) from rfl, Nat.gcd_rec]
      exact ih _ (Nat.mod_lt _ (by omega)) m
theorem gcdS_l (n : Nat) : ∀ m : Nat, Ev (fun k => spec_GcdOf.l0 k (m : Int) (n : Int)) (Nat.gcd m n : Int) := by
  induction n using Nat.strongRecOn with
  | _ n ih =>
    intro m
    refine Ev.step (fun k => by rw [spec_GcdOf.l0]) ?_
    by_cases h : n = 0
    · subst h
      refine ev_ifn (by simp) (ev_to (Ev.now _) (by simp))
    · refine ev_ifp (by omega) (ev_ifn (by omega) ?_)
      rw [show Int.tmod (m : Int) (n : Int) = ((m % n : Nat) : Int) from rfl, Nat.gcd_comm, Nat.gcd_rec, Nat.gcd_comm]
      exact ih _ (Nat.mod_lt _ (by omega)) n
def gcdOf (a b : Int) : Int := if (-1000000 ≤ a ∧ a ≤ 1000000) ∧ -1000000 ≤ b ∧ b ≤ 1000000 then (Int.gcd a b : Int) else 0
theorem abs_cast (a : Int) : max a (-a) = ((a.natAbs : Nat) : Int) := by omega
theorem gcdI_ev (a b : Int) : Ev (fun k => impl_GcdOf.f k a b) (gcdOf a b) := by
  unfold impl_GcdOf.f gcdOf
  refine ev_bind _ (allWithin_ev _ _ (by simp)) ?_
  by_cases h : (-1000000 ≤ a ∧ a ≤ 1000000) ∧ -1000000 ≤ b ∧ b ≤ 1000000
  · rw [if_pos h]
    refine ev_ifp (by simpa using h) ?_
    obtain ⟨h1, h2⟩ := h
    rw [w64 (by omega) (by omega), w64 (by omega) (by omega), mx_eq, mx_eq, abs_cast, abs_cast]
    exact gcdI_l _ _
  · rw [if_neg h]
    refine ev_ifn (by simpa using h) (Ev.now _)
theorem gcdS_ev (a b : Int) : Ev (fun k => spec_GcdOf.f k a b) (gcdOf a b) := by
  unfold spec_GcdOf.f gcdOf
  simp only [l2Small_eq, Option.bind_some]
  by_cases h1 : -1000000 ≤ a ∧ a ≤ 1000000
  · refine ev_ifp (by simpa using h1) (Ev.step (fun k => by rw [spec_GcdOf.j0]) ?_)
    by_cases h2 : -1000000 ≤ b ∧ b ≤ 1000000
    · rw [if_pos ⟨h1, h2⟩]
      refine ev_ifn (by simpa using h2) ?_
      simp only [l1Max_eq, Option.bind_some]
      rw [w64 (by omega) (by omega), w64 (by omega) (by omega), abs_cast, abs_cast]
      exact gcdS_l _ _
    · rw [if_neg (fun h => h2 h.2)]
      exact ev_ifp (nd_t h2) (Ev.now _)
  · rw [if_neg (fun h => h1 h.1)]
    refine ev_ifn (by simpa using h1) (Ev.step (fun k => by rw [spec_GcdOf.j0]) ?_)
    exact ev_ifp rfl (Ev.now _)
end Go.Proofs.Ytapdhljbhekcdaa.E
end
section
namespace Go.Proofs.Ytapdhljbhekcdaa.E
open Go.RowKit Go.Proofs.Ytapdhljbhekcdaa.PA Go.Proofs.YtapdhljbhekcdaaW.PrintWords Go.Proofs.YtapdhljbhekcdaaW.PrintLast Go.Proofs.YtapdhljbhekcdaaW.PrintMore
set_option linter.unusedVariables false
set_option linter.unusedSimpArgs false
def gl (l : List Int) : Int := l.foldl gcdOf 0
theorem gcdListI_l {l : List Int} (hl : l.length ≤ 1099511627776) (d : Nat) : ∀ (i acc : Int), 0 ≤ i → i + d = l.length → Ev (fun k => impl_GcdOfList.l0 k acc l l.length i) ((l.drop i.toNat).foldl gcdOf acc) := by
  induction d with
  | zero =>
    intro i acc h0 h1
    refine Ev.step (fun k => by rw [impl_GcdOfList.l0]) ?_
    rw [List.drop_of_length_le (by omega)]
    exact ev_ifn (by omega) (Ev.now _)
  | succ d ih =>
    intro i acc h0 h1
    refine Ev.step (fun k => by rw [impl_GcdOfList.l0]) ?_
    rw [drop_rd h0 (by omega), List.foldl_cons, w64 (by omega) (by omega)]
    exact ev_ifp (by omega) (ev_ifp h0 (ev_ifp (by omega) (ev_bind _ (gcdI_ev _ _) (ih (i + 1) _ (by omega) (by omega)))))
theorem gcdListI_ev {l : List Int} (hl : l.length ≤ 1099511627776) : Ev (fun k => impl_GcdOfList.f k l) (gl l) := by
  unfold impl_GcdOfList.f
  have := gcdListI_l hl l.length 0 0 (by omega) (by omega)
  simpa [gl] using this
theorem gcdListS_l {l : List Int} (hl : l.length ≤ 1099511627776) (d : Nat) : ∀ (i acc : Int), 0 ≤ i → i + d = l.length → Ev (fun k => spec_GcdOfList.l0 k l acc i) ((l.drop i.toNat).foldl gcdOf acc) := by
  induction d with
  | zero =>
    intro i acc h0 h1
    refine Ev.step (fun k => by rw [spec_GcdOfList.l0]) ?_
    rw [List.drop_of_length_le (by omega)]
    exact ev_ifn (by omega) (Ev.now _)
  | succ d ih =>
    intro i acc h0 h1
    refine Ev.step (fun k => by rw [spec_GcdOfList.l0]) ?_
    rw [drop_rd h0 (by omega), List.foldl_cons, w64 (by omega) (by omega)]
    exact ev_ifp (by omega) (ev_ifp h0 (ev_bind _ (gcdS_ev _ _) (ih (i + 1) _ (by omega) (by omega))))
theorem gcdListS_ev {l : List Int} (hl : l.length ≤ 1099511627776) : Ev (fun k => spec_GcdOfList.f k l) (gl l) := by
  unfold spec_GcdOfList.f
  have := gcdListS_l hl l.length 0 0 (by omega) (by omega)
  simpa [gl] using this
theorem gcdOf_small {a x : Int} (h0 : 0 ≤ a) (h1 : a ≤ 60) (hx : 1 ≤ x ∧ x ≤ 60) : 1 ≤ gcdOf a x ∧ gcdOf a x ≤ 60 ∧ gcdOf a x ∣ a ∧ gcdOf a x ∣ x := by
  have e : gcdOf a x = (Int.gcd a x : Int) := by unfold gcdOf; rw [if_pos ⟨⟨by omega, by omega⟩, by omega, by omega⟩]
  have d1 := Int.gcd_dvd_left a x
  have d2 := Int.gcd_dvd_right a x
  have p : 0 < Int.gcd a x := Int.gcd_pos_of_ne_zero_right _ (by omega)
  have le := Int.le_of_dvd (by omega) d2
  rw [e]
  exact ⟨by omega, by omega, d1, d2⟩
end Go.Proofs.Ytapdhljbhekcdaa.E
end
section
namespace Go.Proofs.Ytapdhljbhekcdaa.E
open Go.RowKit Go.Proofs.YtapdhljbhekcdaaW.PrintWords Go.Proofs.YtapdhljbhekcdaaW.PrintLast Go.Proofs.YtapdhljbhekcdaaW.PrintMore
set_option linter.unusedVariables false
set_option linter.unusedSimpArgs false
inductive Way (v : List Int) : Int → Int → Prop
  | zero : Way v 0 0
  | add {x k c : Int} : x ∈ v → Way v k c → Way v (k + x) (c + 1)
theorem Way.mono {v u : List Int} (h : ∀ x ∈ v, x ∈ u) {k c : Int} (w : Way v k c) : Way u k c := by
  induction w with
  | zero => exact .zero
  | add hx _ ih => exact .add (h _ hx) ih
theorem Way.pos {v : List Int} (h : ∀ x ∈ v, 1 ≤ x) {k c : Int} (w : Way v k c) : 0 ≤ c ∧ c ≤ k := by
  induction w with
  | zero => omega
  | add hx _ ih => have := h _ hx; omega
theorem Way.plus {v : List Int} {k c : Int} (w : Way v k c) {k' c' : Int} (w' : Way v k' c') : Way v (k + k') (c + c') := by
  induction w' with
  | zero => simpa using w
  | @add x k1 c1 hx _ ih =>
    rw [← Int.add_assoc, ← Int.add_assoc]
    exact .add hx ih
theorem Way.times {v : List Int} {x : Int} (hx : x ∈ v) (j : Nat) : Way v (j * x) j := by
  induction j with
  | zero => simpa using Way.zero
  | succ j ih =>
    have := Way.add hx ih
    rw [show ((j + 1 : Nat) : Int) * x = j * x + x from by rw [Int.natCast_add, Int.add_mul]; simp]
    exact this
theorem Way.last {v : List Int} {k c : Int} (w : Way v k c) : (k = 0 ∧ c = 0) ∨ ∃ x ∈ v, Way v (k - x) (c - 1) := by
  cases w with
  | zero => exact .inl ⟨rfl, rfl⟩
  | @add x k c hx hw => exact .inr ⟨x, hx, by rwa [show k + x - x = k from by omega, show c + 1 - 1 = c from by omega]⟩
theorem Way.split {u : List Int} {x : Int} {k c : Int} (w : Way (u ++ [x]) k c) : ∃ j : Nat, Way u (k - j * x) (c - j) := by
  induction w with
  | zero => exact ⟨0, by simpa using Way.zero⟩
  | @add y k c hy _ ih =>
    obtain ⟨j, h⟩ := ih
    rcases List.mem_append.1 hy with hu | hx
    · refine ⟨j, ?_⟩
      have := Way.add hu h
      rwa [show k - j * x + y = k + y - j * x from by omega, show c - (j : Int) + 1 = c + 1 - j from by omega] at this
    · obtain rfl : y = x := by simpa using hx
      refine ⟨j + 1, ?_⟩
      rw [show ((j + 1 : Nat) : Int) * y = j * y + y from by rw [Int.natCast_add, Int.add_mul]; simp, show k + y - (j * y + y) = k - j * y from by omega, show c + 1 - ((j + 1 : Nat) : Int) = c - j from by omega]
      exact h
def Fw (v : List Int) (k m : Int) : Prop := (m = -1 ∧ ∀ c, ¬ Way v k c) ∨ (Way v k m ∧ ∀ c, Way v k c → m ≤ c)
theorem Fw.one {v : List Int} (hv : ∀ x ∈ v, 1 ≤ x) {k m m' : Int} (h : Fw v k m) (h' : Fw v k m') : m = m' := by
  rcases h with ⟨h1, h2⟩ | ⟨h1, h2⟩ <;> rcases h' with ⟨h3, h4⟩ | ⟨h3, h4⟩
  · omega
  · exact absurd h3 (h2 _)
  · exact absurd h1 (h4 _)
  · have := h2 _ h3; have := h4 _ h1; omega
theorem Fw.ge {v : List Int} (hv : ∀ x ∈ v, 1 ≤ x) {k m : Int} (h : Fw v k m) : -1 ≤ m := by
  rcases h with ⟨h1, h2⟩ | ⟨h1, h2⟩
  · omega
  · have := h1.pos hv; omega
theorem Fw.le {v : List Int} (hv : ∀ x ∈ v, 1 ≤ x) {k m : Int} (h : Fw v k m) (hk : 0 ≤ k) : m ≤ k := by
  rcases h with ⟨h1, h2⟩ | ⟨h1, h2⟩
  · omega
  · have := h1.pos hv; omega
theorem Fw.way {v : List Int} {k m : Int} (h : Fw v k m) (hm : 0 ≤ m) : Way v k m ∧ ∀ c, Way v k c → m ≤ c := by
  rcases h with ⟨h1, h2⟩ | h
  · omega
  · exact h
theorem Fw.nil {k : Int} (hk : 0 ≤ k) : Fw [] k (if k = 0 then 0 else -1) := by
  by_cases h : k = 0
  · subst h
    exact .inr ⟨.zero, fun c w => (w.pos (by simp)).1⟩
  · rw [if_neg h]
    refine .inl ⟨rfl, fun c w => ?_⟩
    rcases w.last with ⟨h1, _⟩ | ⟨x, hx, _⟩
    · exact h h1
    · simp at hx
theorem Fw.below {u : List Int} {x k m : Int} (hu : ∀ y ∈ u, 1 ≤ y) (hk : k < x) (h : Fw u k m) (h0 : 0 ≤ k) : Fw (u ++ [x]) k m := by
  have hv : ∀ y ∈ u ++ [x], 1 ≤ y := by
    intro y hy
    rcases List.mem_append.1 hy with hy | hy
    · exact hu y hy
    · have : y = x := by simpa using hy
      omega
  have key : ∀ c, Way (u ++ [x]) k c → Way u k c := by
    intro c w
    obtain ⟨j, hj⟩ := w.split
    by_cases h : j = 0
    · subst h; simpa using hj
    · exfalso
      have := hj.pos hu
      have hj1 : x ≤ (j : Int) * x := by
        have := Int.mul_le_mul_of_nonneg_right (show (1 : Int) ≤ j from by omega) (show 0 ≤ x from by omega)
        omega
      omega
  rcases h with ⟨h1, h2⟩ | ⟨h1, h2⟩
  · exact .inl ⟨h1, fun c w => h2 c (key c w)⟩
  · exact .inr ⟨h1.mono (fun y hy => List.mem_append.2 (.inl hy)), fun c w => h2 c (key c w)⟩
end Go.Proofs.Ytapdhljbhekcdaa.E
end
section
namespace Go.Proofs.Ytapdhljbhekcdaa.E
open Go.RowKit Go.Proofs.YtapdhljbhekcdaaW.PrintWords Go.Proofs.YtapdhljbhekcdaaW.PrintLast Go.Proofs.YtapdhljbhekcdaaW.PrintMore
set_option linter.unusedVariables false
set_option linter.unusedSimpArgs false
structure Lst (v : List Int) (a G : Int) (t : List Int) : Prop where
  len : (t.length : Int) = a
  ge : ∀ r, 0 ≤ r → r < a → -1 ≤ rd t r
  way : ∀ r, 0 ≤ r → r < a → 0 ≤ rd t r → (∃ c, Way v (rd t r) c) ∧ rd t r % a = r
  least : ∀ n c, Way v n c → 0 ≤ rd t (n % a) ∧ rd t (n % a) ≤ n
  bound : ∀ r, 0 ≤ r → r < a → rd t r ≤ (a - 1) * G
def sets (t : List Int) : Nat := t.countP (fun x => decide (0 ≤ x))
theorem sets_le (t : List Int) : sets t ≤ t.length := List.countP_le_length
def weight (B : Int) (t : List Int) : Int := (t.map fun x => if x < 0 then B else x).sum
theorem weight_nonneg {B : Int} (hB : 0 ≤ B) (t : List Int) : 0 ≤ weight B t := by
  induction t with
  | nil => simp [weight]
  | cons x t ih =>
    unfold weight at *
    rw [List.map_cons, List.sum_cons]
    by_cases h : x < 0
    · rw [if_pos h]; omega
    · rw [if_neg h]; omega
theorem weight_set (B : Int) (t : List Int) (i : Nat) (h : i < t.length) (x : Int) : weight B (t.set i x) + (if t[i] < 0 then B else t[i]) = weight B t + (if x < 0 then B else x) := by
  induction t generalizing i with
  | nil => simp at h
  | cons y t ih =>
    unfold weight at *
    cases i with
    | zero => simp only [List.set_cons_zero, List.map_cons, List.sum_cons, List.getElem_cons_zero]; omega
    | succ i =>
      have := ih i (by simpa using h)
      simp only [List.set_cons_succ, List.map_cons, List.sum_cons, List.getElem_cons_succ]
      omega
theorem sets_set (t : List Int) (i : Nat) (h : i < t.length) (x : Int) (hx : 0 ≤ x) : sets (t.set i x) + (if 0 ≤ t[i] then 1 else 0) = sets t + 1 := by
  induction t generalizing i with
  | nil => simp at h
  | cons y t ih =>
    unfold sets at *
    cases i with
    | zero =>
      simp only [List.set_cons_zero, List.countP_cons, List.getElem_cons_zero]
      by_cases e : 0 ≤ y <;> simp [e, hx]
    | succ i =>
      have := ih i (by simpa using h)
      simp only [List.set_cons_succ, List.countP_cons, List.getElem_cons_succ]
      omega
structure LInv (v : List Int) (a G : Int) (t : List Int) : Prop where
  len : (t.length : Int) = a
  zero : rd t 0 = 0
  ge : ∀ r, 0 ≤ r → r < a → -1 ≤ rd t r
  way : ∀ r, 0 ≤ r → r < a → 0 ≤ rd t r → (∃ c, Way v (rd t r) c) ∧ rd t r % a = r
  bound : ∀ r, 0 ≤ r → r < a → rd t r ≤ ((sets t : Int) - 1) * G
theorem mul_le_of {x y G : Int} (hG : 0 ≤ G) (h : x ≤ y) : x * G ≤ y * G := Int.mul_le_mul_of_nonneg_right h hG
theorem LInv.top {v : List Int} {a G : Int} {t : List Int} (hG : 0 ≤ G) (h : LInv v a G t) {r : Int} (h0 : 0 ≤ r) (h1 : r < a) : rd t r ≤ (a - 1) * G := by
  have := h.bound r h0 h1
  have := sets_le t
  have := h.len
  have := mul_le_of (x := (sets t : Int) - 1) (y := a - 1) hG (by omega)
  omega
theorem LInv.step {v : List Int} {a G : Int} {t : List Int} (hv : ∀ x ∈ v, 1 ≤ x ∧ x ≤ G) (ha : 1 ≤ a) (h : LInv v a G t) {r g : Int} (hr0 : 0 ≤ r) (hr1 : r < a) (hg : g ∈ v) (hs : 0 ≤ rd t r)
    (hc : rd t ((rd t r + g) % a) < 0 ∨ rd t r + g < rd t ((rd t r + g) % a)) :
    LInv v a G (t.set ((rd t r + g) % a).toNat (rd t r + g)) ∧ weight (a * G + 1) (t.set ((rd t r + g) % a).toNat (rd t r + g)) < weight (a * G + 1) t ∧ rd t r + g ≤ a * G ∧ (rd t r + g) % a ≠ r := by
  have hgv := hv g hg
  have hG : 0 ≤ G := by omega
  have q0 := Int.emod_nonneg (rd t r + g) (b := a) (by omega)
  have q1 := Int.emod_lt_of_pos (rd t r + g) (b := a) (by omega)
  generalize hto : (rd t r + g) % a = y0 at *
  have hl := h.len
  have hb := h.bound r hr0 hr1
  have hbt := h.bound y0 q0 q1
  have hsl := sets_le t
  have hne : y0 ≠ r := by rintro rfl; omega
  have h00 : y0 ≠ 0 := by rintro rfl; rw [h.zero] at hc; omega
  have hrd : rd t y0 = t[y0.toNat]'(by omega) := rd_lt q0 (by omega)
  have hss := sets_set t y0.toNat (by omega) (rd t r + g) (by omega)
  have hws := weight_set (a * G + 1) t y0.toNat (by omega) (rd t r + g)
  rw [← hrd] at hss hws
  have hset0 : (sets (t.set y0.toNat (rd t r + g)) : Int) + (if 0 ≤ rd t y0 then 1 else 0) = sets t + 1 := by
    split at hss <;> omega
  have hm : a * G = (a - 1) * G + G := by rw [Int.sub_mul]; omega
  have hm2 : ((sets t : Int)) * G = ((sets t : Int) - 1) * G + G := by rw [Int.sub_mul]; omega
  have hm3 := mul_le_of (x := (sets t : Int) - 1) (y := a - 1) hG (by omega)
  obtain ⟨⟨c, hw⟩, hmod⟩ := h.way r hr0 hr1 hs
  have hset : (sets (t.set y0.toNat (rd t r + g)) : Int) = if rd t y0 < 0 then (sets t : Int) + 1 else sets t := by
    by_cases e : rd t y0 < 0
    · rw [if_pos e]; rw [if_neg (by omega)] at hset0; omega
    · rw [if_neg e]; rw [if_pos (by omega)] at hset0; omega
  have hsets : (sets t : Int) ≤ sets (t.set y0.toNat (rd t r + g)) := by rw [hset]; split <;> omega
  have hup : ((sets t : Int) - 1) * G ≤ ((sets (t.set y0.toNat (rd t r + g)) : Int) - 1) * G := mul_le_of hG (by omega)
  have hy : rd t r + g ≤ ((sets (t.set y0.toNat (rd t r + g)) : Int) - 1) * G := by
    by_cases e : rd t y0 < 0
    · rw [hset, if_pos e, show (sets t : Int) + 1 - 1 = sets t from by omega]; omega
    · omega
  refine ⟨⟨by simpa using hl, ?_, ?_, ?_, ?_⟩, ?_, by omega, hne⟩
  · have := rd_set (l := t) (rd t r + g) q0 (by omega) (show (0 : Int) ≤ 0 by omega)
    rw [this, if_neg (fun e => h00 e.symm)]; exact h.zero
  · intro s hs0 hs1
    rw [rd_set _ q0 (by omega) hs0]
    by_cases e : s = y0
    · rw [if_pos e]; omega
    · rw [if_neg e]; exact h.ge s hs0 hs1
  · intro s hs0 hs1 hpos
    rw [rd_set _ q0 (by omega) hs0] at hpos ⊢
    by_cases e : s = y0
    · rw [if_pos e] at hpos ⊢
      exact ⟨⟨c + 1, .add hg hw⟩, by rw [hto, e]⟩
    · rw [if_neg e] at hpos ⊢; exact h.way s hs0 hs1 hpos
  · intro s hs0 hs1
    rw [rd_set _ q0 (by omega) hs0]
    by_cases e : s = y0
    · rw [if_pos e]; exact hy
    · rw [if_neg e]; have := h.bound s hs0 hs1; omega
  · rw [if_neg (show ¬ rd t r + g < 0 by omega)] at hws
    by_cases e : rd t y0 < 0
    · rw [if_pos e] at hws; omega
    · rw [if_neg e] at hws; omega
def Closed (v : List Int) (a : Int) (t : List Int) : Prop := ∀ r, 0 ≤ r → r < a → 0 ≤ rd t r → ∀ g ∈ v, 0 ≤ rd t ((rd t r + g) % a) ∧ rd t ((rd t r + g) % a) ≤ rd t r + g
theorem LInv.done {v : List Int} {a G : Int} {t : List Int} (hv : ∀ x ∈ v, 1 ≤ x ∧ x ≤ G) (hG : 0 ≤ G) (ha : 1 ≤ a) (h : LInv v a G t) (hc : Closed v a t) : Lst v a G t := by
  refine ⟨h.len, h.ge, h.way, fun n c w => ?_, fun r h0 h1 => h.top hG h0 h1⟩
  induction w with
  | zero => simp [h.zero]
  | @add g k c hg hw ih =>
    have q0 := Int.emod_nonneg k (b := a) (by omega)
    have q1 := Int.emod_lt_of_pos k (b := a) (by omega)
    obtain ⟨c1, c2⟩ := hc (k % a) q0 q1 ih.1 g hg
    have hmod := (h.way (k % a) q0 q1 ih.1).2
    have e : (rd t (k % a) + g) % a = (k + g) % a := by
      rw [Int.add_emod, hmod, ← Int.add_emod]
    rw [e] at c1 c2
    exact ⟨c1, by omega⟩
theorem Lst.one {v : List Int} {a G G' : Int} {t u : List Int} (h : Lst v a G t) (k : Lst v a G' u) : t = u := by
  refine rd_ext (by have := h.len; have := k.len; omega) fun r h0 h1 => ?_
  have ha : r < a := by have := h.len; omega
  have g1 := h.ge r h0 ha
  have g2 := k.ge r h0 ha
  have l1 : 0 ≤ rd t r → 0 ≤ rd u r ∧ rd u r ≤ rd t r := fun hs => by
    obtain ⟨⟨c, w⟩, e⟩ := h.way r h0 ha hs
    have := k.least _ _ w
    rwa [e] at this
  have l2 : 0 ≤ rd u r → 0 ≤ rd t r ∧ rd t r ≤ rd u r := fun hs => by
    obtain ⟨⟨c, w⟩, e⟩ := k.way r h0 ha hs
    have := h.least _ _ w
    rwa [e] at this
  by_cases e1 : 0 ≤ rd t r
  · have := l1 e1; have := l2 (by omega); omega
  · by_cases e2 : 0 ≤ rd u r
    · have := l2 e2; omega
    · omega
theorem LInv.first {v : List Int} {a G : Int} (ha : 1 ≤ a) (hG : 0 ≤ G) : LInv v a G ((List.replicate a.toNat (-1)).set 0 0) := by
  have hl : ((List.replicate a.toNat (-1 : Int)).length : Int) = a := by simp; omega
  have hr : ∀ r, 0 ≤ r → r < a → rd ((List.replicate a.toNat (-1)).set 0 0) r = if r = 0 then 0 else -1 := fun r h0 h1 => by
    have := rd_set (l := List.replicate a.toNat (-1)) (i := 0) (j := r) 0 (by omega) (by omega) h0
    rw [show (0 : Int).toNat = 0 from rfl] at this
    rw [this]
    by_cases e : r = 0
    · rw [if_pos e, if_pos e]
    · rw [if_neg e, if_neg e, rd_rep h0 (by omega)]
  have hs : 1 ≤ sets ((List.replicate a.toNat (-1)).set 0 0) := by
    have := sets_set (List.replicate a.toNat (-1)) 0 (by simp; omega) 0 (by omega)
    simp at this
    omega
  have hp : 0 ≤ ((sets ((List.replicate a.toNat (-1)).set 0 0) : Int) - 1) * G := Int.mul_nonneg (by omega) hG
  refine ⟨by simp; omega, by rw [hr 0 (by omega) (by omega)]; rfl, fun r h0 h1 => ?_, fun r h0 h1 h2 => ?_, fun r h0 h1 => ?_⟩
  · rw [hr r h0 h1]; split <;> omega
  · rw [hr r h0 h1] at h2 ⊢
    by_cases e : r = 0
    · rw [if_pos e]; exact ⟨⟨0, .zero⟩, by rw [e]; rfl⟩
    · rw [if_neg e] at h2; omega
  · rw [hr r h0 h1]; split <;> omega
end Go.Proofs.Ytapdhljbhekcdaa.E
end
section
namespace Go.Proofs.Ytapdhljbhekcdaa.E
open Go.RowKit Go.Proofs.YtapdhljbhekcdaaW.PrintWords Go.Proofs.YtapdhljbhekcdaaW.PrintLast Go.Proofs.YtapdhljbhekcdaaW.PrintMore
set_option linter.unusedVariables false
set_option linter.unusedSimpArgs false
def Su (v : List Int) (n : Int) : Prop := ∃ c, Way v n c
noncomputable instance (v : List Int) (n : Int) : Decidable (Su v n) := Classical.propDecidable _
theorem Su.zero (v : List Int) : Su v 0 := ⟨0, .zero⟩
theorem Su.add {v : List Int} {n m : Int} (h : Su v n) (k : Su v m) : Su v (n + m) := by
  obtain ⟨c, h⟩ := h; obtain ⟨d, k⟩ := k; exact ⟨c + d, h.plus k⟩
theorem Su.mem {v : List Int} {x : Int} (h : x ∈ v) : Su v x := ⟨0 + 1, by have := Way.add h Way.zero; rwa [Int.zero_add] at this⟩
theorem Su.pos {v : List Int} (hv : ∀ x ∈ v, 1 ≤ x) {n : Int} (h : Su v n) : 0 ≤ n := by
  obtain ⟨c, h⟩ := h; have := h.pos hv; omega
theorem Su.mono {v u : List Int} (h : ∀ x ∈ v, x ∈ u) {n : Int} (k : Su v n) : Su u n := by
  obtain ⟨c, k⟩ := k; exact ⟨c, k.mono h⟩
theorem Su.last {v : List Int} {n : Int} (hn : n ≠ 0) : Su v n ↔ ∃ x ∈ v, Su v (n - x) := by
  constructor
  · rintro ⟨c, w⟩
    rcases w.last with h | ⟨x, hx, h⟩
    · exact absurd h.1 hn
    · exact ⟨x, hx, _, h⟩
  · rintro ⟨x, hx, h⟩
    have := h.add (Su.mem hx)
    rwa [show n - x + x = n from by omega] at this
theorem Su.times {v : List Int} {x : Int} (h : Su v x) (j : Nat) : Su v (j * x) := by
  induction j with
  | zero => simpa using Su.zero v
  | succ j ih =>
    have := ih.add h
    rwa [show (j : Int) * x + x = ((j + 1 : Nat) : Int) * x from by rw [Int.natCast_add, Int.add_mul]; simp] at this
theorem Su.up {v : List Int} {a : Int} (ha : 1 ≤ a) (h : Su v a) {n m : Int} (hn : Su v n) (hle : n ≤ m) (hm : n % a = m % a) : Su v m := by
  have e1 := Int.mul_ediv_add_emod n a
  have e2 := Int.mul_ediv_add_emod m a
  have hq : n / a ≤ m / a := Int.ediv_le_ediv (by omega) hle
  have := hn.add (h.times (m / a - n / a).toNat)
  rw [show (((m / a - n / a).toNat : Nat) : Int) = m / a - n / a from by omega] at this
  rwa [show n + (m / a - n / a) * a = m from by rw [Int.sub_mul, Int.mul_comm (m / a), Int.mul_comm (n / a)]; omega] at this
theorem Lst.su {v : List Int} {a G : Int} {t : List Int} (h : Lst v a G t) (ha : 1 ≤ a) (hav : Su v a) {n : Int} : Su v n ↔ 0 ≤ rd t (n % a) ∧ rd t (n % a) ≤ n := by
  have q0 := Int.emod_nonneg n (b := a) (by omega)
  have q1 := Int.emod_lt_of_pos n (b := a) (by omega)
  constructor
  · rintro ⟨c, w⟩; exact h.least _ _ w
  · rintro ⟨h1, h2⟩
    obtain ⟨w, e⟩ := h.way _ q0 q1 h1
    exact Su.up ha hav w h2 (by omega)
def UL (v : List Int) : Prop := (1 ≤ (v.length : Int) ∧ (v.length : Int) ≤ 20) ∧ ∀ x ∈ v, 1 ≤ x ∧ x ≤ 60
noncomputable instance (v : List Int) : Decidable (UL v) := Classical.propDecidable _
theorem UL.pos {v : List Int} (h : UL v) : ∀ x ∈ v, 1 ≤ x := fun x hx => (h.2 x hx).1
theorem UL.first {v : List Int} (h : UL v) : rd v 0 ∈ v ∧ 1 ≤ rd v 0 ∧ rd v 0 ≤ 60 := by
  have := rd_mem (l := v) (i := 0) (by omega) (by have := h.1; omega)
  exact ⟨this, h.2 _ this⟩
end Go.Proofs.Ytapdhljbhekcdaa.E
end
