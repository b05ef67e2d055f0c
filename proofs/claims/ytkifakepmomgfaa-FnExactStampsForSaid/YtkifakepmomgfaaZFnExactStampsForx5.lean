-- Bundled by shake.py from this session's printed and written texts; Lean checks it.
import Derived.Test.YtkifakepmomgfaaZFnExactStampsForx0
import Derived.Test.YtkifakepmomgfaaZFnExactStampsForx1
import Derived.Test.YtkifakepmomgfaaZFnExactStampsForx2
import Derived.Test.YtkifakepmomgfaaZFnExactStampsForx3
import Derived.Test.YtkifakepmomgfaaZFnExactStampsForx4
section
namespace Go.Proofs.Ytkifakepmomgfaa.PA
open Go.RowKit Go.Proofs.YtkifakepmomgfaaW.PrintWords Go.Proofs.YtkifakepmomgfaaW.PrintLast Go.Proofs.YtkifakepmomgfaaW.PrintMore
set_option linter.unusedVariables false
set_option linter.unusedSimpArgs false
def laws_heldIntS.l0 : Nat → List Int → Int → Int → Option (Int)
  | 0, _, _, _ => none
  | k + 1, x0, x1, x5 => if x5 < (x0.length : Int) then (if 0 ≤ x5 then (if (rd x0 x5) = x1 then (laws_heldIntS.l0 k x0 (wrap64 (x1 + 1)) (wrap64 (x5 + 1))) else (some (-1))) else (none)) else (some x1)
def laws_heldIntS.f (k : Nat) (l0 : List Int) (a1 : Int) : Option (Int) := laws_heldIntS.l0 k l0 a1 0
set_option maxHeartbeats 8000000 in
set_option maxRecDepth 100000 in
theorem laws_heldIntS.calls (k : Nat) (A0 : Option Addr) (c0 : Nat) (l0 : List Int) (a1 : Int) (r : Int) (w : World) (hr0 : Kd.C (Kd.int .i64) w A0 l0.length l0) (hc0 : l0.length ≤ c0) (h : laws_heldIntS.f k l0 a1 = some r) :
    Calls Try.prog 20 #[.slice A0 l0.length c0, .int .i64 a1] w fun e w' => e = .returned (.int .i64 r) ∧ Drawn0 w w' := by
  have HR0 := Aside0.mk hr0
  have HC0 := Aside0.mk hc0
  clear hr0 hc0
  have H : (laws_heldIntS.l0 k l0 a1 0) = some r := h
  clear h
  have H' := Aside0.mk H
  clear H
  go_enter Try.func20, Try.ntmps20
  go_wp2
  go_loopg [1, 5] k (fun kq v1 v5 w' => ∃ (x1_1 : Int) (x5_1 : Int), v1 = .int .i64 x1_1 ∧ v5 = .int .i64 x5_1 ∧ Aside0 (laws_heldIntS.l0 kq l0 x1_1 x5_1 = some r) ∧ Aside0 (kq ≤ k) ∧ Drawn0 w w')
  case atStart => exact ⟨(a1), (0), (by first | rfl | (simp; done) | (simp [*]; done)), (by first | rfl | (simp; done) | (simp [*]; done)), H', ⟨Nat.le_refl _⟩, by repeat (first | exact Drawn0.refl _ | apply Drawn0.step)⟩
  case round =>
    clear H'
    try clear c2
    try clear p2
    obtain ⟨x1_1, x5_1, rfl, rfl, HA, HK1, ⟨m1, rfl⟩⟩ := hrel
    cases gk with
    | zero => exact absurd HA.out (by simp [laws_heldIntS.l0])
    | succ k1 =>
      have H := HA.out
      clear HA
      simp only [laws_heldIntS.l0] at H
      by_cases c3 : x5_1 < (l0.length : Int)
      · rw [if_pos c3] at H
        have c3b0 : decide (x5_1 < (l0.length : Int)) = true := decide_eq_true c3
        clear c3
        by_cases c4 : 0 ≤ x5_1
        · rw [if_pos c4] at H
          have c4b0 : decide (0 ≤ x5_1) = true := decide_eq_true c4
          clear c4
          by_cases c5 : (rd l0 x5_1) = x1_1
          · rw [if_pos c5] at H
            have c5b0 : ((rd l0 x5_1) == x1_1) = true := beq_iff_eq.mpr c5
            have c5b1 : ((rd l0 x5_1) != x1_1) = false := bne_eq_false_iff_eq.mpr c5
            clear c5
            have H' := Aside0.mk H
            clear H
            have p209 : 0 ≤ (x5_1 : Int) := of_decide_eq_true (by first | (with_reducible assumption) | assumption)
            have q209 : x5_1 < (l0.length : Int) := of_decide_eq_true (by first | (with_reducible assumption) | assumption)
            obtain ⟨ad209, e209, hx209_0⟩ := Kd.at_int HR0.out x5_1 p209 q209
            cases e209
            replace p209 := eq_true p209
            replace q209 := eq_true q209
            go_wp2
            go_roundg k1
            case measure => have := HK1.out; omega
            case rel => exact ⟨(wrap64 (x1_1 + 1)), (wrap64 (x5_1 + 1)), (by first | rfl | (simp; done) | (simp [*]; done)), (by first | rfl | (simp; done) | (simp [*]; done)), H', ⟨by have := HK1.out; omega⟩, by repeat (first | exact Drawn0.refl _ | apply Drawn0.step)⟩
          · rw [if_neg c5] at H
            have c5b0 : ((rd l0 x5_1) == x1_1) = false := beq_eq_false_iff_ne.mpr c5
            have c5b1 : ((rd l0 x5_1) != x1_1) = true := bne_iff_ne.mpr c5
            obtain rfl := Option.some.inj H
            have p209 : 0 ≤ (x5_1 : Int) := of_decide_eq_true (by first | (with_reducible assumption) | assumption)
            have q209 : x5_1 < (l0.length : Int) := of_decide_eq_true (by first | (with_reducible assumption) | assumption)
            obtain ⟨ad209, e209, hx209_0⟩ := Kd.at_int HR0.out x5_1 p209 q209
            cases e209
            replace p209 := eq_true p209
            replace q209 := eq_true q209
            go_wp2
            go_ret
            exact ⟨by first | rfl | (simp; done) | (simp [*]; done), by repeat (first | exact Drawn0.refl _ | apply Drawn0.step)⟩
        · rw [if_neg c4] at H
          exact absurd H (by simp)
      · rw [if_neg c3] at H
        have c3b0 : decide (x5_1 < (l0.length : Int)) = false := decide_eq_false c3
        clear c3
        obtain rfl := Option.some.inj H
        go_wp2
        go_ret
        exact ⟨by first | rfl | (simp; done) | (simp [*]; done), by repeat (first | exact Drawn0.refl _ | apply Drawn0.step)⟩
mutual
def laws_FnExactStampsFor.j0 : Nat → List Int → Int → Int → List Int → Bool → List Int → List Int → Bool → Bool → Option (Bool)
  | 0, _, _, _, _, _, _, _, _, _ => none
  | k + 1, x0, x1, x2, x7, x8, x9, x10, x11, x45 => if x45 = true then (some false) else ((laws_toIntS.f k x0).bind fun t225 => ((laws_eqIntS.f k x9 t225).bind fun t228 => (if t228 = true then ((laws_markIntS.f k x9 1).bind fun bt229 => (if bt229.1 < 0 then (laws_FnExactStampsFor.j1 k x0 x1 x2 x7 x8 x10 true) else ((laws_eqIntS.f k x10 x7).bind fun t231 => (if t231 = true then (laws_FnExactStampsFor.j1 k x0 x1 x2 x7 x8 x10 (x11 != x8)) else (laws_FnExactStampsFor.j1 k x0 x1 x2 x7 x8 x10 true))))) else (some false))))
def laws_FnExactStampsFor.j1 : Nat → List Int → Int → Int → List Int → Bool → List Int → Bool → Option (Bool)
  | 0, _, _, _, _, _, _, _ => none
  | k + 1, x0, x1, x2, x7, x8, x10, x66 => if x66 = true then (some false) else ((laws_markIntS.f k x10 1).bind fun bt232 => ((laws_heldIntS.f k bt232.2 1).bind fun t234 => (if t234 < 0 then (some false) else (if t234 = bt232.1 then ((laws_toIntS.f k x0).bind fun t235 => ((impl_StampsFor.f k t235 x1 x2).bind fun bt238 => ((laws_eqIntS.f k bt238.1 x7).bind fun t242 => (if t242 = true then (laws_FnExactStampsFor.j2 k bt232.2 bt232.1 (bt238.2 != x8)) else (laws_FnExactStampsFor.j2 k bt232.2 bt232.1 true))))) else (some false)))))
def laws_FnExactStampsFor.j2 : Nat → List Int → Int → Bool → Option (Bool)
  | 0, _, _, _ => none
  | k + 1, x10, x13, x94 => if x94 = true then (some false) else ((laws_heldIntS.f k x10 1).bind fun t243 => (if t243 < 0 then (some false) else (if t243 = x13 then (some true) else (some false))))
end
def laws_FnExactStampsFor.f (k : Nat) (l0 : List Int) (a1 : Int) (a2 : Int) : Option (Bool) := if (l0.length : Int) > 1048576 then (some true) else ((laws_toIntS.f k l0).bind fun t210 => ((spec_StampsFor.f k t210 a1 a2).bind fun bt213 => ((laws_toIntS.f k l0).bind fun t217 => ((impl_StampsFor.f k t217 a1 a2).bind fun bt220 => ((laws_eqIntS.f k bt220.1 bt213.1).bind fun t224 => (if t224 = true then (laws_FnExactStampsFor.j0 k l0 a1 a2 bt213.1 bt213.2 t217 bt220.1 bt220.2 (bt220.2 != bt213.2)) else (laws_FnExactStampsFor.j0 k l0 a1 a2 bt213.1 bt213.2 t217 bt220.1 bt220.2 true)))))))
set_option maxHeartbeats 8000000 in
set_option maxRecDepth 100000 in
theorem laws_FnExactStampsFor.calls (k : Nat) (A0 : Option Addr) (c0 : Nat) (l0 : List Int) (a1 : Int) (a2 : Int) (r : Bool) (w : World) (hr0 : Kd.C (Kd.int .i64) w A0 l0.length l0) (hc0 : l0.length ≤ c0) (h : laws_FnExactStampsFor.f k l0 a1 a2 = some r) :
    Calls Try.prog 3 #[.slice A0 l0.length c0, .int .i64 a1, .int .i64 a2] w fun e w' => e = .returned (.bool r) ∧ Below w.heap.size w w' := by
  have HR0 := Aside0.mk hr0
  have HC0 := Aside0.mk hc0
  clear hr0 hc0
  have HB := Aside0.mk (Below.refl w.heap.size w)
  have H : (if (l0.length : Int) > 1048576 then (some true) else ((laws_toIntS.f k l0).bind fun t210 => ((spec_StampsFor.f k t210 a1 a2).bind fun bt213 => ((laws_toIntS.f k l0).bind fun t217 => ((impl_StampsFor.f k t217 a1 a2).bind fun bt220 => ((laws_eqIntS.f k bt220.1 bt213.1).bind fun t224 => (if t224 = true then (laws_FnExactStampsFor.j0 k l0 a1 a2 bt213.1 bt213.2 t217 bt220.1 bt220.2 (bt220.2 != bt213.2)) else (laws_FnExactStampsFor.j0 k l0 a1 a2 bt213.1 bt213.2 t217 bt220.1 bt220.2 true)))))))) = some r := h
  clear h
  by_cases c4 : (l0.length : Int) > 1048576
  · rw [if_pos c4] at H
    have c4b0 : decide (1048576 < (l0.length : Int)) = true := decide_eq_true c4
    have c4b1 : decide (1048576 < l0.length) = true := decide_eq_true (by omega)
    clear c4
    obtain rfl := Option.some.inj H
    go_enter Try.func3, Try.ntmps3
    go_wp2
    go_ret
    exact ⟨by first | rfl | (simp [errW_none, errW_some] <;> rfl) | (simp [*, errW_none, errW_some] <;> rfl), by repeat (first | (with_reducible first | exact HB.out | apply below_alloc | apply pw_below_drewN | apply below_drew1) | exact HB.out)⟩
  · rw [if_neg c4] at H
    have c4b0 : decide (1048576 < (l0.length : Int)) = false := decide_eq_false c4
    have c4b1 : decide (1048576 < l0.length) = false := decide_eq_false (by omega)
    clear c4
    replace H := Option.bind_eq_some_iff.mp H
    obtain ⟨t210, A50, H⟩ := H
    replace H : ((spec_StampsFor.f k t210 a1 a2).bind fun bt213 => ((laws_toIntS.f k l0).bind fun t217 => ((impl_StampsFor.f k t217 a1 a2).bind fun bt220 => ((laws_eqIntS.f k bt220.1 bt213.1).bind fun t224 => (if t224 = true then (laws_FnExactStampsFor.j0 k l0 a1 a2 bt213.1 bt213.2 t217 bt220.1 bt220.2 (bt220.2 != bt213.2)) else (laws_FnExactStampsFor.j0 k l0 a1 a2 bt213.1 bt213.2 t217 bt220.1 bt220.2 true)))))) = some r := H
    have A5 := Aside0.mk A50
    clear A50
    replace H := Option.bind_eq_some_iff.mp H
    obtain ⟨⟨t213, t214⟩, A60, H⟩ := H
    replace H : ((laws_toIntS.f k l0).bind fun t217 => ((impl_StampsFor.f k t217 a1 a2).bind fun bt220 => ((laws_eqIntS.f k bt220.1 t213).bind fun t224 => (if t224 = true then (laws_FnExactStampsFor.j0 k l0 a1 a2 t213 t214 t217 bt220.1 bt220.2 (bt220.2 != t214)) else (laws_FnExactStampsFor.j0 k l0 a1 a2 t213 t214 t217 bt220.1 bt220.2 true))))) = some r := H
    have A6 := Aside0.mk A60
    clear A60
    replace H := Option.bind_eq_some_iff.mp H
    obtain ⟨t217, A70, H⟩ := H
    replace H : ((impl_StampsFor.f k t217 a1 a2).bind fun bt220 => ((laws_eqIntS.f k bt220.1 t213).bind fun t224 => (if t224 = true then (laws_FnExactStampsFor.j0 k l0 a1 a2 t213 t214 t217 bt220.1 bt220.2 (bt220.2 != t214)) else (laws_FnExactStampsFor.j0 k l0 a1 a2 t213 t214 t217 bt220.1 bt220.2 true)))) = some r := H
    have A7 := Aside0.mk A70
    clear A70
    replace H := Option.bind_eq_some_iff.mp H
    obtain ⟨⟨t220, t221⟩, A80, H⟩ := H
    replace H : ((laws_eqIntS.f k t220 t213).bind fun t224 => (if t224 = true then (laws_FnExactStampsFor.j0 k l0 a1 a2 t213 t214 t217 t220 t221 (t221 != t214)) else (laws_FnExactStampsFor.j0 k l0 a1 a2 t213 t214 t217 t220 t221 true))) = some r := H
    have A8 := Aside0.mk A80
    clear A80
    have HC9 := Aside0.mk H
    clear H
    go_enter Try.func3, Try.ntmps3
    go_upto_region 6 with (first | ((with_reducible refine gate_callee (f := 16) rfl ?_); refine goesL_ (some 22) rfl rfl Try.func16 (by kernel_rfl) rfl #[.slice A0 l0.length c0] rfl (by (try simp only [List.map_toArray, List.map_cons, List.map_nil]); first | done | rfl | (simp only [List.length_drop, List.length_take]; rfl)) ?_; (with_reducible refine (laws_toIntS.calls k _ _ l0 t210 _ ?side1 ?side2 A5.out).mono ?_); (case side1 => repeat (first | exact HR0.out | (with_reducible refine Kd.C_alloc ?_ _) | (with_reducible refine Kd.C_drewN ?_ _) | (with_reducible refine Kd.C_drew ?_))); (case side2 => exact HC0.out); rintro e w10 ⟨v211, rfl, ho0, hb⟩; refine ⟨_, rfl, ?_⟩; have n0_ := Aside0.mk (Kd.R_lower ho0 (below_size (by repeat (first | (with_reducible first | exact HB.out | apply below_alloc | apply pw_below_drewN | apply below_drew1) | exact HB.out)))); have n1_ := Aside0.mk (below_step (by repeat (first | (with_reducible first | exact HB.out | apply below_alloc | apply pw_below_drewN | apply below_drew1) | exact HB.out)) hb); clear HB; have HO212 := n0_; have HB := n1_; clear n0_ n1_; (try clear hb); (try clear hb2); (try clear hk); (try clear hi); (try clear ho0); obtain ⟨Ao11, co11, eo11⟩ := Kd.R_slice HO212.out; subst eo11) | ((with_reducible refine gate_callee (f := 15) rfl ?_); refine goesL_ (some 25) rfl rfl Try.func15 (by kernel_rfl) rfl #[.slice Ao11 t210.length co11, .int .i64 a1, .int .i64 a2] rfl (by (try simp only [List.map_toArray, List.map_cons, List.map_nil]); first | done | rfl | (simp only [List.length_drop, List.length_take]; rfl)) ?_; (with_reducible refine (spec_StampsFor.calls k _ _ t210 a1 a2 t213 t214 _ ?side1 ?side2 A6.out).mono ?_); (case side1 => repeat (first | exact (Kd.R_reads' HO212.out).2.2 | (with_reducible refine Kd.C_alloc ?_ _) | (with_reducible refine Kd.C_drewN ?_ _) | (with_reducible refine Kd.C_drew ?_))); (case side2 => exact (Kd.R_reads' HO212.out).2.1); rintro e w12 ⟨v215, rfl, ho0, hb⟩; refine ⟨_, rfl, ?_⟩; have n0_ := Aside0.mk (Kd.R_elder' (by (with_reducible repeat (first | apply Kd.R_alloc | apply Kd.R_drewN | apply Kd.R_drew)); exact HO212.out) (Kd.R_base ho0) hb); have n1_ := Aside0.mk (Kd.R_lower (Kd.R_new' ho0 (Kd.R_lt (by (with_reducible repeat (first | apply Kd.R_alloc | apply Kd.R_drewN | apply Kd.R_drew)); exact HO212.out))) (below_size (by repeat (first | (with_reducible first | exact HB.out | apply below_alloc | apply pw_below_drewN | apply below_drew1) | exact HB.out)))); have n2_ := Aside0.mk (below_step (by repeat (first | (with_reducible first | exact HB.out | apply below_alloc | apply pw_below_drewN | apply below_drew1) | exact HB.out)) hb); clear HO212; clear HB; have HO212 := n0_; have HO216 := n1_; have HB := n2_; clear n0_ n1_ n2_; (try clear hb); (try clear hb2); (try clear hk); (try clear hi); (try clear ho0)) | ((with_reducible refine gate_callee (f := 16) rfl ?_); refine goesL_ (some 29) rfl rfl Try.func16 (by kernel_rfl) rfl #[.slice A0 l0.length c0] rfl (by (try simp only [List.map_toArray, List.map_cons, List.map_nil]); first | done | rfl | (simp only [List.length_drop, List.length_take]; rfl)) ?_; (with_reducible refine (laws_toIntS.calls k _ _ l0 t217 _ ?side1 ?side2 A7.out).mono ?_); (case side1 => repeat (first | exact (Kd.C_below HR0.out HB.out) | (with_reducible refine Kd.C_alloc ?_ _) | (with_reducible refine Kd.C_drewN ?_ _) | (with_reducible refine Kd.C_drew ?_))); (case side2 => exact HC0.out); rintro e w13 ⟨v218, rfl, ho0, hb⟩; refine ⟨_, rfl, ?_⟩; have n0_ := Aside0.mk (Kd.R_elder' (by (with_reducible repeat (first | apply Kd.R_alloc | apply Kd.R_drewN | apply Kd.R_drew)); exact HO212.out) (Kd.R_base ho0) hb); have n1_ := Aside0.mk (Kd.R_elder' (by (with_reducible repeat (first | apply Kd.R_alloc | apply Kd.R_drewN | apply Kd.R_drew)); exact HO216.out) (Kd.R_base ho0) hb); have n2_ := Aside0.mk (Kd.R_lower (Kd.R_new' (Kd.R_new' ho0 (Kd.R_lt (by (with_reducible repeat (first | apply Kd.R_alloc | apply Kd.R_drewN | apply Kd.R_drew)); exact HO212.out))) (Kd.R_lt (by (with_reducible repeat (first | apply Kd.R_alloc | apply Kd.R_drewN | apply Kd.R_drew)); exact HO216.out))) (below_size (by repeat (first | (with_reducible first | exact HB.out | apply below_alloc | apply pw_below_drewN | apply below_drew1) | exact HB.out)))); have n3_ := Aside0.mk (below_step (by repeat (first | (with_reducible first | exact HB.out | apply below_alloc | apply pw_below_drewN | apply below_drew1) | exact HB.out)) hb); clear HO212; clear HO216; clear HB; have HO212 := n0_; have HO216 := n1_; have HO219 := n2_; have HB := n3_; clear n0_ n1_ n2_ n3_; (try clear hb); (try clear hb2); (try clear hk); (try clear hi); (try clear ho0); obtain ⟨Ao14, co14, eo14⟩ := Kd.R_slice HO219.out; subst eo14) | ((with_reducible refine gate_callee (f := 17) rfl ?_); refine goesL_ (some 34) rfl rfl Try.func17 (by kernel_rfl) rfl #[.slice Ao14 t217.length co14, .int .i64 a1, .int .i64 a2] rfl (by (try simp only [List.map_toArray, List.map_cons, List.map_nil]); first | done | rfl | (simp only [List.length_drop, List.length_take]; rfl)) ?_; (with_reducible refine (impl_StampsFor.calls k _ _ t217 a1 a2 t220 t221 _ ?side1 ?side2 A8.out).mono ?_); (case side1 => repeat (first | exact (Kd.R_reads' HO219.out).2.2 | (with_reducible refine Kd.C_alloc ?_ _) | (with_reducible refine Kd.C_drewN ?_ _) | (with_reducible refine Kd.C_drew ?_))); (case side2 => exact (Kd.R_reads' HO219.out).2.1); rintro e w15 ⟨v222, rfl, ho0, hb⟩; refine ⟨_, rfl, ?_⟩; have n0_ := Aside0.mk (Kd.R_elder' (by (with_reducible repeat (first | apply Kd.R_alloc | apply Kd.R_drewN | apply Kd.R_drew)); exact HO212.out) (Kd.R_base ho0) hb); have n1_ := Aside0.mk (Kd.R_elder' (by (with_reducible repeat (first | apply Kd.R_alloc | apply Kd.R_drewN | apply Kd.R_drew)); exact HO216.out) (Kd.R_base ho0) hb); have n2_ := Aside0.mk (Kd.R_elder' (by (with_reducible repeat (first | apply Kd.R_alloc | apply Kd.R_drewN | apply Kd.R_drew)); exact HO219.out) (Kd.R_base ho0) hb); have n3_ := Aside0.mk (Kd.R_lower (Kd.R_new' (Kd.R_new' (Kd.R_new' ho0 (Kd.R_lt (by (with_reducible repeat (first | apply Kd.R_alloc | apply Kd.R_drewN | apply Kd.R_drew)); exact HO212.out))) (Kd.R_lt (by (with_reducible repeat (first | apply Kd.R_alloc | apply Kd.R_drewN | apply Kd.R_drew)); exact HO216.out))) (Kd.R_lt (by (with_reducible repeat (first | apply Kd.R_alloc | apply Kd.R_drewN | apply Kd.R_drew)); exact HO219.out))) (below_size (by repeat (first | (with_reducible first | exact HB.out | apply below_alloc | apply pw_below_drewN | apply below_drew1) | exact HB.out)))); have n4_ := Aside0.mk (below_step (by repeat (first | (with_reducible first | exact HB.out | apply below_alloc | apply pw_below_drewN | apply below_drew1) | exact HB.out)) hb); clear HO212; clear HO216; clear HO219; clear HB; have HO212 := n0_; have HO216 := n1_; have HO219 := n2_; have HO223 := n3_; have HB := n4_; clear n0_ n1_ n2_ n3_ n4_; (try clear hb); (try clear hb2); (try clear hk); (try clear hi); (try clear ho0)))
    (try simp only [Act.put, List.setIfInBounds_toArray, List.set_cons_zero, List.set_cons_succ])
    go_cut [45] (fun v45 wc => ∃ (kq : Nat) (x45_8 : Bool), v45 = .bool x45_8 ∧ Aside0 (laws_FnExactStampsFor.j0 kq l0 a1 a2 t213 t214 t217 t220 t221 x45_8 = some r) ∧ Aside0 (kq ≤ k) ∧ Aside0 (Kd.R (Kd.int .i64) 3 wc w.heap.size (fun k_ => some k_ ≠ ((.slice Ao14 t217.length co14) : Value).ownBlock ∧ some k_ ≠ (v222 : Value).ownBlock) v215 t213) ∧ Aside0 (Kd.R (Kd.int .i64) 3 wc w.heap.size (fun k_ => some k_ ≠ (v215 : Value).ownBlock ∧ some k_ ≠ (v222 : Value).ownBlock) (.slice Ao14 t217.length co14) t217) ∧ Aside0 (Kd.R (Kd.int .i64) 3 wc w.heap.size (fun k_ => some k_ ≠ (v215 : Value).ownBlock ∧ some k_ ≠ ((.slice Ao14 t217.length co14) : Value).ownBlock) v222 t220) ∧ Aside0 (Below w.heap.size w wc))
    case first =>
      have H := HC9.out
      clear HC9
      replace H := Option.bind_eq_some_iff.mp H
      obtain ⟨t224, A160, H⟩ := H
      replace H : (if t224 = true then (laws_FnExactStampsFor.j0 k l0 a1 a2 t213 t214 t217 t220 t221 (t221 != t214)) else (laws_FnExactStampsFor.j0 k l0 a1 a2 t213 t214 t217 t220 t221 true)) = some r := H
      have A16 := Aside0.mk A160
      clear A160
      by_cases c17 : t224 = true
      · subst c17
        have H1 : (laws_FnExactStampsFor.j0 k l0 a1 a2 t213 t214 t217 t220 t221 (t221 != t214)) = some r := by rw [if_pos rfl] at H; exact H
        clear H
        have H := H1
        clear H1
        have H' := Aside0.mk H
        clear H
        obtain ⟨Ao18, co18, eo18⟩ := Kd.R_slice HO223.out
        subst eo18
        obtain ⟨Ao19, co19, eo19⟩ := Kd.R_slice HO216.out
        subst eo19
        go_wp2_with (first | ((with_reducible refine gate_callee (f := 18) rfl ?_); refine goesL_ (some 39) rfl rfl Try.func18 (by kernel_rfl) rfl #[.slice Ao18 t220.length co18, .slice Ao19 t213.length co19] rfl (by (try simp only [List.map_toArray, List.map_cons, List.map_nil]); first | done | rfl | (simp only [List.length_drop, List.length_take]; rfl)) ?_; (with_reducible refine (laws_eqIntS.calls k _ _ t220 _ _ t213 true _ ?side1 ?side2 ?side3 ?side4 A16.out).mono ?_); (case side1 => repeat (first | exact (Kd.R_reads' HO223.out).2.2 | (with_reducible refine Kd.C_alloc ?_ _) | (with_reducible refine Kd.C_drewN ?_ _) | (with_reducible refine Kd.C_drew ?_))); (case side2 => exact (Kd.R_reads' HO223.out).2.1); (case side3 => repeat (first | exact (Kd.R_reads' HO216.out).2.2 | (with_reducible refine Kd.C_alloc ?_ _) | (with_reducible refine Kd.C_drewN ?_ _) | (with_reducible refine Kd.C_drew ?_))); (case side4 => exact (Kd.R_reads' HO216.out).2.1); rintro e w' ⟨rfl, ⟨nd, rfl⟩⟩; refine ⟨_, rfl, ?_⟩))
        go_meet
        case rel => exact ⟨_, ((t221 != t214)), (by first | rfl | (simp; done) | (simp [*]; done)), H', ⟨by first | omega | exact Nat.le_refl _⟩, ⟨by (with_reducible repeat (first | apply Kd.R_alloc | apply Kd.R_drewN | apply Kd.R_drew)); exact Kd.R_mono HO216.out (fun _ hk => ⟨hk.1.2, hk.2⟩)⟩, ⟨by (with_reducible repeat (first | apply Kd.R_alloc | apply Kd.R_drewN | apply Kd.R_drew)); exact Kd.R_mono HO219.out (fun _ hk => ⟨hk.1.2, hk.2⟩)⟩, ⟨by (with_reducible repeat (first | apply Kd.R_alloc | apply Kd.R_drewN | apply Kd.R_drew)); exact Kd.R_mono HO223.out (fun _ hk => ⟨hk.1.2, hk.2⟩)⟩, ⟨by repeat (first | (with_reducible first | exact HB.out | apply below_alloc | apply pw_below_drewN | apply below_drew1) | exact HB.out)⟩⟩
      · replace c17 := Bool.eq_false_iff.mpr c17
        subst c17
        have H1 : (laws_FnExactStampsFor.j0 k l0 a1 a2 t213 t214 t217 t220 t221 true) = some r := by rw [if_neg (show ¬ (false = true) by decide)] at H; exact H
        clear H
        have H := H1
        clear H1
        have H' := Aside0.mk H
        clear H
        obtain ⟨Ao20, co20, eo20⟩ := Kd.R_slice HO223.out
        subst eo20
        obtain ⟨Ao21, co21, eo21⟩ := Kd.R_slice HO216.out
        subst eo21
        go_wp2_with (first | ((with_reducible refine gate_callee (f := 18) rfl ?_); refine goesL_ (some 39) rfl rfl Try.func18 (by kernel_rfl) rfl #[.slice Ao20 t220.length co20, .slice Ao21 t213.length co21] rfl (by (try simp only [List.map_toArray, List.map_cons, List.map_nil]); first | done | rfl | (simp only [List.length_drop, List.length_take]; rfl)) ?_; (with_reducible refine (laws_eqIntS.calls k _ _ t220 _ _ t213 false _ ?side1 ?side2 ?side3 ?side4 A16.out).mono ?_); (case side1 => repeat (first | exact (Kd.R_reads' HO223.out).2.2 | (with_reducible refine Kd.C_alloc ?_ _) | (with_reducible refine Kd.C_drewN ?_ _) | (with_reducible refine Kd.C_drew ?_))); (case side2 => exact (Kd.R_reads' HO223.out).2.1); (case side3 => repeat (first | exact (Kd.R_reads' HO216.out).2.2 | (with_reducible refine Kd.C_alloc ?_ _) | (with_reducible refine Kd.C_drewN ?_ _) | (with_reducible refine Kd.C_drew ?_))); (case side4 => exact (Kd.R_reads' HO216.out).2.1); rintro e w' ⟨rfl, ⟨nd, rfl⟩⟩; refine ⟨_, rfl, ?_⟩))
        go_meet
        case rel => exact ⟨_, (true), (by first | rfl | (simp; done) | (simp [*]; done)), H', ⟨by first | omega | exact Nat.le_refl _⟩, ⟨by (with_reducible repeat (first | apply Kd.R_alloc | apply Kd.R_drewN | apply Kd.R_drew)); exact Kd.R_mono HO216.out (fun _ hk => ⟨hk.1.2, hk.2⟩)⟩, ⟨by (with_reducible repeat (first | apply Kd.R_alloc | apply Kd.R_drewN | apply Kd.R_drew)); exact Kd.R_mono HO219.out (fun _ hk => ⟨hk.1.2, hk.2⟩)⟩, ⟨by (with_reducible repeat (first | apply Kd.R_alloc | apply Kd.R_drewN | apply Kd.R_drew)); exact Kd.R_mono HO223.out (fun _ hk => ⟨hk.1.2, hk.2⟩)⟩, ⟨by repeat (first | (with_reducible first | exact HB.out | apply below_alloc | apply pw_below_drewN | apply below_drew1) | exact HB.out)⟩⟩
    case rest =>
      clear HC9
      try clear c1
      try clear p2
      try clear c3
      try clear c4
      try clear c4b0
      try clear c4b1
      try clear c15
      try clear c16
      try clear c17
      try clear c18
      obtain ⟨kq, x45_8, rfl, HA, HJ8, HO_7, HO_9, HO_10, HB⟩ := hcut
      cases kq with
      | zero => exact absurd HA.out (by simp [laws_FnExactStampsFor.j0])
      | succ kj8 =>
        have H := HA.out
        clear HA
        simp only [laws_FnExactStampsFor.j0] at H
        by_cases c22 : x45_8 = true
        · subst c22
          have H1 : (some false) = some r := by rw [if_pos rfl] at H; exact H
          clear H
          have H := H1
          clear H1
          obtain rfl := Option.some.inj H
          go_wp2
          go_ret
          exact ⟨by first | rfl | (simp [errW_none, errW_some] <;> rfl) | (simp [*, errW_none, errW_some] <;> rfl), by repeat (first | (with_reducible first | exact HB.out | apply below_alloc | apply pw_below_drewN | apply below_drew1) | exact HB.out)⟩
        · replace c22 := Bool.eq_false_iff.mpr c22
          subst c22
          have H1 : ((laws_toIntS.f kj8 l0).bind fun t225 => ((laws_eqIntS.f kj8 t217 t225).bind fun t228 => (if t228 = true then ((laws_markIntS.f kj8 t217 1).bind fun bt229 => (if bt229.1 < 0 then (laws_FnExactStampsFor.j1 kj8 l0 a1 a2 t213 t214 t220 true) else ((laws_eqIntS.f kj8 t220 t213).bind fun t231 => (if t231 = true then (laws_FnExactStampsFor.j1 kj8 l0 a1 a2 t213 t214 t220 (t221 != t214)) else (laws_FnExactStampsFor.j1 kj8 l0 a1 a2 t213 t214 t220 true))))) else (some false)))) = some r := by rw [if_neg (show ¬ (false = true) by decide)] at H; exact H
          clear H
          have H := H1
          clear H1
          replace H := Option.bind_eq_some_iff.mp H
          obtain ⟨t225, A230, H⟩ := H
          replace H : ((laws_eqIntS.f kj8 t217 t225).bind fun t228 => (if t228 = true then ((laws_markIntS.f kj8 t217 1).bind fun bt229 => (if bt229.1 < 0 then (laws_FnExactStampsFor.j1 kj8 l0 a1 a2 t213 t214 t220 true) else ((laws_eqIntS.f kj8 t220 t213).bind fun t231 => (if t231 = true then (laws_FnExactStampsFor.j1 kj8 l0 a1 a2 t213 t214 t220 (t221 != t214)) else (laws_FnExactStampsFor.j1 kj8 l0 a1 a2 t213 t214 t220 true))))) else (some false))) = some r := H
          have A23 := Aside0.mk A230
          clear A230
          replace H := Option.bind_eq_some_iff.mp H
          obtain ⟨t228, A240, H⟩ := H
          replace H : (if t228 = true then ((laws_markIntS.f kj8 t217 1).bind fun bt229 => (if bt229.1 < 0 then (laws_FnExactStampsFor.j1 kj8 l0 a1 a2 t213 t214 t220 true) else ((laws_eqIntS.f kj8 t220 t213).bind fun t231 => (if t231 = true then (laws_FnExactStampsFor.j1 kj8 l0 a1 a2 t213 t214 t220 (t221 != t214)) else (laws_FnExactStampsFor.j1 kj8 l0 a1 a2 t213 t214 t220 true))))) else (some false)) = some r := H
          have A24 := Aside0.mk A240
          clear A240
          by_cases c25 : t228 = true
          · subst c25
            have H1 : ((laws_markIntS.f kj8 t217 1).bind fun bt229 => (if bt229.1 < 0 then (laws_FnExactStampsFor.j1 kj8 l0 a1 a2 t213 t214 t220 true) else ((laws_eqIntS.f kj8 t220 t213).bind fun t231 => (if t231 = true then (laws_FnExactStampsFor.j1 kj8 l0 a1 a2 t213 t214 t220 (t221 != t214)) else (laws_FnExactStampsFor.j1 kj8 l0 a1 a2 t213 t214 t220 true))))) = some r := by rw [if_pos rfl] at H; exact H
            clear H
            have H := H1
            clear H1
            replace H := Option.bind_eq_some_iff.mp H
            obtain ⟨⟨t229, t230⟩, A260, H⟩ := H
            replace H : (if t229 < 0 then (laws_FnExactStampsFor.j1 kj8 l0 a1 a2 t213 t214 t220 true) else ((laws_eqIntS.f kj8 t220 t213).bind fun t231 => (if t231 = true then (laws_FnExactStampsFor.j1 kj8 l0 a1 a2 t213 t214 t220 (t221 != t214)) else (laws_FnExactStampsFor.j1 kj8 l0 a1 a2 t213 t214 t220 true)))) = some r := H
            have A26 := Aside0.mk A260
            clear A260
            have HC27 := Aside0.mk H
            clear H
            go_upto_region 12 with (first | ((with_reducible refine gate_callee (f := 16) rfl ?_); refine goesL_ (some 48) rfl rfl Try.func16 (by kernel_rfl) rfl #[.slice A0 l0.length c0] rfl (by (try simp only [List.map_toArray, List.map_cons, List.map_nil]); first | done | rfl | (simp only [List.length_drop, List.length_take]; rfl)) ?_; (with_reducible refine (laws_toIntS.calls kj8 _ _ l0 t225 _ ?side1 ?side2 A23.out).mono ?_); (case side1 => repeat (first | exact (Kd.C_below HR0.out HB.out) | (with_reducible refine Kd.C_alloc ?_ _) | (with_reducible refine Kd.C_drewN ?_ _) | (with_reducible refine Kd.C_drew ?_))); (case side2 => exact HC0.out); rintro e w28 ⟨v226, rfl, ho0, hb⟩; refine ⟨_, rfl, ?_⟩; have n0_ := Aside0.mk (Kd.R_elder' (by (with_reducible repeat (first | apply Kd.R_alloc | apply Kd.R_drewN | apply Kd.R_drew)); exact HO_7.out) (Kd.R_base ho0) hb); have n1_ := Aside0.mk (Kd.R_elder' (by (with_reducible repeat (first | apply Kd.R_alloc | apply Kd.R_drewN | apply Kd.R_drew)); exact HO_9.out) (Kd.R_base ho0) hb); have n2_ := Aside0.mk (Kd.R_elder' (by (with_reducible repeat (first | apply Kd.R_alloc | apply Kd.R_drewN | apply Kd.R_drew)); exact HO_10.out) (Kd.R_base ho0) hb); have n3_ := Aside0.mk (Kd.R_lower (Kd.R_new' (Kd.R_new' (Kd.R_new' ho0 (Kd.R_lt (by (with_reducible repeat (first | apply Kd.R_alloc | apply Kd.R_drewN | apply Kd.R_drew)); exact HO_7.out))) (Kd.R_lt (by (with_reducible repeat (first | apply Kd.R_alloc | apply Kd.R_drewN | apply Kd.R_drew)); exact HO_9.out))) (Kd.R_lt (by (with_reducible repeat (first | apply Kd.R_alloc | apply Kd.R_drewN | apply Kd.R_drew)); exact HO_10.out))) (below_size (by repeat (first | (with_reducible first | exact HB.out | apply below_alloc | apply pw_below_drewN | apply below_drew1) | exact HB.out)))); have n4_ := Aside0.mk (below_step (by repeat (first | (with_reducible first | exact HB.out | apply below_alloc | apply pw_below_drewN | apply below_drew1) | exact HB.out)) hb); clear HO_7; clear HO_9; clear HO_10; clear HB; have HO_7 := n0_; have HO_9 := n1_; have HO_10 := n2_; have HO227 := n3_; have HB := n4_; clear n0_ n1_ n2_ n3_ n4_; (try clear hb); (try clear hb2); (try clear hk); (try clear hi); (try clear ho0); obtain ⟨Ao29, co29, eo29⟩ := Kd.R_slice HO227.out; subst eo29) | ((with_reducible refine gate_callee (f := 18) rfl ?_); refine goesL_ (some 49) rfl rfl Try.func18 (by kernel_rfl) rfl #[.slice Ao14 t217.length co14, .slice Ao29 t225.length co29] rfl (by (try simp only [List.map_toArray, List.map_cons, List.map_nil]); first | done | rfl | (simp only [List.length_drop, List.length_take]; rfl)) ?_; (with_reducible refine (laws_eqIntS.calls kj8 _ _ t217 _ _ t225 true _ ?side1 ?side2 ?side3 ?side4 A24.out).mono ?_); (case side1 => repeat (first | exact (Kd.R_reads' HO_9.out).2.2 | (with_reducible refine Kd.C_alloc ?_ _) | (with_reducible refine Kd.C_drewN ?_ _) | (with_reducible refine Kd.C_drew ?_))); (case side2 => exact (Kd.R_reads' HO_9.out).2.1); (case side3 => repeat (first | exact (Kd.R_reads' HO227.out).2.2 | (with_reducible refine Kd.C_alloc ?_ _) | (with_reducible refine Kd.C_drewN ?_ _) | (with_reducible refine Kd.C_drew ?_))); (case side4 => exact (Kd.R_reads' HO227.out).2.1); rintro e w' ⟨rfl, ⟨nd, rfl⟩⟩; refine ⟨_, rfl, ?_⟩) | ((with_reducible refine gate_callee (f := 19) rfl ?_); refine goesL_ (some 53) rfl rfl Try.func19 (by kernel_rfl) rfl #[.slice Ao14 t217.length co14, .int .i64 1] rfl (by (try simp only [List.map_toArray, List.map_cons, List.map_nil]); first | done | rfl | (simp only [List.length_drop, List.length_take]; rfl)) ?_; (with_reducible refine (laws_markIntS.calls kj8 (fun k_ => some k_ = (.slice Ao14 t217.length co14 : Value).ownBlock) (.slice Ao14 t217.length co14) t217 1 t229 t230 w _ ?side1 ?side2 A26.out).mono ?_); (case side1 => repeat (first | (with_reducible first | exact HB.out | apply below_alloc | apply pw_below_drewN | apply below_drew1) | exact HB.out)); (case side2 => exact Kd.R_tight rfl HO_9.out); rintro e w30 ⟨rfl, hy0, hb, hkp⟩; refine ⟨_, rfl, ?_⟩; have n0_ := Aside0.mk (Kd.R_mono (ok' := fun k_ => some k_ ≠ (.slice Ao14 t217.length co14 : Value).ownBlock ∧ some k_ ≠ (v222 : Value).ownBlock ∧ some k_ ≠ (.slice Ao29 t225.length co29 : Value).ownBlock) (Kd.R_keptB (HO_7.out) hkp (fun k_ hk_ hs_ => (hk_.1.1) hs_)) (fun k_ hk_ => ⟨hk_.1.1.1, hk_.1.1.2, hk_.1.2⟩)); have n1_ := Aside0.mk (Kd.R_reok rfl hy0 (fun k_ e_ => HO_9.out.1 k_ e_)); have n2_ := Aside0.mk (Kd.R_mono (ok' := fun k_ => some k_ ≠ (v215 : Value).ownBlock ∧ some k_ ≠ (.slice Ao14 t217.length co14 : Value).ownBlock ∧ some k_ ≠ (.slice Ao29 t225.length co29 : Value).ownBlock) (Kd.R_keptB (HO_10.out) hkp (fun k_ hk_ hs_ => (hk_.1.2) hs_)) (fun k_ hk_ => ⟨hk_.1.1.1, hk_.1.1.2, hk_.1.2⟩)); have n3_ := Aside0.mk (Kd.R_mono (ok' := fun k_ => some k_ ≠ (v215 : Value).ownBlock ∧ some k_ ≠ (.slice Ao14 t217.length co14 : Value).ownBlock ∧ some k_ ≠ (v222 : Value).ownBlock) (Kd.R_keptB (HO227.out) hkp (fun k_ hk_ hs_ => (hk_.1.2) hs_)) (fun k_ hk_ => ⟨hk_.1.1.1.2, hk_.1.1.2, hk_.1.2⟩)); have n4_ := Aside0.mk (hb); clear HO_7; clear HO_9; clear HO_10; clear HO227; clear HB; have HO_7 := n0_; have HO_9 := n1_; have HO_10 := n2_; have HO227 := n3_; have HB := n4_; clear n0_ n1_ n2_ n3_ n4_; (try clear hb); (try clear hkp); (try clear hy0)))
            (try simp only [Act.put, List.setIfInBounds_toArray, List.set_cons_zero, List.set_cons_succ])
            go_cut [66] (fun v66 wc => ∃ (kq : Nat) (x66_26 : Bool), v66 = .bool x66_26 ∧ Aside0 (laws_FnExactStampsFor.j1 kq l0 a1 a2 t213 t214 t220 x66_26 = some r) ∧ Aside0 (kq ≤ kj8) ∧ Aside0 (Kd.R (Kd.int .i64) 3 wc w.heap.size (fun k_ => some k_ ≠ (v222 : Value).ownBlock) v215 t213) ∧ Aside0 (Kd.R (Kd.int .i64) 3 wc w.heap.size (fun k_ => some k_ ≠ (v215 : Value).ownBlock) v222 t220) ∧ Aside0 (Below w.heap.size w wc))
            case first =>
              have H := HC27.out
              clear HC27
              by_cases c31 : t229 < 0
              · rw [if_pos c31] at H
                have c31b0 : decide (t229 < 0) = true := decide_eq_true c31
                clear c31
                (first | rw [c31b0] | (simp only [i64_w, i32_w]; rw [c31b0]) | skip)
                have H' := Aside0.mk H
                clear H
                go_wp2
                go_meet
                case rel => exact ⟨_, (true), (by first | rfl | (simp; done) | (simp [*]; done)), H', ⟨by have := HJ8.out; first | omega | exact Nat.le_refl _⟩, ⟨by (with_reducible repeat (first | apply Kd.R_alloc | apply Kd.R_drewN | apply Kd.R_drew)); exact Kd.R_mono HO_7.out (fun _ hk => hk.2.1)⟩, ⟨by (with_reducible repeat (first | apply Kd.R_alloc | apply Kd.R_drewN | apply Kd.R_drew)); exact Kd.R_mono HO_10.out (fun _ hk => hk.1)⟩, ⟨by repeat (first | (with_reducible first | exact HB.out | apply below_alloc | apply pw_below_drewN | apply below_drew1) | exact HB.out)⟩⟩
              · rw [if_neg c31] at H
                have c31b0 : decide (t229 < 0) = false := decide_eq_false c31
                clear c31
                (first | rw [c31b0] | (simp only [i64_w, i32_w]; rw [c31b0]) | skip)
                replace H := Option.bind_eq_some_iff.mp H
                obtain ⟨t231, A320, H⟩ := H
                replace H : (if t231 = true then (laws_FnExactStampsFor.j1 kj8 l0 a1 a2 t213 t214 t220 (t221 != t214)) else (laws_FnExactStampsFor.j1 kj8 l0 a1 a2 t213 t214 t220 true)) = some r := H
                have A32 := Aside0.mk A320
                clear A320
                by_cases c33 : t231 = true
                · subst c33
                  have H1 : (laws_FnExactStampsFor.j1 kj8 l0 a1 a2 t213 t214 t220 (t221 != t214)) = some r := by rw [if_pos rfl] at H; exact H
                  clear H
                  have H := H1
                  clear H1
                  have H' := Aside0.mk H
                  clear H
                  obtain ⟨Ao34, co34, eo34⟩ := Kd.R_slice HO_10.out
                  subst eo34
                  obtain ⟨Ao35, co35, eo35⟩ := Kd.R_slice HO_7.out
                  subst eo35
                  go_wp2_with (first | (go_at_call 18; (with_reducible refine (laws_eqIntS.calls kj8 _ _ t220 _ _ t213 true _ ?side1 ?side2 ?side3 ?side4 A32.out).mono ?_); (case side1 => repeat (first | exact (Kd.R_reads' HO_10.out).2.2 | (with_reducible refine Kd.C_alloc ?_ _) | (with_reducible refine Kd.C_drewN ?_ _) | (with_reducible refine Kd.C_drew ?_))); (case side2 => exact (Kd.R_reads' HO_10.out).2.1); (case side3 => repeat (first | exact (Kd.R_reads' HO_7.out).2.2 | (with_reducible refine Kd.C_alloc ?_ _) | (with_reducible refine Kd.C_drewN ?_ _) | (with_reducible refine Kd.C_drew ?_))); (case side4 => exact (Kd.R_reads' HO_7.out).2.1); rintro e w' ⟨rfl, ⟨nd, rfl⟩⟩))
                  go_meet
                  case rel => exact ⟨_, ((t221 != t214)), (by first | rfl | (simp; done) | (simp [*]; done)), H', ⟨by have := HJ8.out; first | omega | exact Nat.le_refl _⟩, ⟨by (with_reducible repeat (first | apply Kd.R_alloc | apply Kd.R_drewN | apply Kd.R_drew)); exact Kd.R_mono HO_7.out (fun _ hk => hk.2.1)⟩, ⟨by (with_reducible repeat (first | apply Kd.R_alloc | apply Kd.R_drewN | apply Kd.R_drew)); exact Kd.R_mono HO_10.out (fun _ hk => hk.1)⟩, ⟨by repeat (first | (with_reducible first | exact HB.out | apply below_alloc | apply pw_below_drewN | apply below_drew1) | exact HB.out)⟩⟩
                · replace c33 := Bool.eq_false_iff.mpr c33
                  subst c33
                  have H1 : (laws_FnExactStampsFor.j1 kj8 l0 a1 a2 t213 t214 t220 true) = some r := by rw [if_neg (show ¬ (false = true) by decide)] at H; exact H
                  clear H
                  have H := H1
                  clear H1
                  have H' := Aside0.mk H
                  clear H
                  obtain ⟨Ao36, co36, eo36⟩ := Kd.R_slice HO_10.out
                  subst eo36
                  obtain ⟨Ao37, co37, eo37⟩ := Kd.R_slice HO_7.out
                  subst eo37
                  go_wp2_with (first | (go_at_call 18; (with_reducible refine (laws_eqIntS.calls kj8 _ _ t220 _ _ t213 false _ ?side1 ?side2 ?side3 ?side4 A32.out).mono ?_); (case side1 => repeat (first | exact (Kd.R_reads' HO_10.out).2.2 | (with_reducible refine Kd.C_alloc ?_ _) | (with_reducible refine Kd.C_drewN ?_ _) | (with_reducible refine Kd.C_drew ?_))); (case side2 => exact (Kd.R_reads' HO_10.out).2.1); (case side3 => repeat (first | exact (Kd.R_reads' HO_7.out).2.2 | (with_reducible refine Kd.C_alloc ?_ _) | (with_reducible refine Kd.C_drewN ?_ _) | (with_reducible refine Kd.C_drew ?_))); (case side4 => exact (Kd.R_reads' HO_7.out).2.1); rintro e w' ⟨rfl, ⟨nd, rfl⟩⟩))
                  go_meet
                  case rel => exact ⟨_, (true), (by first | rfl | (simp; done) | (simp [*]; done)), H', ⟨by have := HJ8.out; first | omega | exact Nat.le_refl _⟩, ⟨by (with_reducible repeat (first | apply Kd.R_alloc | apply Kd.R_drewN | apply Kd.R_drew)); exact Kd.R_mono HO_7.out (fun _ hk => hk.2.1)⟩, ⟨by (with_reducible repeat (first | apply Kd.R_alloc | apply Kd.R_drewN | apply Kd.R_drew)); exact Kd.R_mono HO_10.out (fun _ hk => hk.1)⟩, ⟨by repeat (first | (with_reducible first | exact HB.out | apply below_alloc | apply pw_below_drewN | apply below_drew1) | exact HB.out)⟩⟩
            case rest =>
              clear HC27
              try clear c1
              try clear c2
              try clear p2
              try clear c3
              try clear c4
              try clear c4b0
              try clear c4b1
              try clear c15
              try clear c16
              try clear c17
              try clear c18
              try clear c19
              try clear c22
              try clear c25
              try clear c31
              try clear c31b0
              try clear c33
              try clear p2
              obtain ⟨kq, x66_26, rfl, HA, HJ26, HO_7, HO_10, HB⟩ := hcut
              cases kq with
              | zero => exact absurd HA.out (by simp [laws_FnExactStampsFor.j1])
              | succ kj26 =>
                have H := HA.out
                clear HA
                simp only [laws_FnExactStampsFor.j1] at H
                by_cases c38 : x66_26 = true
                · subst c38
                  have H1 : (some false) = some r := by rw [if_pos rfl] at H; exact H
                  clear H
                  have H := H1
                  clear H1
                  obtain rfl := Option.some.inj H
                  go_wp2
                  go_ret
                  exact ⟨by first | rfl | (simp [errW_none, errW_some] <;> rfl) | (simp [*, errW_none, errW_some] <;> rfl), by repeat (first | (with_reducible first | exact HB.out | apply below_alloc | apply pw_below_drewN | apply below_drew1) | exact HB.out)⟩
                · replace c38 := Bool.eq_false_iff.mpr c38
                  subst c38
                  have H1 : ((laws_markIntS.f kj26 t220 1).bind fun bt232 => ((laws_heldIntS.f kj26 bt232.2 1).bind fun t234 => (if t234 < 0 then (some false) else (if t234 = bt232.1 then ((laws_toIntS.f kj26 l0).bind fun t235 => ((impl_StampsFor.f kj26 t235 a1 a2).bind fun bt238 => ((laws_eqIntS.f kj26 bt238.1 t213).bind fun t242 => (if t242 = true then (laws_FnExactStampsFor.j2 kj26 bt232.2 bt232.1 (bt238.2 != t214)) else (laws_FnExactStampsFor.j2 kj26 bt232.2 bt232.1 true))))) else (some false))))) = some r := by rw [if_neg (show ¬ (false = true) by decide)] at H; exact H
                  clear H
                  have H := H1
                  clear H1
                  replace H := Option.bind_eq_some_iff.mp H
                  obtain ⟨⟨t232, t233⟩, A390, H⟩ := H
                  replace H : ((laws_heldIntS.f kj26 t233 1).bind fun t234 => (if t234 < 0 then (some false) else (if t234 = t232 then ((laws_toIntS.f kj26 l0).bind fun t235 => ((impl_StampsFor.f kj26 t235 a1 a2).bind fun bt238 => ((laws_eqIntS.f kj26 bt238.1 t213).bind fun t242 => (if t242 = true then (laws_FnExactStampsFor.j2 kj26 t233 t232 (bt238.2 != t214)) else (laws_FnExactStampsFor.j2 kj26 t233 t232 true))))) else (some false)))) = some r := H
                  have A39 := Aside0.mk A390
                  clear A390
                  replace H := Option.bind_eq_some_iff.mp H
                  obtain ⟨t234, A400, H⟩ := H
                  replace H : (if t234 < 0 then (some false) else (if t234 = t232 then ((laws_toIntS.f kj26 l0).bind fun t235 => ((impl_StampsFor.f kj26 t235 a1 a2).bind fun bt238 => ((laws_eqIntS.f kj26 bt238.1 t213).bind fun t242 => (if t242 = true then (laws_FnExactStampsFor.j2 kj26 t233 t232 (bt238.2 != t214)) else (laws_FnExactStampsFor.j2 kj26 t233 t232 true))))) else (some false))) = some r := H
                  have A40 := Aside0.mk A400
                  clear A400
                  by_cases c41 : t234 < 0
                  · rw [if_pos c41] at H
                    have c41b0 : decide (t234 < 0) = true := decide_eq_true c41
                    clear c41
                    obtain rfl := Option.some.inj H
                    obtain ⟨Ao42, co42, eo42⟩ := Kd.R_slice HO_10.out
                    subst eo42
                    go_wp2_with (first | ((with_reducible refine gate_callee (f := 19) rfl ?_); refine goesL_ (some 69) rfl rfl Try.func19 (by kernel_rfl) rfl #[.slice Ao42 t220.length co42, .int .i64 1] rfl (by (try simp only [List.map_toArray, List.map_cons, List.map_nil]); first | done | rfl | (simp only [List.length_drop, List.length_take]; rfl)) ?_; (with_reducible refine (laws_markIntS.calls kj26 (fun k_ => some k_ = (.slice Ao42 t220.length co42 : Value).ownBlock) (.slice Ao42 t220.length co42) t220 1 t232 t233 w _ ?side1 ?side2 A39.out).mono ?_); (case side1 => repeat (first | (with_reducible first | exact HB.out | apply below_alloc | apply pw_below_drewN | apply below_drew1) | exact HB.out)); (case side2 => exact Kd.R_tight rfl HO_10.out); rintro e w43 ⟨rfl, hy0, hb, hkp⟩; refine ⟨_, rfl, ?_⟩; have n0_ := Aside0.mk (Kd.R_mono (ok' := fun k_ => some k_ ≠ (.slice Ao42 t220.length co42 : Value).ownBlock) (Kd.R_keptB (HO_7.out) hkp (fun k_ hk_ hs_ => (hk_) hs_)) (fun k_ hk_ => hk_.1)); have n1_ := Aside0.mk (Kd.R_reok rfl hy0 (fun k_ e_ => HO_10.out.1 k_ e_)); have n2_ := Aside0.mk (hb); clear HO_7; clear HO_10; clear HB; have HO_7 := n0_; have HO_10 := n1_; have HB := n2_; clear n0_ n1_ n2_; (try clear hb); (try clear hkp); (try clear hy0)) | ((with_reducible refine gate_callee (f := 20) rfl ?_); refine goesL_ (some 72) rfl rfl Try.func20 (by kernel_rfl) rfl #[.slice Ao42 t233.length co42, .int .i64 1] rfl (by (try simp only [List.map_toArray, List.map_cons, List.map_nil]); first | done | (rw [show t233.length = t220.length from (Kd.R_reads' HO_10.out).1.symm] <;> rfl) | rfl | (simp only [List.length_drop, List.length_take]; rfl)) ?_; (with_reducible refine (laws_heldIntS.calls kj26 _ _ t233 1 t234 _ ?side1 ?side2 A40.out).mono ?_); (case side1 => repeat (first | exact (Kd.R_reads' HO_10.out).2.2 | (with_reducible refine Kd.C_alloc ?_ _) | (with_reducible refine Kd.C_drewN ?_ _) | (with_reducible refine Kd.C_drew ?_))); (case side2 => rw [show t233.length = t220.length from (Kd.R_reads' HO_10.out).1.symm]; exact (Kd.R_reads' HO_10.out).2.1); rintro e w' ⟨rfl, ⟨nd, rfl⟩⟩; refine ⟨_, rfl, ?_⟩))
                    go_ret
                    exact ⟨by first | rfl | (simp [errW_none, errW_some] <;> rfl) | (simp [*, errW_none, errW_some] <;> rfl), by repeat (first | (with_reducible first | exact HB.out | apply below_alloc | apply pw_below_drewN | apply below_drew1) | exact HB.out)⟩
                  · rw [if_neg c41] at H
                    have c41b0 : decide (t234 < 0) = false := decide_eq_false c41
                    clear c41
                    by_cases c44 : t234 = t232
                    · rw [if_pos c44] at H
                      have c44b0 : (t234 == t232) = true := beq_iff_eq.mpr c44
                      have c44b1 : (t234 != t232) = false := bne_eq_false_iff_eq.mpr c44
                      clear c44
                      replace H := Option.bind_eq_some_iff.mp H
                      obtain ⟨t235, A450, H⟩ := H
                      replace H : ((impl_StampsFor.f kj26 t235 a1 a2).bind fun bt238 => ((laws_eqIntS.f kj26 bt238.1 t213).bind fun t242 => (if t242 = true then (laws_FnExactStampsFor.j2 kj26 t233 t232 (bt238.2 != t214)) else (laws_FnExactStampsFor.j2 kj26 t233 t232 true)))) = some r := H
                      have A45 := Aside0.mk A450
                      clear A450
                      replace H := Option.bind_eq_some_iff.mp H
                      obtain ⟨⟨t238, t239⟩, A460, H⟩ := H
                      replace H : ((laws_eqIntS.f kj26 t238 t213).bind fun t242 => (if t242 = true then (laws_FnExactStampsFor.j2 kj26 t233 t232 (t239 != t214)) else (laws_FnExactStampsFor.j2 kj26 t233 t232 true))) = some r := H
                      have A46 := Aside0.mk A460
                      clear A460
                      have HC47 := Aside0.mk H
                      clear H
                      obtain ⟨Ao48, co48, eo48⟩ := Kd.R_slice HO_10.out
                      subst eo48
                      go_upto_region 23 with (first | ((with_reducible refine gate_callee (f := 19) rfl ?_); refine goesL_ (some 69) rfl rfl Try.func19 (by kernel_rfl) rfl #[.slice Ao48 t220.length co48, .int .i64 1] rfl (by (try simp only [List.map_toArray, List.map_cons, List.map_nil]); first | done | rfl | (simp only [List.length_drop, List.length_take]; rfl)) ?_; (with_reducible refine (laws_markIntS.calls kj26 (fun k_ => some k_ = (.slice Ao48 t220.length co48 : Value).ownBlock) (.slice Ao48 t220.length co48) t220 1 t232 t233 w _ ?side1 ?side2 A39.out).mono ?_); (case side1 => repeat (first | (with_reducible first | exact HB.out | apply below_alloc | apply pw_below_drewN | apply below_drew1) | exact HB.out)); (case side2 => exact Kd.R_tight rfl HO_10.out); rintro e w49 ⟨rfl, hy0, hb, hkp⟩; refine ⟨_, rfl, ?_⟩; have n0_ := Aside0.mk (Kd.R_mono (ok' := fun k_ => some k_ ≠ (.slice Ao48 t220.length co48 : Value).ownBlock) (Kd.R_keptB (HO_7.out) hkp (fun k_ hk_ hs_ => (hk_) hs_)) (fun k_ hk_ => hk_.1)); have n1_ := Aside0.mk (Kd.R_reok rfl hy0 (fun k_ e_ => HO_10.out.1 k_ e_)); have n2_ := Aside0.mk (hb); clear HO_7; clear HO_10; clear HB; have HO_7 := n0_; have HO_10 := n1_; have HB := n2_; clear n0_ n1_ n2_; (try clear hb); (try clear hkp); (try clear hy0)) | ((with_reducible refine gate_callee (f := 20) rfl ?_); refine goesL_ (some 72) rfl rfl Try.func20 (by kernel_rfl) rfl #[.slice Ao48 t233.length co48, .int .i64 1] rfl (by (try simp only [List.map_toArray, List.map_cons, List.map_nil]); first | done | (rw [show t233.length = t220.length from (Kd.R_reads' HO_10.out).1.symm] <;> rfl) | rfl | (simp only [List.length_drop, List.length_take]; rfl)) ?_; (with_reducible refine (laws_heldIntS.calls kj26 _ _ t233 1 t234 _ ?side1 ?side2 A40.out).mono ?_); (case side1 => repeat (first | exact (Kd.R_reads' HO_10.out).2.2 | (with_reducible refine Kd.C_alloc ?_ _) | (with_reducible refine Kd.C_drewN ?_ _) | (with_reducible refine Kd.C_drew ?_))); (case side2 => rw [show t233.length = t220.length from (Kd.R_reads' HO_10.out).1.symm]; exact (Kd.R_reads' HO_10.out).2.1); rintro e w' ⟨rfl, ⟨nd, rfl⟩⟩; refine ⟨_, rfl, ?_⟩) | ((with_reducible refine gate_callee (f := 16) rfl ?_); refine goesL_ (some 80) rfl rfl Try.func16 (by kernel_rfl) rfl #[.slice A0 l0.length c0] rfl (by (try simp only [List.map_toArray, List.map_cons, List.map_nil]); first | done | rfl | (simp only [List.length_drop, List.length_take]; rfl)) ?_; (with_reducible refine (laws_toIntS.calls kj26 _ _ l0 t235 _ ?side1 ?side2 A45.out).mono ?_); (case side1 => repeat (first | exact (Kd.C_below HR0.out (by repeat (first | (with_reducible first | exact HB.out | apply below_alloc | apply pw_below_drewN | apply below_drew1) | exact HB.out))) | (with_reducible refine Kd.C_alloc ?_ _) | (with_reducible refine Kd.C_drewN ?_ _) | (with_reducible refine Kd.C_drew ?_))); (case side2 => exact HC0.out); rintro e w50 ⟨v236, rfl, ho0, hb⟩; refine ⟨_, rfl, ?_⟩; have n0_ := Aside0.mk (Kd.R_elder' (by (with_reducible repeat (first | apply Kd.R_alloc | apply Kd.R_drewN | apply Kd.R_drew)); exact HO_7.out) (Kd.R_base ho0) hb); have n1_ := Aside0.mk (Kd.R_elder' (by (with_reducible repeat (first | apply Kd.R_alloc | apply Kd.R_drewN | apply Kd.R_drew)); exact HO_10.out) (Kd.R_base ho0) hb); have n2_ := Aside0.mk (Kd.R_lower (Kd.R_new' (Kd.R_new' ho0 (Kd.R_lt (by (with_reducible repeat (first | apply Kd.R_alloc | apply Kd.R_drewN | apply Kd.R_drew)); exact HO_7.out))) (Kd.R_lt (by (with_reducible repeat (first | apply Kd.R_alloc | apply Kd.R_drewN | apply Kd.R_drew)); exact HO_10.out))) (below_size (by repeat (first | (with_reducible first | exact HB.out | apply below_alloc | apply pw_below_drewN | apply below_drew1) | exact HB.out)))); have n3_ := Aside0.mk (below_step (by repeat (first | (with_reducible first | exact HB.out | apply below_alloc | apply pw_below_drewN | apply below_drew1) | exact HB.out)) hb); clear HO_7; clear HO_10; clear HB; have HO_7 := n0_; have HO_10 := n1_; have HO237 := n2_; have HB := n3_; clear n0_ n1_ n2_ n3_; (try clear hb); (try clear hb2); (try clear hk); (try clear hi); (try clear ho0); obtain ⟨Ao51, co51, eo51⟩ := Kd.R_slice HO237.out; subst eo51) | ((with_reducible refine gate_callee (f := 17) rfl ?_); refine goesL_ (some 83) rfl rfl Try.func17 (by kernel_rfl) rfl #[.slice Ao51 t235.length co51, .int .i64 a1, .int .i64 a2] rfl (by (try simp only [List.map_toArray, List.map_cons, List.map_nil]); first | done | rfl | (simp only [List.length_drop, List.length_take]; rfl)) ?_; (with_reducible refine (impl_StampsFor.calls kj26 _ _ t235 a1 a2 t238 t239 _ ?side1 ?side2 A46.out).mono ?_); (case side1 => repeat (first | exact (Kd.R_reads' HO237.out).2.2 | (with_reducible refine Kd.C_alloc ?_ _) | (with_reducible refine Kd.C_drewN ?_ _) | (with_reducible refine Kd.C_drew ?_))); (case side2 => exact (Kd.R_reads' HO237.out).2.1); rintro e w52 ⟨v240, rfl, ho0, hb⟩; refine ⟨_, rfl, ?_⟩; have n0_ := Aside0.mk (Kd.R_elder' (by (with_reducible repeat (first | apply Kd.R_alloc | apply Kd.R_drewN | apply Kd.R_drew)); exact HO_7.out) (Kd.R_base ho0) hb); have n1_ := Aside0.mk (Kd.R_elder' (by (with_reducible repeat (first | apply Kd.R_alloc | apply Kd.R_drewN | apply Kd.R_drew)); exact HO_10.out) (Kd.R_base ho0) hb); have n2_ := Aside0.mk (Kd.R_elder' (by (with_reducible repeat (first | apply Kd.R_alloc | apply Kd.R_drewN | apply Kd.R_drew)); exact HO237.out) (Kd.R_base ho0) hb); have n3_ := Aside0.mk (Kd.R_lower (Kd.R_new' (Kd.R_new' (Kd.R_new' ho0 (Kd.R_lt (by (with_reducible repeat (first | apply Kd.R_alloc | apply Kd.R_drewN | apply Kd.R_drew)); exact HO_7.out))) (Kd.R_lt (by (with_reducible repeat (first | apply Kd.R_alloc | apply Kd.R_drewN | apply Kd.R_drew)); exact HO_10.out))) (Kd.R_lt (by (with_reducible repeat (first | apply Kd.R_alloc | apply Kd.R_drewN | apply Kd.R_drew)); exact HO237.out))) (below_size (by repeat (first | (with_reducible first | exact HB.out | apply below_alloc | apply pw_below_drewN | apply below_drew1) | exact HB.out)))); have n4_ := Aside0.mk (below_step (by repeat (first | (with_reducible first | exact HB.out | apply below_alloc | apply pw_below_drewN | apply below_drew1) | exact HB.out)) hb); clear HO_7; clear HO_10; clear HO237; clear HB; have HO_7 := n0_; have HO_10 := n1_; have HO237 := n2_; have HO241 := n3_; have HB := n4_; clear n0_ n1_ n2_ n3_ n4_; (try clear hb); (try clear hb2); (try clear hk); (try clear hi); (try clear ho0)))
                      (try simp only [Act.put, List.setIfInBounds_toArray, List.set_cons_zero, List.set_cons_succ])
                      go_cut [94] (fun v94 wc => ∃ (kq : Nat) (x94_46 : Bool), v94 = .bool x94_46 ∧ Aside0 (laws_FnExactStampsFor.j2 kq t233 t232 x94_46 = some r) ∧ Aside0 (kq ≤ kj26) ∧ Aside0 (Kd.R (Kd.int .i64) 3 wc w.heap.size (fun _ => True) (.slice Ao48 t220.length co48) t233) ∧ Aside0 (Below w.heap.size w wc))
                      case first =>
                        have H := HC47.out
                        clear HC47
                        replace H := Option.bind_eq_some_iff.mp H
                        obtain ⟨t242, A530, H⟩ := H
                        replace H : (if t242 = true then (laws_FnExactStampsFor.j2 kj26 t233 t232 (t239 != t214)) else (laws_FnExactStampsFor.j2 kj26 t233 t232 true)) = some r := H
                        have A53 := Aside0.mk A530
                        clear A530
                        by_cases c54 : t242 = true
                        · subst c54
                          have H1 : (laws_FnExactStampsFor.j2 kj26 t233 t232 (t239 != t214)) = some r := by rw [if_pos rfl] at H; exact H
                          clear H
                          have H := H1
                          clear H1
                          have H' := Aside0.mk H
                          clear H
                          obtain ⟨Ao55, co55, eo55⟩ := Kd.R_slice HO241.out
                          subst eo55
                          obtain ⟨Ao56, co56, eo56⟩ := Kd.R_slice HO_7.out
                          subst eo56
                          go_wp2_with (first | ((with_reducible refine gate_callee (f := 18) rfl ?_); refine goesL_ (some 88) rfl rfl Try.func18 (by kernel_rfl) rfl #[.slice Ao55 t238.length co55, .slice Ao56 t213.length co56] rfl (by (try simp only [List.map_toArray, List.map_cons, List.map_nil]); first | done | rfl | (simp only [List.length_drop, List.length_take]; rfl)) ?_; (with_reducible refine (laws_eqIntS.calls kj26 _ _ t238 _ _ t213 true _ ?side1 ?side2 ?side3 ?side4 A53.out).mono ?_); (case side1 => repeat (first | exact (Kd.R_reads' HO241.out).2.2 | (with_reducible refine Kd.C_alloc ?_ _) | (with_reducible refine Kd.C_drewN ?_ _) | (with_reducible refine Kd.C_drew ?_))); (case side2 => exact (Kd.R_reads' HO241.out).2.1); (case side3 => repeat (first | exact (Kd.R_reads' HO_7.out).2.2 | (with_reducible refine Kd.C_alloc ?_ _) | (with_reducible refine Kd.C_drewN ?_ _) | (with_reducible refine Kd.C_drew ?_))); (case side4 => exact (Kd.R_reads' HO_7.out).2.1); rintro e w' ⟨rfl, ⟨nd, rfl⟩⟩; refine ⟨_, rfl, ?_⟩))
                          go_meet
                          case rel => exact ⟨_, ((t239 != t214)), (by first | rfl | (simp; done) | (simp [*]; done)), H', ⟨by have := HJ8.out; have := HJ26.out; first | omega | exact Nat.le_refl _⟩, ⟨by (with_reducible repeat (first | apply Kd.R_alloc | apply Kd.R_drewN | apply Kd.R_drew)); exact Kd.R_mono HO_10.out (fun _ hk => trivial)⟩, ⟨by repeat (first | (with_reducible first | exact HB.out | apply below_alloc | apply pw_below_drewN | apply below_drew1) | exact HB.out)⟩⟩
                        · replace c54 := Bool.eq_false_iff.mpr c54
                          subst c54
                          have H1 : (laws_FnExactStampsFor.j2 kj26 t233 t232 true) = some r := by rw [if_neg (show ¬ (false = true) by decide)] at H; exact H
                          clear H
                          have H := H1
                          clear H1
                          have H' := Aside0.mk H
                          clear H
                          obtain ⟨Ao57, co57, eo57⟩ := Kd.R_slice HO241.out
                          subst eo57
                          obtain ⟨Ao58, co58, eo58⟩ := Kd.R_slice HO_7.out
                          subst eo58
                          go_wp2_with (first | ((with_reducible refine gate_callee (f := 18) rfl ?_); refine goesL_ (some 88) rfl rfl Try.func18 (by kernel_rfl) rfl #[.slice Ao57 t238.length co57, .slice Ao58 t213.length co58] rfl (by (try simp only [List.map_toArray, List.map_cons, List.map_nil]); first | done | rfl | (simp only [List.length_drop, List.length_take]; rfl)) ?_; (with_reducible refine (laws_eqIntS.calls kj26 _ _ t238 _ _ t213 false _ ?side1 ?side2 ?side3 ?side4 A53.out).mono ?_); (case side1 => repeat (first | exact (Kd.R_reads' HO241.out).2.2 | (with_reducible refine Kd.C_alloc ?_ _) | (with_reducible refine Kd.C_drewN ?_ _) | (with_reducible refine Kd.C_drew ?_))); (case side2 => exact (Kd.R_reads' HO241.out).2.1); (case side3 => repeat (first | exact (Kd.R_reads' HO_7.out).2.2 | (with_reducible refine Kd.C_alloc ?_ _) | (with_reducible refine Kd.C_drewN ?_ _) | (with_reducible refine Kd.C_drew ?_))); (case side4 => exact (Kd.R_reads' HO_7.out).2.1); rintro e w' ⟨rfl, ⟨nd, rfl⟩⟩; refine ⟨_, rfl, ?_⟩))
                          go_meet
                          case rel => exact ⟨_, (true), (by first | rfl | (simp; done) | (simp [*]; done)), H', ⟨by have := HJ8.out; have := HJ26.out; first | omega | exact Nat.le_refl _⟩, ⟨by (with_reducible repeat (first | apply Kd.R_alloc | apply Kd.R_drewN | apply Kd.R_drew)); exact Kd.R_mono HO_10.out (fun _ hk => trivial)⟩, ⟨by repeat (first | (with_reducible first | exact HB.out | apply below_alloc | apply pw_below_drewN | apply below_drew1) | exact HB.out)⟩⟩
                      case rest =>
                        clear HC47
                        try clear c1
                        try clear c2
                        try clear p2
                        try clear c3
                        try clear c4
                        try clear c4b0
                        try clear c4b1
                        try clear c5
                        try clear c15
                        try clear c16
                        try clear c17
                        try clear c18
                        try clear c19
                        try clear c20
                        try clear c22
                        try clear c25
                        try clear c31
                        try clear c31b0
                        try clear c33
                        try clear c38
                        try clear c41
                        try clear c41b0
                        try clear c44
                        try clear c44b0
                        try clear c44b1
                        try clear c54
                        try clear p2
                        obtain ⟨kq, x94_46, rfl, HA, HJ46, HO_10, HB⟩ := hcut
                        have hl10_46 := (Kd.R_reads' HO_10.out).1
                        rw [hl10_46] at HO_10
                        (try simp only [hl10_46])
                        cases kq with
                        | zero => exact absurd HA.out (by simp [laws_FnExactStampsFor.j2])
                        | succ kj46 =>
                          have H := HA.out
                          clear HA
                          simp only [laws_FnExactStampsFor.j2] at H
                          by_cases c59 : x94_46 = true
                          · subst c59
                            have H1 : (some false) = some r := by rw [if_pos rfl] at H; exact H
                            clear H
                            have H := H1
                            clear H1
                            obtain rfl := Option.some.inj H
                            go_wp2
                            go_ret
                            exact ⟨by first | rfl | (simp [errW_none, errW_some] <;> rfl) | (simp [*, errW_none, errW_some] <;> rfl), by repeat (first | (with_reducible first | exact HB.out | apply below_alloc | apply pw_below_drewN | apply below_drew1) | exact HB.out)⟩
                          · replace c59 := Bool.eq_false_iff.mpr c59
                            subst c59
                            have H1 : ((laws_heldIntS.f kj46 t233 1).bind fun t243 => (if t243 < 0 then (some false) else (if t243 = t232 then (some true) else (some false)))) = some r := by rw [if_neg (show ¬ (false = true) by decide)] at H; exact H
                            clear H
                            have H := H1
                            clear H1
                            replace H := Option.bind_eq_some_iff.mp H
                            obtain ⟨t243, A600, H⟩ := H
                            replace H : (if t243 < 0 then (some false) else (if t243 = t232 then (some true) else (some false))) = some r := H
                            have A60 := Aside0.mk A600
                            clear A600
                            by_cases c61 : t243 < 0
                            · rw [if_pos c61] at H
                              have c61b0 : decide (t243 < 0) = true := decide_eq_true c61
                              clear c61
                              obtain rfl := Option.some.inj H
                              go_wp2_with (first | ((with_reducible refine gate_callee (f := 20) rfl ?_); refine goesL_ (some 97) rfl rfl Try.func20 (by kernel_rfl) rfl #[.slice Ao48 t233.length co48, .int .i64 1] rfl (by (try simp only [List.map_toArray, List.map_cons, List.map_nil]); first | done | rfl | (simp only [List.length_drop, List.length_take]; rfl)) ?_; (with_reducible refine (laws_heldIntS.calls kj46 _ _ t233 1 t243 _ ?side1 ?side2 A60.out).mono ?_); (case side1 => repeat (first | exact (Kd.R_reads' HO_10.out).2.2 | (with_reducible refine Kd.C_alloc ?_ _) | (with_reducible refine Kd.C_drewN ?_ _) | (with_reducible refine Kd.C_drew ?_))); (case side2 => exact (Kd.R_reads' HO_10.out).2.1); rintro e w' ⟨rfl, ⟨nd, rfl⟩⟩; refine ⟨_, rfl, ?_⟩))
                              go_ret
                              exact ⟨by first | rfl | (simp [errW_none, errW_some] <;> rfl) | (simp [*, errW_none, errW_some] <;> rfl), by repeat (first | (with_reducible first | exact HB.out | apply below_alloc | apply pw_below_drewN | apply below_drew1) | exact HB.out)⟩
                            · rw [if_neg c61] at H
                              have c61b0 : decide (t243 < 0) = false := decide_eq_false c61
                              clear c61
                              by_cases c62 : t243 = t232
                              · rw [if_pos c62] at H
                                have c62b0 : (t243 == t232) = true := beq_iff_eq.mpr c62
                                have c62b1 : (t243 != t232) = false := bne_eq_false_iff_eq.mpr c62
                                clear c62
                                obtain rfl := Option.some.inj H
                                go_wp2_with (first | ((with_reducible refine gate_callee (f := 20) rfl ?_); refine goesL_ (some 97) rfl rfl Try.func20 (by kernel_rfl) rfl #[.slice Ao48 t233.length co48, .int .i64 1] rfl (by (try simp only [List.map_toArray, List.map_cons, List.map_nil]); first | done | rfl | (simp only [List.length_drop, List.length_take]; rfl)) ?_; (with_reducible refine (laws_heldIntS.calls kj46 _ _ t233 1 t243 _ ?side1 ?side2 A60.out).mono ?_); (case side1 => repeat (first | exact (Kd.R_reads' HO_10.out).2.2 | (with_reducible refine Kd.C_alloc ?_ _) | (with_reducible refine Kd.C_drewN ?_ _) | (with_reducible refine Kd.C_drew ?_))); (case side2 => exact (Kd.R_reads' HO_10.out).2.1); rintro e w' ⟨rfl, ⟨nd, rfl⟩⟩; refine ⟨_, rfl, ?_⟩))
                                go_ret
                                exact ⟨by first | rfl | (simp [errW_none, errW_some] <;> rfl) | (simp [*, errW_none, errW_some] <;> rfl), by repeat (first | (with_reducible first | exact HB.out | apply below_alloc | apply pw_below_drewN | apply below_drew1) | exact HB.out)⟩
                              · rw [if_neg c62] at H
                                have c62b0 : (t243 == t232) = false := beq_eq_false_iff_ne.mpr c62
                                have c62b1 : (t243 != t232) = true := bne_iff_ne.mpr c62
                                obtain rfl := Option.some.inj H
                                go_wp2_with (first | ((with_reducible refine gate_callee (f := 20) rfl ?_); refine goesL_ (some 97) rfl rfl Try.func20 (by kernel_rfl) rfl #[.slice Ao48 t233.length co48, .int .i64 1] rfl (by (try simp only [List.map_toArray, List.map_cons, List.map_nil]); first | done | rfl | (simp only [List.length_drop, List.length_take]; rfl)) ?_; (with_reducible refine (laws_heldIntS.calls kj46 _ _ t233 1 t243 _ ?side1 ?side2 A60.out).mono ?_); (case side1 => repeat (first | exact (Kd.R_reads' HO_10.out).2.2 | (with_reducible refine Kd.C_alloc ?_ _) | (with_reducible refine Kd.C_drewN ?_ _) | (with_reducible refine Kd.C_drew ?_))); (case side2 => exact (Kd.R_reads' HO_10.out).2.1); rintro e w' ⟨rfl, ⟨nd, rfl⟩⟩; refine ⟨_, rfl, ?_⟩))
                                go_ret
                                exact ⟨by first | rfl | (simp [errW_none, errW_some] <;> rfl) | (simp [*, errW_none, errW_some] <;> rfl), by repeat (first | (with_reducible first | exact HB.out | apply below_alloc | apply pw_below_drewN | apply below_drew1) | exact HB.out)⟩
                    · rw [if_neg c44] at H
                      have c44b0 : (t234 == t232) = false := beq_eq_false_iff_ne.mpr c44
                      have c44b1 : (t234 != t232) = true := bne_iff_ne.mpr c44
                      obtain rfl := Option.some.inj H
                      obtain ⟨Ao63, co63, eo63⟩ := Kd.R_slice HO_10.out
                      subst eo63
                      go_wp2_with (first | ((with_reducible refine gate_callee (f := 19) rfl ?_); refine goesL_ (some 69) rfl rfl Try.func19 (by kernel_rfl) rfl #[.slice Ao63 t220.length co63, .int .i64 1] rfl (by (try simp only [List.map_toArray, List.map_cons, List.map_nil]); first | done | rfl | (simp only [List.length_drop, List.length_take]; rfl)) ?_; (with_reducible refine (laws_markIntS.calls kj26 (fun k_ => some k_ = (.slice Ao63 t220.length co63 : Value).ownBlock) (.slice Ao63 t220.length co63) t220 1 t232 t233 w _ ?side1 ?side2 A39.out).mono ?_); (case side1 => repeat (first | (with_reducible first | exact HB.out | apply below_alloc | apply pw_below_drewN | apply below_drew1) | exact HB.out)); (case side2 => exact Kd.R_tight rfl HO_10.out); rintro e w64 ⟨rfl, hy0, hb, hkp⟩; refine ⟨_, rfl, ?_⟩; have n0_ := Aside0.mk (Kd.R_mono (ok' := fun k_ => some k_ ≠ (.slice Ao63 t220.length co63 : Value).ownBlock) (Kd.R_keptB (HO_7.out) hkp (fun k_ hk_ hs_ => (hk_) hs_)) (fun k_ hk_ => hk_.1)); have n1_ := Aside0.mk (Kd.R_reok rfl hy0 (fun k_ e_ => HO_10.out.1 k_ e_)); have n2_ := Aside0.mk (hb); clear HO_7; clear HO_10; clear HB; have HO_7 := n0_; have HO_10 := n1_; have HB := n2_; clear n0_ n1_ n2_; (try clear hb); (try clear hkp); (try clear hy0)) | ((with_reducible refine gate_callee (f := 20) rfl ?_); refine goesL_ (some 72) rfl rfl Try.func20 (by kernel_rfl) rfl #[.slice Ao63 t233.length co63, .int .i64 1] rfl (by (try simp only [List.map_toArray, List.map_cons, List.map_nil]); first | done | (rw [show t233.length = t220.length from (Kd.R_reads' HO_10.out).1.symm] <;> rfl) | rfl | (simp only [List.length_drop, List.length_take]; rfl)) ?_; (with_reducible refine (laws_heldIntS.calls kj26 _ _ t233 1 t234 _ ?side1 ?side2 A40.out).mono ?_); (case side1 => repeat (first | exact (Kd.R_reads' HO_10.out).2.2 | (with_reducible refine Kd.C_alloc ?_ _) | (with_reducible refine Kd.C_drewN ?_ _) | (with_reducible refine Kd.C_drew ?_))); (case side2 => rw [show t233.length = t220.length from (Kd.R_reads' HO_10.out).1.symm]; exact (Kd.R_reads' HO_10.out).2.1); rintro e w' ⟨rfl, ⟨nd, rfl⟩⟩; refine ⟨_, rfl, ?_⟩))
                      go_ret
                      exact ⟨by first | rfl | (simp [errW_none, errW_some] <;> rfl) | (simp [*, errW_none, errW_some] <;> rfl), by repeat (first | (with_reducible first | exact HB.out | apply below_alloc | apply pw_below_drewN | apply below_drew1) | exact HB.out)⟩
          · replace c25 := Bool.eq_false_iff.mpr c25
            subst c25
            have H1 : (some false) = some r := by rw [if_neg (show ¬ (false = true) by decide)] at H; exact H
            clear H
            have H := H1
            clear H1
            obtain rfl := Option.some.inj H
            go_wp2_with (first | ((with_reducible refine gate_callee (f := 16) rfl ?_); refine goesL_ (some 48) rfl rfl Try.func16 (by kernel_rfl) rfl #[.slice A0 l0.length c0] rfl (by (try simp only [List.map_toArray, List.map_cons, List.map_nil]); first | done | rfl | (simp only [List.length_drop, List.length_take]; rfl)) ?_; (with_reducible refine (laws_toIntS.calls kj8 _ _ l0 t225 _ ?side1 ?side2 A23.out).mono ?_); (case side1 => repeat (first | exact (Kd.C_below HR0.out HB.out) | (with_reducible refine Kd.C_alloc ?_ _) | (with_reducible refine Kd.C_drewN ?_ _) | (with_reducible refine Kd.C_drew ?_))); (case side2 => exact HC0.out); rintro e w65 ⟨v226, rfl, ho0, hb⟩; refine ⟨_, rfl, ?_⟩; have n0_ := Aside0.mk (Kd.R_elder' (by (with_reducible repeat (first | apply Kd.R_alloc | apply Kd.R_drewN | apply Kd.R_drew)); exact HO_7.out) (Kd.R_base ho0) hb); have n1_ := Aside0.mk (Kd.R_elder' (by (with_reducible repeat (first | apply Kd.R_alloc | apply Kd.R_drewN | apply Kd.R_drew)); exact HO_9.out) (Kd.R_base ho0) hb); have n2_ := Aside0.mk (Kd.R_elder' (by (with_reducible repeat (first | apply Kd.R_alloc | apply Kd.R_drewN | apply Kd.R_drew)); exact HO_10.out) (Kd.R_base ho0) hb); have n3_ := Aside0.mk (Kd.R_lower (Kd.R_new' (Kd.R_new' (Kd.R_new' ho0 (Kd.R_lt (by (with_reducible repeat (first | apply Kd.R_alloc | apply Kd.R_drewN | apply Kd.R_drew)); exact HO_7.out))) (Kd.R_lt (by (with_reducible repeat (first | apply Kd.R_alloc | apply Kd.R_drewN | apply Kd.R_drew)); exact HO_9.out))) (Kd.R_lt (by (with_reducible repeat (first | apply Kd.R_alloc | apply Kd.R_drewN | apply Kd.R_drew)); exact HO_10.out))) (below_size (by repeat (first | (with_reducible first | exact HB.out | apply below_alloc | apply pw_below_drewN | apply below_drew1) | exact HB.out)))); have n4_ := Aside0.mk (below_step (by repeat (first | (with_reducible first | exact HB.out | apply below_alloc | apply pw_below_drewN | apply below_drew1) | exact HB.out)) hb); clear HO_7; clear HO_9; clear HO_10; clear HB; have HO_7 := n0_; have HO_9 := n1_; have HO_10 := n2_; have HO227 := n3_; have HB := n4_; clear n0_ n1_ n2_ n3_ n4_; (try clear hb); (try clear hb2); (try clear hk); (try clear hi); (try clear ho0); obtain ⟨Ao66, co66, eo66⟩ := Kd.R_slice HO227.out; subst eo66) | ((with_reducible refine gate_callee (f := 18) rfl ?_); refine goesL_ (some 49) rfl rfl Try.func18 (by kernel_rfl) rfl #[.slice Ao14 t217.length co14, .slice Ao66 t225.length co66] rfl (by (try simp only [List.map_toArray, List.map_cons, List.map_nil]); first | done | rfl | (simp only [List.length_drop, List.length_take]; rfl)) ?_; (with_reducible refine (laws_eqIntS.calls kj8 _ _ t217 _ _ t225 false _ ?side1 ?side2 ?side3 ?side4 A24.out).mono ?_); (case side1 => repeat (first | exact (Kd.R_reads' HO_9.out).2.2 | (with_reducible refine Kd.C_alloc ?_ _) | (with_reducible refine Kd.C_drewN ?_ _) | (with_reducible refine Kd.C_drew ?_))); (case side2 => exact (Kd.R_reads' HO_9.out).2.1); (case side3 => repeat (first | exact (Kd.R_reads' HO227.out).2.2 | (with_reducible refine Kd.C_alloc ?_ _) | (with_reducible refine Kd.C_drewN ?_ _) | (with_reducible refine Kd.C_drew ?_))); (case side4 => exact (Kd.R_reads' HO227.out).2.1); rintro e w' ⟨rfl, ⟨nd, rfl⟩⟩; refine ⟨_, rfl, ?_⟩))
            go_ret
            exact ⟨by first | rfl | (simp [errW_none, errW_some] <;> rfl) | (simp [*, errW_none, errW_some] <;> rfl), by repeat (first | (with_reducible first | exact HB.out | apply below_alloc | apply pw_below_drewN | apply below_drew1) | exact HB.out)⟩
def laws_FnExactStampsFor.Pure : Prop := ∀ (l0 : List Int) (a1 : Int) (a2 : Int), l0.length ≤ maxLen → l0.length * 8 ≤ 140737488351232 → (∀ x ∈ l0, (Lit.int .i64 x).wf = true) → (Lit.int .i64 a1).wf = true → (Lit.int .i64 a2).wf = true → ∃ k, laws_FnExactStampsFor.f k l0 a1 a2 = some true
theorem laws_FnExactStampsFor.walk (P : laws_FnExactStampsFor.Pure) (a0 : Option Addr) (len0 cap0 : Nat) (z0 : List Int) (a1 : Int) (a2 : Int) (w : World) (w0 : (a0 = none ∧ len0 = 0 ∧ cap0 = 0 ∧ z0 = []) ∨ ∃ x, a0 = some x ∧ len0 ≤ cap0 ∧ cap0 ≤ maxLen ∧ z0.length = cap0 ∧ (∀ i, i < z0.length → w.cell? (x.add i) = some (.int .i64 (z0.getD i 0))) ∧ ∀ n ∈ z0, (Lit.int .i64 n).wf = true) (y0 : len0 * 8 ≤ 140737488351232) (w1 : (Lit.int .i64 a1).wf = true) (w2 : (Lit.int .i64 a2).wf = true) :
    Calls Try.prog 3 #[.slice a0 len0 cap0, .int .i64 a1, .int .i64 a2] w fun e w' => e = .returned (.bool true) ∧ Below w.heap.size w w' := by
  obtain ⟨l0, rfl, hr0, hm0, hw0, hc0⟩ := ReadsInt.ofRowC w0
  obtain ⟨k, h⟩ := P l0 a1 a2 hm0 y0 hw0 w1 w2
  refine (laws_FnExactStampsFor.calls k _ _ l0 a1 a2 true w (Kd.C_of_reads (d := (0 : Int)) (h1 := fun _ => rfl) hr0) hc0 h).mono ?_
  rintro e w' ⟨rfl, hd⟩
  exact ⟨rfl, hd⟩
end Go.Proofs.Ytkifakepmomgfaa.PA
end
section
namespace Go.Proofs.Ytkifakepmomgfaa.E
open Go.RowKit Go.Proofs.YtkifakepmomgfaaW.PrintWords Go.Proofs.YtkifakepmomgfaaW.PrintLast Go.Proofs.YtkifakepmomgfaaW.PrintMore
set_option linter.unusedVariables false
set_option linter.unusedSimpArgs false
theorem w64 {x : Int} (h1 : -9223372036854775808 ≤ x) (h2 : x ≤ 9223372036854775807) : wrap64 x = x := by
  unfold wrap64; omega
theorem nd_t {p : Prop} [Decidable p] (h : ¬ p) : (!decide p) = true := by simp [h]
theorem nd_f {p : Prop} [Decidable p] (h : p) : ¬ (!decide p) = true := by simp [h]
theorem ev_ifp {α : Type} {c : Prop} [Decidable c] {a b : Nat → Option α} {r : α} (h : c) (k : Ev a r) : Ev (fun n => if c then a n else b n) r :=
  Ev.congr (fun _ => if_pos h) k
theorem ev_ifn {α : Type} {c : Prop} [Decidable c] {a b : Nat → Option α} {r : α} (h : ¬ c) (k : Ev b r) : Ev (fun n => if c then a n else b n) r :=
  Ev.congr (fun _ => if_neg h) k
theorem ev_bind {α β : Type} {g : Nat → Option α} {f : Nat → α → Option β} (a : α) {r : β} (h : Ev g a) (k : Ev (fun n => f n a) r) : Ev (fun n => (g n).bind (f n)) r := Ev.bind h k
theorem ev_to {α : Type} {g : Nat → Option α} {a b : α} (h : Ev g a) (e : a = b) : Ev g b := e ▸ h
theorem rd_lt {l : List Int} {i : Int} (h0 : 0 ≤ i) (h : i < l.length) : rd l i = l[i.toNat]'(by omega) := by
  unfold rd; rw [List.getD_eq_getElem?_getD, List.getElem?_eq_getElem (by omega)]; rfl
theorem rd_mem {l : List Int} {i : Int} (h0 : 0 ≤ i) (h : i < l.length) : rd l i ∈ l := by
  rw [rd_lt h0 h]; exact List.getElem_mem _
theorem drop_rd {l : List Int} {i : Int} (h0 : 0 ≤ i) (h : i < l.length) : l.drop i.toNat = rd l i :: l.drop (i + 1).toNat := by
  rw [rd_lt h0 h, List.drop_eq_getElem_cons (by omega)]
  congr 2; omega
theorem take_rd {l : List Int} {i : Int} (h0 : 0 ≤ i) (h : i < l.length) : l.take (i + 1).toNat = l.take i.toNat ++ [rd l i] := by
  rw [rd_lt h0 h, show (i + 1).toNat = i.toNat + 1 from by omega, List.take_succ_eq_append_getElem (by omega)]
theorem rd_ext {l m : List Int} (hl : l.length = m.length) (h : ∀ i : Int, 0 ≤ i → i < l.length → rd l i = rd m i) : l = m := by
  refine List.ext_getElem hl fun n h1 h2 => ?_
  have := h n (by omega) (by omega)
  rw [rd_lt (by omega) (by omega), rd_lt (by omega) (by omega)] at this
  simpa using this
theorem rd_set {l : List Int} {i j : Int} (x : Int) (hi : 0 ≤ i) (hi' : i < l.length) (hj : 0 ≤ j) : rd (l.set i.toNat x) j = if j = i then x else rd l j := by
  unfold rd
  rw [List.getD_eq_getElem?_getD, List.getD_eq_getElem?_getD, List.getElem?_set]
  by_cases h : j = i
  · subst h; rw [if_pos rfl, if_pos rfl, if_pos (by omega)]; rfl
  · rw [if_neg h, if_neg (by omega)]
theorem rd_append {l m : List Int} {i : Int} (hi : 0 ≤ i) : rd (l ++ m) i = if i < l.length then rd l i else rd m (i - l.length) := by
  unfold rd
  rw [List.getD_eq_getElem?_getD, List.getD_eq_getElem?_getD, List.getD_eq_getElem?_getD, List.getElem?_append]
  by_cases h : i < l.length
  · rw [if_pos h, if_pos (by omega)]
  · rw [if_neg h, if_neg (by omega), show i.toNat - l.length = (i - l.length).toNat from by omega]
theorem rd_rep {n : Nat} {x : Int} {i : Int} (hi : 0 ≤ i) (h : i < n) : rd (List.replicate n x) i = x := by
  rw [rd_lt hi (by simpa using h)]; simp
theorem mem_rd {l : List Int} {x : Int} (h : x ∈ l) : ∃ i : Int, 0 ≤ i ∧ i < l.length ∧ rd l i = x := by
  obtain ⟨n, hn, rfl⟩ := List.mem_iff_getElem.1 h
  exact ⟨n, by omega, by omega, by rw [rd_lt (by omega) (by omega)]; simp⟩
def marks (a : Int) : Nat → List Int
  | 0 => []
  | n + 1 => a :: marks (a + 1) n
theorem marks_len (a : Int) (n : Nat) : (marks a n).length = n := by
  induction n generalizing a with
  | zero => rfl
  | succ n ih => simp [marks, ih]
theorem marks_rd (a : Int) (n : Nat) (i : Int) (h0 : 0 ≤ i) (h : i < n) : rd (marks a n) i = a + i := by
  induction n generalizing a i with
  | zero => omega
  | succ n ih =>
    by_cases h1 : i = 0
    · subst h1; simp [marks, rd]
    · have := ih (a + 1) (i - 1) (by omega) (by omega)
      unfold rd at this ⊢
      rw [marks, show i.toNat = (i - 1).toNat + 1 from by omega, List.getD_cons_succ, this]
      omega
end Go.Proofs.Ytkifakepmomgfaa.E
end
section
namespace Go.Proofs.Ytkifakepmomgfaa.E
open Go.RowKit Go.Proofs.Ytkifakepmomgfaa.PA Go.Proofs.YtkifakepmomgfaaW.PrintWords Go.Proofs.YtkifakepmomgfaaW.PrintLast Go.Proofs.YtkifakepmomgfaaW.PrintMore
set_option linter.unusedVariables false
set_option linter.unusedSimpArgs false
theorem toIntS_l {l : List Int} (hl : l.length ≤ 1048576) (d : Nat) : ∀ (i : Int) (out : List Int), 0 ≤ i → i + d = l.length → out.length = l.length → out.take i.toNat = l.take i.toNat → Ev (fun k => laws_toIntS.l0 k l out i) l := by
  induction d with
  | zero =>
    intro i out h0 h1 h2 h3
    refine Ev.step (fun k => by rw [laws_toIntS.l0]) ?_
    simp (disch := omega) only [if_neg]
    rw [List.take_of_length_le (by omega), List.take_of_length_le (by omega)] at h3
    subst h3
    exact Ev.now _
  | succ d ih =>
    intro i out h0 h1 h2 h3
    refine Ev.step (fun k => by rw [laws_toIntS.l0]) ?_
    simp (disch := omega) only [if_pos, w64]
    refine ih _ _ (by omega) (by omega) (by simpa using h2) ?_
    rw [take_rd h0 (by simp; omega), take_rd h0 (by omega), rd_set _ h0 (by omega) h0, if_pos rfl, ← h3]
    congr 1
    rw [List.take_set_of_le (Nat.le_refl _)]
theorem toIntS_ev {l : List Int} (hl : l.length ≤ 1048576) : Ev (fun k => laws_toIntS.f k l) l := by
  unfold laws_toIntS.f
  simp (disch := omega) only [if_pos]
  exact toIntS_l hl l.length _ _ (by omega) (by omega) (by simp) (by simp)
theorem eqIntS_l {l m : List Int} (hl : l.length ≤ 1099511627776) (e : l.length = m.length) (d : Nat) : ∀ (i : Int), 0 ≤ i → i + d = l.length → Ev (fun k => laws_eqIntS.l0 k l m i) (decide (l.drop i.toNat = m.drop i.toNat)) := by
  induction d with
  | zero =>
    intro i h0 h1
    refine Ev.step (fun k => by rw [laws_eqIntS.l0]) ?_
    simp (disch := omega) only [if_neg]
    refine ev_to (Ev.now _) ?_
    rw [List.drop_of_length_le (by omega), List.drop_of_length_le (by omega)]; simp
  | succ d ih =>
    intro i h0 h1
    refine Ev.step (fun k => by rw [laws_eqIntS.l0]) ?_
    simp (disch := omega) only [if_pos, w64]
    rw [drop_rd h0 (by omega), drop_rd (l := m) h0 (by omega)]
    by_cases h : rd l i = rd m i
    · refine ev_ifp h (ev_to (ih (i + 1) (by omega) (by omega)) ?_)
      simp [h]
    · refine ev_ifn h (ev_to (Ev.now _) ?_)
      simp [h]
theorem eqIntS_ev {l m : List Int} (hl : l.length ≤ 1099511627776) : Ev (fun k => laws_eqIntS.f k l m) (decide (l = m)) := by
  unfold laws_eqIntS.f
  by_cases e : l.length = m.length
  · refine ev_ifp (by omega) (ev_to (eqIntS_l hl e l.length 0 (by omega) (by omega)) ?_)
    simp
  · refine ev_ifn (by omega) (ev_to (Ev.now _) ?_)
    simp; intro h; exact e (by rw [h])
theorem eqIntS_same {l : List Int} (hl : l.length ≤ 1099511627776) : Ev (fun k => laws_eqIntS.f k l l) true := ev_to (eqIntS_ev hl) (by simp)
theorem markIntS_l {n : Nat} (a : Int) (ha : 0 ≤ a) (hn : a + n ≤ 4611686018427387904) (d : Nat) : ∀ (i : Int) (l : List Int), 0 ≤ i → i + d = n → l.length = n → (∀ j, 0 ≤ j → j < i → rd l j = a + j) → Ev (fun k => laws_markIntS.l0 k l (a + i) i) (a + n, marks a n) := by
  induction d with
  | zero =>
    intro i l h0 h1 h2 h3
    refine Ev.step (fun k => by rw [laws_markIntS.l0]) ?_
    simp (disch := omega) only [if_neg]
    refine ev_to (Ev.now _) ?_
    rw [show a + i = a + n from by omega]
    congr 1
    refine rd_ext (by rw [h2, marks_len]) fun j hj hj' => ?_
    rw [h3 j hj (by omega), marks_rd _ _ _ hj (by omega)]
  | succ d ih =>
    intro i l h0 h1 h2 h3
    refine Ev.step (fun k => by rw [laws_markIntS.l0]) ?_
    simp (disch := omega) only [if_pos, w64]
    rw [Int.add_assoc]
    refine ih (i + 1) _ (by omega) (by omega) (by simpa using h2) fun j hj hj' => ?_
    rw [rd_set _ h0 (by omega) hj]
    by_cases e : j = i
    · rw [if_pos e, e]
    · rw [if_neg e]; exact h3 j hj (by omega)
theorem markIntS_ev {l : List Int} {a : Int} (ha : 0 ≤ a) (hl : a + l.length ≤ 4611686018427387904) : Ev (fun k => laws_markIntS.f k l a) (a + l.length, marks a l.length) := by
  unfold laws_markIntS.f
  have := markIntS_l a ha hl l.length 0 l (by omega) (by omega) rfl (fun j h h' => by omega)
  rwa [Int.add_zero] at this
theorem heldIntS_l {n : Nat} (a : Int) (ha : 0 ≤ a) (hn : a + n ≤ 4611686018427387904) (d : Nat) : ∀ (i : Int), 0 ≤ i → i + d = n → Ev (fun k => laws_heldIntS.l0 k (marks a n) (a + i) i) (a + n) := by
  have hm := marks_len a n
  induction d with
  | zero =>
    intro i h0 h1
    refine Ev.step (fun k => by rw [laws_heldIntS.l0]) ?_
    simp (disch := omega) only [if_neg]
    exact ev_to (Ev.now _) (by omega)
  | succ d ih =>
    intro i h0 h1
    refine Ev.step (fun k => by rw [laws_heldIntS.l0]) ?_
    simp (disch := omega) only [if_pos, w64]
    refine ev_ifp (marks_rd _ _ _ h0 (by omega)) ?_
    rw [Int.add_assoc]
    exact ih (i + 1) (by omega) (by omega)
theorem heldIntS_ev {n : Nat} {a : Int} (ha : 0 ≤ a) (hn : a + n ≤ 4611686018427387904) : Ev (fun k => laws_heldIntS.f k (marks a n) a) (a + n) := by
  unfold laws_heldIntS.f
  have := heldIntS_l a ha hn n 0 (by omega) (by omega)
  rwa [Int.add_zero] at this
end Go.Proofs.Ytkifakepmomgfaa.E
end
section
namespace Go.Proofs.Ytkifakepmomgfaa.E
open Go.RowKit Go.Proofs.Ytkifakepmomgfaa.PA Go.Proofs.YtkifakepmomgfaaW.PrintWords Go.Proofs.YtkifakepmomgfaaW.PrintLast Go.Proofs.YtkifakepmomgfaaW.PrintMore
set_option linter.unusedVariables false
set_option linter.unusedSimpArgs false
theorem l1In_eq (n lo hi : Int) : spec_l1In.f n lo hi = some (decide (lo ≤ n ∧ n ≤ hi)) := by
  unfold spec_l1In.f; by_cases h : n ≥ lo
  · rw [if_pos h]; simp [h]
  · rw [if_neg h]; simp [show ¬ lo ≤ n from h]
theorem within_eq (n lo hi : Int) : impl_within.f n lo hi = some (decide (lo ≤ n ∧ n ≤ hi)) := l1In_eq n lo hi
theorem allWithin_l {l : List Int} {lo hi : Int} (hl : l.length ≤ 1099511627776) (d : Nat) : ∀ (i : Int), 0 ≤ i → i + d = l.length → Ev (fun k => impl_allWithin.l0 k lo hi l l.length i) (decide (∀ x ∈ l.drop i.toNat, lo ≤ x ∧ x ≤ hi)) := by
  induction d with
  | zero =>
    intro i h0 h1
    refine Ev.step (fun k => by rw [impl_allWithin.l0]) ?_
    simp (disch := omega) only [if_neg]
    refine ev_to (Ev.now _) ?_
    rw [List.drop_of_length_le (by omega)]; simp
  | succ d ih =>
    intro i h0 h1
    refine Ev.step (fun k => by rw [impl_allWithin.l0]) ?_
    simp (disch := omega) only [if_pos, w64, within_eq, Option.bind_some]
    rw [drop_rd h0 (by omega)]
    by_cases h : lo ≤ rd l i ∧ rd l i ≤ hi
    · refine ev_ifp (by simpa using h) (ev_to (ih (i + 1) (by omega) (by omega)) ?_)
      simp [h]
    · refine ev_ifn (by simpa using h) (ev_to (Ev.now _) ?_)
      simp only [List.mem_cons, forall_eq_or_imp, h, false_and, decide_false]
theorem allWithin_ev {l : List Int} (lo hi : Int) (hl : l.length ≤ 1099511627776) : Ev (fun k => impl_allWithin.f k l lo hi) (decide (∀ x ∈ l, lo ≤ x ∧ x ≤ hi)) :=
  ev_to (allWithin_l hl l.length 0 (by omega) (by omega)) (by simp)
def Asc (l : List Int) : Prop := ∀ i : Int, 0 < i → i < l.length → rd l (i - 1) < rd l i
noncomputable instance (l : List Int) : Decidable (Asc l) := Classical.propDecidable _
theorem asc_l {l : List Int} (hl : l.length ≤ 1099511627776) (d : Nat) : ∀ (i : Int), 0 < i → i + d = max 1 l.length → (∀ j, 0 < j → j < i → rd l (j - 1) < rd l j) → Ev (fun k => impl_IsAscending.l0 k l i) (decide (Asc l)) ∧ Ev (fun k => spec_IsAscending.l0 k l i) (decide (Asc l)) := by
  induction d with
  | zero =>
    intro i h0 h1 h2
    have ha : Asc l := fun j hj hj' => h2 j hj (by omega)
    constructor
    · refine Ev.step (fun k => by rw [impl_IsAscending.l0]) ?_
      simp (disch := omega) only [if_neg]
      exact ev_to (Ev.now _) (by simp [ha])
    · refine Ev.step (fun k => by rw [spec_IsAscending.l0]) ?_
      simp (disch := omega) only [if_neg]
      exact ev_to (Ev.now _) (by simp [ha])
  | succ d ih =>
    intro i h0 h1 h2
    by_cases h : rd l (i - 1) < rd l i
    · obtain ⟨a, b⟩ := ih (i + 1) (by omega) (by omega) (fun j hj hj' => by
        by_cases e : j = i
        · subst e; exact h
        · exact h2 j hj (by omega))
      constructor
      · refine Ev.step (fun k => by rw [impl_IsAscending.l0]) ?_
        simp (disch := omega) only [if_pos, if_neg, w64]
        exact a
      · refine Ev.step (fun k => by rw [spec_IsAscending.l0]) ?_
        simp (disch := omega) only [if_pos, if_neg, w64]
        exact b
    · have hn : ¬ Asc l := fun ha => h (ha i h0 (by omega))
      constructor
      · refine Ev.step (fun k => by rw [impl_IsAscending.l0]) ?_
        simp (disch := omega) only [if_pos, w64]
        exact ev_to (Ev.now _) (by simp [hn])
      · refine Ev.step (fun k => by rw [spec_IsAscending.l0]) ?_
        simp (disch := omega) only [if_pos, w64]
        exact ev_to (Ev.now _) (by simp [hn])
theorem ascI_ev {l : List Int} (hl : l.length ≤ 1099511627776) : Ev (fun k => impl_IsAscending.f k l) (decide (Asc l)) :=
  (asc_l hl (l.length - 1) 1 (by omega) (by omega) (fun j h h' => by omega)).1
theorem ascS_ev {l : List Int} (hl : l.length ≤ 1099511627776) : Ev (fun k => spec_IsAscending.f k l) (decide (Asc l)) :=
  (asc_l hl (l.length - 1) 1 (by omega) (by omega) (fun j h h' => by omega)).2
end Go.Proofs.Ytkifakepmomgfaa.E
end
section
namespace Go.Proofs.Ytkifakepmomgfaa.E
open Go.RowKit Go.Proofs.Ytkifakepmomgfaa.PA Go.Proofs.YtkifakepmomgfaaW.PrintWords Go.Proofs.YtkifakepmomgfaaW.PrintLast Go.Proofs.YtkifakepmomgfaaW.PrintMore
set_option linter.unusedVariables false
set_option linter.unusedSimpArgs false
def AreSt (l : List Int) : Prop := (1 ≤ (l.length : Int) ∧ (l.length : Int) ≤ 6) ∧ (∀ x ∈ l, 1 ≤ x ∧ x ≤ 60) ∧ Asc l
noncomputable instance (l : List Int) : Decidable (AreSt l) := Classical.propDecidable _
theorem areStampsI_ev {l : List Int} (hl : l.length ≤ 1099511627776) : Ev (fun k => impl_AreStamps.f k l) (decide (AreSt l)) := by
  unfold impl_AreStamps.f
  simp only [within_eq, Option.bind_some]
  by_cases h1 : 1 ≤ (l.length : Int) ∧ (l.length : Int) ≤ 6
  · refine ev_ifp (by simpa using h1) (ev_bind _ (allWithin_ev 1 60 hl) ?_)
    by_cases h2 : ∀ x ∈ l, 1 ≤ x ∧ x ≤ 60
    · refine ev_ifp (by simpa using h2) (ev_bind _ (ascI_ev hl) (ev_to (Ev.now _) ?_))
      rw [Bool.eq_iff_iff]; simp only [decide_eq_true_eq]
      exact ⟨fun h => ⟨h1, h2, h⟩, fun h => h.2.2⟩
    · exact ev_ifn (by rw [decide_eq_true_eq]; exact h2) (ev_to (Ev.now _) (decide_eq_false (fun h => h2 h.2.1)).symm)
  · exact ev_ifn (by simpa using h1) (ev_to (Ev.now _) (decide_eq_false (fun h => h1 h.1)).symm)
theorem areStampsS_l {l : List Int} (hl : l.length ≤ 1099511627776) (d : Nat) : ∀ (i : Int), 0 ≤ i → i + d = l.length → (∀ j, 0 ≤ j → j < i → 1 ≤ rd l j ∧ rd l j ≤ 60) → Ev (fun k => spec_AreStamps.l0 k l i) (decide (AreSt l)) := by
  induction d with
  | zero =>
    intro i h0 h1 h2
    refine Ev.step (fun k => by rw [spec_AreStamps.l0]) (ev_ifn (by omega) ?_)
    simp only [l1In_eq, Option.bind_some]
    have h2' : ∀ x ∈ l, 1 ≤ x ∧ x ≤ 60 := fun x hx => by
      obtain ⟨j, hj, hj', rfl⟩ := mem_rd hx
      exact h2 j hj (by omega)
    by_cases h1 : 1 ≤ (l.length : Int) ∧ (l.length : Int) ≤ 6
    · refine ev_ifp (by simpa using h1) (ev_bind _ (ascS_ev hl) (ev_to (Ev.now _) ?_))
      rw [Bool.eq_iff_iff]; simp only [decide_eq_true_eq]
      exact ⟨fun h => ⟨h1, h2', h⟩, fun h => h.2.2⟩
    · exact ev_ifn (by simpa using h1) (ev_to (Ev.now _) (decide_eq_false (fun h => h1 h.1)).symm)
  | succ d ih =>
    intro i h0 h1 h2
    refine Ev.step (fun k => by rw [spec_AreStamps.l0]) (ev_ifp (by omega) (ev_ifp h0 ?_))
    simp only [l1In_eq, Option.bind_some]
    rw [w64 (by omega) (by omega)]
    by_cases h : 1 ≤ rd l i ∧ rd l i ≤ 60
    · refine ev_ifp (by simpa using h) (ih (i + 1) (by omega) (by omega) fun j hj hj' => ?_)
      by_cases e : j = i
      · subst e; exact h
      · exact h2 j hj (by omega)
    · exact ev_ifn (by simpa using h) (ev_to (Ev.now _) (decide_eq_false (fun hc => h (hc.2.1 _ (rd_mem h0 (by omega))))).symm)
theorem areStampsS_ev {l : List Int} (hl : l.length ≤ 1099511627776) : Ev (fun k => spec_AreStamps.f k l) (decide (AreSt l)) :=
  areStampsS_l hl l.length 0 (by omega) (by omega) (fun j h h' => by omega)
end Go.Proofs.Ytkifakepmomgfaa.E
end
section
namespace Go.Proofs.Ytkifakepmomgfaa.E
open Go.RowKit Go.Proofs.YtkifakepmomgfaaW.PrintWords Go.Proofs.YtkifakepmomgfaaW.PrintLast Go.Proofs.YtkifakepmomgfaaW.PrintMore
set_option linter.unusedVariables false
set_option linter.unusedSimpArgs false
inductive Way (v : List Int) : Int → Int → Prop
  | zero : Way v 0 0
  | add {x k c : Int} : x ∈ v → Way v k c → Way v (k + x) (c + 1)
theorem Way.mono {v u : List Int} (h : ∀ x ∈ v, x ∈ u) {k c : Int} (w : Way v k c) : Way u k c := by
  induction w with
  | zero => exact .zero
  | add hx _ ih => exact .add (h _ hx) ih
theorem Way.pos {v : List Int} (h : ∀ x ∈ v, 1 ≤ x) {k c : Int} (w : Way v k c) : 0 ≤ c ∧ c ≤ k := by
  induction w with
  | zero => omega
  | add hx _ ih => have := h _ hx; omega
theorem Way.plus {v : List Int} {k c : Int} (w : Way v k c) {k' c' : Int} (w' : Way v k' c') : Way v (k + k') (c + c') := by
  induction w' with
  | zero => simpa using w
  | @add x k1 c1 hx _ ih =>
    rw [← Int.add_assoc, ← Int.add_assoc]
    exact .add hx ih
theorem Way.times {v : List Int} {x : Int} (hx : x ∈ v) (j : Nat) : Way v (j * x) j := by
  induction j with
  | zero => simpa using Way.zero
  | succ j ih =>
    have := Way.add hx ih
    rw [show ((j + 1 : Nat) : Int) * x = j * x + x from by rw [Int.natCast_add, Int.add_mul]; simp]
    exact this
theorem Way.part {v u : List Int} {k c : Int} (w : Way v k c) : Way u k c ∨ ∃ y ∈ v, y ∉ u ∧ Way v (k - y) (c - 1) := by
  induction w with
  | zero => exact .inl .zero
  | @add x k c hx hw ih =>
    by_cases hu : x ∈ u
    · rcases ih with h | ⟨y, hy, hyu, h⟩
      · exact .inl (.add hu h)
      · refine .inr ⟨y, hy, hyu, ?_⟩
        have := Way.add hx h
        rwa [show k - y + x = k + x - y from by omega, show c - 1 + 1 = c + 1 - 1 from by omega] at this
    · exact .inr ⟨x, hx, hu, by rwa [show k + x - x = k from by omega, show c + 1 - 1 = c from by omega]⟩
theorem Way.last {v : List Int} {k c : Int} (w : Way v k c) : (k = 0 ∧ c = 0) ∨ ∃ x ∈ v, Way v (k - x) (c - 1) := by
  cases w with
  | zero => exact .inl ⟨rfl, rfl⟩
  | @add x k c hx hw => exact .inr ⟨x, hx, by rwa [show k + x - x = k from by omega, show c + 1 - 1 = c from by omega]⟩
theorem Way.split {u : List Int} {x : Int} {k c : Int} (w : Way (u ++ [x]) k c) : ∃ j : Nat, Way u (k - j * x) (c - j) := by
  induction w with
  | zero => exact ⟨0, by simpa using Way.zero⟩
  | @add y k c hy _ ih =>
    obtain ⟨j, h⟩ := ih
    rcases List.mem_append.1 hy with hu | hx
    · refine ⟨j, ?_⟩
      have := Way.add hu h
      rwa [show k - j * x + y = k + y - j * x from by omega, show c - (j : Int) + 1 = c + 1 - j from by omega] at this
    · obtain rfl : y = x := by simpa using hx
      refine ⟨j + 1, ?_⟩
      rw [show ((j + 1 : Nat) : Int) * y = j * y + y from by rw [Int.natCast_add, Int.add_mul]; simp, show k + y - (j * y + y) = k - j * y from by omega, show c + 1 - ((j + 1 : Nat) : Int) = c - j from by omega]
      exact h
def Fw (v : List Int) (k m : Int) : Prop := (m = -1 ∧ ∀ c, ¬ Way v k c) ∨ (Way v k m ∧ ∀ c, Way v k c → m ≤ c)
theorem Fw.one {v : List Int} (hv : ∀ x ∈ v, 1 ≤ x) {k m m' : Int} (h : Fw v k m) (h' : Fw v k m') : m = m' := by
  rcases h with ⟨h1, h2⟩ | ⟨h1, h2⟩ <;> rcases h' with ⟨h3, h4⟩ | ⟨h3, h4⟩
  · omega
  · exact absurd h3 (h2 _)
  · exact absurd h1 (h4 _)
  · have := h2 _ h3; have := h4 _ h1; omega
theorem Fw.neg {v : List Int} (hv : ∀ x ∈ v, 1 ≤ x) {k m : Int} (h : Fw v k m) : m < 0 ↔ ∀ c, ¬ Way v k c := by
  rcases h with ⟨h1, h2⟩ | ⟨h1, h2⟩
  · exact ⟨fun _ => h2, fun _ => by omega⟩
  · have := h1.pos hv
    exact ⟨fun h => by omega, fun h => absurd h1 (h _)⟩
theorem Fw.ge {v : List Int} (hv : ∀ x ∈ v, 1 ≤ x) {k m : Int} (h : Fw v k m) : -1 ≤ m := by
  rcases h with ⟨h1, h2⟩ | ⟨h1, h2⟩
  · omega
  · have := h1.pos hv; omega
theorem Fw.le {v : List Int} (hv : ∀ x ∈ v, 1 ≤ x) {k m : Int} (h : Fw v k m) (hk : 0 ≤ k) : m ≤ k := by
  rcases h with ⟨h1, h2⟩ | ⟨h1, h2⟩
  · omega
  · have := h1.pos hv; omega
theorem Fw.way {v : List Int} {k m : Int} (h : Fw v k m) (hm : 0 ≤ m) : Way v k m ∧ ∀ c, Way v k c → m ≤ c := by
  rcases h with ⟨h1, h2⟩ | h
  · omega
  · exact h
theorem Fw.nil {k : Int} (hk : 0 ≤ k) : Fw [] k (if k = 0 then 0 else -1) := by
  by_cases h : k = 0
  · subst h
    exact .inr ⟨.zero, fun c w => (w.pos (by simp)).1⟩
  · rw [if_neg h]
    refine .inl ⟨rfl, fun c w => ?_⟩
    rcases w.last with ⟨h1, _⟩ | ⟨x, hx, _⟩
    · exact h h1
    · simp at hx
theorem Fw.below {u : List Int} {x k m : Int} (hu : ∀ y ∈ u, 1 ≤ y) (hk : k < x) (h : Fw u k m) (h0 : 0 ≤ k) : Fw (u ++ [x]) k m := by
  have hv : ∀ y ∈ u ++ [x], 1 ≤ y := by
    intro y hy
    rcases List.mem_append.1 hy with hy | hy
    · exact hu y hy
    · have : y = x := by simpa using hy
      omega
  have key : ∀ c, Way (u ++ [x]) k c → Way u k c := by
    intro c w
    obtain ⟨j, hj⟩ := w.split
    by_cases h : j = 0
    · subst h; simpa using hj
    · exfalso
      have := hj.pos hu
      have hj1 : x ≤ (j : Int) * x := by
        have := Int.mul_le_mul_of_nonneg_right (show (1 : Int) ≤ j from by omega) (show 0 ≤ x from by omega)
        omega
      omega
  rcases h with ⟨h1, h2⟩ | ⟨h1, h2⟩
  · exact .inl ⟨h1, fun c w => h2 c (key c w)⟩
  · exact .inr ⟨h1.mono (fun y hy => List.mem_append.2 (.inl hy)), fun c w => h2 c (key c w)⟩
theorem Fw.next {u : List Int} {x k m p : Int} (hu : ∀ y ∈ u, 1 ≤ y) (hx : 1 ≤ x) (h : Fw u k m) (hp : Fw (u ++ [x]) (k - x) p) :
    Fw (u ++ [x]) k (if p ≥ 0 then (if m < 0 then p + 1 else if p + 1 < m then p + 1 else m) else m) := by
  have hv : ∀ y ∈ u ++ [x], 1 ≤ y := by
    intro y hy
    rcases List.mem_append.1 hy with hy | hy
    · exact hu y hy
    · have : y = x := by simpa using hy
      omega
  have key : ∀ c, Way (u ++ [x]) k c → Way u k c ∨ Way (u ++ [x]) (k - x) (c - 1) := by
    intro c w
    rcases w.part (u := u) with h | ⟨y, hy, hyu, h⟩
    · exact .inl h
    · rcases List.mem_append.1 hy with hy | hy
      · exact absurd hy hyu
      · obtain rfl : y = x := by simpa using hy
        exact .inr h
  have hup : ∀ c, Way u k c → Way (u ++ [x]) k c := fun c w => w.mono (fun y hy => List.mem_append.2 (.inl hy))
  have hone : ∀ c, Way (u ++ [x]) (k - x) c → Way (u ++ [x]) k (c + 1) := fun c w => by
    have := Way.add (show x ∈ u ++ [x] by simp) w
    rwa [show k - x + x = k from by omega] at this
  have hm := h.neg hu
  have hpn := hp.neg hv
  by_cases c1 : p ≥ 0
  · rw [if_pos c1]
    obtain ⟨p1, p2⟩ := hp.way c1
    by_cases c2 : m < 0
    · rw [if_pos c2]
      refine .inr ⟨hone _ p1, fun c w => ?_⟩
      rcases key c w with h1 | h1
      · exact absurd h1 (hm.1 c2 c)
      · have := p2 _ h1; omega
    · rw [if_neg c2]
      obtain ⟨m1, m2⟩ := h.way (by omega)
      by_cases c3 : p + 1 < m
      · rw [if_pos c3]
        refine .inr ⟨hone _ p1, fun c w => ?_⟩
        rcases key c w with h1 | h1
        · have := m2 _ h1; omega
        · have := p2 _ h1; omega
      · rw [if_neg c3]
        refine .inr ⟨hup _ m1, fun c w => ?_⟩
        rcases key c w with h1 | h1
        · exact m2 _ h1
        · have := p2 _ h1; omega
  · rw [if_neg c1]
    rcases h with ⟨h1, h2⟩ | ⟨h1, h2⟩
    · refine .inl ⟨h1, fun c w => ?_⟩
      rcases key c w with h3 | h3
      · exact h2 _ h3
      · exact hpn.1 (by omega) _ h3
    · refine .inr ⟨hup _ h1, fun c w => ?_⟩
      rcases key c w with h3 | h3
      · exact h2 _ h3
      · exact absurd h3 (hpn.1 (by omega) _)
end Go.Proofs.Ytkifakepmomgfaa.E
end
section
namespace Go.Proofs.Ytkifakepmomgfaa.E
open Go.RowKit Go.Proofs.YtkifakepmomgfaaW.PrintWords Go.Proofs.YtkifakepmomgfaaW.PrintLast Go.Proofs.YtkifakepmomgfaaW.PrintMore
set_option linter.unusedVariables false
set_option linter.unusedSimpArgs false
theorem exists_max {P : Nat → Prop} {B j0 : Nat} (h0 : P j0) (hB : ∀ j, P j → j ≤ B) : ∃ J, P J ∧ ∀ j, J < j → ¬ P j := by
  induction hd : B - j0 using Nat.strongRecOn generalizing j0 with
  | _ d ih =>
    by_cases h : ∃ j, j0 < j ∧ P j
    · obtain ⟨j, hj, hp⟩ := h
      have := hB j hp
      exact ih (B - j) (by omega) hp rfl
    · exact ⟨j0, h0, fun j hj hp => h ⟨j, hj, hp⟩⟩
structure Lev (v : List Int) (n need i : Int) : Prop where
  way : Way v n need
  least : ∀ c, Way v n c → need ≤ c
  no : ∀ y ∈ v.drop (i + 1).toNat, ¬ Way v (n - y) (need - 1)
theorem take_drop_mem {v : List Int} {m : Nat} {y : Int} (h : y ∈ v) (hn : y ∉ v.take m) : y ∈ v.drop m := by
  rw [← List.take_append_drop m v] at h
  rcases List.mem_append.1 h with h | h
  · exact absurd h hn
  · exact h
theorem Way.more {v : List Int} {x : Int} (hx : x ∈ v) {k c : Int} (w : Way v k c) (j : Nat) : Way v (k + j * x) (c + j) := w.plus (Way.times hx j)
structure LevStep (v : List Int) (n need i : Int) (J : Nat) : Prop where
  n0 : 0 ≤ n - J * rd v i
  c0 : (J : Int) ≤ need
  here : Way (v.take i.toNat) (n - J * rd v i) (need - J)
  above : ∀ j : Nat, J < j → ¬ Way (v.take i.toNat) (n - j * rd v i) (need - j)
  least : ∀ j : Nat, j ≤ J → Way v (n - j * rd v i) (need - j) ∧ ∀ c, Way v (n - j * rd v i) c → need - j ≤ c
  stop : ¬ Way v (n - J * rd v i - rd v i) (need - J - 1)
  next : Lev v (n - J * rd v i) (need - J) (i - 1)
theorem lev_step {v : List Int} {n need i : Int} (hv : ∀ x ∈ v, 1 ≤ x) (h0 : 0 ≤ i) (hi : i < v.length) (L : Lev v n need i) : ∃ J : Nat, LevStep v n need i J := by
  have hxm := rd_mem (l := v) h0 hi
  have hx := hv _ hxm
  have hvt : ∀ y ∈ v.take i.toNat, 1 ≤ y := fun y hy => hv y (List.mem_of_mem_take hy)
  have hsub : ∀ y ∈ v.take i.toNat, y ∈ v := fun y hy => List.mem_of_mem_take hy
  have w1 : Way (v.take (i + 1).toNat) n need := by
    rcases L.way.part (u := v.take (i + 1).toNat) with h | ⟨y, hy, hyu, h⟩
    · exact h
    · exact absurd h (L.no y (take_drop_mem hy hyu))
  rw [take_rd h0 hi] at w1
  obtain ⟨j0, hj0⟩ := w1.split
  obtain ⟨J, hJ, hmax⟩ := exists_max (P := fun j : Nat => Way (v.take i.toNat) (n - j * rd v i) (need - j)) (B := need.toNat) hj0 (fun j hj => by have := hj.pos hvt; omega)
  have hJ' : Way v (n - J * rd v i) (need - J) := hJ.mono hsub
  have hp := hJ.pos hvt
  have low : ∀ j : Nat, j ≤ J → Way v (n - j * rd v i) (need - j) ∧ ∀ c, Way v (n - j * rd v i) c → need - j ≤ c := by
    intro j hj
    constructor
    · have := hJ'.more hxm (J - j)
      have e : ((J - j : Nat) : Int) = J - j := by omega
      rw [e, show n - J * rd v i + ((J : Int) - j) * rd v i = n - j * rd v i from by rw [Int.sub_mul]; omega, show need - J + ((J : Int) - j) = need - j from by omega] at this
      exact this
    · intro c hc
      have := L.least _ (by have h := hc.more hxm j; rwa [show n - j * rd v i + j * rd v i = n from by omega] at h)
      omega
  have stop : ¬ Way v (n - J * rd v i - rd v i) (need - J - 1) := by
    intro hw
    have e1 : n - J * rd v i - rd v i = n - ((J + 1 : Nat) : Int) * rd v i := by rw [show ((J + 1 : Nat) : Int) = J + 1 from by omega, Int.add_mul]; omega
    have hw2 : Way (v.take (i + 1).toNat) (n - J * rd v i - rd v i) (need - J - 1) := by
      rcases hw.part (u := v.take (i + 1).toNat) with h | ⟨y, hy, hyu, h⟩
      · exact h
      · exfalso
        refine L.no y (take_drop_mem hy hyu) ?_
        have := h.more hxm (J + 1)
        rw [show n - J * rd v i - rd v i - y + ((J + 1 : Nat) : Int) * rd v i = n - y from by rw [show ((J + 1 : Nat) : Int) = J + 1 from by omega, Int.add_mul]; omega, show need - J - 1 - 1 + ((J + 1 : Nat) : Int) = need - 1 from by omega] at this
        exact this
    rw [take_rd h0 hi] at hw2
    obtain ⟨j, hj⟩ := hw2.split
    refine hmax (J + 1 + j) (by omega) ?_
    rw [show n - J * rd v i - rd v i - j * rd v i = n - ((J + 1 + j : Nat) : Int) * rd v i from by rw [show ((J + 1 + j : Nat) : Int) = J + 1 + j from by omega, Int.add_mul, Int.add_mul]; omega, show need - J - 1 - (j : Int) = need - ((J + 1 + j : Nat) : Int) from by omega] at hj
    exact hj
  refine ⟨J, by omega, by omega, hJ, hmax, low, stop, ⟨hJ', (low J (Nat.le_refl _)).2, fun y hy => ?_⟩⟩
  rw [show (i - 1 + 1).toNat = i.toNat from by omega, drop_rd h0 hi] at hy
  rcases List.mem_cons.1 hy with rfl | hy
  · exact stop
  · intro hw
    refine L.no y hy ?_
    have := hw.more hxm J
    rw [show n - J * rd v i - y + J * rd v i = n - y from by omega, show need - J - 1 + (J : Int) = need - 1 from by omega] at this
    exact this
end Go.Proofs.Ytkifakepmomgfaa.E
end
section
namespace Go.Proofs.Ytkifakepmomgfaa.E
open Go.RowKit Go.Proofs.Ytkifakepmomgfaa.PA Go.Proofs.YtkifakepmomgfaaW.PrintWords Go.Proofs.YtkifakepmomgfaaW.PrintLast Go.Proofs.YtkifakepmomgfaaW.PrintMore
set_option linter.unusedVariables false
set_option linter.unusedSimpArgs false
def RowOk (v : List Int) (n : Int) (row : List Int) : Prop := (row.length : Int) = n + 1 ∧ ∀ k, 0 ≤ k → k ≤ n → Fw v k (rd row k)
def FewTab (v : List Int) (n : Int) (t : List (List Int)) : Prop := t.length = v.length + 1 ∧ ∀ i : Int, 0 ≤ i → i ≤ v.length → RowOk (v.take i.toNat) n (rd_L1 t i)
theorem rdLL_append {t : List (List Int)} {r : List Int} {i : Int} (h0 : 0 ≤ i) (h : i ≤ t.length) : rd_L1 (t ++ [r]) i = if i = t.length then r else rd_L1 t i := by
  unfold rd_L1
  rw [List.getD_eq_getElem?_getD, List.getD_eq_getElem?_getD, List.getElem?_append]
  by_cases e : i = t.length
  · rw [if_pos e, if_neg (by omega), e]; simp
  · rw [if_neg e, if_pos (by omega)]
theorem fewest_l2 {v vals : List Int} {n x : Int} {len i : Int} (hn : 0 ≤ n) (hn' : n ≤ 4000) (hv : ∀ y ∈ v, 1 ≤ y) (hx : 1 ≤ x) (hx' : x ≤ 1000) {out : List (List Int)} (ho : out.length ≤ 1000) (hi : 0 ≤ i) (hi' : i ≤ 1000) (d : Nat) :
    ∀ (kk : Int) (next : List Int), x ≤ kk → kk + d = max x (n + 1) → (next.length : Int) = n + 1 → (∀ k, 0 ≤ k → k ≤ n → k < kk → Fw (v ++ [x]) k (rd next k)) → (∀ k, kk ≤ k → k ≤ n → Fw v k (rd next k)) →
      ∃ next', RowOk (v ++ [x]) n next' ∧ ∀ r, Ev (fun k => impl_fewest.l1 k n next' (out ++ [next']) vals len (i + 1)) r → Ev (fun k => impl_fewest.l2 k n out x next kk vals len i) r := by
  have hv' : ∀ y ∈ v ++ [x], 1 ≤ y := by
    intro y hy
    rcases List.mem_append.1 hy with hy | hy
    · exact hv y hy
    · have : y = x := by simpa using hy
      omega
  induction d with
  | zero =>
    intro kk next h0 h1 h2 h3 h4
    refine ⟨next, ⟨h2, fun k hk hk' => h3 k hk hk' (by omega)⟩, fun r hr => Ev.step (fun k => by rw [impl_fewest.l2]) (ev_ifn (by omega) ?_)⟩
    rw [w64 (by omega) (by omega)]
    exact ev_ifp (by omega) hr
  | succ d ih =>
    intro kk next h0 h1 h2 h3 h4
    have hkn : kk ≤ n := by omega
    have f1 := h3 (kk - x) (by omega) (by omega) (by omega)
    have f2 := h4 kk (by omega) hkn
    have f3 := Fw.next hv hx f2 f1
    have b1 := f1.ge hv'
    have b2 := f1.le hv' (by omega)
    have done : ∀ (y : Int), Fw (v ++ [x]) kk y → ∃ next', RowOk (v ++ [x]) n next' ∧ ∀ r, Ev (fun k => impl_fewest.l1 k n next' (out ++ [next']) vals len (i + 1)) r → Ev (fun k => impl_fewest.l2 k n out x (next.set kk.toNat y) (kk + 1) vals len i) r := by
      intro y hy
      refine ih (kk + 1) (next.set kk.toNat y) (by omega) (by omega) (by simpa using h2) ?_ ?_
      · intro k hk hk' hk''
        rw [rd_set _ (by omega) (by omega) hk]
        by_cases e : k = kk
        · subst e; rw [if_pos rfl]; exact hy
        · rw [if_neg e]; exact h3 k hk hk' (by omega)
      · intro k hk hk'
        rw [rd_set _ (by omega) (by omega) (by omega), if_neg (by omega)]
        exact h4 k (by omega) hk'
    have same : Fw (v ++ [x]) kk (rd next kk) → ∃ next', RowOk (v ++ [x]) n next' ∧ ∀ r, Ev (fun k => impl_fewest.l1 k n next' (out ++ [next']) vals len (i + 1)) r → Ev (fun k => impl_fewest.l2 k n out x next (kk + 1) vals len i) r := by
      intro hy
      refine ih (kk + 1) next (by omega) (by omega) h2 ?_ (fun k hk hk' => h4 k (by omega) hk')
      intro k hk hk' hk''
      by_cases e : k = kk
      · subst e; exact hy
      · exact h3 k hk hk' (by omega)
    by_cases c1 : rd next (kk - x) ≥ 0
    · rw [if_pos c1] at f3
      by_cases c2 : rd next kk < 0
      · rw [if_pos c2] at f3
        obtain ⟨next', a, b⟩ := done _ f3
        refine ⟨next', a, fun r hr => Ev.step (fun k => by rw [impl_fewest.l2]) ?_⟩
        simp (disch := omega) only [if_pos, w64]
        exact b r hr
      · rw [if_neg c2] at f3
        by_cases c3 : rd next (kk - x) + 1 < rd next kk
        · rw [if_pos c3] at f3
          obtain ⟨next', a, b⟩ := done _ f3
          refine ⟨next', a, fun r hr => Ev.step (fun k => by rw [impl_fewest.l2]) ?_⟩
          simp (disch := omega) only [if_pos, if_neg, w64]
          exact b r hr
        · rw [if_neg c3] at f3
          obtain ⟨next', a, b⟩ := same f3
          refine ⟨next', a, fun r hr => Ev.step (fun k => by rw [impl_fewest.l2]) ?_⟩
          simp (disch := omega) only [if_pos, if_neg, w64]
          exact b r hr
    · rw [if_neg c1] at f3
      obtain ⟨next', a, b⟩ := same f3
      refine ⟨next', a, fun r hr => Ev.step (fun k => by rw [impl_fewest.l2]) ?_⟩
      simp (disch := omega) only [if_pos, if_neg, w64]
      exact b r hr
theorem fewest_l1 {vals : List Int} {n : Int} (hn : 0 ≤ n) (hn' : n ≤ 4000) (hv : ∀ y ∈ vals, 1 ≤ y ∧ y ≤ 1000) (hl : vals.length ≤ 20) (d : Nat) :
    ∀ (i : Int) (row : List Int) (out : List (List Int)), 0 ≤ i → i + d = vals.length → RowOk (vals.take i.toNat) n row → (out.length : Int) = i + 1 → (∀ j : Int, 0 ≤ j → j ≤ i → RowOk (vals.take j.toNat) n (rd_L1 out j)) →
      ∃ t, FewTab vals n t ∧ Ev (fun k => impl_fewest.l1 k n row out vals vals.length i) t := by
  induction d with
  | zero =>
    intro i row out h0 h1 h2 h3 h4
    exact ⟨out, ⟨by omega, fun j hj hj' => h4 j hj (by omega)⟩, Ev.step (fun k => by rw [impl_fewest.l1]) (ev_ifn (by omega) (Ev.now _))⟩
  | succ d ih =>
    intro i row out h0 h1 h2 h3 h4
    have hx := hv _ (rd_mem (l := vals) h0 (by omega))
    have ht := take_rd (l := vals) h0 (by omega)
    have hvt : ∀ y ∈ vals.take i.toNat, 1 ≤ y := fun y hy => (hv y (List.mem_of_mem_take hy)).1
    obtain ⟨next', a, b⟩ := fewest_l2 (v := vals.take i.toNat) (vals := vals) (len := vals.length) (i := i) (out := out) hn hn' hvt hx.1 hx.2 (by omega) h0 (by omega) (max (rd vals i) (n + 1) - rd vals i).toNat (rd vals i) row (by omega) (by omega) h2.1 (fun k hk hk' hk'' => (h2.2 k hk hk').below hvt hk'' hk) (fun k hk hk' => h2.2 k (by omega) hk')
    rw [← ht] at a
    obtain ⟨t, ht1, ht2⟩ := ih (i + 1) next' (out ++ [next']) (by omega) (by omega) a (by simp; omega) (by
      intro j hj hj'
      rw [rdLL_append hj (by omega)]
      by_cases e : j = out.length
      · rw [if_pos e, show j = i + 1 from by omega]; exact a
      · rw [if_neg e]; exact h4 j hj (by omega))
    refine ⟨t, ht1, Ev.step (fun k => by rw [impl_fewest.l1]) ?_⟩
    have hr := h2.1
    refine ev_ifp (by omega) (ev_ifp h0 (ev_ifp (by omega) ?_))
    simp only [Option.bind_some]
    refine ev_ifp (by simp; omega) ?_
    exact b t ht2
theorem fewest_l0 {vals : List Int} {n : Int} (hn : 0 ≤ n) (hn' : n ≤ 4000) {t : List (List Int)} (H : Ev (fun k => impl_fewest.l1 k n ((List.replicate (n + 1).toNat (-1)).set 0 0) [(List.replicate (n + 1).toNat (-1)).set 0 0] vals vals.length 0) t) (d : Nat) :
    ∀ (i : Int) (row : List Int), 0 ≤ i → i + d = n + 1 → (row.length : Int) = n + 1 → (∀ j, 0 ≤ j → j < i → rd row j = -1) → Ev (fun k => impl_fewest.l0 k vals n row (n + 1) i) t := by
  induction d with
  | zero =>
    intro i row h0 h1 h2 h3
    have e : row = List.replicate (n + 1).toNat (-1) := rd_ext (by simp; omega) fun j hj hj' => by rw [h3 j hj (by omega), rd_rep hj (by omega)]
    subst e
    refine Ev.step (fun k => by rw [impl_fewest.l0]) (ev_ifn (by omega) (ev_ifp (by omega) ?_))
    simp only [Option.bind_some]
    exact H
  | succ d ih =>
    intro i row h0 h1 h2 h3
    refine Ev.step (fun k => by rw [impl_fewest.l0]) ?_
    simp (disch := omega) only [if_pos, w64]
    refine ih (i + 1) _ (by omega) (by omega) (by simpa using h2) fun j hj hj' => ?_
    rw [rd_set _ h0 (by omega) hj]
    by_cases e : j = i
    · rw [if_pos e]
    · rw [if_neg e]; exact h3 j hj (by omega)
theorem rowOk_first {n : Int} (hn : 0 ≤ n) : RowOk [] n ((List.replicate (n + 1).toNat (-1)).set 0 0) := by
  refine ⟨by simp; omega, fun k hk hk' => ?_⟩
  have := rd_set (l := List.replicate (n + 1).toNat (-1)) (i := 0) (j := k) 0 (by omega) (by simp; omega) hk
  rw [show (0 : Int).toNat = 0 from rfl] at this
  rw [this]
  have f := Fw.nil hk
  by_cases e : k = 0
  · rw [if_pos e] at f ⊢; exact f
  · rw [if_neg e] at f ⊢; rw [rd_rep hk (by omega)]; exact f
theorem fewest_ev {vals : List Int} {n : Int} (hn : 0 ≤ n) (hn' : n ≤ 4000) (hv : ∀ y ∈ vals, 1 ≤ y ∧ y ≤ 1000) (hl : vals.length ≤ 20) : ∃ t, FewTab vals n t ∧ Ev (fun k => impl_fewest.f k vals n) t := by
  have h1 := rowOk_first hn
  obtain ⟨t, a, b⟩ := fewest_l1 hn hn' hv hl vals.length 0 _ [(List.replicate (n + 1).toNat (-1)).set 0 0] (by omega) (by omega) (by simpa using h1) (by simp) (by
    intro j hj hj'
    obtain rfl : j = 0 := by omega
    simpa [rd_L1] using h1)
  refine ⟨t, a, ?_⟩
  unfold impl_fewest.f
  rw [w64 (by omega) (by omega)]
  refine ev_ifp (by omega) (ev_ifp (by omega) ?_)
  simp only [Option.bind_some]
  rw [show ((List.replicate (n + 1).toNat (0 : Int)).length : Int) = n + 1 from by simp; omega]
  exact fewest_l0 hn hn' b (n + 1).toNat 0 _ (by omega) (by omega) (by simp; omega) (fun j h h' => by omega)
end Go.Proofs.Ytkifakepmomgfaa.E
end
section
namespace Go.Proofs.Ytkifakepmomgfaa.E
open Go.RowKit Go.Proofs.Ytkifakepmomgfaa.PA Go.Proofs.YtkifakepmomgfaaW.PrintWords Go.Proofs.YtkifakepmomgfaaW.PrintLast Go.Proofs.YtkifakepmomgfaaW.PrintMore
set_option linter.unusedVariables false
set_option linter.unusedSimpArgs false
theorem int_ediv_mul_le {n x : Int} {j : Int} (hx : 1 ≤ x) (hj : 0 ≤ j) : j ≤ n / x ↔ j * x ≤ n := by
  rw [Int.le_ediv_iff_mul_le (by omega)]
theorem best_inner {v : List Int} {n need i most : Int} {t : List (List Int)} {out : List Int} {J : Nat} (hv : ∀ x ∈ v, 1 ≤ x ∧ x ≤ 1000) (hl : v.length ≤ 20) (h0 : 0 ≤ i) (hi : i < v.length) (hn : 0 ≤ n) (hnm : n ≤ most) (hm : most ≤ 4000) (ht : FewTab v most t) (hneed : need ≤ 4000) (ho : out.length = v.length)
    (S : LevStep v n need i J) {r : List Int} (H : Ev (fun k => impl_best.l0 k v (n - J * rd v i) t (out.set i.toNat J) (need - J) (i - 1)) r) (d : Nat) :
    ∀ kk : Int, (J : Int) + d = kk → kk * rd v i ≤ n → kk ≤ need → Ev (fun k => impl_best.l1 k v n t out need i kk) r := by
  have hx := hv _ (rd_mem (l := v) h0 hi)
  have hvt : ∀ y ∈ v.take i.toNat, 1 ≤ y := fun y hy => (hv y (List.mem_of_mem_take hy)).1
  have hrow := ht.2 i h0 (by omega)
  have htl := ht.1
  induction d with
  | zero =>
    intro kk h1 h2 h3
    obtain rfl : kk = J := by omega
    have hn0 := S.n0
    have hJx : 0 ≤ (J : Int) * rd v i := Int.mul_nonneg (by omega) (by omega)
    have hc0 := S.c0
    have e : rd (rd_L1 t i) (n - J * rd v i) = need - J :=
      (hrow.2 _ S.n0 (by omega)).one hvt (.inr ⟨S.here, fun c w => (S.least J (Nat.le_refl _)).2 c (w.mono (fun y hy => List.mem_of_mem_take hy))⟩)
    have hr1 := hrow.1
    refine Ev.step (fun k => by rw [impl_best.l1]) ?_
    rw [w64 (x := (J : Int) * rd v i) (by omega) (by omega), w64 (x := n - J * rd v i) (by omega) (by omega), w64 (x := need - J) (by omega) (by omega), w64 (x := i - 1) (by omega) (by omega)]
    exact ev_ifp h0 (ev_ifp (by omega) (ev_ifp hi (ev_ifp hn0 (ev_ifp (by omega) (ev_ifp e (ev_ifp (by omega) H))))))
  | succ d ih =>
    intro kk h1 h2 h3
    have hkx : 0 ≤ kk * rd v i := Int.mul_nonneg (by omega) (by omega)
    have hr1 := hrow.1
    have hne : rd (rd_L1 t i) (n - kk * rd v i) ≠ need - kk := by
      intro e
      have f := hrow.2 (n - kk * rd v i) (by omega) (by omega)
      have := (f.way (by omega)).1
      rw [e] at this
      have := S.above (J + (d + 1)) (by omega)
      rw [show ((J + (d + 1) : Nat) : Int) = kk from by omega] at this
      contradiction
    refine Ev.step (fun k => by rw [impl_best.l1]) ?_
    rw [w64 (x := kk * rd v i) (by omega) (by omega), w64 (x := n - kk * rd v i) (by omega) (by omega), w64 (x := need - kk) (by omega) (by omega), w64 (x := kk - 1) (by omega) (by omega)]
    refine ev_ifp h0 (ev_ifp (by omega) (ev_ifp hi (ev_ifp (by omega) (ev_ifp (by omega) (ev_ifn hne ?_)))))
    refine ih (kk - 1) (by omega) ?_ (by omega)
    rw [Int.sub_mul]; omega
end Go.Proofs.Ytkifakepmomgfaa.E
end
section
namespace Go.Proofs.Ytkifakepmomgfaa.E
open Go.RowKit Go.Proofs.YtkifakepmomgfaaW.PrintWords Go.Proofs.YtkifakepmomgfaaW.PrintLast Go.Proofs.YtkifakepmomgfaaW.PrintMore
set_option linter.unusedVariables false
set_option linter.unusedSimpArgs false
def dot : List Int → List Int → Int
  | a :: r, b :: v => a * b + dot r v
  | [], _ => 0
  | _ :: _, [] => 0
theorem dot_set : ∀ (r v : List Int) (i : Nat) (J : Int), r.length = v.length → i < r.length → dot (r.set i J) v = dot r v + (J - rd r i) * rd v i
  | a :: r, b :: v, 0, J, _, _ => by simp only [List.set_cons_zero, dot, rd]; simp only [Int.toNat_natCast, List.getD_cons_zero]; rw [Int.sub_mul]; omega
  | a :: r, b :: v, i + 1, J, h1, h2 => by
    have := dot_set r v i J (by simpa using h1) (by simpa using h2)
    simp only [List.set_cons_succ, dot, rd, Int.toNat_natCast, List.getD_cons_succ] at this ⊢
    rw [this]; omega
  | [], _, _, _, _, h => by simp at h
  | _ :: _, [], _, _, h, _ => by simp at h
theorem sum_set : ∀ (r : List Int) (i : Nat) (J : Int), i < r.length → (r.set i J).sum = r.sum + (J - rd r i)
  | a :: r, 0, J, _ => by simp only [List.set_cons_zero, List.sum_cons, rd, Int.toNat_natCast, List.getD_cons_zero]; omega
  | a :: r, i + 1, J, h => by
    have := sum_set r i J (by simpa using h)
    simp only [List.set_cons_succ, List.sum_cons, rd, Int.toNat_natCast, List.getD_cons_succ] at this ⊢
    omega
  | [], _, _, h => by simp at h
theorem dot_zeros (n : Nat) (v : List Int) : dot (List.replicate n 0) v = 0 := by
  induction n generalizing v with
  | zero => cases v <;> rfl
  | succ n ih => cases v with
    | nil => rfl
    | cons b v => simp [List.replicate_succ, dot, ih]
theorem sum_zeros (n : Nat) : (List.replicate n (0 : Int)).sum = 0 := by
  induction n with
  | zero => rfl
  | succ n ih => simp [List.replicate_succ]
theorem nonneg_set {r : List Int} {i : Nat} {J : Int} (h : ∀ x ∈ r, 0 ≤ x) (hJ : 0 ≤ J) : ∀ x ∈ r.set i J, 0 ≤ x := by
  intro x hx
  rcases List.mem_or_eq_of_mem_set hx with h1 | h1
  · exact h x h1
  · omega
end Go.Proofs.Ytkifakepmomgfaa.E
end
